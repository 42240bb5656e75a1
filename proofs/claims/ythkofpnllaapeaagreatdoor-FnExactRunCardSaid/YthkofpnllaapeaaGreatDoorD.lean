/-
  Texts of the proof, part 4: a value-level evaluator and its soundness, what the functions compute, laws about it.
  Conditions: none.
-/
import Derived.Test.YthkofpnllaapeaaGreatDoorC
import Derived.Calls
import Derived.KernelRfl
import Derived.Orders
import Derived.Test.YthkofpnllaapeaaGreatDoorProg
import Derived.Lib.AppendIntMem
import Derived.Lib.ItoaNum
import Derived.Laws.IdiomCopy
import Derived.Laws.Cells
import Derived.Below
import Derived.Laws.StructEq
import Derived.Laws.BytesString
import Derived.Laws.NewFold
import Derived.Laws.Tables
import Derived.Great.FillDense
import Derived.Shelf.Spec.SlicesGrow
import Derived.Shelf.Strconv.Itoa3
import Derived.Shelf.SlGeneric
import Derived.Ground.NamesProg
import Derived.Ground.Names8Prog
import Derived.IntWalk
import Derived.WalkKit
import Derived.ProofKit
import Derived.OpenShut
import Derived.ShutString
import Derived.ChangeOld
set_option linter.all false
namespace Go.Proofs.YthkofpnllaapeaaGreatDoor
open Go
def aLu (d d' : DV) : Prop:=∀ (m : aR) (v : Value),m.rd d v→m.rd d' v
def uN (ds ds' : List DV) : Prop:=ds'.length=ds.length∧∀ (i : Nat) d d',ds[i]? = some d→ds'[i]? = some d'→aLu d d'
theorem uN.cons {d d' : DV} {ds ds' : List DV} (h : aLu d d') (k : uN ds ds') : uN (d::ds) (d'::ds'):=
  ⟨by simp [k.1],fun i x y hx hy=>by
    cases i with
    | zero=>simp at hx hy;subst hx;subst hy;exact h
    | succ i=>exact k.2 i x y (by simpa using hx) (by simpa using hy)⟩
theorem uN.rd {m : aR} {ds ds' : List DV} {vs : List Value} (k : uN ds ds') (hl : ds.length=vs.length) (h : ∀ (i : Nat) d v,ds[i]? = some d→vs[i]? = some v→m.rd d v) :
    ds'.length=vs.length∧∀ (i : Nat) d v,ds'[i]? = some d→vs[i]? = some v→m.rd d v:=by
  refine ⟨k.1.trans hl,fun i d v hd hv=>?_⟩
  have hi : i<ds.length:=by have:=(List.getElem?_eq_some_iff.1 hv).1;omega
  have hg : ds[i]? = some ds[i]:=List.getElem?_eq_getElem hi
  exact k.2 i _ _ hg hd m v (h i _ v hg hv)
theorem aId {l : R} {n : Nat} {x : PV} (h : l[n]? = some x) : gd l n=x:=by unfold gd;rw [List.getD,h];rfl
theorem aD9 {l aP : R} {n : Nat} {a b : R} (h : ∀ j,j<(a++b).length→l[n+j]? = (a++b)[j]?) : (∀ j,j<a.length→l[n+j]? = a[j]?)∧∀ j,j<b.length→l[n+a.length+j]? = b[j]?:=by
  refine ⟨fun j hj=>?_,fun j hj=>?_⟩
  · rw [h j (by rw [List.length_append];omega),List.getElem?_append_left hj]
  · rw [Nat.add_assoc,h (a.length+j) (by rw [List.length_append];omega),List.getElem?_append_right (by omega)]
    congr 1
    omega
mutual
theorem aDr : ∀ (t d : DV) (aP : R) (n n' : Nat),readD t d=some aP→numD t n=some n'→n'=n+aP.length∧∀ L : R,(∀ j,j<aP.length→L[n+j]? = aP[j]?)→aLu d (fillD L t)
  | .p (.int k i),d,aP,n,n',h,hn=>by
    cases d with
    | p v=>
      simp only [readD] at h
      cases h
      simp only [numD] at hn
      split at hn
      · rename_i hi
        cases hn
        refine ⟨rfl,fun L hL=>?_⟩
        have h0:=hL 0 (by simp)
        simp only [Nat.add_zero,List.getElem?_cons_zero] at h0
        have : fillD L (.p (.int k i)) = .p v:=by
          simp only [fillD,hi,Int.toNat_natCast,aId h0]
        rw [this]
        exact fun m v h=>h
      · cases hn
    | _=>simp [readD] at h
  | .agg ts,d,aP,n,n',h,hn=>by
    cases d with
    | agg cs=>
      simp only [readD] at h
      simp only [numD] at hn
      obtain ⟨h1,h2⟩:=mD ts cs aP n n' h hn
      refine ⟨h1,fun L hL m v hv=>?_⟩
      cases hv with
      | agg _ vs hl hc hr=>
        obtain ⟨g1,g2⟩:=(h2 L hL).rd hl hr
        simp only [fillD]
        exact .agg _ vs g1 hc g2
    | _=>simp [readD] at h
  | .tup ts,d,aP,n,n',h,hn=>by
    cases d with
    | tup cs=>
      simp only [readD] at h
      simp only [numD] at hn
      obtain ⟨h1,h2⟩:=mD ts cs aP n n' h hn
      refine ⟨h1,fun L hL m v hv=>?_⟩
      cases hv with
      | tup _ vs hl hr=>
        obtain ⟨g1,g2⟩:=(h2 L hL).rd hl hr
        simp only [fillD]
        exact .tup _ vs g1 g2
    | _=>simp [readD] at h
  | .fn f ts,d,aP,n,n',h,hn=>by
    cases d with
    | fn g cs=>
      simp only [readD] at h
      split at h
      · rename_i hfg
        have hfg:=bH hfg
        subst hfg
        simp only [numD] at hn
        obtain ⟨h1,h2⟩:=mD ts cs aP n n' h hn
        refine ⟨h1,fun L hL m v hv=>?_⟩
        cases hv with
        | fn _ _ vs hl hr=>
          obtain ⟨g1,g2⟩:=(h2 L hL).rd hl hr
          simp only [fillD]
          exact .fn _ _ vs g1 g2
      · cases h
    | _=>simp [readD] at h
  | .ptr b off,d,aP,n,n',h,hn=>by
    cases d with
    | ptr b' off'=>
      simp only [readD] at h
      split at h
      · rename_i hb
        simp only [Bool.and_eq_true] at hb
        have h1:=bH hb.1
        have h2:=bH hb.2
        subst h1;subst h2
        cases h
        simp only [numD] at hn
        cases hn
        exact ⟨rfl,fun L _ m v hv=>by simpa only [fillD] using hv⟩
      · cases h
    | _=>simp [readD] at h
  | .ref l [],d,aP,n,n',h,hn=>by
    cases d with
    | ref l' path=>
      cases path with
      | nil=>
        simp only [readD] at h
        split at h
        · rename_i hb
          have h1:=bH hb
          subst h1
          cases h
          simp only [numD] at hn
          cases hn
          exact ⟨rfl,fun L _ m v hv=>by simpa only [fillD] using hv⟩
        · cases h
      | cons a r=>simp [readD] at h
    | _=>simp [readD] at h
  | .nils,d,aP,n,n',h,hn=>by
    cases d with
    | nils=>
      simp only [readD] at h
      cases h
      simp only [numD] at hn
      cases hn
      exact ⟨rfl,fun L _ m v hv=>by simpa only [fillD] using hv⟩
    | _=>simp [readD] at h
  | .dead,d,aP,n,n',h,hn=>by
    have h : some []=some aP:=by cases d<;>simpa [readD] using h
    cases h
    simp only [numD] at hn
    cases hn
    exact ⟨rfl,fun L _ m v _=>by simp only [fillD];exact .dead v⟩
  | .ref l (a::r),d,aP,n,n',h,hn=>by simp [numD] at hn
  | .p (.bool _),_,_,_,_,_,hn=>by simp [numD] at hn
  | .p (.str _),_,_,_,_,_,hn=>by simp [numD] at hn
  | .p .nil,_,_,_,_,_,hn=>by simp [numD] at hn
  | .p .nilf,_,_,_,_,_,hn=>by simp [numD] at hn
  | .p (.agg _),_,_,_,_,_,hn=>by simp [numD] at hn
  | .p (.lst _),_,_,_,_,_,hn=>by simp [numD] at hn
  | .p (.bx _),_,_,_,_,_,hn=>by simp [numD] at hn
  | .p (.fn _ _),_,_,_,_,_,hn=>by simp [numD] at hn
  | .p (.tup _),_,_,_,_,_,hn=>by simp [numD] at hn
  | .p .hole,_,_,_,_,_,hn=>by simp [numD] at hn
  | .sref _ _ _ _,_,_,_,_,_,hn=>by simp [numD] at hn
  | .eptr l path q off,d,aP,n,n',h,hn=>by
    cases path with
    | cons a r=>simp [numD] at hn
    | nil=>
      cases q with
      | int k i=>
        cases d with
        | eptr l' path' i' off'=>
          cases path' with
          | cons a r=>simp [readD] at h
          | nil=>
            simp only [readD] at h
            split at h
            · rename_i hb
              simp only [Bool.and_eq_true] at hb
              have h1:=bH hb.1
              have h2:=bH hb.2
              subst h1;subst h2
              cases h
              simp only [numD] at hn
              split at hn
              · rename_i hi
                cases hn
                refine ⟨rfl,fun L hL m v hv=>?_⟩
                have h0:=hL 0 (by simp)
                simp only [Nat.add_zero,List.getElem?_cons_zero] at h0
                have : fillD L (.eptr l [] (.int k i) off) = .eptr l [] i' off:=by
                  simp only [fillD,hi,Int.toNat_natCast,aId h0]
                rw [this]
                exact hv
              · cases hn
            · cases h
        | _=>simp [readD] at h
      | _=>simp [numD] at hn
  | .fptr _ _ _ _,_,_,_,_,_,hn=>by simp [numD] at hn
  | .bptr _ _,_,_,_,_,_,hn=>by simp [numD] at hn
  | .nilq _ _,_,_,_,_,_,hn=>by simp [numD] at hn
  | .bsl _ _,_,_,_,_,_,hn=>by simp [numD] at hn
  | .gptr l path q off,d,aP,n,n',h,hn=>by
    have hshape : ∃ k ii nn k' i,path = [(PV.int k ii,nn)]∧q = .int k' i∧ii=n∧i=(n : Int)+1∧n'=n+2:=by
      unfold numD at hn
      split at hn<;>rename_i he<;>(try (cases he;done))<;>(try (cases hn;done))
      all_goals first | (cases he;split at hn;(rename_i hh;cases hn;exact ⟨_,_,_,_,_,rfl,rfl,hh.1,hh.2,rfl⟩);cases hn) | cases hn
    obtain ⟨k,ii,nn,k',i,rfl,rfl,hii,hi,rfl⟩:=hshape
    have fin : ∀ (x y : PV),aP = [x,y]→(∀ m v,aR.rd m d v→aR.rd m (.gptr l [(x,nn)] y off) v)→n+2=n+aP.length∧∀ L : R,(∀ j,j<aP.length→L[n+j]? = aP[j]?)→aLu d (fillD L (.gptr l [(PV.int k ii,nn)] (.int k' i) off)):=by
      intro x y hv H
      subst hv
      refine ⟨rfl,fun L hL m v hv=>?_⟩
      have h0:=hL 0 (by simp)
      have h1:=hL 1 (by simp)
      simp only [Nat.add_zero,List.getElem?_cons_zero] at h0
      simp only [List.getElem?_cons_succ,List.getElem?_cons_zero] at h1
      have : fillD L (.gptr l [(PV.int k ii,nn)] (.int k' i) off) = .gptr l [(x,nn)] y off:=by
        simp only [fillD,hii,hi,Int.toNat_natCast,aId h0]
        rw [show ((n : Int)+1).toNat=n+1 by omega,aId h1]
      rw [this]
      exact H m v hv
    cases d with
    | p v=>
      cases v with
      | nil=>
        simp only [readD] at h
        cases h
        refine fin .nil .nil rfl (fun m v hv=>?_)
        cases hv with
        | p _ _ hv=>
          cases hv
          exact .gptr _ _ _ _ _ trivial (fun k0 n0 he=>by cases he)
      | _=>simp [readD] at h
    | eptr l' path' i' off'=>
      cases path' with
      | nil=>simp [readD] at h
      | cons a r=>
        cases r with
        | cons b r=>simp [readD] at h
        | nil=>
          obtain ⟨x,j⟩:=a
          simp only [readD] at h
          split at h
          · rename_i hb
            simp only [Bool.and_eq_true] at hb
            have h1:=bH hb.1.1
            have h2:=bH hb.1.2
            have h3:=bH hb.2
            subst h1;subst h2;subst h3
            cases h
            refine fin x i' rfl (fun m v hv=>?_)
            cases hv with
            | eptr _ _ _ _ _ hu hc hh=>exact .gptr _ _ _ _ _ hc (fun _ _ _=>⟨hu,hh⟩)
          · cases h
    | _=>simp [readD] at h
theorem mD : ∀ (ts ds : List DV) (aP : R) (n n' : Nat),readDs ts ds=some aP→numDs ts n=some n'→n'=n+aP.length∧∀ L : R,(∀ j,j<aP.length→L[n+j]? = aP[j]?)→uN ds (fillDs L ts)
  | [],ds,aP,n,n',h,hn=>by
    cases ds with
    | nil=>
      simp only [readDs] at h
      cases h
      simp only [numDs] at hn
      cases hn
      exact ⟨rfl,fun L _=>⟨rfl,fun i d d' hd=>by simp at hd⟩⟩
    | cons d ds=>simp [readDs] at h
  | t::ts,ds,aP,n,n',h,hn=>by
    cases ds with
    | nil=>simp [readDs] at h
    | cons d ds=>
      simp only [readDs] at h
      split at h
      · rename_i a ha
        split at h
        · rename_i b hb
          cases h
          simp only [numDs] at hn
          split at hn
          · rename_i n1 hn1
            obtain ⟨h1,h2⟩:=aDr t d a n n1 ha hn1
            obtain ⟨h3,h4⟩:=mD ts ds b n1 n' hb hn
            refine ⟨by rw [List.length_append];omega,fun L hL=>?_⟩
            obtain ⟨p1,p2⟩:=aD9 (aP:=[]) hL
            rw [← h1] at p2
            simp only [fillDs]
            exact uN.cons (h2 L p1) (h4 L p2)
          · cases hn
        · cases h
      · cases h
end
theorem readB_sound : ∀ (ts : List (Option (List DV))) (bs : List (Nat × Option (List DV))) (aP : R) (n n' : Nat),readB ts bs=some aP→numB ts n=some n'→n'=n+aP.length∧ts.length=bs.length∧
    ∀ L : R,(∀ j,j<aP.length→L[n+j]? = aP[j]?)→∀ (i : Nat) t,ts[i]? = some (some t)→(fillB L ts)[i]? = some (some (fillDs L t))∧∃ x cs,bs[i]? = some (x,some cs)∧uN cs (fillDs L t)
  | [],bs,aP,n,n',h,hn=>by
    cases bs with
    | nil=>
      simp only [readB] at h
      cases h
      simp only [numB] at hn
      cases hn
      exact ⟨rfl,rfl,fun L _ i t ht=>by simp at ht⟩
    | cons b bs=>simp [readB] at h
  | none::ts,bs,aP,n,n',h,hn=>by
    cases bs with
    | nil=>simp [readB] at h
    | cons b bs=>
      simp only [readB] at h
      simp only [numB] at hn
      obtain ⟨h1,h2,h3⟩:=readB_sound ts bs aP n n' h hn
      refine ⟨h1,by simp [h2],fun L hL i t ht=>?_⟩
      cases i with
      | zero=>simp at ht
      | succ i=>
        simp only [fillB]
        simpa using h3 L hL i t (by simpa using ht)
  | some t0::ts,bs,aP,n,n',h,hn=>by
    cases bs with
    | nil=>simp [readB] at h
    | cons b bs=>
      obtain ⟨x,o⟩:=b
      cases o with
      | none=>simp [readB] at h
      | some cs=>
        simp only [readB] at h
        split at h
        · rename_i a ha
          split at h
          · rename_i b hb
            cases h
            simp only [numB] at hn
            split at hn
            · rename_i n1 hn1
              obtain ⟨h1,h2⟩:=mD t0 cs a n n1 ha hn1
              obtain ⟨h3,h4,h5⟩:=readB_sound ts bs b n1 n' hb hn
              refine ⟨by rw [List.length_append];omega,by simp [h4],fun L hL i t ht=>?_⟩
              obtain ⟨p1,p2⟩:=aD9 (aP:=[]) hL
              rw [← h1] at p2
              cases i with
              | zero=>
                simp at ht
                subst ht
                exact ⟨by simp [fillB],x,cs,rfl,h2 L p1⟩
              | succ i=>
                simp only [fillB]
                simpa using h5 L p2 i t (by simpa using ht)
            · cases hn
          · cases h
        · cases h
theorem readO_sound : ∀ (ts : List (Option Own)) (bs : List (Nat × Option Own)) (aP : R) (n n' : Nat),readO ts bs=some aP→numO ts n=some n'→n'=n+aP.length∧ts.length=bs.length∧
    ∀ L : R,(∀ j,j<aP.length→L[n+j]? = aP[j]?)→∀ (i : Nat) t,ts[i]? = some (some t)→∃ x w,bs[i]? = some (x,some w)∧(fillO L ts)[i]? = some (some w)∧(∃ k j,t.c = .int k j∧gd L j.toNat=w.c)∧t.o=w.o
  | [],bs,aP,n,n',h,hn=>by
    cases bs with
    | nil=>
      simp only [readO] at h
      cases h
      simp only [numO] at hn
      cases hn
      exact ⟨rfl,rfl,fun L _ i t ht=>by simp at ht⟩
    | cons b bs=>simp [readO] at h
  | none::ts,bs,aP,n,n',h,hn=>by
    cases bs with
    | nil=>simp [readO] at h
    | cons b bs=>
      simp only [readO] at h
      simp only [numO] at hn
      obtain ⟨h1,h2,h3⟩:=readO_sound ts bs aP n n' h hn
      refine ⟨h1,by simp [h2],fun L hL i t ht=>?_⟩
      cases i with
      | zero=>simp at ht
      | succ i=>
        simp only [fillO]
        simpa using h3 L hL i t (by simpa using ht)
  | some t0::ts,bs,aP,n,n',h,hn=>by
    cases bs with
    | nil=>simp [readO] at h
    | cons b bs=>
      obtain ⟨x,o⟩:=b
      cases o with
      | none=>simp [readO] at h
      | some w=>
        simp only [readO] at h
        split at h
        · rename_i hsame
          have hs:=OTy.same_eq _ _ hsame
          split at h
          · rename_i b hb
            cases h
            simp only [numO] at hn
            split at hn
            · rename_i k j hc
              split at hn
              · rename_i hj
                obtain ⟨h3,h4,h5⟩:=readO_sound ts bs b (n+1) n' hb hn
                refine ⟨by simp;omega,by simp [h4],fun L hL i t ht=>?_⟩
                have h0:=hL 0 (by simp)
                simp only [Nat.add_zero,List.getElem?_cons_zero] at h0
                have hg : gd L j.toNat=w.c:=by rw [hj,Int.toNat_natCast];exact aId h0
                cases i with
                | zero=>
                  simp at ht
                  subst ht
                  refine ⟨x,w,rfl,?_,⟨k,j,hc,hg⟩,hs⟩
                  simp only [fillO,hc,hg,hs,List.getElem?_cons_zero]
                | succ i=>
                  simp only [fillO]
                  refine h5 L (fun q hq=>?_) i t (by simpa using ht) |>.imp fun _ h=>by simpa using h
                  have:=hL (q+1) (by simp;omega)
                  rw [show n+1+q=n+(q+1) by omega,this]
                  simp
              · cases hn
            · cases hn
          · cases h
        · cases h
theorem Tmpl.read_sound {t : Tmpl} {d : DV} {s : St} {l : R} (h : t.read d s=some l) (hw : t.wf=true) :
    aLu d (fillD l t.res)∧t.boxes.length=s.boxes.length∧t.lists.length=s.lists.length∧
    (∀ (i : Nat) ts,t.boxes[i]? = some (some ts)→(fillB l t.boxes)[i]? = some (some (fillDs l ts))∧∃ x cs,s.boxes[i]? = some (x,some cs)∧uN cs (fillDs l ts))∧
    (∀ (i : Nat) w0,t.lists[i]? = some (some w0)→∃ x w,s.lists[i]? = some (x,some w)∧(fillO l t.lists)[i]? = some (some w)∧(∃ k j,w0.c = .int k j∧gd l j.toNat=w.c)∧w0.o=w.o):=by
  unfold Tmpl.read at h
  split at h
  rotate_left
  · cases h
  rename_i a ha
  split at h
  rotate_left
  · cases h
  rename_i b hb
  split at h
  rotate_left
  · cases h
  rename_i c hc
  cases h
  unfold Tmpl.wf at hw
  split at hw
  rotate_left
  · cases hw
  rename_i n1 hn1
  split at hw
  rotate_left
  · cases hw
  rename_i n2 hn2
  obtain ⟨n3,hn3⟩:=Option.isSome_iff_exists.1 hw
  obtain ⟨h1,h2⟩:=aDr t.res d a 0 n1 ha hn1
  obtain ⟨h3,h4,h5⟩:=readB_sound t.boxes s.boxes b n1 n2 hb hn2
  obtain ⟨h6,h7,h8⟩:=readO_sound t.lists s.lists c n2 n3 hc hn3
  have p0 : ∀ j,j<(a++b++c).length→(a++b++c)[0+j]? = (a++b++c)[j]?:=fun j _=>by rw [Nat.zero_add]
  obtain ⟨p1,p2⟩:=aD9 (aP:=[]) p0
  obtain ⟨p3,p4⟩:=aD9 (aP:=[]) p1
  refine ⟨h2 _ p3,h4,h7,h5 _ (by rw [h1];exact p4),h8 _ (by rw [h3,h1];rw [List.length_append] at p2;rw [Nat.add_assoc];exact p2)⟩
end Go.Proofs.YthkofpnllaapeaaGreatDoor
namespace Go.Proofs.YthkofpnllaapeaaGreatDoor
open Go
theorem aHd : ∀ {l : List Nat} {n b x : Nat},l.Nodup→l[b]? = some x→idx x l n=some (n+b)
  | [],_,_,_,_,h=>by simp at h
  | y::r,n,b,x,hn,h=>by
    unfold idx
    cases b with
    | zero=>simp at h;subst h;simp
    | succ b=>
      have hm : x∈r:=List.mem_of_getElem? (by simpa using h)
      have hne : x≠y:=fun e=>(List.nodup_cons.1 hn).1 (e▸hm)
      have hb : Nat.beq x y=false:=by
        cases hb : Nat.beq x y with
        | false=>rfl
        | true=>exact absurd (bH hb) hne
      rw [hb]
      simp only [Bool.false_eq_true,if_false]
      rw [aHd (List.nodup_cons.1 hn).2 (by simpa using h)]
      congr 1
      omega
theorem aBM : ∀ {l : List Nat} {n x : Nat},x∉l→idx x l n=none
  | [],_,_,_=>rfl
  | y::r,n,x,h=>by
    unfold idx
    have hne : x≠y:=fun e=>h (e▸List.mem_cons_self)
    have hb : Nat.beq x y=false:=by
      cases hb : Nat.beq x y with
      | false=>rfl
      | true=>exact absurd (bH hb) hne
    rw [hb]
    simp only [Bool.false_eq_true,if_false]
    exact aBM (fun h'=>h (List.mem_cons_of_mem _ h'))
theorem aGy {l : List Nat} (x : Nat) : (∃ i,idx x l 0=some i∧l[i]? = some x)∨(idx x l 0=none∧x∉l):=by
  cases h : idx x l 0 with
  | some i=>exact .inl ⟨i,rfl,aH9 h⟩
  | none=>
    refine .inr ⟨rfl,fun hm=>?_⟩
    have : ∀ (l : List Nat) (n : Nat),x∈l→idx x l n≠none:=by
      intro l
      induction l with
      | nil=>intro n h;cases h
      | cons y r ih=>
        intro n h
        unfold idx
        split
        · simp
        · rename_i hb
          rcases List.mem_cons.1 h with rfl | h
          · simp at hb
          · exact ih _ h
    exact this l 0 hm h
def dJ (bs : List Nat) (n k x : Nat) : Option Nat:=match idx x bs 0 with
  | some i=>some i
  | none=>if n≤x∧x<n+k then some (bs.length+(x - n)) else none
def uO (n k x : Nat) : Option Nat:=if n≤x∧x<n+k then some (x - n) else none
theorem aGz {α : Type} {x : Nat} : ∀ {cs : List (Option α)} {n : Nat} {old : List (Nat × Option α)},look x (backB [] n cs old)=if n≤x∧x<n+cs.length then cs.getD (x - n) none else look x old
  | [],n,old=>by simp [backB];intro h1 h2;omega
  | c::r,n,old=>by
    rw [backB,aGz,dF]
    by_cases h : x=n
    · subst h
      rw [if_neg (by omega),if_pos rfl,if_pos (by simp),Nat.sub_self];rfl
    · by_cases h2 : n≤x∧x<n+(c::r).length
      · rw [if_pos h2,if_pos (by simp at h2;omega),show x - n=x - (n+1)+1 by omega];rfl
      · rw [if_neg h2,if_neg (by simp at h2;omega),if_neg h]
theorem aAy {α : Type} {x : Nat} : ∀ {cs : List (Option α)} {bs : List Nat} {n : Nat} {old : List (Nat × Option α)},bs.Nodup→bs.length≤cs.length→(∀ b∈bs,¬ (n≤b∧b<n+(cs.length - bs.length)))→
    look x (backB bs n cs old)=match dJ bs n (cs.length - bs.length) x with | some i=>cs.getD i none | none=>look x old
  | cs,[],n,old,_,_,_=>by
    rw [aGz]
    unfold dJ
    simp only [idx,List.length_nil,Nat.sub_zero,Nat.zero_add]
    split<;>rfl
  | [],b::bs,n,old,_,hl,_=>by simp at hl
  | c::r,b::bs,n,old,hn,hl,hf=>by
    simp only [List.length_cons,Nat.add_le_add_iff_right] at hl
    have hlen : (c::r).length - (b::bs).length=r.length - bs.length:=by simp
    rw [hlen] at hf ⊢
    rw [backB,aAy (List.nodup_cons.1 hn).2 hl (fun y hy=>hf y (List.mem_cons_of_mem _ hy)),dF]
    have hb:=hf b List.mem_cons_self
    unfold dJ
    rcases aGy (l:=bs) x with ⟨i,h1,h2⟩ | ⟨h1,h2⟩
    · have hne : x≠b:=fun e=>(List.nodup_cons.1 hn).1 (e▸List.mem_of_getElem? h2)
      have : idx x (b::bs) 0=some (i+1):=by
        have:=aHd (n:=0) hn (show (b::bs)[i+1]? = some x by simpa using h2)
        simpa using this
      rw [h1,this]
      rfl
    · rw [h1]
      by_cases e : x=b
      · subst e
        have : idx x (x::bs) 0=some 0:=by simp [idx]
        rw [this,if_neg hb]
        simp
      · have : idx x (b::bs) 0=none:=aBM (fun hm=>(List.mem_cons.1 hm).elim e h2)
        rw [this]
        by_cases hr : n≤x∧x<n+(r.length - bs.length)
        · rw [if_pos hr]
          simp only [List.length_cons,if_pos hr]
          rw [show bs.length+1+(x - n)=bs.length+(x - n)+1 by omega]
          rfl
        · rw [if_neg hr]
          simp only [if_neg hr,if_neg e]
theorem aEJ {x : Nat} : ∀ {cs : List (Option Own)} {n : Nat} {old : List (Nat × Option Own)},look x (backO n cs old)=match uO n cs.length x with | some i=>cs.getD i none | none=>look x old
  | [],n,old=>by
    have : uO n ([] : List (Option Own)).length x=none:=by
      unfold uO
      rw [if_neg]
      simp
    rw [this]
    rfl
  | c::r,n,old=>by
    rw [backO,aEJ,dF]
    unfold uO
    by_cases h : x=n
    · subst h
      rw [if_neg (by omega),if_pos (by simp)]
      simp
    · by_cases h2 : n≤x∧x<n+(c::r).length
      · rw [if_pos h2,if_pos (by simp at h2;omega)]
        simp only
        rw [show x - n=x - (n+1)+1 by omega];rfl
      · rw [if_neg h2,if_neg (by simp at h2;omega),if_neg h]
theorem cK.renum {w : World} {Z : Nat→Prop} {ρ ρ' : Loc} {live live' : Nat→Prop} {fb fl : Nat→Option Nat} (hb : ∀ b b',ρ.ub b→fb b=some b'→ρ'.ub b'∧ρ'.box b'=ρ.box b)
    (hl : ∀ l l',ρ.ul l→fl l=some l'→ρ'.ul l'∧(live' l'→live l∧ρ'.hdr l'=ρ.hdr l∧ρ'.ty l'=ρ.ty l∧ρ'.fp l'=ρ.fp l)) : ∀ (n : Nat) {d : DV} {v : Value},cK w Z ρ live d v→cK w Z ρ' live' (ren fb fl n d) v:=by
  have key : ∀ (f : DV→DV),(∀ d v,cK w Z ρ live d v→cK w Z ρ' live' (f d) v)→∀ {d : DV} {v : Value},cK w Z ρ live d v→cK w Z ρ' live' (ren1 fb fl f d) v:=by
    intro f hf d v h
    have hmap : ∀ {ds : List DV} {vs : List Value},(∀ (i : Nat) d v,ds[i]? = some d→vs[i]? = some v→cK w Z ρ live d v)→∀ (i : Nat) d v,(ds.map f)[i]? = some d→vs[i]? = some v→cK w Z ρ' live' d v:=by
      intro ds vs h i d v hd hv
      rw [List.getElem?_map] at hd
      cases hdi : ds[i]? with
      | none=>rw [hdi] at hd;cases hd
      | some d0=>rw [hdi] at hd;cases hd;exact hf _ _ (h i d0 v hdi hv)
    cases h with
    | p x v h=>exact .p x v h
    | nils=>exact .nils
    | agg ds vs hl hc h=>exact .agg _ vs (by simp [hl]) hc (hmap h)
    | tup ds vs hl h=>exact .tup _ vs (by simp [hl]) (hmap h)
    | fn g ds vs hl h=>exact .fn g _ vs (by simp [hl]) (hmap h)
    | ptr b off hub=>
      unfold ren1
      dsimp only
      split
      · rename_i b' hb'
        obtain ⟨h1,h2⟩:=hb b b' hub hb'
        rw [← h2]
        exact .ptr b' off h1
      · exact .dead _
    | bsl b n hub=>
      unfold ren1
      dsimp only
      split
      · rename_i b' hb'
        obtain ⟨h1,h2⟩:=hb b b' hub hb'
        rw [← h2]
        exact .bsl b' n h1
      · exact .dead _
    | ref l path v hu hc h=>
      unfold ren1
      dsimp only
      split
      · rename_i l' hl'
        obtain ⟨h1,h2⟩:=hl l l' hu hl'
        refine .ref l' path v h1 hc (fun hv=>?_)
        obtain ⟨g1,g2,g3,g4⟩:=h2 hv
        rw [g2,g3,g4]
        exact h g1
      · exact .dead _
    | sref l path lo hi v hu hc h=>
      unfold ren1
      dsimp only
      split
      · rename_i l' hl'
        obtain ⟨h1,h2⟩:=hl l l' hu hl'
        refine .sref l' path lo hi v h1 hc (fun hv=>?_)
        obtain ⟨g1,g2,g3,g4⟩:=h2 hv
        rw [g2,g3,g4]
        exact h g1
      · exact .dead _
    | eptr l path i off v hu hc h=>
      unfold ren1
      dsimp only
      split
      · rename_i l' hl'
        obtain ⟨h1,h2⟩:=hl l l' hu hl'
        refine .eptr l' path i off v h1 hc (fun hv=>?_)
        obtain ⟨g1,g2,g3,g4⟩:=h2 hv
        rw [g2,g3,g4]
        exact h g1
      · exact .dead _
    | fptr x s' g off b o cells e fz cv h1 h2 h3 h4 h5 h6=>exact .fptr x s' g off b o cells e fz cv h1 h2 h3 h4 h5 h6
    | bptr c off b o h=>exact .bptr c off b o h
    | gptr l path i off v hc h=>
      unfold ren1
      dsimp only
      split
      · rename_i l' hl'
        refine .gptr l' path i off v hc (fun k0 n0 hi=>?_)
        obtain ⟨hu,h⟩:=h k0 n0 hi
        obtain ⟨h1,h2⟩:=hl l l' hu hl'
        refine ⟨h1,fun hv=>?_⟩
        obtain ⟨g1,g2,g3,g4⟩:=h2 hv
        rw [g2,g3,g4]
        exact h g1
      · exact .dead _
    | nilq c neg b h=>exact .nilq c neg b h
    | dead v=>exact .dead v
  intro n
  induction n with
  | zero=>intro d v h;exact key _ (fun _ _ _=>.dead _) h
  | succ n ih=>intro d v h;exact key _ (fun _ _ h=>ih h) h
theorem eB {s : St} : ∀ (n : Nat) (ds : List DV) (a : Seen),(∀ b∈a.bs,s.box b≠none)→(∀ l∈a.ls,s.list l≠none)→(∀ b∈(reach s n ds a).bs,s.box b≠none)∧∀ l∈(reach s n ds a).ls,s.list l≠none
  | 0,_,a,h1,h2=>⟨by simpa [reach] using h1,by simpa [reach] using h2⟩
  | _+1,[],a,h1,h2=>⟨by simpa [reach] using h1,by simpa [reach] using h2⟩
  | n+1,d::r,a,h1,h2=>by
    unfold reach
    have row : ∀ l,let b:=(if mem l a.ls then reach s n r a else match s.list l with | some _=>reach s n r { a with ls:=a.ls++[l]} | none=>reach s n r a);(∀ x∈b.bs,s.box x≠none)∧∀ x∈b.ls,s.list x≠none:=by
      intro l
      dsimp only
      split
      · exact eB n r a h1 h2
      · split
        · rename_i w hw
          refine eB n r { a with ls:=a.ls++[l]} h1 (fun x hx=>?_)
          rcases List.mem_append.1 hx with hx | hx
          · exact h2 x hx
          · simp at hx;subst hx;rw [hw];simp
        · exact eB n r a h1 h2
    split
    · split
      · exact eB n r a h1 h2
      · rename_i b _ _
        split
        · rename_i cs hcs
          refine eB n _ { a with bs:=a.bs++[b]} (fun x hx=>?_) h2
          rcases List.mem_append.1 hx with hx | hx
          · exact h1 x hx
          · simp at hx;subst hx;rw [hcs];simp
        · exact eB n r a h1 h2
    · split
      · exact eB n r a h1 h2
      · rename_i b _ _
        split
        · rename_i cs hcs
          refine eB n _ { a with bs:=a.bs++[b]} (fun x hx=>?_) h2
          rcases List.mem_append.1 hx with hx | hx
          · exact h1 x hx
          · simp at hx;subst hx;rw [hcs];simp
        · exact eB n r a h1 h2
    · exact row _
    · exact row _
    · exact row _
    · exact eB n _ a h1 h2
    · exact eB n _ a h1 h2
    · exact eB n _ a h1 h2
    · exact eB n r a h1 h2
theorem aAe {s : St} {fb fl : Nat→Option Nat} : ∀ {bs : List Nat} {n i x : Nat} {o : Option (List DV)},(pickBoxes s fb fl n bs)[i]? = some (x,o)→look (n+i) (pickBoxes s fb fl n bs)=o
  | [],n,i,x,o,h=>by simp [pickBoxes] at h
  | b::r,n,i,x,o,h=>by
    unfold pickBoxes at h ⊢
    rw [dF]
    cases i with
    | zero=>simp at h;simp [h.2]
    | succ i=>
      have:=aAe (bs:=r) (n:=n+1) (i:=i) (x:=x) (o:=o) (by simpa using h)
      rw [if_neg (by omega),show n+(i+1)=n+1+i by omega]
      exact this
theorem kX {s : St} : ∀ {ls : List Nat} {n i x : Nat} {o : Option Own},(pickLists s n ls)[i]? = some (x,o)→look (n+i) (pickLists s n ls)=o
  | [],n,i,x,o,h=>by simp [pickLists] at h
  | b::r,n,i,x,o,h=>by
    unfold pickLists at h ⊢
    rw [dF]
    cases i with
    | zero=>simp at h;simp [h.2]
    | succ i=>
      have:=kX (ls:=r) (n:=n+1) (i:=i) (x:=x) (o:=o) (by simpa using h)
      rw [if_neg (by omega),show n+(i+1)=n+1+i by omega]
      exact this
theorem tD {s : St} {fb fl : Nat→Option Nat} : ∀ {bs : List Nat} {n : Nat},(pickBoxes s fb fl n bs).length=bs.length
  | [],_=>rfl
  | _::r,n=>by simp [pickBoxes,tD (bs:=r)]
theorem oE {s : St} : ∀ {ls : List Nat} {n : Nat},(pickLists s n ls).length=ls.length
  | [],_=>rfl
  | _::r,n=>by simp [pickLists,oE (ls:=r)]
end Go.Proofs.YthkofpnllaapeaaGreatDoor
namespace Go.Proofs.YthkofpnllaapeaaGreatDoor
open Go
def aR.back (m c : aR) (bs kl : List Nat) (n k n' k' : Nat) (s : Sx) : aR:=
  { w:=c.w,Z:=c.Z,L:=m.L,s:=s,
    ρ:={ box:=fun x=>match dJ bs n k x with | some i=>c.ρ.box i | none=>m.ρ.box x
         hdr:=fun x=>match dJ kl n' k' x with | some i=>c.ρ.hdr i | none=>m.ρ.hdr x
         fp:=fun x=>match dJ kl n' k' x with | some i=>c.ρ.fp i | none=>m.ρ.fp x
         ty:=fun x=>match dJ kl n' k' x with | some i=>c.ρ.ty i | none=>m.ρ.ty x
         ub:=fun x=>m.ρ.ub x∨(n≤x∧x<n+k)
         ul:=fun x=>m.ρ.ul x∨(n'≤x∧x<n'+k')}}
theorem dS (bs : List Nat) (n k x : Nat) : (∃ i,dJ bs n k x=some i∧bs[i]? = some x)∨(∃ i,dJ bs n k x=some (bs.length+i)∧x=n+i∧i<k∧x∉bs)∨(dJ bs n k x=none∧x∉bs∧¬ (n≤x∧x<n+k)):=by
  rcases aGy (l:=bs) x with ⟨i,h1,h2⟩ | ⟨h1,h2⟩
  · exact .inl ⟨i,by unfold dJ;rw [h1],h2⟩
  · by_cases h : n≤x∧x<n+k
    · exact .inr (.inl ⟨x - n,by unfold dJ;rw [h1];simp only [if_pos h],by omega,by omega,h2⟩)
    · exact .inr (.inr ⟨by unfold dJ;rw [h1];simp only [if_neg h],h2,h⟩)
theorem aBN (n k x : Nat) : dJ [] n k x=uO n k x:=by
  unfold dJ uO
  simp only [idx,List.length_nil,Nat.zero_add]
theorem aEK (n k x : Nat) : (∃ i,uO n k x=some i∧x=n+i∧i<k)∨(uO n k x=none∧¬ (n≤x∧x<n+k)):=by
  unfold uO
  by_cases h : n≤x∧x<n+k
  · rw [if_pos h];exact .inl ⟨x - n,rfl,by omega,by omega⟩
  · rw [if_neg h];exact .inr ⟨rfl,h⟩
theorem vP.mono {w w' : World} {Z Z' : Nat→Prop} {ρ ρ' : Loc} {live live' gone gone' : Nat→Prop} (C : vP w w' Z Z' ρ ρ' live live' gone) (h : ∀ l,gone l→gone' l) : vP w w' Z Z' ρ ρ' live live' gone':=
  ⟨C.z,C.hw,C.b,C.u,fun l hu hl=>⟨(C.l l hu hl).1,(C.l l hu hl).2.1,(C.l l hu hl).2.2.1,(C.l l hu hl).2.2.2.imp (h l) _root_.id⟩⟩
theorem cK.kept {w w' : World} {Z Z' : Nat→Prop} {ρ ρ' : Loc} {live live' : Nat→Prop} {kp : Bool} {kl : List Nat} (hk : kp=false→kl = []) (C : vP w w' Z Z' ρ ρ' live live' (fun l=>l∈kl)) {d : DV} {v : Value}
    (h : cK w Z ρ live d v) : cK w' Z' ρ' live' (scrubKeptD kp kl d) v:=by
  unfold scrubKeptD
  cases kp with
  | true=>exact cK.scrub C deep h
  | false=>
    have:=hk rfl
    subst this
    exact cK.carry (C.mono (fun l hl=>by cases hl)) h
section
variable {m c : aR} {kp : Bool} {bs ls kl : List Nat} {n k n' k' : Nat} {s0 : St} {S : Sx}
structure rW (m c : aR) (kp : Bool) (bs ls kl : List Nat) (n k n' k' : Nat) (S : Sx) : Prop where
  kk : kp=false→kl = []
  kn : kl.Nodup
  ks : ∀ l∈kl,l∈ls
  row : ∀ i l,kl[i]? = some l→c.s.live i→c.ρ.hdr i=m.ρ.hdr l∧c.ρ.ty i=m.ρ.ty l
  inv : kT m
  cinv : kT c
  nb : bs.Nodup
  ab : ∀ b∈bs,∃ cs,m.s.box b=some cs
  al : ∀ l∈ls,∃ o,m.s.list l=some o
  size : m.w.heap.size≤c.w.heap.size
  os : c.w.os=m.w.os
  tape : c.w.tape=m.w.tape
  output : c.w.output=m.w.output
  keep : ∀ r,r<m.w.heap.size→¬ ((∃ b∈bs,r=m.ρ.box b)∨(∃ l∈ls,m.ρ.fp l r))→c.w.heap[r]? = m.w.heap[r]?
  own : ∀ r,c.owned r→((∃ b∈bs,r=m.ρ.box b)∨(∃ l∈ls,m.ρ.fp l r))∨m.w.heap.size≤r
  z : ∀ r,c.Z r→m.Z r∨((∃ b∈bs,r=m.ρ.box b)∨(∃ l∈ls,m.ρ.fp l r))∨m.w.heap.size≤r
  zz : ∀ r,m.Z r→c.Z r
  box : ∀ i b,bs[i]? = some b→c.ρ.box i=m.ρ.box b
  freshB : ∀ x,n≤x→x<n+k→¬ m.ρ.ub x
  freshL : ∀ x,n'≤x→x<n'+k'→¬ m.ρ.ul x
  sb : ∀ x cs,S.box x=some cs→(∃ i cs0,dJ bs n k x=some i∧c.s.box i=some cs0∧cs.length=cs0.length∧∀ (j : Nat) d0 d v,cs0[j]? = some d0→cs[j]? = some d→c.rd d0 v→(m.back c bs kl n k n' k' S).rd d v)∨(dJ bs n k x=none∧∃ cs0,m.s.box x=some cs0∧cs=cs0.map (scrubKeptD kp kl))
  sbx : ∀ x,(∃ cs,m.s.box x=some cs)→∃ cs,S.box x=some cs
  sl : ∀ x o,S.list x=some o→(∃ i,dJ kl n' k' x=some i∧c.s.list i=some o)∨(dJ kl n' k' x=none∧x∉ls∧m.s.list x=some o)
def aEL (m : aR) (bs ls : List Nat) (r : Nat) : Prop:=(∃ b∈bs,r=m.ρ.box b)∨(∃ l∈ls,m.ρ.fp l r)
theorem rW.mine (C : rW m c kp bs ls kl n k n' k' S) {r : Nat} (ho : m.owned r) (hn : ¬ aEL m bs ls r) : c.w.heap[r]? = m.w.heap[r]?∧¬ c.Z r∧¬ c.owned r∧r<m.w.heap.size:=by
  have hlt:=C.inv.owned_lt ho
  refine ⟨C.keep r hlt hn,fun hz=>?_,fun h=>?_,hlt⟩
  · rcases C.z r hz with h | h | h
    · exact C.inv.owned_notZ ho h
    · exact hn h
    · omega
  · rcases C.own r h with h | h
    · exact hn h
    · omega
theorem rW.boxOut (C : rW m c kp bs ls kl n k n' k' S) {x : Nat} {cs : List DV} (hx : m.s.box x=some cs) (hn : x∉bs) : ¬ aEL m bs ls (m.ρ.box x):=by
  rintro (⟨b,hb,e⟩ | ⟨l,hl,h⟩)
  · obtain ⟨cs',hcs'⟩:=C.ab b hb
    exact hn (C.inv.bb x cs b cs' hx hcs' e▸hb)
  · obtain ⟨o,ho⟩:=C.al l hl
    exact C.inv.bl x cs l o hx ho h
theorem rW.rowOut (C : rW m c kp bs ls kl n k n' k' S) {l : Nat} {o : Own} (hl : m.s.list l=some o) (hn : l∉ls) {r : Nat} (hr : m.ρ.fp l r) : ¬ aEL m bs ls r:=by
  rintro (⟨b,hb,rfl⟩ | ⟨l',hl',h⟩)
  · obtain ⟨cs',hcs'⟩:=C.ab b hb
    exact C.inv.bl b cs' l o hcs' hl hr
  · obtain ⟨o',ho'⟩:=C.al l' hl'
    exact hn (C.inv.ll l o l' o' r hl ho' hr h▸hl')
theorem rW.LOut (C : rW m c kp bs ls kl n k n' k' S) {r : Nat} (hr : m.L r) : ¬ aEL m bs ls r:=by
  rintro (⟨b,hb,rfl⟩ | ⟨l,hl,h⟩)
  · obtain ⟨cs',hcs'⟩:=C.ab b hb
    exact C.inv.Lb b cs' hcs' hr
  · obtain ⟨o,ho⟩:=C.al l hl
    exact C.inv.Ll l o r ho h hr
theorem rW.rd (C : rW m c kp bs ls kl n k n' k' S) {d : DV} {v : Value} (h : m.rd d v) : (m.back c bs kl n k n' k' S).rd (scrubKeptD kp kl d) v:=by
  have Cr : vP m.w c.w m.Z c.Z m.ρ (m.back c bs kl n k n' k' S).ρ m.s.live S.live (fun l=>l∈kl):={
    z:=C.zz
    hw:=fun r hr=>C.keep r (C.inv.zlt r hr) (by
      rintro (⟨b,hb,rfl⟩ | ⟨l,hl,h⟩)
      · obtain ⟨cs',hcs'⟩:=C.ab b hb
        exact C.inv.bz b cs' hcs' hr
      · obtain ⟨o,ho⟩:=C.al l hl
        exact (C.inv.row l o ho).2.2.notZ r h hr)
    b:=fun b hb=>by
      refine ⟨.inl hb,?_⟩
      show (match dJ bs n k b with | some i=>c.ρ.box i | none=>m.ρ.box b)=_
      rcases dS bs n k b with ⟨i,h1,h2⟩ | ⟨i,h1,h2,h3,h4⟩ | ⟨h1,_⟩
      · rw [h1];exact C.box i b h2
      · exact absurd hb (C.freshB b (by omega) (by omega))
      · rw [h1]
    u:=fun l hl=>.inl hl
    l:=fun l hu hv=>by
      show _∧(match dJ kl n' k' l with | some i=>c.ρ.hdr i | none=>m.ρ.hdr l)=_∧(match dJ kl n' k' l with | some i=>c.ρ.ty i | none=>m.ρ.ty l)=_∧
        (l∈kl∨_∨∀ r,m.ρ.fp l r→(match dJ kl n' k' l with | some i=>c.ρ.fp i | none=>m.ρ.fp l) r∧_)
      rcases dS kl n' k' l with ⟨i,h1,h2⟩ | ⟨i,h1,h2,h3,_⟩ | ⟨h1,_⟩
      · rw [h1]
        have hm:=List.mem_of_getElem? h2
        obtain ⟨o,ho⟩:=C.al l (C.ks l hm)
        cases hs : S.list l with
        | none=>exact absurd hs hv
        | some o'=>
          rcases C.sl l o' hs with ⟨i',g1,g2⟩ | ⟨g1,_⟩
          · rw [h1] at g1
            cases g1
            obtain ⟨q1,q2⟩:=C.row i l h2 (aR.live_of g2)
            exact ⟨aR.live_of ho,q1,q2,.inl hm⟩
          · rw [h1] at g1;cases g1
      · exact absurd hu (C.freshL l (by omega) (by omega))
      · rw [h1]
        cases hs : S.list l with
        | none=>exact absurd hs hv
        | some o=>
          rcases C.sl l o hs with ⟨i,g1,_⟩ | ⟨_,g2,g3⟩
          · rw [h1] at g1;cases g1
          · exact ⟨aR.live_of g3,rfl,rfl,.inr (.inr fun r hr=>⟨hr,(C.mine (.inr (.inl ⟨l,o,g3,hr⟩)) (C.rowOut g3 g2 hr)).1⟩)⟩}
  exact cK.kept C.kk Cr h
theorem rW.boxOf (C : rW m c kp bs ls kl n k n' k' S) {x : Nat} {cs : List DV} (h : S.box x=some cs) :
    (∃ i cs0,dJ bs n k x=some i∧c.s.box i=some cs0∧(m.back c bs kl n k n' k' S).ρ.box x=c.ρ.box i)∨(dJ bs n k x=none∧(∃ cs0,m.s.box x=some cs0∧cs=cs0.map (scrubKeptD kp kl))∧x∉bs∧(m.back c bs kl n k n' k' S).ρ.box x=m.ρ.box x):=by
  rcases C.sb x cs h with ⟨i,cs0,h1,h2,_⟩ | ⟨h1,h2⟩
  · refine .inl ⟨i,cs0,h1,h2,?_⟩
    show (match dJ bs n k x with | some i=>c.ρ.box i | none=>m.ρ.box x)=_
    rw [h1]
  · refine .inr ⟨h1,h2,?_,?_⟩
    · rcases dS bs n k x with ⟨i,g1,_⟩ | ⟨i,g1,_⟩ | ⟨_,g2,_⟩
      · rw [h1] at g1;cases g1
      · rw [h1] at g1;cases g1
      · exact g2
    · show (match dJ bs n k x with | some i=>c.ρ.box i | none=>m.ρ.box x)=_
      rw [h1]
theorem rW.rowOf (C : rW m c kp bs ls kl n k n' k' S) {x : Nat} {o : Own} (h : S.list x=some o) :
    (∃ i,dJ kl n' k' x=some i∧c.s.list i=some o∧(m.back c bs kl n k n' k' S).ρ.fp x=c.ρ.fp i∧(m.back c bs kl n k n' k' S).ρ.hdr x=c.ρ.hdr i∧(m.back c bs kl n k n' k' S).ρ.ty x=c.ρ.ty i)∨
    (dJ kl n' k' x=none∧m.s.list x=some o∧x∉ls∧(m.back c bs kl n k n' k' S).ρ.fp x=m.ρ.fp x∧(m.back c bs kl n k n' k' S).ρ.hdr x=m.ρ.hdr x∧(m.back c bs kl n k n' k' S).ρ.ty x=m.ρ.ty x):=by
  rcases C.sl x o h with ⟨i,h1,h2⟩ | ⟨h1,h2,h3⟩
  · refine .inl ⟨i,h1,h2,?_,?_,?_⟩
    · show (match dJ kl n' k' x with | some i=>c.ρ.fp i | none=>m.ρ.fp x)=_
      rw [h1]
    · show (match dJ kl n' k' x with | some i=>c.ρ.hdr i | none=>m.ρ.hdr x)=_
      rw [h1]
    · show (match dJ kl n' k' x with | some i=>c.ρ.ty i | none=>m.ρ.ty x)=_
      rw [h1]
  · refine .inr ⟨h1,h3,h2,?_,?_,?_⟩
    · show (match dJ kl n' k' x with | some i=>c.ρ.fp i | none=>m.ρ.fp x)=_
      rw [h1]
    · show (match dJ kl n' k' x with | some i=>c.ρ.hdr i | none=>m.ρ.hdr x)=_
      rw [h1]
    · show (match dJ kl n' k' x with | some i=>c.ρ.ty i | none=>m.ρ.ty x)=_
      rw [h1]
theorem aIe (hn : bs.Nodup) {x y i : Nat} (hx : dJ bs n k x=some i) (hy : dJ bs n k y=some i) : x=y:=by
  have hlt : ∀ {z i},bs[i]? = some z→i<bs.length:=fun h=>(List.getElem?_eq_some_iff.1 h).1
  rcases dS bs n k x with ⟨i1,a1,a2⟩ | ⟨i1,a1,a2,_,_⟩ | ⟨a1,_⟩<;>rw [hx] at a1<;>first | (cases a1;done) | skip
  · cases a1
    rcases dS bs n k y with ⟨i2,b1,b2⟩ | ⟨i2,b1,b2,_,_⟩ | ⟨b1,_⟩<;>rw [hy] at b1<;>first | (cases b1;done) | skip
    · cases b1;rw [a2] at b2;cases b2;rfl
    · have:=hlt a2;simp at b1;omega
  · rcases dS bs n k y with ⟨i2,b1,b2⟩ | ⟨i2,b1,b2,_,_⟩ | ⟨b1,_⟩<;>rw [hy] at b1<;>first | (cases b1;done) | skip
    · have:=hlt b2;simp at a1 b1;omega
    · simp at a1 b1;omega
theorem rW.invB (C : rW m c kp bs ls kl n k n' k' S) : kT (m.back c bs kl n k n' k' S):=by
  have oldB : ∀ {x cs},m.s.box x=some cs→x∉bs→c.w.heap[m.ρ.box x]? = m.w.heap[m.ρ.box x]?∧¬ c.Z (m.ρ.box x)∧¬ c.owned (m.ρ.box x)∧m.ρ.box x<m.w.heap.size:=fun hx hn=>C.mine (.inl ⟨_,_,hx,rfl⟩) (C.boxOut hx hn)
  have oldL : ∀ {l o r},m.s.list l=some o→l∉ls→m.ρ.fp l r→c.w.heap[r]? = m.w.heap[r]?∧¬ c.Z r∧¬ c.owned r∧r<m.w.heap.size:=fun hl hn hr=>C.mine (.inr (.inl ⟨_,_,hl,hr⟩)) (C.rowOut hl hn hr)
  have hZw : ∀ r,m.Z r→c.w.heap[r]? = m.w.heap[r]?:=fun r hr=>C.keep r (C.inv.zlt r hr) (by
    rintro (⟨b,hb,rfl⟩ | ⟨l,hl,h⟩)
    · obtain ⟨cs',hcs'⟩:=C.ab b hb
      exact C.inv.bz b cs' hcs' hr
    · obtain ⟨o,ho⟩:=C.al l hl
      exact (C.inv.row l o ho).2.2.notZ r h hr)
  refine ⟨?_,?_,C.cinv.zlt,?_,?_,?_,?_,?_,?_,?_,?_,?_⟩
  · intro x cs h
    have h : S.box x=some cs:=h
    rcases C.sb x cs h with ⟨i,cs0,h1,_⟩ | ⟨h1,cs0,h2,_⟩
    · rcases dS bs n k x with ⟨i1,a1,a2⟩ | ⟨i1,a1,a2,a3,_⟩ | ⟨a1,_⟩
      · obtain ⟨cs',hcs'⟩:=C.ab x (List.mem_of_getElem? a2)
        exact .inl (C.inv.ub x cs' hcs')
      · exact .inr (by omega)
      · rw [h1] at a1;cases a1
    · exact .inl (C.inv.ub x cs0 h2)
  · intro l o h
    have h : S.list l=some o:=h
    rcases C.sl l o h with ⟨i,h1,_⟩ | ⟨h1,_,h2⟩
    · rcases dS kl n' k' l with ⟨i1,a1,a2⟩ | ⟨i1,a1,a2,a3,_⟩ | ⟨a1,_⟩
      · obtain ⟨o',ho'⟩:=C.al l (C.ks l (List.mem_of_getElem? a2))
        exact .inl (C.inv.ul l o' ho')
      · exact .inr (by omega)
      · rw [h1] at a1;cases a1
    · exact .inl (C.inv.ul l o h2)
  · intro x cs h
    have h : S.box x=some cs:=h
    rcases C.sb x cs h with ⟨i,cs0,h1,h2,h3,h4⟩ | ⟨h1,cs0,h2,he⟩
    · obtain ⟨vs,ety,g1,g2,g3,g4⟩:=C.cinv.box i cs0 h2
      refine ⟨vs,ety,?_,by omega,g3,fun j d v hd hv=>?_⟩
      · show c.w.heap[(match dJ bs n k x with | some i=>c.ρ.box i | none=>m.ρ.box x)]? = _
        rw [h1];exact g1
      · have hj : j<cs0.length:=by have:=(List.getElem?_eq_some_iff.1 hd).1;omega
        have hd0 : cs0[j]? = some cs0[j]:=List.getElem?_eq_getElem hj
        exact h4 j _ d v hd0 hd (g4 j _ v hd0 hv)
    · obtain ⟨vs,ety,g1,g2,g3,g4⟩:=C.inv.box x cs0 h2
      obtain ⟨_,_,q3,q4⟩:=(C.boxOf h).resolve_left (by rintro ⟨i,cs0,e,_⟩;rw [h1] at e;cases e)
      subst he
      refine ⟨vs,ety,by rw [q4];exact (oldB h2 q3).1.trans g1,by rw [List.length_map];exact g2,g3,fun j d v hd hv=>?_⟩
      rw [List.getElem?_map] at hd
      cases hj : cs0[j]? with
      | none=>rw [hj] at hd;cases hd
      | some d0=>rw [hj] at hd;cases hd;exact C.rd (g4 j d0 v hj hv)
  · intro l o h
    have h : S.list l=some o:=h
    rcases C.rowOf h with ⟨i,h1,h2,e1,e2,e3⟩ | ⟨h1,h2,h3,e1,e2,e3⟩
    · obtain ⟨g1,g2,g3⟩:=C.cinv.row i o h2
      rw [e1,e2,e3]
      exact ⟨g1,g2,g3⟩
    · obtain ⟨g1,g2,g3⟩:=C.inv.row l o h2
      rw [e1,e2,e3]
      exact ⟨g1,g2,g3.frame C.zz hZw (fun r hr=>(oldL h2 h3 hr).1) (fun r hr=>(oldL h2 h3 hr).2.1)⟩
  · intro x cs h
    have h : S.box x=some cs:=h
    rcases C.boxOf h with ⟨i,cs0,h1,h2,e⟩ | ⟨h1,⟨_,h2,_⟩,h3,e⟩
    · rw [e];exact C.cinv.bz i cs0 h2
    · rw [e];exact (oldB h2 h3).2.1
  · intro x cs x' cs' h h' he
    have h : S.box x=some cs:=h
    have h' : S.box x'=some cs':=h'
    rcases C.boxOf h with ⟨i,cs0,h1,h2,e⟩ | ⟨h1,⟨_,h2,_⟩,h3,e⟩<;>rcases C.boxOf h' with ⟨i',cs0',h1',h2',e'⟩ | ⟨h1',⟨_,h2',_⟩,h3',e'⟩<;>rw [e,e'] at he
    · have:=C.cinv.bb i cs0 i' cs0' h2 h2' he
      subst this
      exact aIe C.nb h1 h1'
    · exact ((oldB h2' h3').2.2.1 (by rw [← he];exact .inl ⟨i,cs0,h2,rfl⟩)).elim
    · exact ((oldB h2 h3).2.2.1 (by rw [he];exact .inl ⟨i',cs0',h2',rfl⟩)).elim
    · exact C.inv.bb x _ x' _ h2 h2' he
  · intro x cs l o h h'
    have h : S.box x=some cs:=h
    have h' : S.list l=some o:=h'
    rcases C.boxOf h with ⟨i,cs0,h1,h2,e⟩ | ⟨h1,⟨_,h2,_⟩,h3,e⟩<;>rcases C.rowOf h' with ⟨i',h1',h2',e1,_⟩ | ⟨h1',h2',h3',e1,_⟩<;>rw [e,e1]
    · exact C.cinv.bl i cs0 i' o h2 h2'
    · exact fun hr=>(oldL h2' h3' hr).2.2.1 (.inl ⟨i,cs0,h2,rfl⟩)
    · exact fun hr=>(oldB h2 h3).2.2.1 (.inr (.inl ⟨i',o,h2',hr⟩))
    · exact C.inv.bl x _ l o h2 h2'
  · intro l o l' o' r h h' hr hr'
    have h : S.list l=some o:=h
    have h' : S.list l'=some o':=h'
    rcases C.rowOf h with ⟨i,h1,h2,e1,_⟩ | ⟨h1,h2,h3,e1,_⟩<;>rcases C.rowOf h' with ⟨i',h1',h2',e1',_⟩ | ⟨h1',h2',h3',e1',_⟩<;>rw [e1] at hr<;>rw [e1'] at hr'
    · have:=C.cinv.ll i o i' o' r h2 h2' hr hr'
      subst this
      exact aIe C.kn h1 h1'
    · exact ((oldL h2' h3' hr').2.2.1 (.inr (.inl ⟨i,o,h2,hr⟩))).elim
    · exact ((oldL h2 h3 hr).2.2.1 (.inr (.inl ⟨i',o',h2',hr'⟩))).elim
    · exact C.inv.ll l o l' o' r h2 h2' hr hr'
  · intro r hr
    obtain ⟨_,q2,_,q4⟩:=C.mine (.inr (.inr hr)) (C.LOut hr)
    exact ⟨q2,Nat.lt_of_lt_of_le q4 C.size⟩
  · intro x cs h hL
    have h : S.box x=some cs:=h
    have hL : m.L _:=hL
    rcases C.boxOf h with ⟨i,cs0,h1,h2,e⟩ | ⟨h1,⟨_,h2,_⟩,h3,e⟩<;>rw [e] at hL
    · exact (C.mine (.inr (.inr hL)) (C.LOut hL)).2.2.1 (.inl ⟨i,cs0,h2,rfl⟩)
    · exact C.inv.Lb x _ h2 hL
  · intro l o r h hr hL
    have h : S.list l=some o:=h
    have hL : m.L r:=hL
    rcases C.rowOf h with ⟨i,h1,h2,e1,_⟩ | ⟨h1,h2,h3,e1,_⟩<;>rw [e1] at hr
    · exact (C.mine (.inr (.inr hL)) (C.LOut hL)).2.2.1 (.inr (.inl ⟨i,o,h2,hr⟩))
    · exact C.inv.Ll l o r h2 hr hL
theorem rW.inCall (C : rW m c kp bs ls kl n k n' k' S) {r : Nat} (h : (∃ b∈bs,r=m.ρ.box b)∨(∃ l∈ls,m.ρ.fp l r)) : m.owned r:=by
  rcases h with ⟨b,hb,rfl⟩ | ⟨l,hl,h⟩
  · obtain ⟨cs',hcs'⟩:=C.ab b hb
    exact .inl ⟨b,cs',hcs',rfl⟩
  · obtain ⟨o,ho⟩:=C.al l hl
    exact .inr (.inl ⟨l,o,ho,h⟩)
theorem rW.step (C : rW m c kp bs ls kl n k n' k' S) {N : Nat} (h1 : N≤n) (h2 : n+k≤N+16) (h3 : N≤n') (h4 : n'+k'≤N+16) : eH m (m.back c bs kl n k n' k' S) (scrubKeptD kp kl) N where
  inv:=C.invB
  rd:=fun d v h=>C.rd h
  size:=C.size
  os:=C.os
  tape:=C.tape
  output:=C.output
  keep:=fun r hr ho=>C.keep r hr (fun h=>ho (C.inCall h))
  own:=fun r hr=>by
    rcases hr with ⟨x,cs,hx,rfl⟩ | ⟨l,o,hl,hf⟩ | hL
    · rcases C.boxOf hx with ⟨i,cs0,g1,g2,e⟩ | ⟨g1,⟨_,g2,_⟩,g3,e⟩<;>rw [e]
      · rcases C.own _ (.inl ⟨i,cs0,g2,rfl⟩) with h | h
        · exact .inl (C.inCall h)
        · exact .inr h
      · exact .inl (.inl ⟨x,_,g2,rfl⟩)
    · rcases C.rowOf hl with ⟨i,g1,g2,e,_⟩ | ⟨g1,g2,g3,e,_⟩<;>rw [e] at hf
      · rcases C.own _ (.inr (.inl ⟨i,o,g2,hf⟩)) with h | h
        · exact .inl (C.inCall h)
        · exact .inr h
      · exact .inl (.inr (.inl ⟨l,o,g2,hf⟩))
    · exact .inl (.inr (.inr hL))
  z:=fun r hr=>by
    rcases C.z r hr with h | h | h
    · exact .inl h
    · exact .inr (.inl (C.inCall h))
    · exact .inr (.inr h)
  zz:=C.zz
  ub:=fun b hb=>hb.imp id (fun h=>by omega)
  ul:=fun l hl=>hl.imp id (fun h=>by omega)
  mub:=fun b hb=>by
    refine ⟨.inl hb,?_⟩
    show (match dJ bs n k b with | some i=>c.ρ.box i | none=>m.ρ.box b)=_
    rcases dS bs n k b with ⟨i,h1,h2⟩ | ⟨i,h1,h2,h3,h4⟩ | ⟨h1,_⟩
    · rw [h1];exact C.box i b h2
    · exact absurd hb (C.freshB b (by omega) (by omega))
    · rw [h1]
  mul:=fun l hl=>.inl hl
  bx:=fun b cs hb=>C.sbx b ⟨cs,hb⟩
  hd:=fun l hu hv=>by
    cases hs : S.list l with
    | none=>exact absurd hs hv
    | some o=>
      rcases C.rowOf hs with ⟨i,g1,g2,_⟩ | ⟨g1,g2,g3,e1,e2,e3⟩
      · rcases dS kl n' k' l with ⟨i1,a1,a2⟩ | ⟨i1,a1,a2,a3,_⟩ | ⟨a1,_⟩
        · rw [g1] at a1
          cases a1
          rename_i e1
          obtain ⟨o',ho'⟩:=C.al l (C.ks l (List.mem_of_getElem? a2))
          obtain ⟨q1,q2⟩:=C.row i l a2 (aR.live_of g2)
          exact ⟨aR.live_of ho',e1.2.1.trans q1,e1.2.2.trans q2⟩
        · exact absurd hu (C.freshL l (by omega) (by omega))
        · rw [g1] at a1;cases a1
      · exact ⟨aR.live_of g2,e2,e3⟩
end
end Go.Proofs.YthkofpnllaapeaaGreatDoor
namespace Go.Proofs.YthkofpnllaapeaaGreatDoor
open Go
def aEM (P : Program) (mode : Nat→Option Tmpl) (S : Nat→List DV→St→Option R) : Prop:=∀ g t args s l,mode g=some t→S g args s=some l→iL P g∧∀ (m : aR) (aP : Array Value),eW m s s.base→args.length=aP.size→
  (∀ (i : Nat) d v,args[i]? = some d→aP[i]? = some v→m.rd d v)→Calls P g aP m.w (fun e w'=>∃ v,e = .returned v∧qW m s.boxes.length (if t.keep then s.lists.length else 0) (some (t.fit s)) l v w')
theorem aBO : ∀ (ts : List (Option Own)) (ks : List (Option OTy)) (n : Nat),numO (fitO ts ks) n=numO ts n
  | [],[],_=>rfl
  | [],_::_,_=>rfl
  | some w::r,some o::q,n=>by
    simp only [fitO,numO]
    cases w.c<;>simp only [aBO r q]
  | some w::r,none::q,n=>by
    simp only [fitO,numO]
    cases w.c<;>simp only [aBO r q]
  | none::r,_::q,n=>by simp only [fitO,numO,aBO r q]
  | some _::_,[],_=>rfl
  | none::_,[],_=>rfl
theorem Tmpl.fit_keep {t : Tmpl} {s : St} : (t.fit s).keep=t.keep:=by
  unfold Tmpl.fit Tmpl.fitK
  split
  · rfl
  · rfl
theorem Tmpl.fit_wf {t : Tmpl} {s : St} (h : t.wf=true) : (t.fit s).wf=true:=by
  unfold Tmpl.fit Tmpl.fitK
  split
  · unfold Tmpl.wf at h ⊢
    simp only [aBO]
    exact h
  · exact h
theorem Tmpl.fit_nil {t : Tmpl} {s : St} (h : s.lists = []) : t.fit s=t:=by
  unfold Tmpl.fit Tmpl.fitK
  split
  · rw [h]
    show ({ t with lists:=fitO t.lists []} : Tmpl)=t
    have : fitO t.lists []=t.lists:=by
      cases t.lists with
      | nil=>rfl
      | cons a r=>cases a<;>rfl
    rw [this]
  · rfl
theorem aCE (l : R) : ∀ (bs : List (Option (List DV))),(fillB l bs).length=bs.length
  | []=>rfl
  | some _::r=>by simp [fillB,aCE l r]
  | none::r=>by simp [fillB,aCE l r]
theorem qM (l : R) : ∀ (bs : List (Option Own)),(fillO l bs).length=bs.length
  | []=>rfl
  | some _::r=>by simp [fillO,qM l r]
  | none::r=>by simp [fillO,qM l r]
theorem aAz (l : R) : ∀ {bs : List (Option (List DV))} {i : Nat} {fs : List DV},(fillB l bs)[i]? = some (some fs)→∃ ts,bs[i]? = some (some ts)
  | [],i,fs,h=>by simp [fillB] at h
  | some t::r,i,fs,h=>by
    cases i with
    | zero=>exact ⟨t,rfl⟩
    | succ i=>simpa using aAz l (bs:=r) (i:=i) (by simpa [fillB] using h)
  | none::r,i,fs,h=>by
    cases i with
    | zero=>simp [fillB] at h
    | succ i=>simpa using aAz l (bs:=r) (i:=i) (by simpa [fillB] using h)
theorem qX (l : R) : ∀ {bs : List (Option Own)} {i : Nat} {w : Own},(fillO l bs)[i]? = some (some w)→∃ ts,bs[i]? = some (some ts)
  | [],i,fs,h=>by simp [fillO] at h
  | some t::r,i,fs,h=>by
    cases i with
    | zero=>exact ⟨t,rfl⟩
    | succ i=>simpa using qX l (bs:=r) (i:=i) (by simpa [fillO] using h)
  | none::r,i,fs,h=>by
    cases i with
    | zero=>simp [fillO] at h
    | succ i=>simpa using qX l (bs:=r) (i:=i) (by simpa [fillO] using h)
theorem aDs {α : Type} : ∀ {l : List (Option α)},allSome l=true→∀ (i : Nat) o,l[i]? = some o→∃ a,o=some a
  | [],_,i,o,h=>by simp at h
  | some a::r,h,i,o,hi=>by
    cases i with
    | zero=>simp at hi;exact ⟨a,hi.symm⟩
    | succ i=>exact aDs (l:=r) h i o (by simpa using hi)
  | none::r,h,_,_,_=>by simp [allSome] at h
theorem getD_some {α : Type} {l : List (Option α)} {i : Nat} {x : α} (h : l.getD i none=some x) : l[i]? = some (some x):=by
  rw [List.getD] at h
  cases hi : l[i]? with
  | none=>rw [hi] at h;cases h
  | some o=>rw [hi] at h;simp at h;rw [h]
theorem xC {m : aR} {s : St} {a : Seen} {r : Nat} (h : (m.pick a.bs a.ls (s.pick a)).owned r) : aEL m a.bs a.ls r:=by
  rcases h with ⟨i,cs,h,rfl⟩ | ⟨l,o,h,hr⟩ | h
  · have h : (s.pick a).box i=some cs:=h
    rw [wX] at h
    cases hbi : a.bs[i]? with
    | none=>rw [hbi] at h;cases h
    | some b=>
      refine .inl ⟨b,List.mem_of_getElem? hbi,?_⟩
      show m.ρ.box (a.bs.getD i 0)=_
      rw [dD hbi]
  · have h : (s.pick a).list l=some o:=h
    rw [tW] at h
    cases hbi : a.ls[l]? with
    | none=>rw [hbi] at h;cases h
    | some l0=>
      refine .inr ⟨l0,List.mem_of_getElem? hbi,?_⟩
      have hr : m.ρ.fp (a.ls.getD l 0) r:=hr
      rw [dD hbi] at hr
      exact hr
  · exact h.elim
section
variable {P : Program} {X : Cx} {O : Orc}
theorem aIf (hS : aEM P X.mode O.S) {ft : Foot} {n0 : Nat} {t : Tmpl} {f : Nat} (hm : X.mode f=some t) (hwf : t.wf=true) {args : List DV} {s : St} {k : DV→St→List Nat→Option R} {r : R} (h : liveK O ft n0 t f args s k=some r) :
    iL P f∧∃ d' s' kl,k d' s' kl=some r∧s.nl≤s'.nl∧∀ (n : Nat) (m : aR) (B L WB WL : Nat→Prop),mB m s B L n→s'.nb≤n+16→s'.nl≤n+16→n≤n0→(∀ b∈ft.rb,B b∧WB b)→(∀ l∈ft.rl,L l∧WL l)→(t.keep=true→∀ x,(B x∧WB x)∧(L x∧WL x))→
      ∀ vs : Array Value,args.length=vs.size→(∀ (i : Nat) d v,args[i]? = some d→vs[i]? = some v→m.rd d v)→
        Calls P f vs m.w (fun e w'=>∃ v,e = .returned v∧∃ m',m'.w=w'∧bK m m' s s' B L WB WL n (scrubKeptD t.keep kl)∧m'.rd d' v):=by
  unfold liveK at h
  generalize ha : reach s fuelR args ⟨[],[]⟩=a at h
  simp only at h
  have hkp : (t.fit (s.pick a)).keep=t.keep:=Tmpl.fit_keep
  have hwf : (t.fit (s.pick a)).wf=true:=Tmpl.fit_wf hwf
  have hS':=fun l=>hS f t (args.map (ren (idx · a.bs 0) (idx · a.ls 0) deep)) (s.pick a) l hm
  rw [← hkp] at hS' ⊢
  generalize t.fit (s.pick a)=t at h hwf hS' ⊢
  generalize hkd : (if t.keep=true then a.ls else [])=kl at h
  split at h
  rotate_left
  · cases h
  rename_i hc
  simp only [Bool.and_eq_true,List.all_eq_true,Bool.or_eq_true,Nat.blt_eq] at hc
  obtain ⟨⟨⟨⟨hlen,hsome⟩,hbs⟩,hls⟩,hkl⟩:=hc
  have hkl:=mC hkl
  have hlen:=mC hlen
  obtain ⟨l,hl,hk⟩:=aO h
  obtain ⟨hcb,HS⟩:=hS' l hl
  have nod:=fM (s:=s) fuelR args ⟨[],[]⟩ List.nodup_nil List.nodup_nil
  have liv:=eB (s:=s) fuelR args ⟨[],[]⟩ (by simp) (by simp)
  rw [ha] at nod liv
  refine ⟨hcb,_,_,_,hk,Nat.le_add_right _ _,fun n m B L WB WL sit hnb hnl hn0 hB hL hall vs hvl hrd=>?_⟩
  have hnl : s.nl+(t.lists.length - kl.length)≤n+16:=hnl
  have hks : ∀ l∈kl,l∈a.ls:=fun l hl=>by rw [← hkd] at hl;split at hl;exact hl;cases hl
  have hkn : kl.Nodup:=by rw [← hkd];split;exact nod.2.1;exact List.nodup_nil
  have hkk : t.keep=false→kl = []:=fun hf=>by rw [← hkd,hf];rfl
  have hlists : (s.pick a).lists.length=a.ls.length:=oE
  have hnb : s.nb+(t.boxes.length - a.bs.length)≤n+16:=hnb
  have sn1:=sit.nb
  have sn2:=sit.nl
  have lin : ∀ l∈a.ls,l∈ft.rl∨(n≤l∧l<n+16):=fun l hl=>by
    rcases hls l hl with h | ⟨h1,h2⟩
    · exact .inl (oC.1 h)
    · have:=mC h1;exact .inr (by omega)
  have hb : ∀ b∈a.bs,m.s.box b=s.box b:=fun b hb=>sit.ab b (.inl (hB b (oC.1 (hbs b hb))).1)
  have hl' : ∀ l∈a.ls,m.s.list l=s.list l:=fun l hl=>sit.al l ((lin l hl).imp (fun h=>(hL l h).1) id)
  have pf:=yW (a:=a) sit.inv hb hl' nod.1 nod.2.1
  have hboxes : (s.pick a).boxes.length=a.bs.length:=tD
  refine (HS (m.pick a.bs a.ls (s.pick a)) vs pf (by simpa using hvl) (fun i d v hd hv=>?_)).mono ?_
  · rw [List.getElem?_map] at hd
    cases hdi : args[i]? with
    | none=>rw [hdi] at hd;cases hd
    | some d0=>rw [hdi] at hd;cases hd;exact aEF hl' deep (hrd i d0 v hdi hv)
  · rintro e w' ⟨v,rfl,c,hw,cinv,fw,d,s0,a0,hread,hdv,hfull,hub,hul⟩
    rw [hboxes,hlists] at fw
    obtain ⟨hless,lenB,lenL,HB,HO⟩:=Tmpl.read_sound hread hwf
    have lenB : t.boxes.length=a0.bs.length:=lenB.trans tD
    have lenL : t.lists.length=a0.ls.length:=lenL.trans oE
    refine ⟨v,rfl,?_⟩
    generalize hcsB : ((fillB l t.boxes).map fun o=>o.map fun cs=>cs.map (ren (backFb a.bs s.nb) (backFb kl s.nl) deep))=csB
    have hcsBl : csB.length=t.boxes.length:=by rw [← hcsB,List.length_map,aCE]
    have hab : ∀ b∈a.bs,∃ cs,m.s.box b=some cs:=fun b hbm=>by
      rw [hb b hbm]
      exact Option.ne_none_iff_exists'.1 (liv.1 b hbm)
    have hal : ∀ l∈a.ls,∃ o,m.s.list l=some o:=fun l hlm=>by
      rw [hl' l hlm]
      exact Option.ne_none_iff_exists'.1 (liv.2 l hlm)
    have freshB : ∀ x,s.nb≤x→x<s.nb+(t.boxes.length - a.bs.length)→¬ m.ρ.ub x:=fun x h1 h2=>sit.fb x h1 (by omega)
    have freshL : ∀ x,s.nl≤x→x<s.nl+(t.lists.length - kl.length)→¬ m.ρ.ul x:=fun x h1 h2=>sit.fl x h1 (by omega)
    have hout : ∀ b∈a.bs,¬ (s.nb≤b∧b<s.nb+(csB.length - a.bs.length)):=fun b hbm hr=>by
      obtain ⟨cs,hcs⟩:=hab b hbm
      rw [hcsBl] at hr
      exact freshB b hr.1 hr.2 (sit.inv.ub b cs hcs)
    have scrL : ∀ x,look x (scrubKept t.keep kl s.boxes)=(s.box x).map (·.map (scrubKeptD t.keep kl)):=fun x=>by
      unfold scrubKept scrubKeptD
      cases t.keep with
      | true=>exact yU kl x s.boxes
      | false=>
        rw [if_neg (by simp),if_neg (by simp)]
        exact iC _
    have boxL : ∀ x,look x (backB a.bs s.nb csB (scrubKept t.keep kl s.boxes))=match dJ a.bs s.nb (t.boxes.length - a.bs.length) x with | some i=>csB.getD i none | none=>(s.box x).map (·.map (scrubKeptD t.keep kl)):=fun x=>by
      have:=aAy (x:=x) (cs:=csB) (bs:=a.bs) (n:=s.nb) (old:=scrubKept t.keep kl s.boxes) nod.1 (by rw [hcsBl];exact hlen) hout
      rw [hcsBl,scrL] at this
      exact this
    have houtL : ∀ l0∈kl,¬ (s.nl≤l0∧l0<s.nl+((fillO l t.lists).length - kl.length)):=fun l0 hlm hr=>by
      obtain ⟨o,ho⟩:=hal l0 (hks l0 hlm)
      rw [qM] at hr
      exact freshL l0 hr.1 hr.2 (sit.inv.ul l0 o ho)
    have listL : ∀ x,look x (backB kl s.nl (fillO l t.lists) (s.killL a.ls).lists)=match dJ kl s.nl (t.lists.length - kl.length) x with | some i=>(fillO l t.lists).getD i none | none=>(s.killL a.ls).list x:=fun x=>by
      have:=aAy (x:=x) (cs:=fillO l t.lists) (bs:=kl) (n:=s.nl) (old:=(s.killL a.ls).lists) hkn (by rw [qM];exact hkl) houtL
      rw [qM] at this
      exact this
    let S : Sx:={ box:=fun x=>match dJ a.bs s.nb (t.boxes.length - a.bs.length) x with | some i=>csB.getD i none | none=>(m.s.box x).map (·.map (scrubKeptD t.keep kl))
                  list:=fun x=>match dJ kl s.nl (t.lists.length - kl.length) x with | some i=>(fillO l t.lists).getD i none | none=>if x∈a.ls then none else m.s.list x}
    have hbn : ∀ x,(∃ cs,m.s.box x=some cs)→¬ (s.nb≤x∧x<s.nb+(t.boxes.length - a.bs.length)):=fun x ⟨cs,hcs⟩ hr=>freshB x hr.1 hr.2 (sit.inv.ub x cs hcs)
    have cb_fb : ∀ b b',b<t.boxes.length→backFb a.bs s.nb b=some b'→dJ a.bs s.nb (t.boxes.length - a.bs.length) b'=some b∧(m.ρ.ub b'∨(s.nb≤b'∧b'<s.nb+(t.boxes.length - a.bs.length))):=by
      intro b b' hlt hbb
      unfold backFb at hbb
      split at hbb
      · rename_i x hx
        cases hbb
        obtain ⟨cs,hcs⟩:=hab b' (List.mem_of_getElem? hx)
        refine ⟨?_,.inl (sit.inv.ub b' cs hcs)⟩
        unfold dJ
        rw [aHd (n:=0) nod.1 hx,Nat.zero_add]
      · rename_i hx
        cases hbb
        have hge : a.bs.length≤b:=by
          rcases Nat.lt_or_ge b a.bs.length with h | h
          · rw [List.getElem?_eq_getElem h] at hx;cases hx
          · exact h
        have hnot : s.nb+(b - a.bs.length)∉a.bs:=fun hm'=>hbn _ (hab _ hm') ⟨by omega,by omega⟩
        refine ⟨?_,.inr ⟨by omega,by omega⟩⟩
        unfold dJ
        rw [aBM hnot]
        simp only
        rw [if_pos ⟨by omega,by omega⟩]
        congr 1
        omega
    have cl_fl : ∀ b b',b<t.lists.length→backFb kl s.nl b=some b'→dJ kl s.nl (t.lists.length - kl.length) b'=some b∧(m.ρ.ul b'∨(s.nl≤b'∧b'<s.nl+(t.lists.length - kl.length))):=by
      intro b b' hlt hbb
      unfold backFb at hbb
      split at hbb
      · rename_i x hx
        cases hbb
        obtain ⟨o,ho⟩:=hal b' (hks b' (List.mem_of_getElem? hx))
        refine ⟨?_,.inl (sit.inv.ul b' o ho)⟩
        unfold dJ
        rw [aHd (n:=0) hkn hx,Nat.zero_add]
      · rename_i hx
        cases hbb
        have hge : kl.length≤b:=by
          rcases Nat.lt_or_ge b kl.length with h | h
          · rw [List.getElem?_eq_getElem h] at hx;cases hx
          · exact h
        have hnot : s.nl+(b - kl.length)∉kl:=fun hm'=>by
          obtain ⟨o,ho⟩:=hal _ (hks _ hm')
          exact freshL _ (by omega) (by omega) (sit.inv.ul _ o ho)
        refine ⟨?_,.inr ⟨by omega,by omega⟩⟩
        unfold dJ
        rw [aBM hnot]
        simp only
        rw [if_pos ⟨by omega,by omega⟩]
        congr 1
        omega
    have ren_ok : ∀ {d : DV} {v : Value},c.rd d v→(m.back c a.bs kl s.nb (t.boxes.length - a.bs.length) s.nl (t.lists.length - kl.length) S).rd (ren (backFb a.bs s.nb) (backFb kl s.nl) deep d) v:=by
      intro d v hd
      refine cK.renum (fun b b' hu hbb=>?_) (fun l0 l' hu hll=>?_) deep hd
      · obtain ⟨h1,h2⟩:=cb_fb b b' (by rw [lenB];exact hub b hu) hbb
        refine ⟨h2,?_⟩
        show (match dJ a.bs s.nb (t.boxes.length - a.bs.length) b' with | some i=>c.ρ.box i | none=>m.ρ.box b')=_
        rw [h1]
      · have hlt:=hul l0 hu
        rw [← lenL] at hlt
        obtain ⟨hcl,hcu⟩:=cl_fl l0 l' hlt hll
        refine ⟨hcu,fun hv=>⟨?_,?_,?_,?_⟩⟩
        · have hv : (match dJ kl s.nl (t.lists.length - kl.length) l' with | some i=>(fillO l t.lists).getD i none | none=>if l'∈a.ls then none else m.s.list l')≠none:=hv
          rw [hcl] at hv
          obtain ⟨w1,hw1⟩:=Option.ne_none_iff_exists'.1 hv
          have hg:=getD_some hw1
          obtain ⟨ts,hts⟩:=qX l hg
          obtain ⟨x,w2,g1,_⟩:=HO l0 ts hts
          have g1 : (s0.pick a0).list l0=some w2:=by
            have:=kX (n:=0) g1
            rw [Nat.zero_add] at this
            exact this
          rw [← hfull.list l0] at g1
          exact aR.live_of g1
        · show (match dJ kl s.nl (t.lists.length - kl.length) l' with | some i=>c.ρ.hdr i | none=>_)=_
          rw [hcl]
        · show (match dJ kl s.nl (t.lists.length - kl.length) l' with | some i=>c.ρ.ty i | none=>_)=_
          rw [hcl]
        · show (match dJ kl s.nl (t.lists.length - kl.length) l' with | some i=>c.ρ.fp i | none=>_)=_
          rw [hcl]
    have came : rW m c t.keep a.bs a.ls kl s.nb (t.boxes.length - a.bs.length) s.nl (t.lists.length - kl.length) S:={
      kk:=hkk
      kn:=hkn
      ks:=hks
      row:=fun i l0 hi hlv=>by
        have hkt : t.keep=true:=by
          cases hk2 : t.keep with
          | true=>rfl
          | false=>rw [hkk hk2] at hi;simp at hi
        have hkl2 : kl=a.ls:=by rw [← hkd,hkt];rfl
        rw [hkl2] at hi
        obtain ⟨o,ho⟩:=hal l0 (List.mem_of_getElem? hi)
        have hlt : i<a.ls.length:=(List.getElem?_eq_some_iff.1 hi).1
        rw [hkt] at fw
        have hu : (m.pick a.bs a.ls (s.pick a)).ρ.ul i:=⟨hlt,by rw [dD hi];exact sit.inv.ul l0 o ho⟩
        obtain ⟨_,q⟩:=fw.row i (by simpa using hlt) hu
        obtain ⟨_,q1,q2⟩:=q hlv
        rw [q1,q2]
        show m.ρ.hdr (a.ls.getD i 0)=_∧m.ρ.ty (a.ls.getD i 0)=_
        rw [dD hi]
        exact ⟨rfl,rfl⟩
      inv:=sit.inv
      cinv:=cinv
      nb:=nod.1
      ab:=hab
      al:=hal
      size:=fw.size
      os:=fw.os
      tape:=fw.tape
      output:=fw.output
      keep:=fun r hr hn=>fw.keep r hr (fun ho=>hn (xC ho))
      own:=fun r hr=>(fw.own r hr).imp (fun h=>xC h) id
      z:=fun r hr=>(fw.z r hr).imp id (fun h=>h.imp (fun h=>xC h) id)
      zz:=fw.zz
      box:=fun i b hbi=>by
        obtain ⟨cs,hcs⟩:=hab b (List.mem_of_getElem? hbi)
        have:=fw.box i (List.getElem?_eq_some_iff.1 hbi).1 (cs.map (ren (idx · a.bs 0) (idx · a.ls 0) deep)) (by
          show (s.pick a).box i=_
          rw [wX,hbi,Option.bind_some,← hb b (List.mem_of_getElem? hbi),hcs];rfl)
        rw [this.1]
        show m.ρ.box (a.bs.getD i 0)=_
        rw [dD hbi]
      freshB:=freshB
      freshL:=freshL
      sb:=fun x cs hx=>by
        have hx : (match dJ a.bs s.nb (t.boxes.length - a.bs.length) x with | some i=>csB.getD i none | none=>(m.s.box x).map (·.map (scrubKeptD t.keep kl)))=some cs:=hx
        cases hcb : dJ a.bs s.nb (t.boxes.length - a.bs.length) x with
        | none=>
          rw [hcb] at hx
          simp only at hx
          cases hmx : m.s.box x with
          | none=>rw [hmx] at hx;cases hx
          | some cs0=>rw [hmx] at hx;cases hx;exact .inr ⟨rfl,cs0,rfl,rfl⟩
        | some i=>
          rw [hcb] at hx
          have hg:=getD_some hx
          rw [← hcsB,List.getElem?_map] at hg
          cases hfi : (fillB l t.boxes)[i]? with
          | none=>rw [hfi] at hg;cases hg
          | some o=>
            rw [hfi] at hg
            simp only [Option.map_some,Option.some.injEq] at hg
            cases o with
            | none=>cases hg
            | some fs=>
              simp only [Option.map_some,Option.some.injEq] at hg
              obtain ⟨ts,hts⟩:=aAz l hfi
              obtain ⟨g1,x',cs0,g2,g3⟩:=HB i ts hts
              rw [hfi] at g1
              cases g1
              have g2 : (s0.pick a0).box i=some cs0:=by
                have:=aAe (n:=0) g2
                rw [Nat.zero_add] at this
                exact this
              rw [← hfull.box i] at g2
              refine .inl ⟨i,cs0,rfl,g2,by rw [← hg,List.length_map];exact g3.1,fun j d0 d1 v0 h1 h2 h3=>?_⟩
              rw [← hg,List.getElem?_map] at h2
              cases hj : (fillDs l ts)[j]? with
              | none=>rw [hj] at h2;cases h2
              | some d2=>
                rw [hj] at h2
                cases h2
                exact ren_ok (g3.2 j d0 d2 h1 hj c v0 h3)
      sbx:=fun x hx=>by
        show ∃ cs,(match dJ a.bs s.nb (t.boxes.length - a.bs.length) x with | some i=>csB.getD i none | none=>(m.s.box x).map (·.map (scrubKeptD t.keep kl)))=some cs
        rcases dS a.bs s.nb (t.boxes.length - a.bs.length) x with ⟨i,h1,h2⟩ | ⟨i,h1,h2,h3,h4⟩ | ⟨h1,_⟩
        · rw [h1]
          have hlt : i<a.bs.length:=(List.getElem?_eq_some_iff.1 h2).1
          have hti : (t.boxes.take a.bs.length)[i]? = some (t.boxes[i]'(by omega)):=by rw [List.getElem?_take,if_pos hlt,List.getElem?_eq_getElem]
          obtain ⟨ts,hts⟩:=aDs hsome i _ hti
          obtain ⟨g1,_⟩:=HB i ts (by rw [List.getElem?_eq_getElem (by omega),hts])
          refine ⟨(fillDs l ts).map (ren (backFb a.bs s.nb) (backFb kl s.nl) deep),?_⟩
          simp only
          rw [List.getD,← hcsB,List.getElem?_map,g1]
          rfl
        · exact absurd ⟨by omega,by omega⟩ (hbn x hx)
        · rw [h1]
          obtain ⟨cs,hcs⟩:=hx
          exact ⟨_,by simp only [hcs,Option.map_some];rfl⟩
      sl:=fun x o hx=>by
        have hx : (match dJ kl s.nl (t.lists.length - kl.length) x with | some i=>(fillO l t.lists).getD i none | none=>if x∈a.ls then none else m.s.list x)=some o:=hx
        cases hcl : dJ kl s.nl (t.lists.length - kl.length) x with
        | none=>
          rw [hcl] at hx
          simp only at hx
          split at hx
          · cases hx
          · rename_i hn;exact .inr ⟨rfl,hn,hx⟩
        | some i=>
          rw [hcl] at hx
          have hg:=getD_some hx
          obtain ⟨ts,hts⟩:=qX l hg
          obtain ⟨x',w2,g1,g2,_⟩:=HO i ts hts
          rw [hg] at g2
          cases g2
          have g1 : (s0.pick a0).list i=some o:=by
            have:=kX (n:=0) g1
            rw [Nat.zero_add] at this
            exact this
          rw [← hfull.list i] at g1
          exact .inl ⟨i,rfl,g1⟩}
    have wbs : ∀ b∈a.bs,B b∧WB b:=fun b hbm=>hB b (oC.1 (hbs b hbm))
    refine ⟨m.back c a.bs kl s.nb (t.boxes.length - a.bs.length) s.nl (t.lists.length - kl.length) S,hw,?_,ren_ok (hless c v hdv)⟩
    refine {
      step:=came.step sn1 hnb sn2 hnl
      after:=⟨fun x hx=>?_,fun x hx=>?_,fun x h1 h2=>?_,fun x h1 h2=>?_,fun x h1 h2=>?_,fun x h1 h2=>?_⟩
      nb:=Nat.le_add_right _ _
      nl:=Nat.le_add_right _ _
      ub:=fun x hx hu=>hu.elim id (fun h=>by have hx : s.nb+(t.boxes.length - a.bs.length)≤x:=hx;omega)
      ul:=fun x hx hu=>hu.elim id (fun h=>by have hx : s.nl+(t.lists.length - kl.length)≤x:=hx;omega)}
    · show (match dJ a.bs s.nb (t.boxes.length - a.bs.length) x with | some i=>csB.getD i none | none=>(m.s.box x).map (·.map (scrubKeptD t.keep kl)))=look x (backB a.bs s.nb _ (scrubKept t.keep kl s.boxes))
      rw [boxL x]
      cases dJ a.bs s.nb (t.boxes.length - a.bs.length) x with
      | some i=>rfl
      | none=>simp only;rw [sit.ab x hx]
    · show (match dJ kl s.nl (t.lists.length - kl.length) x with | some i=>(fillO l t.lists).getD i none | none=>if x∈a.ls then none else m.s.list x)=look x (backB kl s.nl (fillO l t.lists) (s.killL a.ls).lists)
      rw [listL x]
      cases dJ kl s.nl (t.lists.length - kl.length) x with
      | some i=>rfl
      | none=>
        simp only
        rw [eM,sit.al x hx]
    · by_cases hkt : t.keep=true
      · exact absurd ((hall hkt x).1.1) h1
      · have hkt : t.keep=false:=by simpa using hkt
        show (match dJ a.bs s.nb (t.boxes.length - a.bs.length) x with | some i=>csB.getD i none | none=>(m.s.box x).map (fun cs : List DV=>cs.map (scrubKeptD t.keep kl)))=_
        rcases dS a.bs s.nb (t.boxes.length - a.bs.length) x with ⟨i,g1,g2⟩ | ⟨i,g1,g2,g3,g4⟩ | ⟨g1,_⟩
        · exact absurd (wbs x (List.mem_of_getElem? g2)).1 h1
        · exact absurd ⟨by omega,by omega⟩ h2
        · rw [g1,hkt]
          exact (iC _).symm
    · by_cases hkt : t.keep=true
      · exact absurd ((hall hkt x).2.1) h1
      · have hkt : t.keep=false:=by simpa using hkt
        show (match dJ kl s.nl (t.lists.length - kl.length) x with | some i=>(fillO l t.lists).getD i none | none=>if x∈a.ls then none else m.s.list x)=_
        rw [hkk hkt]
        rcases dS [] s.nl (t.lists.length - ([] : List Nat).length) x with ⟨i,g1,g2⟩ | ⟨i,g1,g2,g3,_⟩ | ⟨g1,_⟩
        · simp at g2
        · exact absurd ⟨by omega,by rw [hkk hkt] at hnl;omega⟩ h2
        · rw [g1]
          simp only
          rw [if_neg]
          intro hxm
          rcases lin x hxm with h | h
          · exact h1 (hL x h).1
          · exact h2 h
    · by_cases hkt : t.keep=true
      · exact absurd ((hall hkt x).1.2) h1
      · have hkt : t.keep=false:=by simpa using hkt
        show look x (backB a.bs s.nb _ (scrubKept t.keep kl s.boxes))=_
        rw [boxL x]
        rcases dS a.bs s.nb (t.boxes.length - a.bs.length) x with ⟨i,g1,g2⟩ | ⟨i,g1,g2,g3,g4⟩ | ⟨g1,_⟩
        · exact absurd (wbs x (List.mem_of_getElem? g2)).2 h1
        · exact absurd ⟨by omega,by omega⟩ h2
        · rw [g1,hkt]
          exact (iC _).symm
    · by_cases hkt : t.keep=true
      · exact absurd ((hall hkt x).2.2) h1
      · have hkt : t.keep=false:=by simpa using hkt
        show look x (backB kl s.nl (fillO l t.lists) (s.killL a.ls).lists)=_
        rw [listL x,hkk hkt]
        rcases dS [] s.nl (t.lists.length - ([] : List Nat).length) x with ⟨i,g1,g2⟩ | ⟨i,g1,g2,g3,_⟩ | ⟨g1,_⟩
        · simp at g2
        · exact absurd ⟨by omega,by rw [hkk hkt] at hnl;omega⟩ h2
        · rw [g1]
          simp only
          rw [eM,if_neg]
          intro hxm
          rcases lin x hxm with h | h
          · exact h1 (hL x h).2
          · exact h2 h
end
end Go.Proofs.YthkofpnllaapeaaGreatDoor
namespace Go.Proofs.YthkofpnllaapeaaGreatDoor
open Go
theorem aEN : ∀ {cs : List PV} {cts : List OTy},PV.flatCs cts cs=true→∀ (j : Nat) c,cs[j]? = some c→PV.flatO (cts.getD j .leaf) c=true∨c.flat=true
  | [],_,_,j,c,h=>by simp at h
  | x::r,cts,h,j,c,hj=>by
    have tail : ∀ {b : Bool},(b&&PV.flatCs cts.tail r)=true→j≠0→PV.flatO (cts.getD j .leaf) c=true∨c.flat=true:=by
      intro b hb hj0
      simp only [Bool.and_eq_true] at hb
      obtain ⟨q,rfl⟩ : ∃ q,j=q+1:=⟨j - 1,by omega⟩
      have:=aEN hb.2 q c (by simpa using hj)
      cases cts with
      | nil=>simpa [List.getD] using this
      | cons o os=>simpa [List.getD] using this
    by_cases hj0 : j=0
    · subst hj0
      simp at hj
      subst hj
      cases x with
      | lst xs=>
        unfold PV.flatCs at h
        simp only [Bool.and_eq_true] at h
        cases cts with
        | nil=>simp at h
        | cons o os=>
          cases o with
          | leaf=>simp at h
          | own s e g cts'=>exact .inl (by simpa [List.getD,PV.flatO] using h.1)
      | _=>unfold PV.flatCs at h;simp only [Bool.and_eq_true] at h;exact .inr h.1
    · cases x<;>(unfold PV.flatCs at h;exact tail h hj0)
theorem aEO : ∀ {xs : List PV} {g : Bool} {cts : List OTy},PV.flatEs g cts xs=true→∀ (i : Nat) x,xs[i]? = some x→PV.flatE g cts x=true
  | [],_,_,_,i,x,h=>by simp at h
  | y::r,g,cts,h,i,x,hi=>by
    unfold PV.flatEs at h
    simp only [Bool.and_eq_true] at h
    cases i with
    | zero=>simp at hi;subst hi;exact h.1
    | succ i=>exact aEO h.2 i x (by simpa using hi)
theorem bY.flat {w : World} {Z Z' : Nat→Prop} {o : OTy} {x : PV} {v : Value} {F : Nat→Prop} (h : bY w Z o x v F) (hf : PV.flatO o x=true∨x.flat=true) (hn : ∀ r,F r→¬ Z' r) : bY w Z' o x v F:=by
  induction h with
  | leaf x v F h hF=>
    rcases hf with hf | hf
    · simp [PV.flatO] at hf
    · exact .leaf x v F (h.flat hf) hF
  | hole s e g cts v F h hF=>exact .hole s e g cts v F h hF
  | nil s e g cts F a hF=>exact .nil s e g cts F a hF
  | own s e g cts xs b o cap cells ety cv fp F hh hs ho hl hz he hc hv hr hF hb hd ih=>
    have hf : PV.flatEs g cts xs=true:=by
      rcases hf with hf | hf
      · simpa [PV.flatO] using hf
      · simp [PV.flat] at hf
    refine .own s e g cts xs b o cap cells ety cv fp F hh hs ho hl (hn b ((hF b).2 (.inl rfl))) he hc hv (fun i j x hx hj=>?_) hF hb hd
    have hi : i<xs.length:=(List.getElem?_eq_some_iff.1 hx).1
    refine ih i j x hx hj ?_ (fun r hr=>hn r ((hF r).2 (.inr ⟨i,j,hi,hj,hr⟩)))
    have hfe:=aEO hf i x hx
    have hel:=he i x hx
    cases g with
    | true=>
      obtain ⟨cs,rfl,hlen⟩:=wN hel
      rw [eK]
      unfold PV.flatE at hfe
      simp only [Bool.true_and] at hfe
      have hj' : cs[j]? = some (cs[j]'(by omega)):=List.getElem?_eq_getElem (by omega)
      have hg : cs.getD j .hole=cs[j]'(by omega):=by rw [List.getD,hj'];rfl
      rw [hg]
      exact aEN hfe j _ hj'
    | false=>
      have hs1:=aBt hel
      have hj0 : j=0:=by omega
      subst hj0
      show PV.flatO (cts.getD 0 .leaf) x=true∨x.flat=true
      cases x with
      | lst ys=>
        unfold PV.flatE at hfe
        cases cts with
        | nil=>simp at hfe
        | cons o os=>
          cases o with
          | leaf=>simp at hfe
          | own s' e' g' cts'=>exact .inl (by simpa [List.getD,PV.flatO] using hfe)
      | agg cs=>unfold PV.flatE at hfe;simp at hfe
      | _=>unfold PV.flatE at hfe;simp only [Bool.not_false,Bool.true_and] at hfe;exact .inr hfe
inductive vT (l : R) : DV→Prop
  | p (k : IntKind) (i : Int) : (gd l i.toNat).flat=true→vT l (.p (.int k i))
  | ref (n : Nat) (path : dR) : vT l (.ref n path)
  | agg (cs : List DV) : (∀ c∈cs,vT l c)→vT l (.agg cs)
  | tup (cs : List DV) : (∀ c∈cs,vT l c)→vT l (.tup cs)
theorem mE {l : R} : ∀ {cs : List DV} {k : Option R} {r : R},guardCells l cs k=some r→(∀ c∈cs,vT l c)∧k=some r
  | [],k,r,h=>⟨by simp,h⟩
  | .p (.int kk i)::cs,k,r,h=>by
    unfold guardCells at h
    obtain ⟨hf,h'⟩:=xB h
    obtain ⟨h1,h2⟩:=mE h'
    refine ⟨fun c hc=>?_,h2⟩
    rcases List.mem_cons.1 hc with rfl | hc
    · exact .p _ _ hf
    · exact h1 c hc
  | .ref n path::cs,k,r,h=>by
    unfold guardCells at h
    obtain ⟨h1,h2⟩:=mE h
    refine ⟨fun c hc=>?_,h2⟩
    rcases List.mem_cons.1 hc with rfl | hc
    · exact .ref _ _
    · exact h1 c hc
  | .p (.bool _)::_,_,_,h=>by simp [guardCells] at h
  | .p (.str _)::_,_,_,h=>by simp [guardCells] at h
  | .p .nil::_,_,_,h=>by simp [guardCells] at h
  | .p .nilf::_,_,_,h=>by simp [guardCells] at h
  | .p (.agg _)::_,_,_,h=>by simp [guardCells] at h
  | .p (.lst _)::_,_,_,h=>by simp [guardCells] at h
  | .p (.bx _)::_,_,_,h=>by simp [guardCells] at h
  | .p (.fn _ _)::_,_,_,h=>by simp [guardCells] at h
  | .p (.tup _)::_,_,_,h=>by simp [guardCells] at h
  | .p .hole::_,_,_,h=>by simp [guardCells] at h
  | .nils::_,_,_,h=>by simp [guardCells] at h
  | .agg _::_,_,_,h=>by simp [guardCells] at h
  | .tup _::_,_,_,h=>by simp [guardCells] at h
  | .fn _ _::_,_,_,h=>by simp [guardCells] at h
  | .ptr _ _::_,_,_,h=>by simp [guardCells] at h
  | .sref _ _ _ _::_,_,_,h=>by simp [guardCells] at h
  | .eptr _ _ _ _::_,_,_,h=>by simp [guardCells] at h
  | .fptr _ _ _ _::_,_,_,h=>by simp [guardCells] at h
  | .bptr _ _::_,_,_,h=>by simp [guardCells] at h
  | .gptr _ _ _ _::_,_,_,h=>by simp [guardCells] at h
  | .nilq _ _::_,_,_,h=>by simp [guardCells] at h
  | .bsl _ _::_,_,_,h=>by simp [guardCells] at h
  | .dead::_,_,_,h=>by simp [guardCells] at h
theorem oF {l : R} : ∀ {cs : List DV} {k : Option R} {r : R},guardAggs l cs k=some r→(∀ c∈cs,vT l c)∧k=some r
  | [],k,r,h=>⟨by simp,h⟩
  | d::cs,k,r,h=>by
    have one : ∀ {d : DV},guardCells l [d] (guardAggs l cs k)=some r→(∀ c∈d::cs,vT l c)∧k=some r:=by
      intro d h
      obtain ⟨h1,h2⟩:=mE h
      obtain ⟨h3,h4⟩:=oF h2
      refine ⟨fun c hc=>?_,h4⟩
      rcases List.mem_cons.1 hc with rfl | hc
      · exact h1 _ List.mem_cons_self
      · exact h3 c hc
    cases d with
    | agg ds=>
      unfold guardAggs at h
      obtain ⟨h1,h2⟩:=mE h
      obtain ⟨h3,h4⟩:=oF h2
      refine ⟨fun c hc=>?_,h4⟩
      rcases List.mem_cons.1 hc with rfl | hc
      · exact .agg _ h1
      · exact h3 c hc
    | _=>exact one (by simpa only [guardAggs] using h)
theorem aHe {l : R} {d : DV} {k : Option R} {r : R} (h : guardRes l d k=some r) : vT l d∧k=some r:=by
  unfold guardRes at h
  split at h
  · obtain ⟨h1,h2⟩:=oF h
    exact ⟨.tup _ h1,h2⟩
  · obtain ⟨h1,h2⟩:=oF h
    exact ⟨h1 _ List.mem_cons_self,h2⟩
theorem aAf {l : R} : ∀ {cs : List (Option Own)} {k : Option R} {r : R},guardRows l cs k=some r→(∀ (i : Nat) w kk j,cs[i]? = some (some w)→w.c = .int kk j→PV.flatO w.o (gd l j.toNat)=true)∧k=some r
  | [],k,r,h=>⟨fun i w kk j hi=>by simp at hi,h⟩
  | none::_,_,_,h=>by simp [guardRows] at h
  | some w::cs,k,r,h=>by
    unfold guardRows at h
    split at h
    · rename_i kk j hc
      unfold PV.guardOwn at h
      split at h
      · rename_i hf
        obtain ⟨h1,h2⟩:=aAf h
        refine ⟨fun i w' kk' j' hi hc'=>?_,h2⟩
        cases i with
        | zero=>
          simp at hi
          subst hi
          rw [hc] at hc'
          cases hc'
          exact hf
        | succ i=>exact h1 i w' kk' j' (by simpa using hi) hc'
      · cases h
    · cases h
mutual
theorem aAA (l : R) : ∀ (ds : List DV),fillDs l ds=ds.map (fillD l)
  | []=>rfl
  | d::r=>by simp only [fillDs,List.map_cons,aAA l r]
end
theorem vT.rd {l : R} {w : World} {Z Z' : Nat→Prop} {ρ : Loc} {live live' : Nat→Prop} (hl : ∀ x,live' x→live x) {d : DV} (hf : vT l d) : ∀ {v : Value},cK w Z ρ live (fillD l d) v→cK w Z' ρ live' (fillD l d) v:=by
  induction hf with
  | p k i hfl=>
    intro v h
    simp only [fillD] at h ⊢
    cases h with
    | p _ _ h=>exact .p _ _ (h.flat hfl)
  | ref n path=>
    intro v h
    simp only [fillD] at h ⊢
    cases h with
    | ref _ _ _ h1 h2 h3=>exact .ref _ _ _ h1 h2 (fun hv=>h3 (hl _ hv))
  | agg cs _ ih=>
    intro v h
    simp only [fillD,aAA] at h ⊢
    cases h with
    | agg _ vs h1 h2 h3=>
      refine .agg _ vs h1 h2 (fun i d v hd hv=>?_)
      rw [List.getElem?_map] at hd
      cases hc : cs[i]? with
      | none=>rw [hc] at hd;cases hd
      | some c=>
        rw [hc] at hd
        cases hd
        exact ih c (List.mem_of_getElem? hc) (h3 i _ v (by rw [List.getElem?_map,hc];rfl) hv)
  | tup cs _ ih=>
    intro v h
    simp only [fillD,aAA] at h ⊢
    cases h with
    | tup _ vs h1 h3=>
      refine .tup _ vs h1 (fun i d v hd hv=>?_)
      rw [List.getElem?_map] at hd
      cases hc : cs[i]? with
      | none=>rw [hc] at hd;cases hd
      | some c=>
        rw [hc] at hd
        cases hd
        exact ih c (List.mem_of_getElem? hc) (h3 i _ v (by rw [List.getElem?_map,hc];rfl) hv)
section
variable {P : Program} {X : Cx} {O : Orc}
theorem lentK_sound (hS : aEM P X.mode O.S) {t : Tmpl} {f : Nat} (hm : X.mode f=some t) (hwf : t.wf=true) {args : List DV} {s : St} {k : DV→St→Option R} {r : R} (h : lentK O t f args s k=some r) :
    iL P f∧∃ d' s',k d' s'=some r∧∀ (n : Nat) (m : aR) (B L WB WL : Nat→Prop),mB m s B L n→s'.nb≤n+16→s'.nl≤n+16→aD8 m s args→
      ∀ vs : Array Value,args.length=vs.size→(∀ (i : Nat) d v,args[i]? = some d→vs[i]? = some v→m.rd d v)→
        Calls P f vs m.w (fun e w'=>∃ v,e = .returned v∧∃ m',m'.w=w'∧bK m m' s s' B L WB WL n id∧m'.rd d' v):=by
  unfold lentK at h
  obtain ⟨ps,h1,hpl,H⟩:=sE h
  obtain ⟨l,hl,h2⟩:=aO h1
  obtain ⟨hflat,h3⟩:=aHe h2
  obtain ⟨hrows,hk⟩:=aAf h3
  obtain ⟨hcb,HS⟩:=hS f t _ _ l hm hl
  rw [Tmpl.fit_nil rfl] at HS
  refine ⟨hcb,_,_,hk,fun n m B L WB WL sit hnb hnl hM vs hvl hrd=>?_⟩
  have hnl : s.nl+t.lists.length≤n+16:=hnl
  have sn1:=sit.nb
  have sn2:=sit.nl
  let m0 : aR:={ w:=m.w,Z:=fun x=>m.Z x∨m.owned x,s:={ box:=fun _=>none,list:=fun _=>none},L:=fun _=>False,
                 ρ:={ box:=fun _=>0,hdr:=fun _=>.nilFunc,fp:=fun _ _=>False,ty:=fun _=>.leaf,ub:=fun _=>False,ul:=fun _=>False}}
  have full0 : eW m0 ⟨[],[],0,0,0⟩ 0:={
    inv:={
      ub:=fun _ _ h=>by cases h
      ul:=fun _ _ h=>by cases h
      zlt:=sit.inv.zlt.next (fun _ h=>.inl h) (fun _ _=>rfl) fun r hr=>hr.elim (sit.inv.zlt r) (fun h=>sit.inv.owned_lt h)
      box:=fun _ _ h=>by cases h
      row:=fun _ _ h=>by cases h
      bz:=fun _ _ h=>by cases h
      bb:=fun _ _ _ _ h=>by cases h
      bl:=fun _ _ _ _ h=>by cases h
      ll:=fun _ _ _ _ _ h=>by cases h
      Lz:=fun _ h=>h.elim
      Lb:=fun _ _ _ h=>h
      Ll:=fun _ _ _ _ _ h=>h}
    box:=fun _=>rfl
    list:=fun _=>rfl
    ub:=fun _ h=>h.elim
    ul:=fun _ h=>h.elim}
  have own0 : ∀ r,¬ m0.owned r:=by
    rintro r (⟨_,_,h,_⟩ | ⟨_,_,h,_⟩ | h)
    · cases h
    · cases h
    · exact h
  have hreps:=H m (fun x=>m.Z x∨m.owned x) sit.inv hM (.inl fun r hr=>.inr hr) (fun r hr=>.inl hr) vs hvl hrd
  refine (HS m0 vs full0 (by rw [List.length_map];omega) (fun i d v hd hv=>?_)).mono ?_
  · rw [List.getElem?_map] at hd
    cases hp : ps[i]? with
    | none=>rw [hp] at hd;cases hd
    | some p=>rw [hp] at hd;cases hd;exact .p _ _ (hreps i p v hp hv)
  · rintro e w' ⟨v,rfl,c,hw,cinv,fw,d,s0,a0,hread,hdv,hfull,hub,hul⟩
    obtain ⟨hless,lenB,lenL,HB,HO⟩:=Tmpl.read_sound hread hwf
    have lenL : t.lists.length=a0.ls.length:=lenL.trans oE
    refine ⟨v,rfl,?_⟩
    have rowC : ∀ i w,c.s.list i=some w→∃ w0,t.lists[i]? = some (some w0)∧(fillO l t.lists)[i]? = some (some w)∧PV.flatO w.o w.c=true:=by
      intro i w hi
      have hlt : i<t.lists.length:=by rw [lenL];exact hul i (cinv.ul i w hi)
      have hi':=hi
      rw [hfull.list i] at hi'
      cases hti : t.lists[i]'hlt with
      | none=>
        exfalso
        have : ∀ {cs : List (Option Own)} {k : Option R} {r : R},guardRows l cs k=some r→∀ (j : Nat),cs[j]?≠some none:=by
          intro cs
          induction cs with
          | nil=>intro k r _ j;simp
          | cons x xs ih=>
            intro k r h j
            cases x with
            | none=>simp [guardRows] at h
            | some w=>
              unfold guardRows at h
              split at h
              · unfold PV.guardOwn at h
                split at h
                · cases j with
                  | zero=>simp
                  | succ j=>simpa using ih h j
                · cases h
              · cases h
        exact this h3 i (by rw [List.getElem?_eq_getElem hlt,hti])
      | some w0=>
        have ht : t.lists[i]? = some (some w0):=by rw [List.getElem?_eq_getElem hlt,hti]
        obtain ⟨x,w1,g1,g2,⟨kk,j,g3,g4⟩,g5⟩:=HO i w0 ht
        have g1 : (s0.pick a0).list i=some w1:=by
          have:=kX (n:=0) g1
          rw [Nat.zero_add] at this
          exact this
        rw [g1] at hi'
        cases hi'
        refine ⟨w0,ht,g2,?_⟩
        have:=hrows i w0 kk j ht g3
        rw [g4,g5] at this
        exact this
    let c1 : aR:={ w:=c.w,Z:=fun x=>c.Z x∧(m.Z x∨m.w.heap.size≤x),s:={ box:=fun _=>none,list:=c.s.list},L:=fun _=>False,ρ:=c.ρ}
    have c1inv : kT c1:={
      ub:=fun _ _ h=>by cases h
      ul:=fun l o h=>cinv.ul l o h
      zlt:=⟨fun r hr=>cinv.zlt r hr.1,sit.inv.zlt.glob.mono (fun r h=>⟨fw.zz r (.inl h),.inl h⟩) (fun r h=>fw.keep r (Nat.lt_of_lt_of_le (sit.inv.zlt r h) (Nat.le_refl _)) (own0 r))⟩
      box:=fun _ _ h=>by cases h
      row:=fun i o hi=>by
        have hi : c.s.list i=some o:=hi
        obtain ⟨g1,g2,g3⟩:=cinv.row i o hi
        obtain ⟨w0,_,_,hf⟩:=rowC i o hi
        exact ⟨g1,g2,g3.flat (.inl hf) (fun r hr hz=>g3.notZ r hr hz.1)⟩
      bz:=fun _ _ h=>by cases h
      bb:=fun _ _ _ _ h=>by cases h
      bl:=fun _ _ _ _ h=>by cases h
      ll:=fun l o l' o' r h h'=>cinv.ll l o l' o' r h h'
      Lz:=fun _ h=>h.elim
      Lb:=fun _ _ _ h=>h
      Ll:=fun _ _ _ _ _ h=>h}
    have c1own : ∀ r,c1.owned r→c.owned r:=by
      rintro r (⟨_,_,h,_⟩ | ⟨l,o,h,hr⟩ | h)
      · cases h
      · exact .inr (.inl ⟨l,o,h,hr⟩)
      · exact h.elim
    let S : Sx:={ box:=m.s.box
                  list:=fun x=>match uO s.nl t.lists.length x with | some i=>(fillO l t.lists).getD i none | none=>m.s.list x}
    have freshL : ∀ x,s.nl≤x→x<s.nl+t.lists.length→¬ m.ρ.ul x:=fun x h1 h2=>sit.fl x h1 (by omega)
    have cb0 : ∀ x,dJ [] s.nb 0 x=none:=fun x=>by
      unfold dJ
      simp only [idx]
      rw [if_neg (by omega)]
    have listC : ∀ i w,(fillO l t.lists)[i]? = some (some w)→c.s.list i=some w:=by
      intro i w hi
      obtain ⟨ts,hts⟩:=qX l hi
      obtain ⟨x',w2,g1,g2,_⟩:=HO i ts hts
      rw [hi] at g2
      cases g2
      have g1 : (s0.pick a0).list i=some w:=by
        have:=kX (n:=0) g1
        rw [Nat.zero_add] at this
        exact this
      rw [← hfull.list i] at g1
      exact g1
    have came : rW m c1 false [] [] [] s.nb 0 s.nl t.lists.length S:={
      kk:=fun _=>rfl
      kn:=List.nodup_nil
      ks:=by simp
      row:=fun i l0 h=>by simp at h
      inv:=sit.inv
      cinv:=c1inv
      nb:=List.nodup_nil
      ab:=by simp
      al:=by simp
      size:=fw.size
      os:=fw.os
      tape:=fw.tape
      output:=fw.output
      keep:=fun r hr _=>fw.keep r hr (own0 r)
      own:=fun r hr=>.inr ((fw.own r (c1own r hr)).resolve_left (own0 r))
      z:=fun r hr=>hr.2.imp id (fun h=>.inr h)
      zz:=fun r hr=>⟨fw.zz r (.inl hr),.inl hr⟩
      box:=fun i b h=>by simp at h
      freshB:=fun x h1 h2=>by omega
      freshL:=freshL
      sb:=fun x cs hx=>.inr ⟨cb0 x,cs,hx,(List.map_id _).symm⟩
      sbx:=fun x hx=>hx
      sl:=fun x o hx=>by
        have hx : (match uO s.nl t.lists.length x with | some i=>(fillO l t.lists).getD i none | none=>m.s.list x)=some o:=hx
        rw [aBN]
        cases hcl : uO s.nl t.lists.length x with
        | none=>rw [hcl] at hx;exact .inr ⟨rfl,by simp,hx⟩
        | some i=>
          rw [hcl] at hx
          exact .inl ⟨i,rfl,listC i o (getD_some hx)⟩}
    have listL : ∀ x,look x (backO s.nl (fillO l t.lists) s.lists)=match uO s.nl t.lists.length x with | some i=>(fillO l t.lists).getD i none | none=>s.list x:=fun x=>by
      have:=aEJ (x:=x) (cs:=fillO l t.lists) (n:=s.nl) (old:=s.lists)
      rw [qM] at this
      exact this
    have hres : c1.rd (fillD l t.res) v:=hflat.rd (fun _ h=>h) (hless c v hdv)
    refine ⟨m.back c1 [] [] s.nb 0 s.nl t.lists.length S,hw,?_,?_⟩
    · refine {
        step:=by have:=came.step sn1 (by omega) sn2 hnl;exact this
        after:=⟨fun x hx=>sit.ab x hx,fun x hx=>?_,fun _ _ _=>rfl,fun x h1 h2=>?_,fun _ _ _=>rfl,fun x h1 h2=>?_⟩
        nb:=Nat.le_refl _
        nl:=Nat.le_add_right _ _
        ub:=fun x hx hu=>hu.elim id (fun h=>by omega)
        ul:=fun x hx hu=>hu.elim id (fun h=>by have hx : s.nl+t.lists.length≤x:=hx;omega)}
      · show (match uO s.nl t.lists.length x with | some i=>(fillO l t.lists).getD i none | none=>m.s.list x)=look x (backO s.nl (fillO l t.lists) s.lists)
        rw [listL x]
        cases uO s.nl t.lists.length x with
        | some i=>rfl
        | none=>exact sit.al x hx
      · show (match uO s.nl t.lists.length x with | some i=>(fillO l t.lists).getD i none | none=>m.s.list x)=_
        rcases aEK s.nl t.lists.length x with ⟨i,g1,g2,g3⟩ | ⟨g1,_⟩
        · exact absurd ⟨by omega,by omega⟩ h2
        · rw [g1]
      · show look x (backO s.nl (fillO l t.lists) s.lists)=_
        rw [listL x]
        rcases aEK s.nl t.lists.length x with ⟨i,g1,g2,g3⟩ | ⟨g1,_⟩
        · exact absurd ⟨by omega,by omega⟩ h2
        · rw [g1]
    · refine cK.renum (ρ:=c1.ρ) (live:=c1.s.live) (fun b b' hu hbb=>by cases hbb) (fun l0 l' hu hll=>?_) deep hres
      unfold backFl at hll
      cases hll
      have hlt:=hul l0 hu
      rw [← lenL] at hlt
      have hcl : uO s.nl t.lists.length (s.nl+l0)=some l0:=by
        unfold uO
        rw [if_pos ⟨by omega,by omega⟩]
        congr 1
        omega
      refine ⟨.inr ⟨by omega,by omega⟩,fun hv=>⟨?_,?_,?_,?_⟩⟩
      · have hv : (match uO s.nl t.lists.length (s.nl+l0) with | some i=>(fillO l t.lists).getD i none | none=>m.s.list (s.nl+l0))≠none:=hv
        rw [hcl] at hv
        obtain ⟨w1,hw1⟩:=Option.ne_none_iff_exists'.1 hv
        have:=listC l0 w1 (getD_some hw1)
        show c.s.list l0≠none
        rw [this];simp
      · show (match dJ [] s.nl t.lists.length (s.nl+l0) with | some i=>c.ρ.hdr i | none=>_)=_
        rw [aBN,hcl]
      · show (match dJ [] s.nl t.lists.length (s.nl+l0) with | some i=>c.ρ.ty i | none=>_)=_
        rw [aBN,hcl]
      · show (match dJ [] s.nl t.lists.length (s.nl+l0) with | some i=>c.ρ.fp i | none=>_)=_
        rw [aBN,hcl]
end
end Go.Proofs.YthkofpnllaapeaaGreatDoor
namespace Go.Proofs.YthkofpnllaapeaaGreatDoor
open Go
section
variable {P : Program} {X : Cx} {O : Orc}
theorem aAB : ∀ (ds : List DV) (ts : List Nat) (s : St) (k : List DV→St→Option R),ownArgs X ds ts s k=ownCells X ds (ts.map (elemOf X)) s k
  | [],ts,s,k=>by cases ts<;>rfl
  | d::ds,[],s,k=>rfl
  | d::ds,t::ts,s,k=>by
    unfold ownArgs ownCells
    simp only [List.map_cons]
    cases d<;>cases elemOf X t<;>simp only [aAB ds ts]
theorem aFR {f : Nat} (hP : aCD P O.C) : ∀ ps r,O.C f ps=some r→iL P f∧∀ (w : World) (Z : Nat→Prop) (aP us : Array Value),ZOk w Z→ps.length=aP.size→
      (∀ (i : Nat) x v,ps[i]? = some x→aP[i]? = some v→eN w Z x v)→([] : List PV).length=us.size→(∀ (i : Nat) x v,([] : List PV)[i]? = some x→us[i]? = some v→eN w Z x v)→
      Calls P f (aP++us) w (fun e w'=>∃ v,e = .returned v∧∃ Z',aBL w w' Z Z'∧eN w' Z' (hd r) v):=by
  intro ps r h
  obtain ⟨h1,h2⟩:=hP f ps r h
  refine ⟨h1,fun w Z aP us hz hl hr hu _=>?_⟩
  have : us = #[]:=Array.eq_empty_of_size_eq_zero hu.symm
  subst this
  rw [Array.append_empty]
  exact h2 w Z aP hz hl hr
theorem aEP (kp : Bool) (kl : List Nat) (t : Nat) (e : Env) : (scrubKeptE kp kl e).get t=scrubKeptD kp kl (e.get t):=by
  unfold scrubKeptE scrubKeptD
  cases kp with
  | true=>exact uI kl t e
  | false=>rfl
theorem aIg (hP : aCD P O.C) (hS : aEM P X.mode O.S) (hwf : ∀ g t,X.mode g=some t→t.wf=true) {f : Nat} {args : List DV} {ts : List Nat} {e : Env} {s : St} {k : DV→Env→St→Option R} {r : R} (h : callK X O f args ts e s k=some r) :
    iL P f∧∃ d' e' s' scr,k d' e' s'=some r∧(∀ t,e'.get t=scr (e.get t))∧((match X.mode f with | some t=>{ deepFoot s args (!t.lent) with last:=!t.lent&&t.keep} | none=>deepFoot s args false).last=false→scr=_root_.id)∧∀ (n : Nat) (m : aR) (B L WB WL : Nat→Prop),mB m s B L n→s'.nb≤n+16→s'.nl≤n+16→
      (∀ ft,ft=(match X.mode f with | some t=>{ deepFoot s args (!t.lent) with last:=!t.lent&&t.keep} | none=>deepFoot s args false)→ft.Cov B L WB WL∧(ft.ok=true∨∀ x,B x∧L x))→
      ∀ vs : Array Value,args.length=vs.size→(∀ (i : Nat) d v,args[i]? = some d→vs[i]? = some v→m.rd d v)→
        Calls P f vs m.w (fun e w'=>∃ v,e = .returned v∧∃ m',m'.w=w'∧bK m m' s s' B L WB WL n scr∧m'.rd d' v):=by
  unfold callK at h
  split at h
  · rename_i hmode
    unfold pureK at h
    obtain ⟨hcb,d',hk,H⟩:=aIc (caps:=[]) (k:=fun d s=>k d e s) (aFR hP) h
    refine ⟨hcb,d',e,s,_root_.id,hk,fun _=>rfl,fun _=>rfl,fun n m B L WB WL sit _ _ hft vs hl hr=>?_⟩
    obtain ⟨C,hok⟩:=hft _ rfl
    rw [hmode] at C hok
    have:=H n m B L WB WL sit (aHc sit C hok) vs #[] hl hr rfl (fun i x v h=>by simp at h)
    rwa [Array.append_empty] at this
  · rename_i t hmode
    split at h
    · rename_i hlent
      obtain ⟨hcb,d',s',hk,H⟩:=lentK_sound hS hmode (hwf f t hmode) h
      refine ⟨hcb,d',e,s',_root_.id,hk,fun _=>rfl,fun _=>rfl,fun n m B L WB WL sit hnb hnl hft vs hl hr=>?_⟩
      obtain ⟨C,hok⟩:=hft _ rfl
      rw [hmode] at C hok
      simp only [hlent,Bool.not_true,Bool.false_and] at C hok
      exact H n m B L WB WL sit hnb hnl (aHc sit C hok) vs hl hr
    · rename_i hlent
      have hlent : t.lent=false:=by simpa using hlent
      rw [aAB] at h
      obtain ⟨ds',s1,h1,hlen,hms,HM⟩:=jH h
      obtain ⟨hcb,d',s',kl,hk,hs1,H⟩:=aIf hS hmode (hwf f t hmode) h1
      refine ⟨hcb,d',scrubKeptE t.keep kl e,s',scrubKeptD t.keep kl,hk,fun t'=>aEP t.keep kl t' e,fun hla=>?_,fun n m B L WB WL sit hnb hnl hft vs hl hr=>?_⟩
      · rw [hmode] at hla
        simp only [hlent,Bool.not_false,Bool.true_and] at hla
        unfold scrubKeptD
        rw [hla];rfl
      obtain ⟨C,hok⟩:=hft _ rfl
      rw [hmode] at C hok
      simp only [hlent,Bool.not_false,Bool.true_and] at C hok
      obtain ⟨m1,M1,hr1⟩:=HM n m sit.inv sit.nl (by omega) sit.fl vs.toList (fun i d u h1 h2=>hr i d u h1 (by simpa using h2))
      have G1:=M1.goes WB WL sit hms (by omega)
      have sit1:=G1.sit sit
      have hwb : (deepFoot s args true).wb=(deepFoot s args true).rb:=rfl
      have hwl : (deepFoot s args true).wl=(deepFoot s args true).rl:=rfl
      have:=H n m1 B L WB WL sit1 hnb hnl sit.nl (fun b hb=>⟨C.rb b hb,C.wb b (by show b∈(deepFoot s args true).wb;rw [hwb];exact hb)⟩) (fun l hl=>⟨C.rl l hl,C.wl l (by show l∈(deepFoot s args true).wl;rw [hwl];exact hl)⟩) (fun hkp x=>⟨⟨(C.all hkp x).1,(C.all hkp x).2.2.1⟩,⟨(C.all hkp x).2.1,(C.all hkp x).2.2.2⟩⟩) vs (by omega) (fun i d v h1 h2=>hr1 i d v h1 (by simpa using h2))
      rw [M1.w] at this
      refine this.mono ?_
      rintro e w' ⟨v,rfl,m',hw,G,hd⟩
      exact ⟨v,rfl,m',hw,G1.trans G,hd⟩
theorem aJl (hP : aCD P O.C) (hS : aEM P X.mode O.S) (hwf : ∀ g t,X.mode g=some t→t.wf=true) : aBH P X O:=by
  intro d args ts e s k r h
  unfold applyK at h
  split at h
  · rename_i f caps
    obtain ⟨hcb,d',e',s',scr,hk,he,hid,H⟩:=aIg hP hS hwf h
    have hfeq : callFoot X (.fn f caps) args s=(match X.mode f with | some t=>{ deepFoot s (args++caps) (!t.lent) with last:=!t.lent&&t.keep} | none=>deepFoot s (args++caps) false):=by
      unfold callFoot
      simp only
      cases X.mode f<;>rfl
    refine ⟨d',e',s',scr,hk,he,fun hla=>hid (by rw [← hfeq];exact hla),fun n m B L WB WL sit hnb hnl C hok vf vs hvf hl hr=>?_⟩
    cases hvf with
    | fn _ _ us hul hur=>
      have e1 : (do let df ← Deferred.ofValue (.func (.func f) #[] us.toArray) vs;invoke df.target df.args : Sem Next).run P m.w = .ok (.enter f (vs++us.toArray)) m.w:=by
        simp [Deferred.ofValue,invoke,aBK hcb]
      rw [e1]
      refine (H n m B L WB WL sit hnb hnl (fun ft hft=>?_) (vs++us.toArray) (by simp;omega) (fun i d v hd hv=>?_))
      · rw [hfeq,← hft] at C hok
        exact ⟨C,hok⟩
      · rw [Array.getElem?_append] at hv
        split at hv
        · rename_i hi
          rw [List.getElem?_append_left (by omega)] at hd
          exact hr i d v hd hv
        · rename_i hi
          rw [List.getElem?_append_right (by omega)] at hd
          refine hur (i - args.length) d v hd ?_
          rw [hl]
          simpa using hv
  · rename_i v
    cases v with
    | fn f caps=>
      obtain ⟨hcb,d',hk,H⟩:=aIc (P:=P) (f:=f) (C:=fun vs=>PV.apply O.C (.fn f caps) vs) (caps:=caps) (k:=fun d s=>k d e s) (fun ps r0 h0=>by
        have h0 : O.C f (ps++caps)=some r0:=h0
        obtain ⟨h1,h2⟩:=hP f _ _ h0
        refine ⟨h1,fun w Z aP us hz hl hr hul hur=>h2 w Z (aP++us) hz (by simp;omega) (fun i x v hx hv=>?_)⟩
        rw [Array.getElem?_append] at hv
        split at hv
        · rw [List.getElem?_append_left (by omega)] at hx
          exact hr i x v hx hv
        · rw [List.getElem?_append_right (by omega)] at hx
          exact hur (i - ps.length) x v hx (by rw [hl];exact hv)) h
      refine ⟨d',e,s,id,hk,fun _=>rfl,fun _=>rfl,fun n m B L WB WL sit hnb hnl C hok vf vs hvf hl hr=>?_⟩
      cases hvf with
      | p _ _ hvf=>cases hvf with
        | fn _ _ us hul hur=>
          have e1 : (do let df ← Deferred.ofValue (.func (.func f) #[] us.toArray) vs;invoke df.target df.args : Sem Next).run P m.w = .ok (.enter f (vs++us.toArray)) m.w:=by
            simp [Deferred.ofValue,invoke,aBK hcb]
          rw [e1]
          exact H n m B L WB WL sit (aHc (ds:=args) (wr:=false) sit C hok) vs us.toArray hl hr (by simpa using hul) (fun i x v hx hv=>hur i x v hx (by simpa using hv))
    | _=>
      exfalso
      split at h<;>
      · obtain ⟨ps,h1,_⟩:=sE (s:=s) h
        obtain ⟨r0,hr0,_⟩:=aO h1
        simp [PV.apply] at hr0
  · cases h
end
structure Hyp (P : Program) (T : Tab) (H : Hints) : Prop where
  tab : T=tabOf P
  zero : iU P H.zok
  mixed : P.follows .mixedOrders=true
  code : ∀ (f : Nat) (fn : Func) (c : Code),P.funcs[f]? = some fn→fn.body=some c→codeOk fn.ntmps c=true∧fn.name≠ "runtime.NumGoroutine"
  prim : aCD P fun g args=>(H.prim g).bind fun p=>p args
  primS : ∀ g h,H.primS g=some h→∀ t args s l,H.mode g=some t→h args s=some l→iL P g∧∀ (m : aR) (aP : Array Value),eW m s s.base→args.length=aP.size→
    (∀ (i : Nat) d v,args[i]? = some d→aP[i]? = some v→m.rd d v)→Calls P g aP m.w (fun e w'=>∃ v,e = .returned v∧qW m s.boxes.length (if t.keep then s.lists.length else 0) (some (t.fit s)) l v w')
  glob : ∀ g,H.glob g=none
  wf : ∀ g t,H.mode g=some t→t.wf=true
section
variable {P : Program} {T : Tab} {H : Hints}
theorem aEQ : ∀ (ds : List DV) (n t : Nat),(argEnv n ds).get t=if n≤t then ds.getD (t - n) .dead else .dead
  | [],n,t=>by simp [argEnv,Env.get]
  | d::r,n,t=>by
    unfold argEnv
    simp only [Env.get]
    by_cases h : t=n
    · subst h;simp
    · have hb : Nat.beq t n=false:=by
        cases hb : Nat.beq t n with
        | false=>rfl
        | true=>exact absurd (bH hb) h
      rw [hb]
      simp only [Bool.false_eq_true,if_false]
      rw [aEQ]
      by_cases h2 : n≤t
      · rw [if_pos h2,if_pos (by omega),show t - n=t - (n+1)+1 by omega]
        simp [List.getD]
      · rw [if_neg h2,if_neg (by omega)]
theorem aIh {m : aR} {args : List DV} {vs : Array Value} {n : Nat} (hl : args.length=vs.size) (hr : ∀ (i : Nat) d v,args[i]? = some d→vs[i]? = some v→m.rd d v) :
    fF m (argEnv 0 args).get ⟨vs++Array.replicate n undef,[]⟩:=by
  intro t
  rw [aEQ,if_pos (Nat.zero_le _),Nat.sub_zero]
  by_cases h : t<args.length
  · have hd : args[t]? = some args[t]:=List.getElem?_eq_getElem h
    have hv : vs[t]? = some (vs[t]'(by omega)):=Array.getElem?_eq_getElem (by omega)
    have e1 : args.getD t .dead=args[t]:=by rw [List.getD,hd];rfl
    have e2 : Act.eval ⟨vs++Array.replicate n undef,[]⟩ (.tmp t)=vs[t]'(by omega):=by
      show (vs++Array.replicate n undef).getD t undef=_
      rw [Array.getD_eq_getD_getElem?,Array.getElem?_append_left (by omega),hv];rfl
    rw [e1,e2]
    exact hr t _ _ hd hv
  · have e1 : args.getD t .dead = .dead:=by rw [List.getD,List.getElem?_eq_none (by omega)];rfl
    rw [e1]
    exact .dead _
theorem aAg {f : Nat} {fn : Func} {c : Code} (hfn : P.funcs[f]? = some fn) (hc : fn.body=some c) {nb nl : Nat} {out : Option Tmpl} {args : List DV} {s : St} {r : R} (hg : aMo P f nb nl out [.code c] (argEnv 0 args) s r)
    {m : aR} {vs : Array Value} (hf : eW m s s.base) (hl : args.length=vs.size) (hr : ∀ (i : Nat) d v,args[i]? = some d→vs[i]? = some v→m.rd d v) :
    Calls P f vs m.w (fun e w'=>∃ v,e = .returned v∧qW m nb nl out r v w'):=by
  intro cs
  let b : Frame:={ (default : Frame) with fn:=f,kind:=.normal}
  have henter : Frame.enter P f vs .normal=b.at ⟨vs++Array.replicate (fn.ntmps - vs.size) undef,[]⟩ [.code c]:=by
    simp [Frame.enter,Frame.at,hfn,hc,b]
  obtain ⟨v,w',fr,h1,h2,h3,h4⟩:=hg m ⟨vs++Array.replicate (fn.ntmps - vs.size) undef,[]⟩ fn hfn hf (aIh hl hr) (by simp;omega) rfl b cs rfl rfl
  rw [← henter] at h2
  exact ⟨.returned v,w',fr,⟨v,rfl,h1⟩,h2,h3,h4⟩
theorem aAC {f : Nat} {n nb nl : Nat} {out : Option Tmpl} {e : Env} {s : St} {r : R} (h : runN P T H n f nb nl out (startOf P f) e s=some r) : ∃ fn c,P.funcs[f]? = some fn∧fn.body=some c∧startOf P f = [.code c]:=by
  cases hb : bodyOf P f with
  | none=>
    exfalso
    cases n with
    | zero=>simp [runN] at h
    | succ n=>
      unfold runN at h
      have hs : startOf P f = [.code (.refuse "")]:=by unfold startOf;rw [hb]
      rw [hs] at h
      unfold evalFuel eval at h
      simp at h
  | some c=>
    have hs : startOf P f = [.code c]:=by unfold startOf;rw [hb]
    unfold bodyOf at hb
    cases hf : P.funcs[f]? with
    | none=>rw [hf] at hb;cases hb
    | some fn=>rw [hf] at hb;exact ⟨fn,c,rfl,hb,hs⟩
theorem aM7 (hy : Hyp P T H) {g : Nat} {fn : Func} {c : Code} (hg : P.funcs[g]? = some fn) (hc : fn.body=some c) : kP fn.ntmps [.code c]:=fun x hx=>by
  simp at hx;subst hx;exact (hy.code _ _ _ hg hc).1
def aJ1 (P : Program) (run : Nat→Nat→Nat→Option Tmpl→List Item→Env→St→Option R) : Prop:=∀ (f nb nl : Nat) (out : Option Tmpl) (todo : List Item) (e : Env) (s : St) (r : R) (fn : Func),run f nb nl out todo e s=some r→P.funcs[f]? = some fn→kP fn.ntmps todo→aMo P f nb nl out todo e s r
def aLv (P : Program) (run : Nat→Nat→Nat→Option Tmpl→List Item→Env→St→Option R) : Prop:=∀ {f nb nl : Nat} {out : Option Tmpl} {e : Env} {s : St} {r : R},run f nb nl out (startOf P f) e s=some r→∃ fn c,P.funcs[f]? = some fn∧fn.body=some c∧startOf P f = [.code c]
variable {run : Nat → Nat → Nat → Option Tmpl → List Item → Env → St → Option R}
theorem aIi (hy : Hyp P T H) (hrun : aJ1 P run) (hst : aLv P run) (f nb nl : Nat) (out : Option Tmpl) : aCD P (orcOf P H run f nb nl out).C:=by
  intro g args r h
  have h : (match H.prim g with | some h=>h args | none=>run g 0 0 none (startOf P g) (argEnv 0 (args.map .p)) ⟨[],[],0,0,0⟩)=some r:=h
  cases hpr : H.prim g with
  | some p=>
    rw [hpr] at h
    exact hy.prim g args r (by simp only [hpr,Option.bind_some];exact h)
  | none=>
  rw [hpr] at h
  simp only at h
  obtain ⟨fg,c,hfg,hc,hst'⟩:=hst h
  rw [hst'] at h
  have good:=hrun g 0 0 none _ _ _ r fg h hfg (aM7 hy hfg hc)
  refine ⟨⟨fg,c,hfg,hc,(hy.code _ _ _ hfg hc).2⟩,fun w Z aP hz hl hr=>?_⟩
  let m0 : aR:={ w:=w,Z:=Z,s:={ box:=fun _=>none,list:=fun _=>none},L:=fun _=>False,
                 ρ:={ box:=fun _=>0,hdr:=fun _=>.nilFunc,fp:=fun _ _=>False,ty:=fun _=>.leaf,ub:=fun _=>False,ul:=fun _=>False}}
  have full0 : eW m0 ⟨[],[],0,0,0⟩ 0:={
    inv:={
      ub:=fun _ _ h=>by cases h
      ul:=fun _ _ h=>by cases h
      zlt:=hz
      box:=fun _ _ h=>by cases h
      row:=fun _ _ h=>by cases h
      bz:=fun _ _ h=>by cases h
      bb:=fun _ _ _ _ h=>by cases h
      bl:=fun _ _ _ _ h=>by cases h
      ll:=fun _ _ _ _ _ h=>by cases h
      Lz:=fun _ h=>h.elim
      Lb:=fun _ _ _ h=>h
      Ll:=fun _ _ _ _ _ h=>h}
    box:=fun _=>rfl
    list:=fun _=>rfl
    ub:=fun _ h=>h.elim
    ul:=fun _ h=>h.elim}
  have own0 : ∀ r,¬ m0.owned r:=by
    rintro r (⟨_,_,h,_⟩ | ⟨_,_,h,_⟩ | h)
    · cases h
    · cases h
    · exact h
  refine (aAg hfg hc good (m:=m0) (vs:=aP) full0 (by simpa using hl) (fun i d v hd hv=>?_)).mono ?_
  · rw [List.getElem?_map] at hd
    cases hp : args[i]? with
    | none=>rw [hp] at hd;cases hd
    | some p=>rw [hp] at hd;cases hd;exact .p _ _ (hr i p v hp hv)
  · rintro e w' ⟨v,rfl,m',rfl,inv',fw,pv,rfl,hrep⟩
    refine ⟨v,rfl,fun x=>m'.Z x∨m'.owned x,⟨fw.size,fw.os,fw.tape,fw.output,fun r hr=>fw.keep r hr (own0 r),fun r hr=>.inl (fw.zz r hr),fun r hr=>?_⟩,hrep⟩
    rcases hr with hr | hr
    · rcases fw.z r hr with h | h | h
      · exact .inl h
      · exact (own0 r h).elim
      · exact .inr ⟨h,inv'.zlt r hr⟩
    · exact .inr ⟨(fw.own r hr).resolve_left (own0 r),inv'.owned_lt hr⟩
theorem aLw (hy : Hyp P T H) (hrun : aJ1 P run) (hst : aLv P run) (f nb nl : Nat) (out : Option Tmpl) : aEM P H.mode (orcOf P H run f nb nl out).S:=by
  intro g t args s l hmode h
  have h : (match H.mode g with | some t=>(match H.primS g with | some h=>h args s | none=>run g s.boxes.length (if t.keep then s.lists.length else 0) (some (t.fit s)) (startOf P g) (argEnv 0 args) s) | none=>none)=some l:=h
  rw [hmode] at h
  simp only at h
  cases hps : H.primS g with
  | some p=>
    rw [hps] at h
    exact hy.primS g p hps t args s l hmode h
  | none=>
  rw [hps] at h
  simp only at h
  obtain ⟨fg,c,hfg,hc,hst'⟩:=hst h
  rw [hst'] at h
  have good:=hrun g s.boxes.length (if t.keep then s.lists.length else 0) (some (t.fit s)) _ _ _ l fg h hfg (aM7 hy hfg hc)
  exact ⟨⟨fg,c,hfg,hc,(hy.code _ _ _ hfg hc).2⟩,fun m aP hf hl hr=>aAg hfg hc good hf hl hr⟩
theorem aGA (hy : Hyp P T H) : ∀ (n : Nat),aJ1 P (runN P T H n)
  | 0,_,_,_,_,_,_,_,_,_,h,_,_=>by simp [runN] at h
  | n+1,f,nb,nl,out,todo,e,s,r,fn,h,hfn,hok=>by
    unfold runN at h
    have ih:=aGA hy n
    have hP:=aIi hy ih aAC f nb nl out
    have hS:=aLw hy ih aAC f nb nl out
    refine aEH (X:=cxOf P T H f nb nl out) (O:=orcOf P H (runN P T H n) f nb nl out) hy.tab hy.zero hy.glob (aJl hP hS hy.wf) hy.mixed hfn ?_ (fun todo e s r h hk=>ih f nb nl out todo e s r fn h hfn hk) evalFuel true todo e s r h hok
    show ((P.funcs[f]?).map (·.results.toList)).getD []=_
    rw [hfn];rfl
end
end Go.Proofs.YthkofpnllaapeaaGreatDoor
namespace Go.Proofs.YthkofpnllaapeaaGreatDoor
open Go
def aL {β : Type} (a : Option β) (b : Nat→Option β) : Prop:=∀ r,a=some r→∃ N,∀ n,N≤n→b n=some r
section
variable {α β : Type}
theorem aL.none {b : Nat→Option β} : aL (Option.none : Option β) b:=fun r h=>by cases h
theorem aL.rfl (a : Option β) : aL a (fun _=>a):=fun r h=>⟨0,fun _ _=>h⟩
theorem aL.bd {o : Option α} {k : α→Option β} {k' : Nat→α→Option β} (h : ∀ a,aL (k a) (fun n=>k' n a)) : aL (bd o k) (fun n=>bd o (k' n)):=by
  cases o with
  | none=>exact aL.none
  | some a=>exact h a
theorem aL.bd2 {o : Option α} {o' : Nat→Option α} {k : α→Option β} {k' : Nat→α→Option β} (ho : aL o o') (h : ∀ a,aL (k a) (fun n=>k' n a)) : aL (Go.Proofs.YthkofpnllaapeaaGreatDoor.bd o k) (fun n=>Go.Proofs.YthkofpnllaapeaaGreatDoor.bd (o' n) (k' n)):=by
  intro r hr
  obtain ⟨a,ha,hk⟩:=aO hr
  obtain ⟨N,hN⟩:=ho a ha
  obtain ⟨M,hM⟩:=h a r hk
  refine ⟨max N M,fun n hn=>?_⟩
  show Go.Proofs.YthkofpnllaapeaaGreatDoor.bd (o' n) (k' n)=some r
  rw [hN n (by omega)]
  exact hM n (by omega)
theorem aL.pvite {c : PV} {a b : Option β} {a' b' : Nat→Option β} (ha : aL a a') (hb : aL b b') : aL (PV.ite c a b) (fun n=>PV.ite c (a' n) (b' n)):=by
  intro r hr
  rcases tS hr with ⟨rfl,h⟩ | ⟨rfl,h⟩
  · obtain ⟨N,hN⟩:=ha r h
    exact ⟨N,fun n hn=>hN n hn⟩
  · obtain ⟨N,hN⟩:=hb r h
    exact ⟨N,fun n hn=>hN n hn⟩
theorem aL.nilT {c : PV} {a b : Option β} {a' b' : Nat→Option β} (ha : aL a a') (hb : aL b b') : aL (PV.nilT c a b) (fun n=>PV.nilT c (a' n) (b' n)):=by
  intro r hr
  obtain ⟨h1,h2⟩:=aGx hr
  obtain ⟨M,hM⟩:=hb r h2
  cases c with
  | lst xs=>
    cases xs with
    | nil=>
      obtain ⟨N,hN⟩:=ha r (h1 (Eq.refl _))
      refine ⟨max N M,fun n hn=>?_⟩
      show @_root_.ite _ (a' n=b' n) (Classical.propDecidable _) (a' n) Option.none=some r
      rw [hN n (by omega),hM n (by omega),if_pos (Eq.refl _)]
    | cons x xs=>exact ⟨M,fun n hn=>hM n hn⟩
  | _=>cases hr
theorem aL.ite {c : Prop} [Decidable c] {a b : Option β} {a' b' : Nat→Option β} (ha : aL a a') (hb : aL b b') : aL (if c then a else b) (fun n=>if c then a' n else b' n):=by
  by_cases h : c
  · simp only [h,if_true];exact ha
  · simp only [h,if_false];exact hb
theorem aL.flat {r : PV} {a : Option β} {a' : Nat→Option β} (ha : aL a a') : aL (PV.guardFlat r a) (fun n=>PV.guardFlat r (a' n)):=by
  unfold PV.guardFlat;exact aL.ite ha aL.none
theorem aL.own {o : OTy} {r : PV} {a : Option β} {a' : Nat→Option β} (ha : aL a a') : aL (PV.guardOwn o r a) (fun n=>PV.guardOwn o r (a' n)):=by
  unfold PV.guardOwn;exact aL.ite ha aL.none
end
section
variable {X : Cx}
theorem aBP {v : PV} : ∀ {m : Nat} {k : List PV→Option R} {k' : Nat→List PV→Option R},(∀ l,aL (k l) (fun n=>k' n l))→aL (cellsK.go v m k) (fun n=>cellsK.go v m (k' n))
  | 0,_,_,h=>h []
  | _+1,_,_,h=>by
    unfold cellsK.go
    exact aBP fun l=>aL.bd fun c=>h _
theorem lS {m : Nat} {d : DV} {k : List DV→Option R} {k' : Nat→List DV→Option R} (h : ∀ l,aL (k l) (fun n=>k' n l)) : aL (cellsK m d k) (fun n=>cellsK m d (k' n)):=by
  cases d<;>simp only [cellsK]<;>first
    | exact aL.none
    | exact aL.ite (h _) aL.none
    | exact aL.bd fun v=>aBP fun l=>h _
theorem iR : ∀ {path : dR} {o : OTy} {c : PV} {k : OTy→PV→Option R} {k' : Nat→OTy→PV→Option R},(∀ o c,aL (k o c) (fun n=>k' n o c))→aL (getK o c path k) (fun n=>getK o c path (k' n))
  | [],_,_,_,_,h=>h _ _
  | (i,j)::r,o,c,k,k',h=>by
    unfold getK
    exact aL.bd fun x=>aL.ite (aL.bd fun y=>iR h) (aL.ite (iR h) aL.none)
theorem tX : ∀ {path : dR} {o : OTy} {c y : PV} {k : PV→Option R} {k' : Nat→PV→Option R},(∀ c,aL (k c) (fun n=>k' n c))→aL (setK o c path y k) (fun n=>setK o c path y (k' n))
  | [],_,_,_,_,_,h=>h _
  | (i,j)::r,o,c,y,k,k',h=>by
    unfold setK
    exact aL.bd fun x=>aL.ite (aL.bd fun z=>tX fun z'=>aL.bd h) (aL.ite (tX fun z'=>aL.bd h) aL.none)
theorem qN {s : St} {d : DV} {k : OTy→PV→Option R} {k' : Nat→OTy→PV→Option R} (h : ∀ o c,aL (k o c) (fun n=>k' n o c)) : aL (rowK s d k) (fun n=>rowK s d (k' n)):=by
  cases d<;>simp only [rowK]<;>try exact aL.none
  · rename_i l path
    cases s.list l with
    | none=>exact aL.none
    | some w=>exact iR h
  · rename_i l path lo hi
    cases s.list l with
    | none=>exact aL.none
    | some w=>exact iR fun o c=>aL.bd fun c=>h _ _
theorem aCF {α β : Type} {f : α→(β→Option R)→Option R} (hf : ∀ a k (k' : Nat→β→Option R),(∀ b,aL (k b) (fun n=>k' n b))→aL (f a k) (fun n=>f a (k' n))) :
    ∀ {l : List α} {k : List β→Option R} {k' : Nat→List β→Option R},(∀ b,aL (k b) (fun n=>k' n b))→aL (mapK f l k) (fun n=>mapK f l (k' n))
  | [],_,_,h=>h _
  | d::r,k,k',h=>by
    unfold mapK
    exact hf _ _ _ fun v=>aCF hf fun vs=>h _
theorem aAD {s : St} : ∀ {m : Nat} {d : DV} {k : PV→Option R} {k' : Nat→PV→Option R},(∀ v,aL (k v) (fun n=>k' n v))→aL (snapK s m d k) (fun n=>snapK s m d (k' n))
  | 0,_,_,_,_=>by simp only [snapK];exact aL.none
  | m+1,d,k,k',h=>by
    have mp:=fun {ds : List DV} {k : List PV→Option R} {k' : Nat→List PV→Option R} (h : ∀ v,aL (k v) (fun n=>k' n v))=>aCF (f:=snapK s m) (fun a k k' h=>aAD h) (l:=ds) h
    cases d<;>simp only [snapK]<;>first
      | exact aL.none
      | exact h _
      | exact mp fun vs=>h _
      | exact qN fun _ c=>h _
      | skip
    · rename_i b off
      cases off with
      | zero=>
        cases s.box b with
        | none=>exact aL.none
        | some cs=>exact mp fun vs=>h _
      | succ n=>exact aL.none
    · rename_i b n
      cases s.box b with
      | none=>exact aL.none
      | some cs=>exact aL.ite (mp fun vs=>aL.bd fun c=>h _) aL.none
theorem qY {s : St} {m : Nat} {ds : List DV} {k : List PV→Option R} {k' : Nat→List PV→Option R} (h : ∀ v,aL (k v) (fun n=>k' n v)) : aL (snapL s m ds k) (fun n=>snapL s m ds (k' n)):=by
  unfold snapL
  exact aCF (f:=snapK s m) (fun a k k' h=>aAD h) h
theorem aJm {s : St} {d : DV} {k : PV→St→Option R} {k' : Nat→PV→St→Option R} (h : ∀ v s,aL (k v s) (fun n=>k' n v s)) : aL (sinkK s d k) (fun n=>sinkK s d (k' n)):=by
  unfold sinkK
  cases bsOf deep d with
  | nil=>exact aAD fun v=>h _ _
  | cons=>exact aL.none
theorem sF {ct : OTy} {s : St} {d : DV} {k : PV→St→Option R} {k' : Nat→PV→St→Option R} (h : ∀ v s,aL (k v s) (fun n=>k' n v s)) : aL (sinkAs ct s d k) (fun n=>sinkAs ct s d (k' n)):=by
  cases ct with
  | leaf=>exact aJm h
  | own a b c e=>
    cases d<;>simp only [sinkAs]<;>first
      | exact aL.none
      | exact h _ _
      | skip
    · rename_i l path
      cases path with
      | nil=>
        dsimp only
        cases s.list l with
        | none=>exact aL.none
        | some w=>exact aL.ite (h _ _) aL.none
      | cons=>exact aL.none
    · rename_i l path lo hi
      cases path with
      | nil=>
        dsimp only
        cases s.list l with
        | none=>exact aL.none
        | some w=>exact aL.ite (aL.bd fun c=>h _ _) aL.none
      | cons=>exact aL.none
theorem qZ {o : OTy} : ∀ {ds : List DV} {s : St} {j : Nat} {k : List PV→St→Option R} {k' : Nat→List PV→St→Option R},(∀ v s,aL (k v s) (fun n=>k' n v s))→aL (sinkCells o s j ds k) (fun n=>sinkCells o s j ds (k' n))
  | [],_,_,_,_,h=>h _ _
  | d::r,s,j,k,k',h=>by
    unfold sinkCells
    exact sF fun v s=>qZ fun vs s=>h _ _
theorem aER {o : OTy} {s : St} {d : DV} {k : PV→St→Option R} {k' : Nat→PV→St→Option R} (h : ∀ v s,aL (k v s) (fun n=>k' n v s)) : aL (elemK o s d k) (fun n=>elemK o s d (k' n)):=by
  unfold elemK
  cases o.g with
  | true=>
    cases d<;>simp only [if_true]<;>first
      | exact aL.none
      | exact aL.ite (h _ _) aL.none
      | exact aL.ite (qZ fun vs s=>h _ _) aL.none
  | false=>
    cases d<;>simp only [Bool.false_eq_true,if_false]<;>first
      | exact aL.none
      | exact sF h
theorem iS : ∀ {ds : List DV} {ts : List (Option Nat)} {s : St} {k : List DV→St→Option R} {k' : Nat→List DV→St→Option R},(∀ v s,aL (k v s) (fun n=>k' n v s))→aL (ownCells X ds ts s k) (fun n=>ownCells X ds ts s (k' n))
  | [],ts,s,k,k',h=>by cases ts<;>exact h _ _
  | d::ds,[],s,k,k',h=>h _ _
  | d::ds,t::ts,s,k,k',h=>by
    unfold ownCells
    cases d<;>cases t<;>exact iS fun vs s=>h _ _
theorem xD {l : Nat} {path : dR} {i : PV} {o : OTy} {x : PV} : ∀ {m off : Nat} {k : List DV→Option R} {k' : Nat→List DV→Option R},(∀ v,aL (k v) (fun n=>k' n v))→aL (cellsE l path i o x m off k) (fun n=>cellsE l path i o x m off (k' n))
  | 0,_,_,_,h=>h _
  | m+1,off,k,k',h=>by
    unfold cellsE
    exact aL.ite (aL.bd fun y=>xD fun ds=>h _) (xD fun ds=>h _)
theorem aES {x : PV} {s : Nat} {g : Bool} {off : Nat} {r : TyR} {k : DV→Option R} {k' : Nat→DV→Option R} (h : ∀ v,aL (k v) (fun n=>k' n v)) : aL (partK x s g off r k) (fun n=>partK x s g off r (k' n)):=by
  unfold partK
  exact aL.ite (aL.ite (h _) (aL.bd fun y=>h _)) (aL.ite (aL.bd fun y=>h _) (aL.ite (h _) aL.none))
theorem aDt {c : PV} : ∀ {m off : Nat} {k : List PV→Option R} {k' : Nat→List PV→Option R},(∀ v,aL (k v) (fun n=>k' n v))→aL (loadK.cellsB c m off k) (fun n=>loadK.cellsB c m off (k' n))
  | 0,_,_,_,h=>h _
  | m+1,off,k,k',h=>by
    unfold loadK.cellsB
    exact aL.bd fun v=>aDt fun l=>h _
theorem aJn {t : Nat} {a : DV} {s : St} {k : DV→Option R} {k' : Nat→DV→Option R} (h : ∀ v,aL (k v) (fun n=>k' n v)) : aL (loadK X t a s k) (fun n=>loadK X t a s (k' n)):=by
  unfold loadK
  refine aL.ite aL.none ?_
  cases a<;>(try simp only)<;>first
    | exact aL.none
    | exact aL.ite (aDt fun l=>h _) (aL.bd fun y=>h _)
    | exact aES h
    | skip
  · rename_i b off
    cases s.box b with
    | none=>exact aL.none
    | some cs=>
      refine aL.ite (aL.ite (h _) aL.none) ?_
      cases cs[off]? with
      | none=>exact aL.none
      | some d=>exact h _
  · rename_i l path i off
    cases s.list l with
    | none=>exact aL.none
    | some w=>
      exact iR fun o c=>aL.bd fun x=>aL.ite (aES h) (aL.ite (aL.ite (xD fun ds=>h _) aL.none)
        (aL.ite (aL.ite (aL.bd fun y=>h _) (aL.ite (h _) aL.none)) (aL.ite (h _) aL.none)))
theorem yX {d : DV} {k : DV→Option R} {k' : Nat→DV→Option R} (h : ∀ v,aL (k v) (fun n=>k' n v)) : aL (oneK d k) (fun n=>oneK d (k' n)):=by
  cases d<;>simp only [oneK]<;>first
    | exact aL.none
    | exact h _
    | exact aL.bd fun x=>h _
theorem aIj {t b off : Nat} {v : DV} {s : St} {k : St→Option R} {k' : Nat→St→Option R} (h : ∀ v,aL (k v) (fun n=>k' n v)) : aL (storeB X t b off v s k) (fun n=>storeB X t b off v s (k' n)):=by
  unfold storeB
  simp only
  cases s.box b with
  | none=>exact aL.none
  | some cs=>
    refine aL.ite (aL.ite (lS fun vs=>iS fun vs s=>h _) (aL.ite (yX fun v=>?_) aL.none)) aL.none
    cases v<;>(try simp only)<;>first
      | exact h _
      | skip
    · cases elemOf X t with
      | none=>exact aL.none
      | some u=>exact h _
    · rename_i l path lo hi
      cases path with
      | cons=>exact h _
      | nil=>
        cases cs[off]? with
        | none=>exact h _
        | some d=>
          cases d<;>(try simp only)<;>first
            | exact h _
            | skip
          rename_i l' path'
          cases path' with
          | cons=>exact h _
          | nil=>
            refine aL.ite ?_ (h _)
            cases s.list l with
            | none=>exact aL.none
            | some w=>exact aL.bd fun c=>h _
theorem aDu {m : Nat} {c i : PV} : ∀ {ys : List PV} {c : PV} {off : Nat} {k : PV→Option R} {k' : Nat→PV→Option R},(∀ v,aL (k v) (fun n=>k' n v))→aL (storeK.setAll m c i off ys k) (fun n=>storeK.setAll m c i off ys (k' n))
  | [],_,_,_,_,h=>h _
  | y::ys,c,off,k,k',h=>by
    unfold storeK.setAll
    exact aL.bd fun c=>aDu (c:=c) h
theorem aIk {e : Env} {l : Nat} {path : dR} {w : Own} {c : PV} {s : St} {k : Env→St→Option R} {k' : Nat→Env→St→Option R} (h : ∀ e s,aL (k e s) (fun n=>k' n e s)) : aL (storeK.fin e k l path w c s) (fun n=>storeK.fin e (k' n) l path w c s):=by
  unfold storeK.fin
  refine tX fun c'=>?_
  unfold touchK
  exact aL.ite (h _ _) (h _ _)
theorem aET {e : Env} {o : OTy} {ds : List DV} {off l : Nat} {path : dR} {i : PV} {s : St} {k : Env→St→Option R} {k' : Nat→Env→St→Option R} (h : ∀ e s,aL (k e s) (fun n=>k' n e s)) : aL (storeK.setIn e k o ds off l path i s) (fun n=>storeK.setIn e (k' n) o ds off l path i s):=by
  unfold storeK.setIn
  refine qZ fun ys s=>?_
  cases s.list l with
  | none=>exact aL.none
  | some w=>exact iR fun o c=>aDu (c:=c) fun c=>aIk h
theorem aDv {t : Nat} {a v : DV} {e : Env} {s : St} {k : Env→St→Option R} {k' : Nat→Env→St→Option R} (h : ∀ e s,aL (k e s) (fun n=>k' n e s)) : aL (storeK X t a v e s k) (fun n=>storeK X t a v e s (k' n)):=by
  unfold storeK
  refine aL.ite aL.none ?_
  cases a<;>(try simp only)<;>first
    | exact aL.none
    | exact aIj fun s=>h _ _
    | skip
  rename_i l path i off
  cases s.list l with
  | none=>exact aL.none
  | some w=>
    refine iR fun o c=>aL.ite (aER fun x s=>?_) (aL.ite (lS fun ds=>aET h) (aL.ite (yX fun v=>aET h) aL.none))
    cases s.list l with
    | none=>exact aL.none
    | some w=>exact iR fun o c=>aL.bd fun c=>aIk h
theorem xE {fs : List (Nat × Nat)} : ∀ {ps : List (Nat × DV)} {cs : List DV} {k : List DV→Option R} {k' : Nat→List DV→Option R},(∀ v,aL (k v) (fun n=>k' n v))→aL (buildK X fs ps cs k) (fun n=>buildK X fs ps cs (k' n))
  | [],_,_,_,h=>h _
  | (i,v)::r,cs,k,k',h=>by
    unfold buildK
    cases fs[i]? with
    | none=>exact aL.none
    | some p=>exact aL.ite (aL.ite (lS fun vs=>xE h) (aL.ite (yX fun v=>xE h) aL.none)) aL.none
theorem aDw {o : OTy} : ∀ {ds : List DV} {s : St} {k : List PV→St→Option R} {k' : Nat→List PV→St→Option R},(∀ v s,aL (k v s) (fun n=>k' n v s))→aL (elemsK o s ds k) (fun n=>elemsK o s ds (k' n))
  | [],_,_,_,h=>h _ _
  | d::r,s,k,k',h=>by
    unfold elemsK
    exact aER fun v s=>aDw fun vs s=>h _ _
theorem uP {dst : Option Nat} {t : Nat} {d : DV} {e : Env} {s : St} {k : DV→St→Option R} {k' : Nat→DV→St→Option R} (h : ∀ v s,aL (k v s) (fun n=>k' n v s)) : aL (moveK X dst t d e s k) (fun n=>moveK X dst t d e s (k' n)):=by
  cases d<;>simp only [moveK]<;>first
    | exact aL.none
    | exact h _ _
    | skip
  · cases elemOf X t with
    | none=>exact h _ _
    | some u=>exact h _ _
  · rename_i l path lo hi
    cases path with
    | cons=>exact h _ _
    | nil=>
      cases dst with
      | none=>exact h _ _
      | some t=>
        dsimp only
        generalize e.get t=d0
        cases d0<;>(try simp only)<;>first
          | exact h _ _
          | skip
        rename_i l' path'
        cases path' with
        | cons=>exact h _ _
        | nil=>
          refine aL.ite ?_ (h _ _)
          cases s.list l with
          | none=>exact aL.none
          | some w=>exact aL.bd fun c=>h _ _
theorem aJo {c a b : DV} {e : Env} {s : St} {k : DV→St→Option R} {k' : Nat→DV→St→Option R} (h : ∀ v s,aL (k v s) (fun n=>k' n v s)) : aL (pickK X c a b e s k) (fun n=>pickK X c a b e s (k' n)):=by
  cases c<;>simp only [pickK]<;>first
    | exact aL.none
    | exact aL.pvite (uP h) (uP h)
theorem aIl {t : Nat} {s : St} {k : DV→St→Option R} {k' : Nat→DV→St→Option R} (h : ∀ v s,aL (k v s) (fun n=>k' n v s)) : aL (allocK X t s k) (fun n=>allocK X t s (k' n)):=by
  unfold allocK
  exact aL.ite (iS fun cs s=>h _ _) aL.none
theorem aKI {t : Nat} {x : DV} {s : St} {k : DV→St→Option R} {k' : Nat→DV→St→Option R} (h : ∀ v s,aL (k v s) (fun n=>k' n v s)) : aL (boxK X t x s k) (fun n=>boxK X t x s (k' n)):=by
  unfold boxK
  exact aL.ite (lS fun cs=>iS fun cs s=>h _ _) (yX fun d=>iS fun cs s=>h _ _)
theorem aHf {t : Nat} {ps : List (Nat × DV)} {k : DV→Option R} {k' : Nat→DV→Option R} (h : ∀ v,aL (k v) (fun n=>k' n v)) : aL (buildTK X t ps k) (fun n=>buildTK X t ps (k' n)):=by
  unfold buildTK
  cases (X.T.at t).d<;>(try simp only)<;>first
    | exact aL.none
    | exact aL.ite (xE fun cs=>h _) aL.none
theorem aCG {t m : Nat} {ps : List (Nat × DV)} {s : St} {k : DV→St→Option R} {k' : Nat→DV→St→Option R} (h : ∀ v s,aL (k v s) (fun n=>k' n v s)) : aL (buildSliceK X t m ps s k) (fun n=>buildSliceK X t m ps s (k' n)):=by
  unfold buildSliceK lendK
  cases elemOf X t with
  | none=>exact aL.none
  | some u=>exact aL.ite (aL.ite (h _ _) aL.none) (aL.ite (aDw fun vs s=>aL.bd fun c=>h _ _) aL.none)
theorem aDF {t : Nat} {l c : DV} {s : St} {k : DV→St→Option R} {k' : Nat→DV→St→Option R} (h : ∀ v s,aL (k v s) (fun n=>k' n v s)) : aL (makeSliceK X t l c s k) (fun n=>makeSliceK X t l c s (k' n)):=by
  unfold makeSliceK
  cases elemOf X t with
  | none=>exact aL.none
  | some u=>
    cases l<;>cases c<;>(try simp only)<;>first
      | exact aL.none
      | exact aL.ite (aL.bd fun _=>aL.bd fun y=>aL.pvite (aL.bd fun c=>h _ _) aL.none) aL.none
theorem aEU {x : DV} {s : St} {k : DV→Option R} {k' : Nat→DV→Option R} (h : ∀ v,aL (k v) (fun n=>k' n v)) : aL (nilCheckK x s k) (fun n=>nilCheckK x s (k' n)):=by
  cases x<;>simp only [nilCheckK]<;>first
    | exact aL.none
    | exact h _
    | exact aL.bd fun v=>h _
    | skip
  rename_i l path i off
  cases s.list l with
  | none=>exact aL.none
  | some w=>exact h _
theorem aJp {op : UnOp} {x : DV} {k : DV→Option R} {k' : Nat→DV→Option R} (h : ∀ v,aL (k v) (fun n=>k' n v)) : aL (unOpK op x k) (fun n=>unOpK op x (k' n)):=by
  cases op<;>cases x<;>simp only [unOpK]<;>first
    | exact aL.none
    | exact aL.bd fun v=>h _
theorem aIm {t : Nat} {x i : DV} {k : DV→Option R} {k' : Nat→DV→Option R} (h : ∀ v,aL (k v) (fun n=>k' n v)) : aL (indexK X t x i k) (fun n=>indexK X t x i (k' n)):=by
  unfold indexK
  cases (X.T.at t).d<;>cases x<;>cases i<;>(try simp only)<;>first
    | exact aL.none
    | exact aL.bd fun v=>h _
    | skip
  refine aL.ite ?_ aL.none
  split
  · exact aL.bd fun v=>h _
  · exact aL.none
theorem aEV {d : DV} {k : DV→Option R} {k' : Nat→DV→Option R} (h : ∀ v,aL (k v) (fun n=>k' n v)) : aL (soK d k) (fun n=>soK d (k' n)):=by
  cases d<;>simp only [soK]<;>first
    | exact aL.bd fun v=>h _
    | exact h _
theorem aFS {x : DV} {i : Nat} {k : DV→Option R} {k' : Nat→DV→Option R} (h : ∀ v,aL (k v) (fun n=>k' n v)) : aL (extractK x i k) (fun n=>extractK x i (k' n)):=by
  cases x<;>simp only [extractK]<;>first
    | exact aL.none
    | exact aL.bd fun v=>h _
    | skip
  rename_i cs
  cases cs[i]? with
  | none=>exact aL.none
  | some d=>exact h _
theorem aIn {t f : Nat} {x : DV} {k : DV→Option R} {k' : Nat→DV→Option R} (h : ∀ v,aL (k v) (fun n=>k' n v)) : aL (fieldK X t x f k) (fun n=>fieldK X t x f (k' n)):=by
  unfold fieldK
  cases (X.T.at t).d<;>(try simp only)<;>first
    | exact aL.none
    | skip
  rename_i fs
  cases fs[f]? with
  | none=>exact aL.none
  | some p=>
    refine aL.ite aL.none ?_
    cases x<;>(try simp only)<;>first
      | exact aL.none
      | exact aL.ite (aL.bd fun y=>h _) (aL.bd fun y=>h _)
      | skip
    rename_i cs
    refine aL.ite (aL.ite (h _) aL.none) ?_
    cases cs[p.1]? with
    | none=>exact aL.none
    | some d=>exact h _
theorem aDG {t f : Nat} {x : DV} {s : St} {k : DV→Option R} {k' : Nat→DV→Option R} (h : ∀ v,aL (k v) (fun n=>k' n v)) : aL (fieldAddrK X t x f s k) (fun n=>fieldAddrK X t x f s (k' n)):=by
  unfold fieldAddrK
  cases (X.T.at t).d<;>(try simp only)<;>first
    | exact aL.none
    | skip
  rename_i fs
  cases fs[f]? with
  | none=>exact aL.none
  | some p=>
    refine aL.ite aL.none ?_
    cases x<;>(try simp only)<;>first
      | exact aL.none
      | exact h _
      | exact aL.bd fun y=>h _
      | skip
    rename_i l path i off
    cases s.list l with
    | none=>exact aL.none
    | some w=>exact h _
theorem aDH {t : Nat} {x i : DV} {s : St} {k : DV→Option R} {k' : Nat→DV→Option R} (h : ∀ v,aL (k v) (fun n=>k' n v)) : aL (indexAddrK X t x i s k) (fun n=>indexAddrK X t x i s (k' n)):=by
  unfold indexAddrK
  cases (X.T.at t).d<;>cases i<;>(try simp only)<;>first
    | exact aL.none
    | skip
  · refine aL.ite aL.none ?_
    cases x<;>(try simp only)<;>first
      | exact aL.none
      | exact aL.bd fun y=>h _
      | exact qN fun o c=>aL.ite (aL.bd fun _=>h _) aL.none
      | exact qN fun o c=>aL.ite (aL.bd fun _=>aL.bd fun j=>h _) aL.none
  · rename_i i
    refine aL.ite aL.none ?_
    cases x<;>cases i<;>(try simp only)<;>first
      | exact aL.none
      | exact aL.ite (h _) aL.none
      | exact aL.ite (aL.bd fun v=>h _) aL.none
theorem aHg {t : Nat} {x : DV} {lo hi : Option DV} {mx : DV} {s : St} {k : DV→St→Option R} {k' : Nat→DV→St→Option R} (h : ∀ v s,aL (k v s) (fun n=>k' n v s)) : aL (noRoomK X t x lo hi mx s k) (fun n=>noRoomK X t x lo hi mx s (k' n)):=by
  unfold noRoomK
  cases elemOf X t with
  | none=>exact aL.none
  | some u=>
    cases x<;>cases lo<;>(try exact aL.none)
    cases hi with
    | none=>exact aL.none
    | some d=>
      cases d<;>cases mx<;>first
        | exact aL.none
        | exact aL.ite (aL.bd fun _=>h _ _) aL.none
theorem aIo {t : Nat} {x : DV} {lo hi : Option DV} {s : St} {k : DV→Option R} {k' : Nat→DV→Option R} (h : ∀ v,aL (k v) (fun n=>k' n v)) : aL (sliceK X t x lo hi s k) (fun n=>sliceK X t x lo hi s (k' n)):=by
  unfold sliceK
  cases sliceK.lowOf lo with
  | none=>exact aL.none
  | some l=>
    cases (X.T.at t).d<;>(try simp only)<;>first
      | exact aL.none
      | skip
    · cases x<;>(try simp only)<;>first
        | exact aL.none
        | skip
      cases hi with
      | none=>exact aL.bd fun _=>aL.bd fun y=>h _
      | some d=>
        cases d<;>(try simp only)<;>first
          | exact aL.none
          | exact aL.bd fun y=>h _
    · refine aL.ite aL.none ?_
      cases x<;>(try simp only)<;>first
        | exact aL.none
        | skip
      · cases hi with
        | none=>exact aL.bd fun _=>aL.bd fun y=>h _
        | some d=>
          cases d<;>(try simp only)<;>first
            | exact aL.none
            | exact aL.bd fun y=>h _
      · refine qN fun o c=>aL.ite ?_ aL.none
        cases hi with
        | none=>exact aL.bd fun _=>aL.bd fun y=>h _
        | some d=>
          cases d<;>(try simp only)<;>first
            | exact aL.none
            | exact aL.bd fun y=>h _
theorem aKJ {t : Nat} {d : DV} {s : St} {k : DV→Option R} {k' : Nat→DV→Option R} (h : ∀ v,aL (k v) (fun n=>k' n v)) : aL (lenK X t d s k) (fun n=>lenK X t d s (k' n)):=by
  unfold lenK
  cases (X.T.at t).d<;>cases d<;>(try simp only)<;>first
    | exact aL.none
    | exact h _
    | exact aL.bd fun y=>h _
    | exact qN fun _ c=>aL.bd fun y=>h _
theorem aAE : ∀ {ds : List DV} {k : List PV→Option R} {k' : Nat→List PV→Option R},(∀ v,aL (k v) (fun n=>k' n v))→aL (eqK.trees ds k) (fun n=>eqK.trees ds (k' n))
  | [],_,_,h=>h _
  | d::ds,k,k',h=>by
    cases d<;>simp only [eqK.trees]<;>first
      | exact aL.none
      | exact aAE fun vs=>h _
theorem aKK {op : BinOp} {x : DV} {k : DV→Option R} {k' : Nat→DV→Option R} (h : ∀ v,aL (k v) (fun n=>k' n v)) : aL (nilK op x k) (fun n=>nilK op x (k' n)):=by
  unfold nilK
  cases op<;>cases x<;>(try simp only)<;>first
    | exact aL.none
    | exact aL.bd fun v=>h _
theorem aKL {op : BinOp} {t : Nat} {x y : DV} {k : DV→Option R} {k' : Nat→DV→Option R} (h : ∀ v,aL (k v) (fun n=>k' n v)) : aL (binK X op t x y k) (fun n=>binK X op t x y (k' n)):=by
  unfold binK
  cases (X.T.at t).d<;>(try simp only)<;>first
    | exact aL.none
    | skip
  · cases x<;>cases y<;>(try simp only)<;>first
      | exact aL.none
      | exact aL.bd fun v=>h _
  · cases x<;>cases y<;>(try simp only)<;>first
      | exact aL.none
      | exact aL.bd fun v=>h _
  · cases x<;>cases y<;>(try simp only)<;>first
      | exact aL.none
      | exact aL.bd fun v=>h _
  · cases x<;>cases y<;>(try simp only)<;>first
      | exact aL.none
      | exact aL.bd fun v=>h _
      | skip
    rename_i v
    cases v<;>cases op<;>(try simp only)<;>first
      | exact aL.none
      | exact h _
  · cases y<;>(try simp only)<;>first
      | exact aL.none
      | exact aKK h
  · unfold eqK
    cases eqKinds X 10 t with
    | none=>exact aL.none
    | some qs=>exact lS fun as_=>lS fun bs=>aAE fun as_=>aAE fun bs=>aL.bd fun v=>h _
theorem yY {d : DV} {s : St} {k : PV→Option R} {k' : Nat→PV→Option R} (h : ∀ v,aL (k v) (fun n=>k' n v)) : aL (srcK d s k) (fun n=>srcK d s (k' n)):=by
  cases d<;>simp only [srcK]<;>first
    | exact aL.none
    | exact h _
    | exact qN fun o c=>aL.ite (h _) aL.none
theorem aJq {a b : Nat} {x : DV} {s : St} {k : DV→Option R} {k' : Nat→DV→Option R} (h : ∀ v,aL (k v) (fun n=>k' n v)) : aL (convK X a b x s k) (fun n=>convK X a b x s (k' n)):=by
  unfold convK
  cases (X.T.at a).d<;>cases (X.T.at b).d<;>(try simp only)<;>first
    | exact aL.none
    | skip
  · cases x<;>(try simp only)<;>first
      | exact aL.none
      | exact aL.bd fun v=>h _
  · cases x<;>(try simp only)<;>first
      | exact aL.none
      | exact aL.bd fun v=>h _
  · rename_i e
    cases x<;>(try simp only)<;>first
      | exact aL.none
      | skip
    cases (X.T.at e).d<;>(try simp only)<;>first
      | exact aL.none
      | skip
    rename_i kk
    cases kk<;>(try simp only)<;>first
      | exact aL.none
      | exact aL.bd fun v=>h _
  · rename_i e
    cases (X.T.at e).d<;>(try simp only)<;>first
      | exact aL.none
      | skip
    rename_i kk
    cases kk<;>(try simp only)<;>first
      | exact aL.none
      | exact yY fun c=>aL.bd fun y=>h _
theorem aEW {o : OTy} {d : DV} {s : St} {k : PV→St→Option R} {k' : Nat→PV→St→Option R} (h : ∀ v s,aL (k v s) (fun n=>k' n v s)) : aL (appendedK o d s k) (fun n=>appendedK o d s (k' n)):=by
  unfold appendedK
  exact aL.ite (yY fun y=>h _ _) (sF h)
theorem aDx {o : OTy} {c : PV} {q : Option (PV × PV)} {k : PV→Option R} {k' : Nat→PV→Option R} (h : ∀ v,aL (k v) (fun n=>k' n v)) : aL (pieceK o c q k) (fun n=>pieceK o c q (k' n)):=by
  cases q with
  | none=>exact h _
  | some p=>exact aL.bd h
theorem aIp {l : Nat} {path : dR} {q : Option (PV × PV)} {s : St} {k : DV→St→Option R} {k' : Nat→DV→St→Option R} (h : ∀ d s,aL (k d s) (fun n=>k' n d s)) : aL (leaveK l path q s k) (fun n=>leaveK l path q s (k' n)):=by
  unfold leaveK
  cases s.list l with
  | none=>exact aL.none
  | some w=>exact iR fun o c=>aL.ite (aDx fun c1=>tX fun c'=>h _ _) aL.none
theorem aHh {t : Nat} {a v : DV} {e : Env} {s : St} {k : Env→St→Option R} {k' : Nat→Env→St→Option R} (h : ∀ e s,aL (k e s) (fun n=>k' n e s)) : aL (storeLK X t a v e s k) (fun n=>storeLK X t a v e s (k' n)):=by
  unfold storeLK
  split
  · exact aIp fun _ _=>aDv fun _ _=>aL.ite (h _ _) aL.none
  · exact aDv h
theorem aGB {d : DV} {te : Nat} {e : Env} {s : St} {l : Nat} {path : dR} {q : Option (PV × PV)} {k : DV→Env→St→Option R} {k' : Nat→DV→Env→St→Option R} (h : ∀ v e s,aL (k v e s) (fun n=>k' n v e s)) : aL (appendK.nest X d te e s k l path q) (fun n=>appendK.nest X d te e s (k' n) l path q):=by
  unfold appendK.nest
  cases s.list l with
  | none=>exact aL.none
  | some w=>
    exact iR fun o c=>aL.ite (yY fun y=>aDx fun c=>tX fun c'=>aL.bd fun c2=>h _ _ _) aL.none
theorem aHi {base d : DV} {te : Nat} {e : Env} {s : St} {k : DV→Env→St→Option R} {k' : Nat→DV→Env→St→Option R} (h : ∀ v e s,aL (k v e s) (fun n=>k' n v e s)) : aL (appendK X base d te e s k) (fun n=>appendK X base d te e s (k' n)):=by
  have plain : ∀ (q : Option OTy) (base : DV),aL (match q with
      | some o=>if fits X o te then appendedK o d s fun y s=>sinkAs o s base fun c s=>bd (PV.cat o.s o.e o.g c y) fun c'=>k (.ref s.nl []) e (s.addList ⟨o,c'⟩) else none
      | none=>none) (fun n=>match q with
      | some o=>if fits X o te then appendedK o d s fun y s=>sinkAs o s base fun c s=>bd (PV.cat o.s o.e o.g c y) fun c'=>k' n (.ref s.nl []) e (s.addList ⟨o,c'⟩) else none
      | none=>none):=by
    intro q base
    cases q with
    | none=>exact aL.none
    | some o=>exact aL.ite (aEW fun y s=>sF fun c s=>aL.bd fun c'=>h _ _ _) aL.none
  cases base with
  | ref l path=>
    cases path with
    | nil=>exact plain (baseTy X te s (.ref l [])) (.ref l [])
    | cons p r=>exact aGB h
  | sref l path lo hi=>
    cases path with
    | nil=>exact plain (baseTy X te s (.sref l [] lo hi)) (.sref l [] lo hi)
    | cons p r=>exact aGB h
  | p v=>exact plain (baseTy X te s (.p v)) (.p v)
  | nils=>exact plain (baseTy X te s .nils) .nils
  | agg cs=>exact plain (baseTy X te s (.agg cs)) (.agg cs)
  | tup cs=>exact plain (baseTy X te s (.tup cs)) (.tup cs)
  | fn f cs=>exact plain (baseTy X te s (.fn f cs)) (.fn f cs)
  | ptr b off=>exact plain (baseTy X te s (.ptr b off)) (.ptr b off)
  | bsl b n=>exact plain (baseTy X te s (.bsl b n)) (.bsl b n)
  | eptr l path i off=>exact plain (baseTy X te s (.eptr l path i off)) (.eptr l path i off)
  | fptr x s' g off=>exact plain (baseTy X te s (.fptr x s' g off)) (.fptr x s' g off)
  | bptr c off=>exact plain (baseTy X te s (.bptr c off)) (.bptr c off)
  | gptr l path i off=>exact plain (baseTy X te s (.gptr l path i off)) (.gptr l path i off)
  | nilq c neg=>exact plain (baseTy X te s (.nilq c neg)) (.nilq c neg)
  | dead=>exact plain (baseTy X te s .dead) .dead
theorem aGC {d : DV} {e : Env} {s : St} {k : Env→St→Option R} {k' : Nat→Env→St→Option R} (h : ∀ e s,aL (k e s) (fun n=>k' n e s)) : aL (frz1 d e s k) (fun n=>frz1 d e s (k' n)):=by
  unfold frz1
  split
  · split
    · exact h _ _
    · exact h _ _
  · exact h _ _
theorem tY : ∀ {fs : List (Nat × Option Nat)} {e : Env} {s : St} {k : Env→St→Option R} {k' : Nat→Env→St→Option R},(∀ e s,aL (k e s) (fun n=>k' n e s))→aL (frzK fs e s k) (fun n=>frzK fs e s (k' n))
  | [],_,_,_,_,h=>h _ _
  | (t,none)::r,e,s,k,k',h=>aGC fun e s=>tY h
  | (t,some j)::r,e,s,k,k',h=>by
    unfold frzK
    generalize e.get t=d0
    cases d0<;>(try simp only)<;>first
      | exact tY h
      | skip
    rename_i b off
    cases s.box b with
    | none=>exact tY h
    | some cs=>exact aGC fun e s=>tY h
theorem aDy {te : Nat} {src : DV} {s : St} {l : Nat} {w : Own} {lo hi : PV} {k : DV→St→Option R} {k' : Nat→DV→St→Option R} (h : ∀ v s,aL (k v s) (fun n=>k' n v s)) : aL (copyK.go X te src s k l w lo hi) (fun n=>copyK.go X te src s (k' n) l w lo hi):=by
  unfold copyK.go
  exact aL.ite (yY fun y=>aL.bd fun n=>aL.bd fun c=>h _ _) aL.none
theorem aJr {te : Nat} {dst src : DV} {s : St} {k : DV→St→Option R} {k' : Nat→DV→St→Option R} (h : ∀ v s,aL (k v s) (fun n=>k' n v s)) : aL (copyK X te dst src s k) (fun n=>copyK X te dst src s (k' n)):=by
  unfold copyK
  cases dst<;>(try simp only)<;>first
    | exact aL.none
    | skip
  · rename_i l path
    cases path with
    | cons=>exact aL.none
    | nil=>
      dsimp only
      cases s.list l with
      | none=>exact aL.none
      | some w=>exact aL.bd fun n=>aDy h
  · rename_i l path lo hi
    cases path with
    | cons=>exact aL.none
    | nil=>
      dsimp only
      cases s.list l with
      | none=>exact aL.none
      | some w=>exact aDy h
end
end Go.Proofs.YthkofpnllaapeaaGreatDoor
namespace Go.Proofs.YthkofpnllaapeaaGreatDoor
open Go
structure EvO (O : Orc) (O' : Nat→Orc) : Prop where
  L : ∀ todo e s,aL (O.L todo e s) (fun n=>(O' n).L todo e s)
  C : ∀ g args,aL (O.C g args) (fun n=>(O' n).C g args)
  S : ∀ g args s,aL (O.S g args s) (fun n=>(O' n).S g args s)
section
variable {X : Cx} {O : Orc} {O' : Nat → Orc}
theorem vU {l : R} : ∀ {cs : List DV} {a : Option R} {a' : Nat→Option R},aL a a'→aL (guardCells l cs a) (fun n=>guardCells l cs (a' n))
  | [],_,_,h=>h
  | d::cs,a,a',h=>by
    have ih:=vU (l:=l) (cs:=cs) h
    cases d with
    | ref=>simp only [guardCells];exact ih
    | p v=>
      cases v with
      | int=>simp only [guardCells];exact aL.flat ih
      | _=>simp only [guardCells];exact aL.none
    | _=>simp only [guardCells];exact aL.none
theorem xF {l : R} : ∀ {cs : List DV} {a : Option R} {a' : Nat→Option R},aL a a'→aL (guardAggs l cs a) (fun n=>guardAggs l cs (a' n))
  | [],_,_,h=>h
  | d::cs,a,a',h=>by
    have ih:=xF (l:=l) (cs:=cs) h
    cases d<;>(try simp only [guardAggs])<;>exact vU ih
theorem aFT {l : R} {d : DV} {a : Option R} {a' : Nat→Option R} (h : aL a a') : aL (guardRes l d a) (fun n=>guardRes l d (a' n)):=by
  cases d<;>(try simp only [guardRes])<;>exact xF h
theorem xG {l : R} : ∀ {cs : List (Option Own)} {a : Option R} {a' : Nat→Option R},aL a a'→aL (guardRows l cs a) (fun n=>guardRows l cs (a' n))
  | [],_,_,h=>h
  | none::_,_,_,_=>by simp only [guardRows];exact aL.none
  | some w::cs,a,a',h=>by
    simp only [guardRows]
    cases w.c<;>(try simp only)<;>first
      | exact aL.none
      | exact aL.own (xG h)
theorem aJs (hO : EvO O O') {f : Nat} {args : List DV} {s : St} {k : DV→St→Option R} {k' : Nat→DV→St→Option R} (h : ∀ v s,aL (k v s) (fun n=>k' n v s)) : aL (pureK O f args s k) (fun n=>pureK (O' n) f args s (k' n)):=by
  unfold pureK
  exact aL.ite (qY fun vs=>aL.bd2 (hO.C _ _) fun r=>aL.flat (h _ _)) (qY fun vs=>aL.bd2 (hO.C _ _) fun r=>h _ _)
theorem aJt (hO : EvO O O') {t : Tmpl} {f : Nat} {args : List DV} {s : St} {k : DV→St→Option R} {k' : Nat→DV→St→Option R} (h : ∀ v s,aL (k v s) (fun n=>k' n v s)) : aL (lentK O t f args s k) (fun n=>lentK (O' n) t f args s (k' n)):=by
  unfold lentK
  exact qY fun vs=>aL.bd2 (hO.S _ _ _) fun l=>aFT (xG (h _ _))
theorem aJu (hO : EvO O O') {ft : Foot} {n0 : Nat} {t : Tmpl} {f : Nat} {args : List DV} {s : St} {k : DV→St→List Nat→Option R} {k' : Nat→DV→St→List Nat→Option R} (h : ∀ v s l,aL (k v s l) (fun n=>k' n v s l)) : aL (liveK O ft n0 t f args s k) (fun n=>liveK (O' n) ft n0 t f args s (k' n)):=by
  unfold liveK
  exact aL.ite (aL.bd2 (hO.S _ _ _) fun l=>h _ _ _) aL.none
theorem aJv (hO : EvO O O') {f : Nat} {args : List DV} {ts : List Nat} {e : Env} {s : St} {k : DV→Env→St→Option R} {k' : Nat→DV→Env→St→Option R} (h : ∀ v e s,aL (k v e s) (fun n=>k' n v e s)) : aL (callK X O f args ts e s k) (fun n=>callK X (O' n) f args ts e s (k' n)):=by
  unfold callK
  cases X.mode f with
  | none=>exact aJs hO fun _ _=>h _ _ _
  | some t=>
    refine aL.ite (aJt hO fun _ _=>h _ _ _) ?_
    simp only [aAB]
    exact iS fun args s=>aJu hO fun _ _ _=>h _ _ _
theorem aEX (hO : EvO O O') {v : PV} {vs : List PV} : aL (PV.apply O.C v vs) (fun n=>PV.apply (O' n).C v vs):=by
  unfold PV.apply
  cases v<;>(try simp only)<;>first
    | exact aL.none
    | exact hO.C _ _
theorem aIq (hO : EvO O O') {d : DV} {args : List DV} {ts : List Nat} {e : Env} {s : St} {k : DV→Env→St→Option R} {k' : Nat→DV→Env→St→Option R} (h : ∀ v e s,aL (k v e s) (fun n=>k' n v e s)) : aL (applyK X O d args ts e s k) (fun n=>applyK X (O' n) d args ts e s (k' n)):=by
  cases d<;>(try simp only [applyK])<;>first
    | exact aL.none
    | exact aJv hO h
    | exact aL.ite (qY fun vs=>aL.bd2 (aEX hO) fun r=>aL.flat (h _ _ _)) (qY fun vs=>aL.bd2 (aEX hO) fun r=>h _ _ _)
theorem aFU {b : Builtin} {ts : List Nat} {args : List DV} {e : Env} {s : St} {k : DV→Env→St→Option R} {k' : Nat→DV→Env→St→Option R} (h : ∀ v e s,aL (k v e s) (fun n=>k' n v e s)) : aL (builtinK X b ts args e s k) (fun n=>builtinK X b ts args e s (k' n)):=by
  unfold builtinK
  split
  · exact aKJ fun n=>h _ _ _
  · rename_i t u a d
    cases elemOf X t with
    | none=>exact aL.none
    | some te=>exact aL.ite (aHi h) aL.none
  · rename_i t u a d
    cases elemOf X t with
    | none=>exact aL.none
    | some te=>exact aJr fun d s=>h _ _ _
  · exact aL.bd fun c=>h _ _ _
  · exact aL.bd fun c=>h _ _ _
  · exact aL.none
theorem aCH (hO : EvO O O') {o : Oper} {e : Env} {s : St} {k : Kont} {k' : Nat→Kont} (h : ∀ e s,aL (k e s) (fun n=>k' n e s)) : aL (exec X O o e s k) (fun n=>exec X (O' n) o e s (k' n)):=by
  obtain ⟨dst,op,type,pos,after,guard⟩:=o
  cases op<;>simp only [exec]<;>try exact aL.none
  case move=>exact uP fun _ _=>h _ _
  case assign=>exact uP fun _ _=>h _ _
  case pick=>exact aJo fun _ _=>h _ _
  case alloc=>exact aIl fun _ _=>h _ _
  case box=>exact aKI fun _ _=>h _ _
  case build=>exact aHf fun _=>h _ _
  case buildSlice=>exact aCG fun _ _=>h _ _
  case makeSlice=>exact aDF fun _ _=>h _ _
  case load=>exact aEV fun _=>aJn fun _=>h _ _
  case store=>exact aEV fun _=>aHh fun _ _=>h _ _
  case nilCheck=>exact aEV fun _=>aEU fun _=>h _ _
  case binOp=>exact aKL fun _=>h _ _
  case unOp=>exact aJp fun _=>h _ _
  case convert=>exact aJq fun _=>h _ _
  case makeFunc fn first caps=>
    cases fn<;>(try simp only)<;>first
      | exact aL.none
      | exact aL.ite (h _ _) aL.none
  case slice t x lo hi mx=>
    cases mx with
    | none=>exact aIo fun _=>h _ _
    | some _=>exact aHg fun _ _=>h _ _
  case fieldAddr=>exact aDG fun _=>h _ _
  case field=>exact aIn fun _=>h _ _
  case indexAddr=>exact aDH fun _=>h _ _
  case index=>exact aIm fun _=>h _ _
  case extract=>exact aFS fun _=>h _ _
  case call c=>
    cases c.callee with
    | value f=>exact aIq hO fun _ _ _=>h _ _
    | builtin b=>exact aFU fun _ _ _=>h _ _
    | invoke _ _=>exact aL.none
theorem gA (hO : EvO O O') {ops : Array Oper} {draw : Bool} : ∀ {r : List Oper} {i : Nat} {acc : List (Nat × Foot)} {e : Env} {s : St} {k : Kont} {k' : Nat→Kont},(∀ e s,aL (k e s) (fun n=>k' n e s))→aL (execOps X O ops draw i acc r e s k) (fun n=>execOps X (O' n) ops draw i acc r e s (k' n))
  | [],i,acc,e,s,k,k',h=>by
    unfold execOps
    exact aL.ite aL.none (h _ _)
  | o::r,i,acc,e,s,k,k',h=>by
    unfold execOps
    simp only [stf,stp]
    cases o.guard with
    | none=>exact aCH hO fun e s'=>aL.ite (gA hO h) aL.none
    | some p=>
      obtain ⟨j,want⟩:=p
      simp only
      cases guardDst ops.toList j with
      | none=>exact aL.none
      | some t=>
        simp only
        generalize e.get t=d0
        have hskip:=gA (ops:=ops) (draw:=draw) (r:=r) (i:=i+1) (acc:=if draw then (i,Foot.none)::acc else []) (e:=put o.dst (.tup []) e) (s:={ s with nb:=s.base+16*i,nl:=s.base+16*i}) hO h
        cases d0<;>(try simp only)<;>first
          | exact aL.none
          | (rename_i cs;cases cs with
             | nil=>exact hskip
             | cons=>exact aL.none)
          | exact aL.pvite (aL.ite (aCH hO fun e s'=>aL.ite (gA hO h) aL.none) (gA hO h)) (aL.ite (gA hO h) (aCH hO fun e s'=>aL.ite (gA hO h) aL.none))
theorem yZ (hO : EvO O O') : ∀ (m : Nat) (first : Bool) (todo : List Item) (e : Env) (s : St),aL (eval X O m first todo e s) (fun n=>eval X (O' n) m first todo e s)
  | 0,_,_,_,_=>by simp only [eval];exact aL.none
  | m+1,first,todo,e,s=>by
    have ih:=yZ hO m
    cases todo with
    | nil=>simp only [eval];exact aL.rfl _
    | cons x k=>
    cases x with
    | inBlock id=>simp only [eval];exact ih _ _ _ _
    | inScope c=>simp only [eval];exact ih _ _ _ _
    | inLoop c=>simp only [eval];exact ih _ _ _ _
    | code c=>
      cases c<;>simp only [eval]<;>first
        | exact aL.none
        | exact aL.rfl _
        | exact ih _ _ _ _
        | skip
      case exit id=>
        cases exitTo id k with
        | none=>exact aL.none
        | some k'=>exact ih _ _ _ _
      case goto l=>
        cases gotoIn l k with
        | none=>exact aL.none
        | some k'=>exact ih _ _ _ _
      case cond c a b=>
        generalize ev X e c=d0
        cases d0<;>(try simp only)<;>first
          | exact aL.none
          | exact aL.nilT (ih _ _ _ _) (ih _ _ _ _)
          | skip
        cases c<;>(try simp only)<;>exact aL.pvite (ih _ _ _ _) (ih _ _ _ _)
      case region id ops draw=>
        refine tY fun e s=>?_
        cases first with
        | true=>exact gA hO fun e s=>ih _ _ _ _
        | false=>
          cases X.cut id with
          | none=>exact gA hO fun e s=>ih _ _ _ _
          | some keep=>exact hO.L _ _ _
    | _=>simp only [eval];exact aL.none
end
section
variable (P : Program) (T : Tab) (H : Hints)
noncomputable def rX (f nb nl : Nat) (out : Option Tmpl) (todo : List Item) (e : Env) (s : St) : Option R:=
  open Classical in if h : ∃ r,∃ n,runN P T H n f nb nl out todo e s=some r then some h.choose else none
end
section
variable {P : Program} {T : Tab} {H : Hints}
theorem aL.le {β : Type} {a b : Option β} (h : ∀ r,a=some r→b=some r) : aL a (fun _=>b):=fun r hr=>⟨0,fun _ _=>h r hr⟩
theorem aL.of {β : Type} {a b : Option β} (h : aL a (fun _=>b)) : ∀ r,a=some r→b=some r:=fun r hr=>let ⟨N,hN⟩:=h r hr;hN N (Nat.le_refl _)
theorem aEY {run : Nat→Nat→Nat→Option Tmpl→List Item→Env→St→Option R} {run' : Nat→Nat→Nat→Nat→Option Tmpl→List Item→Env→St→Option R}
    (h : ∀ f nb nl out todo e s,aL (run f nb nl out todo e s) (fun n=>run' n f nb nl out todo e s)) (f nb nl : Nat) (out : Option Tmpl) : EvO (orcOf P H run f nb nl out) (fun n=>orcOf P H (run' n) f nb nl out) where
  L:=fun todo e s=>h _ _ _ _ _ _ _
  C:=fun g args=>by
    simp only [orcOf]
    cases H.prim g with
    | none=>exact h _ _ _ _ _ _ _
    | some p=>exact aL.rfl _
  S:=fun g args s=>by
    simp only [orcOf]
    cases H.mode g with
    | none=>exact aL.none
    | some t=>cases H.primS g with
      | none=>exact h _ _ _ _ _ _ _
      | some p=>exact aL.rfl _
theorem aGD : ∀ (n f nb nl : Nat) (out : Option Tmpl) (todo : List Item) (e : Env) (s : St) (r : R),runN P T H n f nb nl out todo e s=some r→runN P T H (n+1) f nb nl out todo e s=some r
  | 0,_,_,_,_,_,_,_,_,h=>by simp [runN] at h
  | n+1,f,nb,nl,out,todo,e,s,r,h=>by
    have ih:=aGD n
    unfold runN at h ⊢
    exact (yZ (aEY (run':=fun _=>runN P T H (n+1)) (fun f nb nl out todo e s=>aL.le (ih f nb nl out todo e s)) f nb nl out) evalFuel true todo e s).of r h
theorem aHj {n n' f nb nl : Nat} {out : Option Tmpl} {todo : List Item} {e : Env} {s : St} {r : R} (h : runN P T H n f nb nl out todo e s=some r) (hn : n≤n') : runN P T H n' f nb nl out todo e s=some r:=by
  induction hn with
  | refl=>exact h
  | step _ ih=>exact aGD _ _ _ _ _ _ _ _ _ ih
theorem aJ2 {n f nb nl : Nat} {out : Option Tmpl} {todo : List Item} {e : Env} {s : St} {r : R} (h : runN P T H n f nb nl out todo e s=some r) : rX P T H f nb nl out todo e s=some r:=by
  unfold rX
  have hex : ∃ r,∃ n,runN P T H n f nb nl out todo e s=some r:=⟨r,n,h⟩
  rw [dif_pos hex]
  obtain ⟨n',h'⟩:=hex.choose_spec
  have h1:=aHj h (Nat.le_max_left n n')
  have h2:=aHj h' (Nat.le_max_right n n')
  rw [h1] at h2
  exact h2.symm
theorem zA {f nb nl : Nat} {out : Option Tmpl} {todo : List Item} {e : Env} {s : St} {r : R} (h : rX P T H f nb nl out todo e s=some r) : ∃ n,runN P T H n f nb nl out todo e s=some r:=by
  unfold rX at h
  split at h
  · rename_i hex
    cases h
    exact hex.choose_spec
  · cases h
theorem aKM (f nb nl : Nat) (out : Option Tmpl) (todo : List Item) (e : Env) (s : St) : aL (rX P T H f nb nl out todo e s) (fun n=>runN P T H n f nb nl out todo e s):=by
  intro r hr
  obtain ⟨n,hn⟩:=zA hr
  exact ⟨n,fun n' h'=>aHj hn h'⟩
theorem aJ3 (f nb nl : Nat) (out : Option Tmpl) (todo : List Item) (e : Env) (s : St) :
    rX P T H f nb nl out todo e s=eval (cxOf P T H f nb nl out) (orcOf P H (rX P T H) f nb nl out) evalFuel true todo e s:=by
  cases h : eval (cxOf P T H f nb nl out) (orcOf P H (rX P T H) f nb nl out) evalFuel true todo e s with
  | some r=>
    obtain ⟨N,hN⟩:=yZ (aEY (run':=fun n=>runN P T H n) aKM f nb nl out) evalFuel true todo e s r h
    refine aJ2 (n:=N+1) ?_
    unfold runN
    exact hN N (Nat.le_refl _)
  | none=>
    cases h' : rX P T H f nb nl out todo e s with
    | none=>rfl
    | some r=>
      exfalso
      obtain ⟨n,hn⟩:=zA h'
      cases n with
      | zero=>simp [runN] at hn
      | succ n=>
        unfold runN at hn
        have:=(yZ (aEY (run':=fun _=>rX P T H) (fun f nb nl out todo e s=>aL.le (fun r h=>aJ2 h)) f nb nl out) evalFuel true todo e s).of r hn
        rw [h] at this
        cases this
noncomputable def aLx (P : Program) (T : Tab) (H : Hints) (f : Nat) (args : List PV) : Option R:=(orcOf P H (rX P T H) 0 0 0 none).C f args
noncomputable def aM8 (P : Program) (T : Tab) (H : Hints) (f : Nat) (args : List DV) (s : St) : Option R:=(orcOf P H (rX P T H) 0 0 0 none).S f args s
theorem aMq (hy : Hyp P T H) : aJ1 P (rX P T H):=by
  intro f nb nl out todo e s r fn h hfn hok
  obtain ⟨n,hn⟩:=zA h
  exact aGA hy n f nb nl out todo e s r fn hn hfn hok
theorem aMr : aLv P (rX P T H):=by
  intro f nb nl out e s r h
  obtain ⟨n,hn⟩:=zA h
  exact aAC hn
theorem aIr (hy : Hyp P T H) {f : Nat} {args : List PV} {r : R} (h : aLx P T H f args=some r) {w : World} {aP : Array Value} {Z : Nat→Prop} (hz : ZOk w Z) (hl : args.length=aP.size)
    (hr : ∀ (i : Nat) x v,args[i]? = some x→aP[i]? = some v→eN w Z x v) : Calls P f aP w (fun e w'=>∃ v,e = .returned v∧∃ Z',aBL w w' Z Z'∧eN w' Z' (hd r) v):=
  (aIi hy (aMq hy) aMr 0 0 0 none f args r h).2 w Z aP hz hl hr
theorem aJ4 (f nb nl : Nat) (out : Option Tmpl) (todo : List Item) (e : Env) (s : St) (r : Option R) (h : eval (cxOf P T H f nb nl out) (orcOf P H (rX P T H) f nb nl out) evalFuel true todo e s=r) : rX P T H f nb nl out todo e s=r:=
  (aJ3 f nb nl out todo e s).trans h
theorem aLy (f : Nat) (hp : H.prim f=none) (args : List PV) (r : Option R) (h : eval (cxOf P T H f 0 0 none) (orcOf P H (rX P T H) f 0 0 none) evalFuel true (startOf P f) (argEnv 0 (args.map .p)) ⟨[],[],0,0,0⟩=r) : aLx P T H f args=r:=by
  show (match H.prim f with | some h=>h args | none=>rX P T H f 0 0 none (startOf P f) (argEnv 0 (args.map .p)) ⟨[],[],0,0,0⟩)=r
  rw [hp]
  exact aJ4 _ _ _ _ _ _ _ _ h
theorem aLz (f : Nat) (hp : H.primS f=none) (args : List DV) (s : St) (r : Option R) (h : (match H.mode f with | some t=>eval (cxOf P T H f s.boxes.length (if t.keep then s.lists.length else 0) (some (t.fit s))) (orcOf P H (rX P T H) f s.boxes.length (if t.keep then s.lists.length else 0) (some (t.fit s))) evalFuel true (startOf P f) (argEnv 0 args) s | none=>none)=r) : aM8 P T H f args s=r:=by
  show (match H.mode f with | some t=>(match H.primS f with | some h=>h args s | none=>rX P T H f s.boxes.length (if t.keep then s.lists.length else 0) (some (t.fit s)) (startOf P f) (argEnv 0 args) s) | none=>none)=r
  rw [← h,hp]
  cases H.mode f with
  | none=>rfl
  | some t=>exact aJ3 _ _ _ _ _ _ _
end
end Go.Proofs.YthkofpnllaapeaaGreatDoor
namespace Go.Proofs.YthkofpnllaapeaaGreatDoor
open Go
noncomputable def cP (f nb nl : Nat) (out : Option Tmpl) (todo : List Item) (e : Env) (s : St) : Option R:=rX Tryz.prog T aY f nb nl out todo e s
noncomputable def aK (f : Nat) (args : List PV) : Option R:=aLx Tryz.prog T aY f args
noncomputable def bP (f : Nat) (args : List DV) (s : St) : Option R:=aM8 Tryz.prog T aY f args s
noncomputable def orc (f nb nl : Nat) (out : Option Tmpl) : Orc:=orcOf Tryz.prog aY (rX Tryz.prog T aY) f nb nl out
theorem aX (f nb nl : Nat) (out : Option Tmpl) (todo : List Item) (e : Env) (s : St) (r : Option R) (h : eval (cxOf Tryz.prog T aY f nb nl out) (orc f nb nl out) evalFuel true todo e s=r) : cP f nb nl out todo e s=r:=aJ4 f nb nl out todo e s r h
theorem aM (f : Nat) (args : List PV) (r : Option R) (h : (match aY.prim f with | some p=>p args | none=>eval (cxOf Tryz.prog T aY f 0 0 none) (orc f 0 0 none) evalFuel true (startOf Tryz.prog f) (argEnv 0 (args.map .p)) ⟨[],[],0,0,0⟩)=r) : aK f args=r:=by
  cases hp : aY.prim f with
  | none=>rw [hp] at h;exact aLy f hp args r h
  | some p=>rw [hp] at h;rw [← h];show (match aY.prim f with | some h=>h args | none=>_)=_;rw [hp]
theorem bM (f : Nat) (args : List DV) (s : St) (r : Option R) (h : (match aY.mode f with | some t=>(match aY.primS f with | some p=>p args s | none=>eval (cxOf Tryz.prog T aY f s.boxes.length (if t.keep then s.lists.length else 0) (some (t.fit s))) (orc f s.boxes.length (if t.keep then s.lists.length else 0) (some (t.fit s))) evalFuel true (startOf Tryz.prog f) (argEnv 0 args) s) | none=>none)=r) : bP f args s=r:=by
  cases hp : aY.primS f with
  | none=>simp only [hp] at h;exact aLz f hp args s r h
  | some p=>
    simp only [hp] at h
    rw [← h]
    show (match aY.mode f with | some t=>(match aY.primS f with | some h=>h args s | none=>_) | none=>none)=_
    rw [hp]
set_option maxRecDepth 100000 in
theorem aJ5 : (Tryz.prog.funcs.toList.all fun f=>match f.body with | some c=>codeOk f.ntmps c&&(f.name != "runtime.NumGoroutine") | none=>true)=true:=by kernel_rfl
theorem aMs : Tryz.prog.follows .mixedOrders=true:=by kernel_rfl
theorem aN3 : (aJT.all fun p=>p.2.wf)=true:=by kernel_rfl
end Go.Proofs.YthkofpnllaapeaaGreatDoor
namespace Go.Proofs.YthkofpnllaapeaaGreatDoor
open Go
theorem aLA {m m' : aR} {s s' : St} {l : Nat} {scr : DV→DV} {w : Own} {v : Value} {t : Tmpl} (hf : eW m s s.base)
    (G : bK m m' (s.at s.base) s' (fun _=>True) (fun _=>True) (fun b=>b∈([] : List Nat)∨true=true) (fun l=>l∈([] : List Nat)∨true=true) s.base scr) (hl : s'.list l=some w) (hv : m'.rd (.ref l []) v)
    (ht : t.res = .ref 0 []∧t.boxes = []∧t.lists = [some ⟨w.o,.int .i64 0⟩]) : qW m 0 0 (some t) [w.c] v m'.w:=by
  have hf':=(bK.full (f:=⟨[],[],[],[],true,true⟩) hf G).1
  have hb : ∀ b∈([] : List Nat),m'.s.box b=s'.box b:=fun b _=>hf'.box b
  have hl' : ∀ x∈[l],m'.s.list x=s'.list x:=fun x _=>hf'.list x
  have pf:=yW (a:=⟨[],[l]⟩) hf'.inv hb hl' List.nodup_nil (by simp)
  have fw:=aEG (a:=⟨[],[l]⟩) hf' 0 0 (fun b h=>by omega) (fun b h=>by omega)
  refine ⟨m'.pick [] [l] (s'.pick ⟨[],[l]⟩),rfl,pf.inv,(G.step.fwd hf.inv 0 0).trans fw,?_⟩
  refine ⟨.ref 0 [],s',⟨[],[l]⟩,?_,?_,pf,fun x hx=>hx.1,fun x hx=>hx.1⟩
  · unfold Tmpl.read
    rw [ht.1,ht.2.1,ht.2.2]
    have e1 : (s'.pick ⟨[],[l]⟩).boxes = []:=rfl
    have e2 : (s'.pick ⟨[],[l]⟩).lists = [(0,some w)]:=by
      show [(0,s'.list l)]=_
      rw [hl]
    rw [e1,e2]
    simp [readD,readB,readO,OTy.same_refl]
  · have:=aEF (a:=⟨[],[l]⟩) hl' deep hv
    have e : ren (idx · [] 0) (idx · [l] 0) deep (.ref l []) = .ref 0 []:=by
      simp [deep,ren,ren1,idx]
    rw [e] at this
    exact this
theorem aIs {P : Program} {ρ : Go.Shelf.Ren} (L : Lays8.n4 P ρ) {i0 : TypeInfo} {z : Value} (hi0 : P.info? (ρ.t 25)=some i0) (hz0 : i0.zero=some z) (hzs : z.cells.size=i0.size) (hs0 : 0<i0.size) {e : Nat} (hby : i0.bytes=e)
    {args : List DV} {s : St} {r : R} (h : qR e args s=some r) {m : aR} {aP : Array Value} (hf : eW m s s.base) (hl : args.length=aP.size) (hr : ∀ (i : Nat) d v,args[i]? = some d→aP[i]? = some v→m.rd d v)
    {t : Tmpl} {eb : Nat} {g : Bool} (ht : t.res = .ref 0 []∧t.boxes = []∧t.lists = [some ⟨.own i0.size eb g [],.int .i64 0⟩]) :
    Calls P (ρ.f 4) aP m.w (fun e w'=>∃ v,e = .returned v∧qW m 0 0 (some t) r v w'):=by
  unfold qR at h
  split at h
  rotate_left
  · cases h
  rename_i n _
  split at h
  rotate_left
  · cases h
  rename_i hc
  obtain ⟨hn,hbound,hlen⟩:=hc
  cases h
  obtain ⟨v0,v1,rfl⟩ : ∃ v0 v1,aP = #[v0,v1]:=by
    match aP,hl with
    | ⟨[a,b]⟩,_=>exact ⟨a,b,rfl⟩
    | ⟨[]⟩,h=>simp at h
    | ⟨[_]⟩,h=>simp at h
    | ⟨_::_::_::_⟩,h=>simp at h
  have h0:=hr 0 _ _ rfl rfl
  have h1:=hr 1 _ _ rfl rfl
  obtain rfl : v1 = .int .i64 n:=by
    cases h1 with
    | p _ _ h1=>cases h1;rfl
  obtain rfl : v0 = .slice none 0 0:=by cases h0;rfl
  obtain ⟨k,rfl⟩:=Int.eq_ofNat_of_zero_le hn
  simp only [Int.toNat_natCast] at hbound
  have sit:=hf.sit (Nat.le_refl s.base)
  have hlf : (OTy.own i0.size eb g []).isLeaf=false:=rfl
  have hmw : m.w.heap.size=m.w.heap.size:=rfl
  have fin : ∀ {w' : World} {v : Value} {F' : Nat→Prop},bY w' m.Z (.own i0.size eb g []) (.lst []) v F'→cH v→(∀ r,F' r→m.w.heap.size≤r)→(∀ r,r<m.w.heap.size→w'.heap[r]? = m.w.heap[r]?)→
      m.w.heap.size≤w'.heap.size→w'.os=m.w.os→w'.tape=m.w.tape→w'.output=m.w.output→qW m 0 0 (some t) [.lst []] v w':=by
    intro w' v F' hro' hcv hF' hw hsize hos htape hout
    have G2:=bK.addRow (B:=fun _=>True) (L:=fun _=>True) (fun b=>b∈([] : List Nat)∨true=true) (fun l=>l∈([] : List Nat)∨true=true) sit (show s.base<s.base+16 by omega) (own:=⟨.own i0.size eb g [],.lst []⟩) hlf hro' (fun r hr=>.inr (hF' r hr)) (fun r hr _=>hw r hr) hsize hos htape hout
    exact aLA (l:=s.base) hf G2 (w:=⟨.own i0.size eb g [],.lst []⟩) (by simp [St.list,St.addList,St.at,look]) (aR.addRow_rd hcv) ht
  by_cases hroom : 0+k≤0
  · refine (Any8.slices_Grow_room L none 0 0 k m.w (Nat.le_refl _) (by omega) (by omega) hroom).mono ?_
    rintro e w' ⟨rfl,rfl⟩
    exact ⟨_,rfl,fin (F':=fun _=>False) (.nil _ _ _ _ _ _ (fun _ h=>h)) trivial (fun _ h=>h.elim) (fun _ _=>rfl) (Nat.le_refl _) rfl rfl rfl⟩
  · refine (Any8.slices_Grow_grow L i0 z hi0 hz0 hs0 none 0 0 k [] m.w (Nat.le_refl _) (by omega) (by rw [hby,Nat.zero_add];exact hbound) (by omega) (by simp) (fun _=>rfl) (fun a h=>by cases h)).mono ?_
    rintro e w' ⟨rfl,rfl⟩
    refine ⟨_,rfl,?_⟩
    generalize hcp : grownCap m.w (0+k) 0 (ρ.t 25)=cp
    have hge : 0+k≤cp:=by rw [← hcp];exact grownCap_ge _ _ _ _
    generalize hcells : (([] : List Value).toArray++Builtin.zeroCells z.cells (0+k - 0)++Builtin.zeroCells z.cells (cp - (0+k)) : Array Value)=cells
    have hcsz : cp*i0.size≤cells.size:=by
      rw [← hcells]
      simp only [Array.size_append,List.size_toArray,List.length_nil,vS,hzs,← Nat.add_mul]
      rw [Nat.zero_add,← Nat.add_mul]
      exact Nat.mul_le_mul_right _ (by omega)
    have hnew : (m.w.drew.alloc (.cells cells (ρ.t 25))).heap[m.w.heap.size]? = some (.cells cells (ρ.t 25) (0,0)):=heap_alloc_new m.w.drew _
    have hro':=(Els.nil (w:=m.w.drew.alloc (.cells cells (ρ.t 25))) (Z:=m.Z) (.own i0.size eb g []) (fun _ _=>.nilFunc) (fun _ _ _=>False)).repO hlf hs0 (b:=m.w.heap.size) (off:=0) (cap:=cp) hnew (by rw [Nat.zero_add];exact hcsz) (by simp) (fun hzr=>by have:=hf.inv.zlt _ hzr;omega)
      (fun i j hi=>by simp at hi) (fun i j hi=>by simp at hi)
    refine fin hro' trivial (fun r hr=>?_) (fun r hr=>heap_alloc_old m.w.drew _ hr) (by simp) rfl rfl rfl
    rcases hr with rfl | ⟨i,j,hi,_⟩
    · exact Nat.le_refl _
    · simp at hi
theorem aIt {P : Program} {ρ : Go.Shelf.Ren} (L : LaysM.n171 P ρ) {args : List PV} {r : R} (h : wK args=some r) {w : World} {Z : Nat→Prop} {aP : Array Value} (htab : Lib.TabIs P w "internal/strconv.uint64pow10" .u64 Lib.pow10Tab) (hl : args.length=aP.size)
    (hr : ∀ (i : Nat) x v,args[i]? = some x→aP[i]? = some v→eN w Z x v) : Calls P (ρ.f 171) aP w (fun e w'=>∃ v,e = .returned v∧∃ Z',aBL w w' Z Z'∧eN w' Z' (hd r) v):=by
  unfold wK at h
  split at h
  rotate_left
  · cases h
  rename_i n
  split at h
  rotate_left
  · cases h
  rename_i hc
  cases h
  obtain ⟨v0,rfl⟩ : ∃ v0,aP = #[v0]:=by
    match aP,hl with
    | ⟨[a]⟩,_=>exact ⟨a,rfl⟩
    | ⟨[]⟩,h=>simp at h
    | ⟨_::_::_⟩,h=>simp at h
  obtain rfl : v0 = .int .i64 n:=by
    have:=hr 0 _ _ rfl rfl
    cases this;rfl
  refine (Any.strconv_Itoa L n hc.1 hc.2 w htab).mono ?_
  rintro e w' ⟨rfl,k,os,rfl⟩
  have e0 : (Sort.grow (w.drewN k) os).heap=w.heap++os:=rfl
  refine ⟨_,rfl,Z,⟨by rw [e0];simp,rfl,rfl,rfl,fun r hr=>?_,fun _ h=>h,fun _ h=>.inl h⟩,.str _⟩
  rw [e0,Array.getElem?_append_left hr]
end Go.Proofs.YthkofpnllaapeaaGreatDoor
namespace Go.Proofs.YthkofpnllaapeaaGreatDoor
open Go Go.Shelf
def Tryz.laysM171_ren : Go.Shelf.Ren:=⟨fun | 171=>224 | 243=>265 | 246=>285 | 283=>304 | 284=>305 | 285=>306 | 286=>307 | 129=>323 | 317=>322 | 318=>324 | 319=>325 | 320=>326 | 337=>335 | 338=>336 | n=>n,fun | 3=>3 | 9=>9 | 2=>2 | 4=>4 | 171=>328 | 0=>0 | 53=>314 | 37=>141 | 5=>5 | 173=>331 | 212=>337 | 51=>311 | 20=>20 | 213=>338 | 46=>202 | 232=>350 | 233=>351 | n=>n,fun | 17=>0 | 18=>2 | 19=>3 | n=>n⟩
theorem Tryz.laysM171 : Go.Proofs.LaysM.n171 Tryz.prog Tryz.laysM171_ren:={
  mixed:=by kernel_rfl
  f129:=Tryz.func323.trans (congrArg some (by kernel_rfl))
  f171:=Tryz.func224.trans (congrArg some (by kernel_rfl))
  f243:=Tryz.func265.trans (congrArg some (by kernel_rfl))
  f246:=Tryz.func285.trans (congrArg some (by kernel_rfl))
  f283:=Tryz.func304.trans (congrArg some (by kernel_rfl))
  f284:=Tryz.func305.trans (congrArg some (by kernel_rfl))
  f285:=Tryz.func306.trans (congrArg some (by kernel_rfl))
  f286:=Tryz.func307.trans (congrArg some (by kernel_rfl))
  f317:=Tryz.func322.trans (congrArg some (by kernel_rfl))
  f318:=Tryz.func324.trans (congrArg some (by kernel_rfl))
  f319:=Tryz.func325.trans (congrArg some (by kernel_rfl))
  f320:=Tryz.func326.trans (congrArg some (by kernel_rfl))
  f337:=Tryz.func335.trans (congrArg some (by kernel_rfl))
  f338:=Tryz.func336.trans (congrArg some (by kernel_rfl))
  t0:=Tryz.underlying0
  a0:=Tryz.isAgg0
  z0:=Tryz.sizeOf0
  v0:=Tryz.zeroValue0
  t2:=Tryz.underlying2
  a2:=Tryz.isAgg2
  z2:=Tryz.sizeOf2
  v2:=Tryz.zeroValue2
  t3:=Tryz.underlying3
  a3:=Tryz.isAgg3
  z3:=Tryz.sizeOf3
  v3:=Tryz.zeroValue3
  t4:=Tryz.underlying4
  a4:=Tryz.isAgg4
  z4:=Tryz.sizeOf4
  v4:=Tryz.zeroValue4
  t5:=Tryz.underlying5
  a5:=Tryz.isAgg5
  z5:=Tryz.sizeOf5
  v5:=Tryz.zeroValue5
  t9:=Tryz.underlying9
  a9:=Tryz.isAgg9
  z9:=Tryz.sizeOf9
  v9:=Tryz.zeroValue9
  t20:=Tryz.underlying20
  a20:=Tryz.isAgg20
  z20:=Tryz.sizeOf20
  v20:=Tryz.zeroValue20
  t37:=Tryz.underlying141
  a37:=Tryz.isAgg141
  z37:=Tryz.sizeOf141
  v37:=Tryz.zeroValue141
  t46:=Tryz.underlying202
  a46:=Tryz.isAgg202
  z46:=Tryz.sizeOf202
  v46:=Tryz.zeroValue202
  t51:=Tryz.underlying311
  a51:=Tryz.isAgg311
  z51:=Tryz.sizeOf311
  v51:=Tryz.zeroValue311
  t53:=Tryz.underlying314
  a53:=Tryz.isAgg314
  z53:=Tryz.sizeOf314
  v53:=Tryz.zeroValue314
  t171:=Tryz.underlying328
  a171:=Tryz.isAgg328
  z171:=Tryz.sizeOf328
  v171:=Tryz.zeroValue328
  t173:=Tryz.underlying331
  a173:=Tryz.isAgg331
  z173:=Tryz.sizeOf331
  v173:=Tryz.zeroValue331
  t212:=Tryz.underlying337
  a212:=Tryz.isAgg337
  z212:=Tryz.sizeOf337
  v212:=Tryz.zeroValue337
  t213:=Tryz.underlying338
  a213:=Tryz.isAgg338
  z213:=Tryz.sizeOf338
  t232:=Tryz.underlying350
  a232:=Tryz.isAgg350
  z232:=Tryz.sizeOf350
  v232:=Tryz.zeroValue350
  t233:=Tryz.underlying351
  a233:=Tryz.isAgg351
  z233:=Tryz.sizeOf351
  v233:=Tryz.zeroValue351
  g17:=by kernel_rfl
  g18:=by kernel_rfl
  g19:=by kernel_rfl
  i0:=by kernel_rfl
  i2:=by kernel_rfl
  i3:=by kernel_rfl
  i4:=by kernel_rfl
  i5:=by kernel_rfl
  i9:=by kernel_rfl
  i20:=by kernel_rfl
  i37:=by kernel_rfl
  i46:=by kernel_rfl
  i51:=by kernel_rfl
  i53:=by kernel_rfl
  i171:=by kernel_rfl
  i173:=by kernel_rfl
  i212:=by kernel_rfl
  i232:=by kernel_rfl
  i233:=by kernel_rfl
  m17:=by kernel_rfl
  m18:=by kernel_rfl
  m19:=by kernel_rfl}
def Tryz.lays8n4_ren : Go.Shelf.Ren:=⟨fun | 4=>250 | n=>n,fun | 22=>40 | 25=>32 | 3=>3 | 4=>4 | 9=>9 | 20=>20 | 0=>0 | n=>n,fun | n=>n⟩
theorem Tryz.lays8n4 : Go.Proofs.Lays8.n4 Tryz.prog Tryz.lays8n4_ren:={
  mixed:=by kernel_rfl
  f4:=⟨Tryz.f250.name,by decide,Tryz.func250.trans (congrArg some (by kernel_rfl))⟩
  t0:=Tryz.underlying0
  a0:=Tryz.isAgg0
  z0:=Tryz.sizeOf0
  v0:=Tryz.zeroValue0
  t3:=Tryz.underlying3
  a3:=Tryz.isAgg3
  z3:=Tryz.sizeOf3
  v3:=Tryz.zeroValue3
  t4:=Tryz.underlying4
  a4:=Tryz.isAgg4
  z4:=Tryz.sizeOf4
  v4:=Tryz.zeroValue4
  t9:=Tryz.underlying9
  a9:=Tryz.isAgg9
  z9:=Tryz.sizeOf9
  v9:=Tryz.zeroValue9
  t20:=Tryz.underlying20
  a20:=Tryz.isAgg20
  z20:=Tryz.sizeOf20
  v20:=Tryz.zeroValue20
  t22:=Tryz.underlying40
  a22:=Tryz.isAgg40
  z22:=Tryz.sizeOf40
  v22:=Tryz.zeroValue40}
end Go.Proofs.YthkofpnllaapeaaGreatDoor
namespace Go.Proofs.YthkofpnllaapeaaGreatDoor
open Go
theorem aLB {α : Type} {n : Nat} : ∀ {l : List (Nat × α)} {a : α},lk n l=some a→∃ p∈l,p.2=a
  | [],a,h=>by simp [lk] at h
  | (m,b)::r,a,h=>by
    unfold lk at h
    split at h
    · cases h;exact ⟨_,List.mem_cons_self,rfl⟩
    · obtain ⟨p,h1,h2⟩:=aLB h
      exact ⟨p,List.mem_cons_of_mem _ h1,h2⟩
theorem aJw {α : Type} {n : Nat} : ∀ {l : List (Nat × α)} {a : α},lk n l=some a→(n,a)∈l
  | [],a,h=>by simp [lk] at h
  | (m,b)::r,a,h=>by
    unfold lk at h
    split at h
    · rename_i hb
      cases h
      rw [bH hb]
      exact List.mem_cons_self
    · exact List.mem_cons_of_mem _ (aJw h)
theorem aDz {g : Nat} (h : ((Tryz.prog.funcs[g]?).bind (·.body)).isSome=true) : iL Tryz.prog g:=by
  cases hf : Tryz.prog.funcs[g]? with
  | none=>rw [hf] at h;cases h
  | some fn=>
    rw [hf] at h
    cases hb : fn.body with
    | none=>simp [hb] at h
    | some c=>
      have hc:=aJ5
      rw [List.all_eq_true] at hc
      have:=hc fn (by rw [← Array.getElem?_toList] at hf;exact List.mem_of_getElem? hf)
      rw [hb] at this
      simp only [Bool.and_eq_true,bne_iff_ne,ne_eq] at this
      exact ⟨fn,c,hf,hb,this.2⟩
set_option maxRecDepth 100000 in
theorem aNm {w : World} {Z : Nat→Prop} (h : aAs w Z) : Lib.TabIs Tryz.prog w "internal/strconv.uint64pow10" .u64 Lib.pow10Tab:=by
  obtain ⟨_,ty,fz,h⟩:=h
  unfold Lib.TabIs World.var?
  rw [show Tryz.prog.globalNamed "internal/strconv.uint64pow10" = some aLo by kernel_rfl]
  simp only [Option.bind_some,h]
set_option maxRecDepth 100000 in
theorem aNn : aCD Tryz.prog fun g args=>(aY.prim g).bind fun p=>p args:=by
  intro g args r h
  have h : ((aY.prim g).bind fun p=>p args)=some r:=h
  cases hp : aY.prim g with
  | none=>rw [hp] at h;cases h
  | some p=>
    rw [hp] at h
    have h : p args=some r:=h
    have hm:=aJw (show lk g aGT=some p from hp)
    simp only [aGT,List.mem_cons,List.not_mem_nil,or_false,Prod.mk.injEq] at hm
    obtain ⟨rfl,rfl⟩:=hm
    exact ⟨aDz (by kernel_rfl),fun w Z aP hz hl hr=>aIt Tryz.laysM171 h (aNm hz.glob) hl hr⟩
set_option maxRecDepth 100000 in
theorem aN4 : (Tryz.prog.info? (Tryz.lays8n4_ren.t 25)).map (fun i=>(i.size,i.bytes,i.zero.map (·.cells.size)))=some (3,32,some 3):=by kernel_rfl
set_option maxRecDepth 100000 in
theorem aMt : ∀ g h,aY.primS g=some h→∀ t args s l,aY.mode g=some t→h args s=some l→iL Tryz.prog g∧∀ (m : aR) (aP : Array Value),eW m s s.base→args.length=aP.size→
    (∀ (i : Nat) d v,args[i]? = some d→aP[i]? = some v→m.rd d v)→Calls Tryz.prog g aP m.w (fun e w'=>∃ v,e = .returned v∧qW m s.boxes.length (if t.keep then s.lists.length else 0) (some (t.fit s)) l v w'):=by
  intro g h hp t args s l ht h
  have hm:=aJw (show lk g aEj=some _ from hp)
  simp only [aEj,List.mem_cons,List.not_mem_nil,or_false,Prod.mk.injEq] at hm
  obtain ⟨rfl,rfl⟩:=hm
  refine ⟨aDz (by kernel_rfl),fun m aP hf hl hr=>?_⟩
  have htt : aY.mode 250=some ⟨false,false,.ref 0 [],[],[some ⟨.own 3 32 true [],.int .i64 0⟩],true⟩:=by kernel_rfl
  rw [htt] at ht
  cases ht
  have tg:=aN4
  cases hi : Tryz.prog.info? (Tryz.lays8n4_ren.t 25) with
  | none=>rw [hi] at tg;cases tg
  | some i0=>
    rw [hi] at tg
    simp only [Option.map_some,Option.some.injEq,Prod.mk.injEq] at tg
    cases hz : i0.zero with
    | none=>rw [hz] at tg;cases tg.2.2
    | some z=>
      rw [hz] at tg
      simp only [Option.map_some,Option.some.injEq] at tg
      have hb : s.boxes.length=0:=by
        have : ∀ a,qR 32 args s=some a→s.boxes = []:=fun a h=>by
          unfold qR at h
          split at h
          · assumption
          · cases h
        rw [this _ h];rfl
      rw [hb]
      exact aIs Tryz.lays8n4 hi hz (by omega) (by omega) tg.2.1 h hf hl hr (g:=true) (eb:=32) (t:=⟨false,false,.ref 0 [],[],[some ⟨.own 3 32 true [],.int .i64 0⟩],true⟩) ⟨rfl,rfl,by rw [tg.1]⟩
end Go.Proofs.YthkofpnllaapeaaGreatDoor
namespace Go.Proofs.YthkofpnllaapeaaGreatDoor
open Go
theorem aJ6 : ∀ (l : List Nat),(l.map fun t=>(Tryz.prog.info? t).bind (·.zero))=(l.map fun t=>some (zeroVal T t))→∀ t,mem t l=true→(Tryz.prog.info? t).bind (·.zero)=some (zeroVal T t)
  | [],_,t,h=>by simp [mem] at h
  | x::r,h,t,hm=>by
    simp only [List.map_cons,List.cons.injEq] at h
    unfold mem at hm
    split at hm
    · rename_i hx
      rw [bH hx];exact h.1
    · exact aJ6 r h.2 t hm
theorem hyp : Hyp Tryz.prog T aY where
  tab:=aM6.symm
  zero:=fun t h=>by
    rw [aM6]
    exact aJ6 aMl aNZ t h
  mixed:=aMs
  code:=fun f fn c hf hc=>by
    have h:=aJ5
    rw [List.all_eq_true] at h
    have:=h fn (by rw [← Array.getElem?_toList] at hf;exact List.mem_of_getElem? hf)
    rw [hc] at this
    simp only [Bool.and_eq_true,bne_iff_ne,ne_eq] at this
    exact this
  prim:=aNn
  primS:=aMt
  glob:=fun _=>rfl
  wf:=fun g t h=>by
    obtain ⟨p,hp,rfl⟩:=aLB h
    have:=aN3
    rw [List.all_eq_true] at this
    exact this p hp
end Go.Proofs.YthkofpnllaapeaaGreatDoor
namespace Go.Proofs.YthkofpnllaapeaaGreatDoor
open Go Go.IntWalk
def Ok (P : R→Prop) (o : Option R) : Prop:=∃ r,o=some r∧P r
section
variable {P Q : R → Prop}
theorem Ok.eq {r : R} {o : Option R} (h : Ok (fun x=>x=r) o) : o=some r:=by
  obtain ⟨x,h1,rfl⟩:=h
  exact h1
theorem Ok.of {r : R} {o : Option R} (h : o=some r) : Ok (fun x=>x=r) o:=⟨r,h,rfl⟩
theorem Ok.mono {o : Option R} (h : Ok Q o) (hq : ∀ r,Q r→P r) : Ok P o:=by
  obtain ⟨x,h1,h2⟩:=h
  exact ⟨x,h1,hq x h2⟩
theorem aB {r : R} (h : P r) : Ok P (some r):=⟨r,rfl,h⟩
theorem cY {α : Type} {o : Option α} {k : α→Option R} (a : α) (h : o=some a) (hk : Ok P (k a)) : Ok P (bd o k):=by rw [h];exact hk
theorem aF {o : Option R} {k : R→Option R} (h : Ok Q o) (hk : ∀ r,Q r→Ok P (k r)) : Ok P (bd o k):=by
  obtain ⟨r,h1,h2⟩:=h
  rw [h1]
  exact hk r h2
theorem aC {p : Prop} [Decidable p] {x y : Option R} (h1 : p→Ok P x) (h2 : ¬ p→Ok P y) : Ok P (PV.ite (.bool (decide p)) x y):=by
  by_cases h : p
  · rw [decide_eq_true h];exact h1 h
  · rw [decide_eq_false h];exact h2 h
theorem aJ {p : Prop} [Decidable p] {x y : Option R} (h1 : ¬ p→Ok P x) (h2 : p→Ok P y) : Ok P (PV.ite (.bool (!decide p)) x y):=by
  by_cases h : p
  · rw [decide_eq_true h];exact h2 h
  · rw [decide_eq_false h];exact h1 h
theorem bU {b : Bool} {x y : Option R} (h1 : b=true→Ok P x) (h2 : b=false→Ok P y) : Ok P (PV.ite (.bool b) x y):=by
  cases b
  · exact h2 rfl
  · exact h1 rfl
theorem bB {x y : Option R} (h1 : Ok P x) : Ok P (PV.ite (.bool true) x y):=h1
theorem aS {x y : Option R} (h1 : Ok P y) : Ok P (PV.ite (.bool false) x y):=h1
variable {k : PV → Option R} {kk : IntKind} {a b : Int}
theorem gP {op : BinOp} (h1 : op≠.shl) (h2 : op≠.shr) : PV.bin op (.int kk a) (.int kk b)=PV.intBin op kk a b:=by
  cases op<;>simp [PV.bin]<;>first | exact absurd rfl h1 | exact absurd rfl h2
theorem aG (h : Ok P (k (.bool (decide (a<b))))) : Ok P (bd (PV.bin .lss (.int kk a) (.int kk b)) k):=cY _ (by rw [gP (by simp) (by simp)];rfl) h
theorem kQ (h : Ok P (k (.bool (decide (a≤b))))) : Ok P (bd (PV.bin .leq (.int kk a) (.int kk b)) k):=cY _ (by rw [gP (by simp) (by simp)];rfl) h
theorem nT (h : Ok P (k (.bool (decide (b<a))))) : Ok P (bd (PV.bin .gtr (.int kk a) (.int kk b)) k):=cY _ (by rw [gP (by simp) (by simp)];rfl) h
theorem nU (h : Ok P (k (.bool (decide (b≤a))))) : Ok P (bd (PV.bin .geq (.int kk a) (.int kk b)) k):=cY _ (by rw [gP (by simp) (by simp)];rfl) h
theorem aH (h : Ok P (k (.bool (decide (a=b))))) : Ok P (bd (PV.bin .eql (.int kk a) (.int kk b)) k):=cY _ (by rw [gP (by simp) (by simp)];rfl) h
theorem bC (h : Ok P (k (.bool (!decide (a=b))))) : Ok P (bd (PV.bin .neq (.int kk a) (.int kk b)) k):=cY _ (by rw [gP (by simp) (by simp)];rfl) h
theorem aN (hr : -9223372036854775808≤a+b∧a+b≤9223372036854775807) (h : Ok P (k (.int .i64 (a+b)))) : Ok P (bd (PV.bin .add (.int .i64 a) (.int .i64 b)) k):=
  cY _ (by rw [gP (by simp) (by simp)];simp only [PV.intBin];rw [i64_in _ hr]) h
theorem cQ (hr : -9223372036854775808≤a - b∧a - b≤9223372036854775807) (h : Ok P (k (.int .i64 (a - b)))) : Ok P (bd (PV.bin .sub (.int .i64 a) (.int .i64 b)) k):=
  cY _ (by rw [gP (by simp) (by simp)];simp only [PV.intBin];rw [i64_in _ hr]) h
theorem aLC (hr : -9223372036854775808≤a*b∧a*b≤9223372036854775807) (h : Ok P (k (.int .i64 (a*b)))) : Ok P (bd (PV.bin .mul (.int .i64 a) (.int .i64 b)) k):=
  cY _ (by rw [gP (by simp) (by simp)];simp only [PV.intBin];rw [i64_in _ hr]) h
theorem aLD (h0 : 0≤a) (hb : 0<b) (h : Ok P (k (.int kk (a % b)))) : Ok P (bd (PV.bin .rem (.int kk a) (.int kk b)) k):=
  cY _ (by rw [gP (by simp) (by simp)];simp only [PV.intBin];rw [if_neg (by omega),Int.tmod_eq_emod_of_nonneg h0]) h
theorem aLE (h0 : 0≤a) (hb : 0<b) (hr : a≤9223372036854775807) (h : Ok P (k (.int .i64 (a / b)))) : Ok P (bd (PV.bin .quo (.int .i64 a) (.int .i64 b)) k):=
  cY _ (by rw [gP (by simp) (by simp)];simp only [PV.intBin];rw [if_neg (by omega),i64_quo _ _ ⟨h0,hr,by omega⟩]) h
theorem aJx (hr : -9223372036854775808≤0 - a∧0 - a≤9223372036854775807) (h : Ok P (k (.int .i64 (0 - a)))) : Ok P (bd (PV.neg (.int .i64 a)) k):=
  cY _ (by simp only [PV.neg];rw [i64_in _ hr]) h
theorem bW {x : Bool} (h : Ok P (k (.bool (!x)))) : Ok P (bd (PV.not (.bool x)) k):=h
theorem uQ {x y : Bool} (h : Ok P (k (.bool (x==y)))) : Ok P (bd (PV.beq .eql (.bool x) (.bool y)) k):=h
theorem bE {xs : List PV} (h : Ok P (k (.int .i64 xs.length))) : Ok P (bd (PV.len (.lst xs)) k):=h
theorem mG {s : ByteArray} (h : Ok P (k (.int .i64 s.size))) : Ok P (bd (PV.slen (.str s)) k):=h
theorem aNo (hr : -9223372036854775808≤a∧a≤9223372036854775807) (h : Ok P (k (.int .i64 a))) : Ok P (bd (PV.conv .i64 (.int kk a)) k):=cY _ (by simp only [PV.conv];rw [i64_in _ hr]) h
theorem aM9 (hr : 0≤a∧a≤255) (h : Ok P (k (.int .u8 a))) : Ok P (bd (PV.conv .u8 (.int kk a)) k):=cY _ (by simp only [PV.conv];rw [u8_in _ hr]) h
theorem aMu {s : Nat} {g : Bool} {xs : List PV} {i : Int} (h0 : 0≤i) (h1 : i<xs.length) (he : ∀ x∈xs,x.isEl s g=true) : ∃ x,x∈xs∧xs[i.toNat]? = some x∧PV.at_ s g (.lst xs) (.int kk i)=some x:=by
  have hlt : i.toNat<xs.length:=by omega
  refine ⟨xs[i.toNat],List.getElem_mem _,List.getElem?_eq_getElem hlt,?_⟩
  simp only [PV.at_]
  rw [if_pos h0,List.getElem?_eq_getElem hlt]
  simp only
  rw [if_pos (he _ (List.getElem_mem _))]
theorem aLF {s : Nat} {g : Bool} {xs : List PV} {i : Int} (h0 : 0≤i) (h1 : i<xs.length) (he : ∀ x∈xs,x.isEl s g=true) (h : ∀ x,x∈xs→xs[i.toNat]? = some x→Ok P (k x)) :
    Ok P (bd (PV.at_ s g (.lst xs) (.int kk i)) k):=by
  obtain ⟨x,h2,h3,h4⟩:=aMu (kk:=kk) h0 h1 he
  exact cY x h4 (h x h2 h3)
theorem aAF {xs : List PV} {i : Int} (h0 : 0≤i) (h1 : i<xs.length) (h : Ok P (k (.lst xs))) : Ok P (bd (PV.inb (.lst xs) (.int kk i)) k):=
  cY _ (by simp only [PV.inb];rw [if_pos ⟨h0,h1⟩]) h
theorem mH {s e : Nat} {g : Bool} {xs ys : List PV} (hb : (xs.length+ys.length)*e≤140737488355328) (he : ∀ x∈ys,x.isEl s g=true) (h : Ok P (k (.lst (xs++ys)))) : Ok P (bd (PV.cat s e g (.lst xs) (.lst ys)) k):=
  cY _ (by
    simp only [PV.cat,PV.elems]
    rw [if_pos ⟨hb,List.all_eq_true.2 he⟩]) h
theorem xH {s : Nat} {g : Bool} {xs : List PV} {m n : Int} {k1 k2 : IntKind} (h0 : 0≤m) (h1 : m≤n) (h2 : n≤xs.length) (he : ∀ x∈xs,x.isEl s g=true) (h : Ok P (k (.lst ((xs.take n.toNat).drop m.toNat)))) :
    Ok P (bd (PV.cut s g (.lst xs) (.int k1 m) (.int k2 n)) k):=
  cY _ (by
    have hh : PV.headIs s g xs=true:=by
      cases xs with
      | nil=>rfl
      | cons x r=>exact he x List.mem_cons_self
    simp only [PV.cut,hh,if_true,PV.bound]
    rw [if_pos ⟨by omega,h2⟩,Option.bind_some,if_pos ⟨h0,by omega⟩,Option.bind_some]) h
theorem aAG {s : Nat} {xs cs : List PV} {i : Int} {off : Nat} {v : PV} (h0 : 0≤i) (hx : xs[i.toNat]? = some (.agg cs)) (hc : cs.length=s) (ho : off<s) (hv : v.isEl 1 false=true) (h : Ok P (k (.lst (xs.set i.toNat (.agg (cs.set off v)))))) :
    Ok P (bd (PV.setCell s (.lst xs) (.int kk i) off v) k):=
  cY _ (by
    simp only [PV.setCell]
    rw [if_pos h0,hx]
    simp only
    rw [if_pos ⟨hc,ho,hv⟩]) h
theorem aEZ {s : Nat} {g : Bool} {xs : List PV} {i : Int} {v : PV} (h0 : 0≤i) (h1 : i<xs.length) (hv : v.isEl s g=true) (h : Ok P (k (.lst (xs.set i.toNat v)))) :
    Ok P (bd (PV.setAt s g (.lst xs) (.int kk i) v) k):=
  cY _ (by simp only [PV.setAt];rw [if_pos ⟨h0,h1,hv⟩]) h
theorem bA {x : PV} (hx : x.isEl 1 false=true) (h : Ok P (k x)) : Ok P (bd (PV.one x) k):=cY x (by simp only [PV.one];rw [if_pos hx]) h
theorem aA {cs : List PV} {j : Nat} {y : PV} (hy : cs[j]? = some y) (h : Ok P (k y)) : Ok P (bd (PV.cell (.agg cs) j) k):=cY y hy h
theorem aW {cs : List PV} {j : Nat} {y : PV} (hy : cs[j]? = some y) (h : Ok P (k y)) : Ok P (bd (PV.comp (.tup cs) j) k):=cY y hy h
theorem aD {cs : List PV} {n : Nat} (hy : cs.length=n) (h : Ok P (k (.agg cs))) : Ok P (bd (PV.whole n (.agg cs)) k):=cY _ (by simp only [PV.whole];rw [if_pos (by rw [hy];exact Nat.beq_refl n)]) h
theorem cN {r : PV} {o : Option R} (hf : r.flat=true) (h : Ok P o) : Ok P (PV.guardFlat r o):=by
  unfold PV.guardFlat;rw [if_pos hf];exact h
theorem dT {t : OTy} {r : PV} {o : Option R} (hf : PV.flatO t r=true) (h : Ok P o) : Ok P (PV.guardOwn t r o):=by
  unfold PV.guardOwn;rw [if_pos hf];exact h
theorem rA {C : Nat→List PV→Option R} {kr : R→Option R} {f : Nat} {caps args : List PV} {o : Option R} (e : C f (args++caps)=o) (h : Ok Q o) (hk : ∀ r,Q r→Ok P (kr r)) : Ok P (bd (PV.apply C (.fn f caps) args) kr):=by
  refine aF (Q:=Q) ?_ hk
  show Ok Q (C f (args++caps))
  rw [e]
  exact h
theorem oK {cs : List PV} {j : Nat} {y : PV} (hy : cs[j]? = some y) (h : Ok P (k y)) : Ok P (bd (PV.deref (.bx cs) j) k):=cY y hy h
theorem aE0 : ∀ l : List Int,(l.map (PV.int .u8)).mapM PV.byteOf=some (l.map fun x=>UInt8.ofNat x.toNat)
  | []=>rfl
  | x::r=>by
    rw [List.map_cons,List.mapM_cons,aE0 r]
    rfl
def uR (l : List Int) : PV:=.lst (l.map (PV.int .u8))
theorem tZ {s : ByteArray} (h : Ok P (k (.bool false))) : Ok P (bd (PV.bin .neq (.str s) (.str s)) k):=cY _ (by simp [PV.bin,PV.strBin]) h
theorem aIu {l : List Int} (h : Ok P (k (.str ⟨(l.map fun x=>UInt8.ofNat x.toNat).toArray⟩))) : Ok P (bd (PV.toStr (uR l)) k):=
  cY _ (by
    show PV.toStr (.lst (l.map (PV.int .u8)))=_
    simp only [PV.toStr]
    rw [aE0]
    rfl) h
theorem pX {s e : Nat} {g : Bool} {ys : List PV} (hb : ys.length*e≤140737488355328) (he : ∀ x∈ys,x.isEl s g=true) (h : Ok P (k (.lst ys))) : Ok P (bd (PV.cat s e g (.lst []) (.lst ys)) k):=
  mH (by simpa using hb) he h
theorem aIv {xs : List PV} (h : Ok P (k (.lst xs))) : Ok P (bd (PV.isLst (.lst xs)) k):=h
theorem aIw {q : IntKind} {n : Int} (h : Ok P (k (.int q n))) : Ok P (bd (PV.isInt (.int q n)) k):=h
theorem aHk {s : Nat} {g : Bool} {xs : List PV} {i : Int} {x : PV} (h0 : 0≤i) (hx : xs[i.toNat]? = some x) (he : x.isEl s g=true) (h : Ok P (k x)) : Ok P (bd (PV.at_ s g (.lst xs) (.int kk i)) k):=
  cY x (by simp only [PV.at_];rw [if_pos h0,hx];simp only;rw [if_pos he]) h
theorem aJ7 {cs : List PV} {i : Int} {n : Nat} {x : PV} (h0 : 0≤i∧i<n∧cs.length=n) (hx : cs[i.toNat]? = some x) (he : x.isEl 1 false=true) (h : Ok P (k x)) : Ok P (bd (PV.ix n (.agg cs) (.int kk i)) k):=
  cY x (by simp only [PV.ix];rw [if_pos h0,hx];simp only;rw [if_pos he]) h
end
theorem aJ8 {xs : List PV} {r : R} {x y : Option R} (hx : xs = []→Ok (fun q=>q=r) x) (hy : Ok (fun q=>q=r) y) : Ok (fun q=>q=r) (PV.nilT (.lst xs) x y):=by
  cases xs with
  | nil=>
    have h1:=(hx rfl).eq
    have h2:=hy.eq
    refine ⟨r,?_,rfl⟩
    show @_root_.ite _ (x=y) (Classical.propDecidable _) x none=some r
    rw [h1,h2,if_pos rfl]
  | cons a l=>exact hy
end Go.Proofs.YthkofpnllaapeaaGreatDoor
namespace Go.Proofs.YthkofpnllaapeaaGreatDoor
open Go Go.ChangeShapes Go.WideShapes Go.ChangeAt Go.RowKit
def aEa (w : World) (a : Option Addr) (len cap : Nat) (zs : List Int) : Prop:=
  (a=none∧len=0∧cap=0∧zs = [])∨
  ∃ x,a=some x∧len≤cap∧cap≤maxLen∧zs.length=cap∧(∀ i,i<zs.length→w.cell? (x.add i)=some (.int .u8 (zs.getD i 0)))∧∀ n∈zs,(Lit.int .u8 n).wf=true
theorem cell_inv {w : World} {a : Addr} {v : Value} (h : w.cell? a=some v) : a.spot=none∧∃ c e fz,w.heap[a.block]? = some (.cells c e fz)∧c[a.off]? = some v:=by
  unfold World.cell? at h
  split at h
  · rename_i c e fz hc
    split at h
    · cases h
    · rename_i hs
      exact ⟨by simpa using hs,c,e,fz,hc,h⟩
  · cases h
theorem aEa.rep {w : World} {a : Option Addr} {len cap : Nat} {zs : List Int} (h : aEa w a len cap zs) : eN w (fun r=>r<w.heap.size) (uR (zs.take len)) (.slice a len cap):=by
  rcases h with ⟨rfl,rfl,rfl,rfl⟩ | ⟨x,rfl,hl,_,hz,hc,_⟩
  · exact .empty none 0
  · by_cases h0 : len=0
    · subst h0;exact .empty _ cap
    · have hlen : ((zs.take len).map (PV.int .u8)).length=len:=by simp;omega
      obtain ⟨hsp,c,e,fz,hh,hc0⟩:=cell_inv (hc 0 (by omega))
      have hx : x=⟨x.block,x.off,none⟩:=by
        have : x.spot=none:=by
          have h1 : (x.add 0).spot=none:=hsp
          unfold Addr.add at h1
          split at h1<;>simp_all
        cases x;simp_all
      rw [hx] at hc ⊢
      have hb : (x.add 0).block=x.block:=by unfold Addr.add;split<;>rfl
      rw [hb] at hh
      have:=eN.lst (w:=w) (Z:=fun r=>r<w.heap.size) ((zs.take len).map (PV.int .u8)) x.block x.off 1 cap false c e fz (fun i _=>.int .u8 (zs.getD i 0)) (Array.getElem?_eq_some_iff.1 hh).1 hh (by omega) (by omega)
        (fun i y hy=>by
          rw [List.getElem?_map] at hy
          cases hi : (zs.take len)[i]? with
          | none=>rw [hi] at hy;cases hy
          | some q=>rw [hi] at hy;cases hy;rfl)
        (fun i j hi hj=>by
          have hj0 : j=0:=by omega
          subst hj0
          have h1:=hc i (by omega)
          rw [gU] at h1
          obtain ⟨_,c',e',fz',hh',hc'⟩:=cell_inv h1
          have hh' : w.heap[x.block]? = some (.cells c' e' fz'):=hh'
          rw [hh] at hh'
          cases hh'
          simpa using hc')
        (fun _ _ _ _=>trivial)
        (fun i j y hy hj=>by
          rw [List.getElem?_map] at hy
          cases hi : (zs.take len)[i]? with
          | none=>rw [hi] at hy;cases hy
          | some q=>
            rw [hi] at hy
            cases hy
            have hlt : i<(zs.take len).length:=(List.getElem?_eq_some_iff.1 hi).1
            have : zs.getD i 0=q:=by
              rw [List.getElem?_take] at hi
              split at hi
              · rw [List.getD,hi];rfl
              · cases hi
            rw [this]
            exact .int _ _)
      rw [hlen] at this
      exact this
theorem aEa.wf {w : World} {a : Option Addr} {len cap : Nat} {zs : List Int} (h : aEa w a len cap zs) : ∀ x∈zs.take len,(Lit.int .u8 x).wf=true:=by
  intro x hx
  rcases h with ⟨_,_,_,rfl⟩ | ⟨_,_,_,_,_,_,hw⟩
  · simp at hx
  · exact hw x (List.mem_of_mem_take hx)
theorem aJy (n : Nat) (args : List PV) (aP : Array Value) (h : aK n args=some [.bool true]) {w : World} (gz : aAs w fun r=>r<w.heap.size) (hl : args.length=aP.size) (hr : ∀ (i : Nat) x v,args[i]? = some x→aP[i]? = some v→eN w (fun r=>r<w.heap.size) x v) :
    Calls Tryz.prog n aP w fun e w'=>e = .returned (.bool true)∧Below w.heap.size w w':=by
  refine (aIr hyp h (Z:=fun r=>r<w.heap.size) ⟨fun _ h=>h,gz⟩ hl hr).mono ?_
  rintro e w' ⟨v,rfl,Z',pe,hrep⟩
  have hrep : eN w' Z' (.bool true) v:=hrep
  rw [hrep.bool_inv]
  exact ⟨rfl,pe.os,pe.tape,pe.output,pe.size,pe.old⟩
theorem own : ownKnob Tryz.prog.godebug=none:=by kernel_rfl
theorem aHl : laidOutB Tryz.prog=true:=by kernel_rfl
end Go.Proofs.YthkofpnllaapeaaGreatDoor
namespace Go.Proofs.YthkofpnllaapeaaGreatDoor
open Go
noncomputable def oZ (x0 x1 x2 : PV) : Option R:=aK 3 [x0,x1,x2]
noncomputable def tE (x0 x1 : PV) : Option R:=aK 7 [x0,x1]
noncomputable def tF (x0 x1 : PV) : Option R:=aK 8 [x0,x1]
noncomputable def gV (x0 x1 x2 : PV) : Option R:=cP 8 0 0 (aY.mode 8) (todoOf Tryz.prog 8 5) [(0,.p x0),(1,.p x1),(5,.p x2)] ⟨[],[],0,0,0⟩
noncomputable def qO (x0 x1 : PV) : Option R:=aK 13 [x0,x1]
noncomputable def oG (x0 x1 : PV) : Option R:=aK 14 [x0,x1]
noncomputable def gN (x0 x1 : PV) : Option R:=aK 15 [x0,x1]
noncomputable def jY (x0 x1 x2 : PV) : Option R:=cP 15 0 0 (aY.mode 15) (todoOf Tryz.prog 15 4) [(0,.p x0),(1,.p x1),(5,.p x2)] ⟨[],[],0,0,0⟩
noncomputable def sG (x0 x1 : PV) : Option R:=aK 19 [x0,x1]
noncomputable def rB (x0 x1 : PV) : Option R:=aK 38 [x0,x1]
noncomputable def gB (x0 x1 x2 : PV) : Option R:=cP 38 0 0 (aY.mode 38) (todoOf Tryz.prog 38 5) [(0,.p x0),(1,.p x1),(5,.p x2)] ⟨[],[],0,0,0⟩
noncomputable def uS (x0 x1 : PV) : Option R:=aK 39 [x0,x1]
noncomputable def iM (x0 x1 x2 : PV) : Option R:=cP 39 0 0 (aY.mode 39) (todoOf Tryz.prog 39 5) [(0,.p x0),(1,.p x1),(5,.p x2)] ⟨[],[],0,0,0⟩
noncomputable def uT (x0 x1 : PV) : Option R:=aK 40 [x0,x1]
noncomputable def tG (x0 x1 : PV) : Option R:=aK 49 [x0,x1]
noncomputable def jZ (x0 x1 x2 : PV) : Option R:=cP 49 0 0 (aY.mode 49) (todoOf Tryz.prog 49 4) [(0,.p x0),(1,.p x1),(5,.p x2)] ⟨[],[],0,0,0⟩
noncomputable def xI (x0 x1 : PV) : Option R:=aK 50 [x0,x1]
noncomputable def mJ (x0 x1 x2 : PV) : Option R:=cP 50 0 0 (aY.mode 50) (todoOf Tryz.prog 50 4) [(0,.p x0),(1,.p x1),(5,.p x2)] ⟨[],[],0,0,0⟩
noncomputable def mK (x0 x1 : PV) : Option R:=aK 33 [x0,x1]
noncomputable def iX (x0 x1 x2 : PV) : Option R:=cP 33 0 0 (aY.mode 33) (todoOf Tryz.prog 33 4) [(0,.p x0),(1,.p x1),(5,.p x2)] ⟨[],[],0,0,0⟩
noncomputable def pY (x0 x1 : PV) : Option R:=aK 51 [x0,x1]
noncomputable def uU (x0 x1 : PV) : Option R:=aK 52 [x0,x1]
noncomputable def lC (x0 x1 x2 : PV) : Option R:=cP 52 0 0 (aY.mode 52) (todoOf Tryz.prog 52 4) [(0,.p x0),(1,.p x1),(5,.p x2)] ⟨[],[],0,0,0⟩
noncomputable def pA (x0 x1 : PV) : Option R:=aK 57 [x0,x1]
noncomputable def iD (x0 x1 x2 : PV) : Option R:=cP 57 0 0 (aY.mode 57) (todoOf Tryz.prog 57 2) [(0,.p x0),(1,.p x1),(5,.p x2)] ⟨[],[],0,0,0⟩
noncomputable def tH (x0 x1 : PV) : Option R:=aK 58 [x0,x1]
noncomputable def kA (x0 x1 x2 : PV) : Option R:=cP 58 0 0 (aY.mode 58) (todoOf Tryz.prog 58 2) [(0,.p x0),(1,.p x1),(5,.p x2)] ⟨[],[],0,0,0⟩
noncomputable def nV (x0 x1 : PV) : Option R:=aK 37 [x0,x1]
noncomputable def gQ (x0 x1 x2 : PV) : Option R:=cP 37 0 0 (aY.mode 37) (todoOf Tryz.prog 37 2) [(0,.p x0),(1,.p x1),(5,.p x2)] ⟨[],[],0,0,0⟩
noncomputable def xJ (x0 x1 : PV) : Option R:=aK 80 [x0,x1]
noncomputable def uV (x0 x1 : PV) : Option R:=aK 89 [x0,x1]
noncomputable def aAH (x0 x1 : PV) : Option R:=aK 90 [x0,x1]
noncomputable def xK (x0 x1 : PV) : Option R:=aK 91 [x0,x1]
noncomputable def iN (x0 x1 : PV) : Option R:=aK 93 [x0,x1]
noncomputable def iE (x0 x1 x2 : PV) : Option R:=cP 93 0 0 (aY.mode 93) (todoOf Tryz.prog 93 2) [(0,.p x0),(1,.p x1),(5,.p x2)] ⟨[],[],0,0,0⟩
noncomputable def eO (x0 : PV) : Option R:=aK 54 [x0]
noncomputable def kB (x0 x1 : PV) : Option R:=cP 54 0 0 (aY.mode 54) (todoOf Tryz.prog 54 4) [(0,.p x0),(3,.p x1)] ⟨[],[],0,0,0⟩
noncomputable def xL (x0 x1 : PV) : Option R:=aK 128 [x0,x1]
noncomputable def xM (x0 x1 : PV) : Option R:=aK 145 [x0,x1]
noncomputable def mL (x0 x1 x2 : PV) : Option R:=cP 145 0 0 (aY.mode 145) (todoOf Tryz.prog 145 4) [(0,.p x0),(1,.p x1),(5,.p x2)] ⟨[],[],0,0,0⟩
noncomputable def aAI (x0 x1 : PV) : Option R:=aK 206 [x0,x1]
noncomputable def fG (x0 : PV) : Option R:=bP 10 [.p x0] ⟨[],[],0,0,0⟩
noncomputable def gO (x0 : PV) : Option R:=bP 11 [.p x0] ⟨[],[],0,0,0⟩
noncomputable def kC (x0 x1 x2 : PV) : Option R:=cP 11 0 0 (aY.mode 11) (todoOf Tryz.prog 11 3) [(0,.p x0),(3,.ref 0 []),(4,.p x1)] ⟨[],[(0,some ⟨(.own 3 32 true []),x2⟩)],0,0,1⟩
noncomputable def uW (x0 : PV) : Option R:=aK 46 [x0]
noncomputable def aBQ (x0 x1 x2 : PV) : Option R:=bP 9 [.p x0,.p x1,.p x2] ⟨[],[],0,0,0⟩
noncomputable def sH (x0 x1 x2 x3 x4 x5 x6 x7 x8 x9 x10 x11 x12 x13 x14 x15 x16 x17 x18 x19 x20 x21 x22 x23 : PV) : Option R:=cP 9 0 0 (aY.mode 9) (todoOf Tryz.prog 9 5) [(2,.p x0),(3,.ptr 0 0),(6,.ptr 1 0),(7,.ptr 2 0),(9,.p x1)] ⟨[(0,some [.p x2,.p x3]),(1,some [.ref 0 [],.ref 1 [],.p x4,.ref 2 [],.p x5,.p x6,.p x7,.p x8,.p x9,.p x10]),(2,some [.ref 3 [],.ref 4 [],.p x11,.ref 5 [],.p x12,.p x13,.p x14,.p x15,.p x16,.p x17])],[(0,some ⟨(.own 4 64 true [.leaf,.leaf,(.own 3 32 true []),(.own 3 32 true [])]),x18⟩),(1,some ⟨(.own 1 24 true [(.own 3 32 true [])]),x19⟩),(2,some ⟨(.own 1 16 false []),x20⟩),(3,some ⟨(.own 4 64 true [.leaf,.leaf,(.own 3 32 true []),(.own 3 32 true [])]),x21⟩),(4,some ⟨(.own 1 24 true [(.own 3 32 true [])]),x22⟩),(5,some ⟨(.own 1 16 false []),x23⟩)],0,0,9⟩
noncomputable def aQ (x0 x1 x2 : PV) : Option R:=aK 42 [x0,x1,x2]
noncomputable def xN (x0 x1 x2 : PV) : Option R:=bP 12 [.p x0,.p x1,.p x2] ⟨[],[],0,0,0⟩
noncomputable def pB (x0 x1 x2 : PV) : Option R:=bP 16 [.agg [.ref 0 [],.ref 1 []],.p x0] ⟨[],[(0,some ⟨(.own 1 16 false []),x1⟩),(1,some ⟨(.own 3 40 true [.leaf,.leaf,(.own 2 16 true [])]),x2⟩)],0,0,2⟩
noncomputable def pC (x0 x1 : PV) : Option R:=bP 17 [.ref 0 [],.p x0] ⟨[],[(0,some ⟨(.own 3 32 true []),x1⟩)],0,0,1⟩
noncomputable def iF (x0 x1 x2 : PV) : Option R:=cP 17 0 1 ((aY.mode 17).map (Tmpl.fitK · [some (.own 3 32 true [])])) (todoOf Tryz.prog 17 2) [(0,.ref 0 []),(1,.p x0),(5,.p x1)] ⟨[],[(0,some ⟨(.own 3 32 true []),x2⟩)],0,0,1⟩
noncomputable def xO (x0 x1 x2 x3 x4 x5 x6 x7 x8 x9 x10 : PV) : Option R:=bP 18 [.agg [.ref 0 [],.ref 1 [],.p x0,.ref 2 [],.p x1,.p x2,.p x3,.p x4,.p x5,.p x6],.p x7] ⟨[],[(0,some ⟨(.own 4 64 true [.leaf,.leaf,(.own 3 32 true []),(.own 3 32 true [])]),x8⟩),(1,some ⟨(.own 1 24 true [(.own 3 32 true [])]),x9⟩),(2,some ⟨(.own 1 16 false []),x10⟩)],0,0,3⟩
noncomputable def aNV (x0 : PV) : Option R:=bP 27 [.p x0] ⟨[],[],0,0,0⟩
noncomputable def aNW (x0 x1 : PV) : Option R:=bP 26 [.p x0,.p x1] ⟨[],[],0,0,0⟩
noncomputable def uX (x0 : PV) : Option R:=aK 81 [x0]
noncomputable def xP (x0 : PV) : Option R:=aK 129 [x0]
noncomputable def jI (x0 x1 x2 x3 x4 x5 : PV) : Option R:=cP 129 0 0 (aY.mode 129) (todoOf Tryz.prog 129 4) [(1,.ptr 0 0),(2,.ptr 1 0),(3,.p x0)] ⟨[(0,some [.p x1,.p x2]),(1,some [.p x3,.p x4,.p x5])],[],0,0,2⟩
noncomputable def gW (x0 x1 x2 x3 x4 x5 x6 x7 x8 : PV) : Option R:=cP 129 0 0 (aY.mode 129) (todoOf Tryz.prog 129 9) [(1,.ptr 0 0),(2,.ptr 1 0),(3,.p x0),(4,.p x1),(5,.p x2),(6,.p x3)] ⟨[(0,some [.p x4,.p x5]),(1,some [.p x6,.p x7,.p x8])],[],0,0,2⟩
noncomputable def iO (x0 x1 x2 x3 x4 x5 x6 x7 x8 x9 x10 x11 : PV) : Option R:=cP 129 0 0 (aY.mode 129) (todoOf Tryz.prog 129 18) [(1,.ptr 0 0),(2,.ptr 1 0),(3,.p x0),(4,.p x1),(5,.p x2),(6,.p x3),(9,.p x4),(10,.p x5),(11,.p x6)] ⟨[(0,some [.p x7,.p x8]),(1,some [.p x9,.p x10,.p x11])],[],0,0,2⟩
noncomputable def fW (x0 x1 x2 x3 x4 x5 x6 x7 x8 x9 x10 x11 : PV) : Option R:=cP 129 0 0 (aY.mode 129) (todoOf Tryz.prog 129 23) [(1,.ptr 0 0),(2,.ptr 1 0),(3,.p x0),(4,.p x1),(5,.p x2),(6,.p x3),(9,.p x4),(10,.p x5),(12,.p x6)] ⟨[(0,some [.p x7,.p x8]),(1,some [.p x9,.p x10,.p x11])],[],0,0,2⟩
noncomputable def aAJ (x0 x1 x2 : PV) : Option R:=aK 82 [x0,x1,x2]
noncomputable def mN (x0 : PV) : Option R:=aK 131 [x0]
noncomputable def lD (x0 x1 : PV) : Option R:=cP 131 0 0 (aY.mode 131) (todoOf Tryz.prog 131 4) [(0,.p x0),(3,.p x1)] ⟨[],[],0,0,0⟩
noncomputable def tI (x0 : PV) : Option R:=aK 193 [x0]
noncomputable def kD (x0 x1 x2 : PV) : Option R:=cP 193 0 0 (aY.mode 193) (todoOf Tryz.prog 193 4) [(1,.ptr 0 0),(3,.p x0)] ⟨[(0,some [.p x1,.p x2])],[],0,0,1⟩
noncomputable def gX (x0 x1 x2 : PV) : Option R:=cP 193 0 0 (aY.mode 193) (todoOf Tryz.prog 193 9) [(1,.ptr 0 0),(4,.p x0)] ⟨[(0,some [.p x1,.p x2])],[],0,0,1⟩
noncomputable def iY (x0 x1 x2 x3 x4 x5 x6 : PV) : Option R:=cP 193 0 0 (aY.mode 193) (todoOf Tryz.prog 193 15) [(1,.ptr 0 0),(4,.p x0),(5,.ptr 1 0),(6,.p x1)] ⟨[(0,some [.p x2,.p x3]),(1,some [.p x4,.p x5,.p x6])],[],0,0,2⟩
noncomputable def rC (x0 x1 : PV) : Option R:=aK 194 [x0,x1]
noncomputable def iZ (x0 x1 x2 x3 x4 : PV) : Option R:=cP 194 0 0 (aY.mode 194) (todoOf Tryz.prog 194 4) [(2,.ptr 0 0),(5,.p x0),(6,.ref 0 []),(7,.p x1)] ⟨[(0,some [.p x2,.p x3])],[(0,some ⟨(.own 1 8 false []),x4⟩)],0,0,2⟩
noncomputable def gC (x0 x1 x2 x3 x4 : PV) : Option R:=cP 194 0 0 (aY.mode 194) (todoOf Tryz.prog 194 9) [(2,.ptr 0 0),(5,.p x0),(6,.ref 0 []),(8,.p x1)] ⟨[(0,some [.p x2,.p x3])],[(0,some ⟨(.own 1 8 false []),x4⟩)],0,0,2⟩
noncomputable def dG (x0 x1 x2 x3 x4 x5 : PV) : Option R:=cP 194 0 0 (aY.mode 194) (todoOf Tryz.prog 194 12) [(2,.ptr 0 0),(5,.p x0),(6,.ref 0 []),(8,.p x1),(9,.p x2)] ⟨[(0,some [.p x3,.p x4])],[(0,some ⟨(.own 1 8 false []),x5⟩)],0,0,2⟩
noncomputable def dU (x0 x1 x2 x3 x4 x5 x6 x7 x8 : PV) : Option R:=cP 194 0 0 (aY.mode 194) (todoOf Tryz.prog 194 19) [(2,.ptr 0 0),(5,.p x0),(6,.ref 0 []),(8,.p x1),(9,.p x2),(12,.p x3),(13,.p x4),(14,.p x5)] ⟨[(0,some [.p x6,.p x7])],[(0,some ⟨(.own 1 8 false []),x8⟩)],0,0,2⟩
noncomputable def rD (x0 x1 x2 x3 x4 x5 x6 x7 : PV) : Option R:=cP 194 0 0 (aY.mode 194) (todoOf Tryz.prog 194 22) [(2,.ptr 0 0),(5,.p x0),(6,.ref 0 []),(9,.p x1),(12,.p x2),(13,.p x3),(14,.p x4)] ⟨[(0,some [.p x5,.p x6])],[(0,some ⟨(.own 1 8 false []),x7⟩)],0,0,2⟩
noncomputable def sI (x0 x1 : PV) : Option R:=aK 195 [x0,x1]
noncomputable def pZ (x0 x1 : PV) : Option R:=aK 196 [x0,x1]
noncomputable def vV (x0 x1 x2 x3 : PV) : Option R:=cP 196 0 0 (aY.mode 196) (todoOf Tryz.prog 196 3) [(1,.p x0),(2,.ptr 0 0),(5,.ref 0 [])] ⟨[(0,some [.p x1,.p x2])],[(0,some ⟨(.own 1 8 false []),x3⟩)],0,0,2⟩
noncomputable def lE (x0 x1 x2 : PV) : Option R:=cP 196 0 0 (aY.mode 196) (todoOf Tryz.prog 196 4) [(2,.ptr 0 0),(5,.ref 0 [])] ⟨[(0,some [.p x0,.p x1])],[(0,some ⟨(.own 1 8 false []),x2⟩)],0,0,2⟩
noncomputable def lF (x0 x1 x2 : PV) : Option R:=cP 196 0 0 (aY.mode 196) (todoOf Tryz.prog 196 5) [(2,.ptr 0 0),(5,.ref 0 [])] ⟨[(0,some [.p x0,.p x1])],[(0,some ⟨(.own 1 8 false []),x2⟩)],0,0,2⟩
noncomputable def fH (x0 : PV) : Option R:=aK 130 [x0]
noncomputable def aAK (x0 x1 x2 : PV) : Option R:=aK 247 [x0,x1,x2]
noncomputable def aNX (x0 x1 : PV) : Option R:=bP 28 [.p x0,.p x1] ⟨[],[],0,0,0⟩
noncomputable def xQ (x0 : PV) : Option R:=aK 107 [x0]
noncomputable def xR (x0 : PV) : Option R:=aK 157 [x0]
noncomputable def jJ (x0 x1 x2 x3 x4 x5 x6 : PV) : Option R:=cP 157 0 0 (aY.mode 157) (todoOf Tryz.prog 157 4) [(1,.ptr 0 0),(2,.ptr 1 0),(16,.p x0),(17,.p x1)] ⟨[(0,some [.p x2,.p x3]),(1,some [.p x4,.p x5,.p x6])],[],0,0,2⟩
noncomputable def jK (x0 x1 x2 x3 x4 x5 x6 x7 x8 x9 x10 x11 : PV) : Option R:=cP 157 0 0 (aY.mode 157) (todoOf Tryz.prog 157 8) [(1,.ptr 0 0),(2,.ptr 1 0),(3,.p x0),(4,.ptr 2 0),(16,.p x1),(17,.p x2),(28,.p x3),(29,.p x4),(30,.p x5)] ⟨[(0,some [.p x6,.p x7]),(1,some [.p x8,.p x9,.p x10]),(2,some [.p x11])],[],0,0,3⟩
noncomputable def xS (x0 x1 : PV) : Option R:=aK 166 [x0,x1]
noncomputable def jL (x0 x1 x2 x3 x4 : PV) : Option R:=cP 166 0 0 (aY.mode 166) (todoOf Tryz.prog 166 5) [(2,.ptr 0 0),(5,.p x0),(6,.ref 0 []),(7,.p x1)] ⟨[(0,some [.p x2,.p x3])],[(0,some ⟨(.own 1 8 false []),x4⟩)],0,0,2⟩
noncomputable def fN (x0 x1 x2 x3 x4 x5 x6 x7 : PV) : Option R:=cP 166 0 0 (aY.mode 166) (todoOf Tryz.prog 166 8) [(2,.ptr 0 0),(5,.p x0),(6,.ref 0 []),(7,.p x1),(27,.p x2),(28,.p x3),(29,.p x4)] ⟨[(0,some [.p x5,.p x6])],[(0,some ⟨(.own 1 8 false []),x7⟩)],0,0,2⟩
noncomputable def eD (x0 x1 x2 x3 x4 x5 x6 x7 x8 x9 x10 x11 x12 : PV) : Option R:=cP 166 0 0 (aY.mode 166) (todoOf Tryz.prog 166 13) [(2,.ptr 0 0),(5,.p x0),(6,.ref 0 []),(7,.p x1),(10,.p x2),(11,.p x3),(27,.p x4),(28,.p x5),(29,.p x6),(51,.p x7),(52,.p x8),(53,.p x9)] ⟨[(0,some [.p x10,.p x11])],[(0,some ⟨(.own 1 8 false []),x12⟩)],0,0,2⟩
noncomputable def vW (x0 x1 x2 x3 x4 x5 x6 x7 x8 x9 x10 x11 x12 : PV) : Option R:=cP 166 0 0 (aY.mode 166) (todoOf Tryz.prog 166 16) [(2,.ptr 0 0),(5,.p x0),(6,.ref 0 []),(10,.p x1),(11,.p x2),(13,.p x3),(27,.p x4),(28,.p x5),(29,.p x6),(51,.p x7),(52,.p x8),(53,.p x9)] ⟨[(0,some [.p x10,.p x11])],[(0,some ⟨(.own 1 8 false []),x12⟩)],0,0,2⟩
noncomputable def cC (x0 x1 x2 : PV) : Option R:=aK 88 [x0,x1,x2]
noncomputable def dZ (x0 x1 : PV) : Option R:=aK 159 [x0,x1]
noncomputable def tJ (x0 : PV) : Option R:=aK 209 [x0]
noncomputable def kE (x0 x1 x2 x3 x4 : PV) : Option R:=cP 209 0 0 (aY.mode 209) (todoOf Tryz.prog 209 4) [(1,.ptr 0 0),(22,.p x0),(23,.p x1),(24,.p x2)] ⟨[(0,some [.p x3,.p x4])],[],0,0,1⟩
noncomputable def sJ (x0 x1 x2 : PV) : Option R:=aK 210 [x0,x1,x2]
noncomputable def qA (x0 x1 : PV) : Option R:=aK 211 [x0,x1]
noncomputable def gY (x0 x1 : PV) : Option R:=aK 212 [x0,x1]
noncomputable def fD (x0 x1 : PV) : Option R:=aK 213 [x0,x1]
noncomputable def aAh (x0 x1 x2 : PV) : Option R:=aK 214 [x0,x1,x2]
noncomputable def gZ (x0 x1 : PV) : Option R:=aK 217 [x0,x1]
noncomputable def dA (x0 x1 x2 x3 : PV) : Option R:=cP 217 0 0 (aY.mode 217) (todoOf Tryz.prog 217 2) [(0,.p x0),(1,.p x1),(7,.p x2),(8,.p x3)] ⟨[],[],0,0,0⟩
noncomputable def oL (x0 : PV) : Option R:=aK 161 [x0]
noncomputable def mO (x0 x1 x2 : PV) : Option R:=cP 161 0 0 (aY.mode 161) (todoOf Tryz.prog 161 2) [(0,.p x0),(5,.p x1),(6,.p x2)] ⟨[],[],0,0,0⟩
noncomputable def cJ (x0 x1 : PV) : Option R:=aK 75 [x0,x1]
noncomputable def vX (x0 : PV) : Option R:=aK 252 [x0]
noncomputable def dK (x0 x1 : PV) : Option R:=aK 253 [x0,x1]
noncomputable def vY (x0 x1 x2 : PV) : Option R:=aK 254 [x0,x1,x2]
noncomputable def sK (x0 x1 : PV) : Option R:=aK 168 [x0,x1]
noncomputable def lG (x0 x1 x2 x3 : PV) : Option R:=cP 168 0 0 (aY.mode 168) (todoOf Tryz.prog 168 24) [(2,.ptr 0 0),(3,.ptr 1 0)] ⟨[(0,some [.p x0,.p x1]),(1,some [.p x2,.p x3])],[],0,0,2⟩
noncomputable def vZ (x0 x1 x2 x3 : PV) : Option R:=cP 168 0 0 (aY.mode 168) (todoOf Tryz.prog 168 25) [(2,.ptr 0 0),(3,.ptr 1 0)] ⟨[(0,some [.p x0,.p x1]),(1,some [.p x2,.p x3])],[],0,0,2⟩
noncomputable def jM (x0 x1 : PV) : Option R:=aK 256 [x0,x1]
noncomputable def eT (x0 x1 x2 x3 : PV) : Option R:=cP 256 0 0 (aY.mode 256) (todoOf Tryz.prog 256 2) [(0,.p x0),(1,.p x1),(7,.p x2),(8,.p x3)] ⟨[],[],0,0,0⟩
noncomputable def kY (x0 x1 : PV) : Option R:=aK 257 [x0,x1]
noncomputable def dY (x0 x1 x2 x3 : PV) : Option R:=cP 257 0 0 (aY.mode 257) (todoOf Tryz.prog 257 2) [(0,.p x0),(1,.p x1),(7,.p x2),(8,.p x3)] ⟨[],[],0,0,0⟩
noncomputable def fO (x0 x1 : PV) : Option R:=aK 281 [x0,x1]
noncomputable def cG (x0 x1 x2 x3 : PV) : Option R:=cP 281 0 0 (aY.mode 281) (todoOf Tryz.prog 281 2) [(0,.p x0),(1,.p x1),(7,.p x2),(8,.p x3)] ⟨[],[],0,0,0⟩
noncomputable def aAL (x0 x1 x2 : PV) : Option R:=aK 255 [x0,x1,x2]
noncomputable def jN (x0 : PV) : Option R:=aK 218 [x0]
noncomputable def rE (x0 : PV) : Option R:=bP 44 [.p x0] ⟨[],[],0,0,0⟩
noncomputable def jA (x0 x1 x2 : PV) : Option R:=cP 44 0 0 (aY.mode 44) (todoOf Tryz.prog 44 3) [(0,.p x0),(3,.ref 0 []),(4,.p x1)] ⟨[],[(0,some ⟨(.own 1 16 false []),x2⟩)],0,0,1⟩
noncomputable def uY (x0 : PV) : Option R:=bP 45 [.p x0] ⟨[],[],0,0,0⟩
noncomputable def iP (x0 x1 x2 : PV) : Option R:=cP 45 0 0 (aY.mode 45) (todoOf Tryz.prog 45 3) [(0,.p x0),(3,.ref 0 []),(4,.p x1)] ⟨[],[(0,some ⟨(.own 3 40 true [.leaf,.leaf,(.own 2 16 true [])]),x2⟩)],0,0,1⟩
noncomputable def aAM (x0 x1 : PV) : Option R:=bP 41 [.p x0,.p x1] ⟨[],[],0,0,0⟩
noncomputable def kZ (x0 x1 x2 x3 x4 x5 x6 x7 x8 x9 x10 x11 x12 x13 : PV) : Option R:=cP 41 0 0 (aY.mode 41) (todoOf Tryz.prog 41 4) [(1,.p x0),(2,.ptr 0 0),(4,.ptr 1 0),(6,.p x1)] ⟨[(0,some [.p x2,.p x3]),(1,some [.ref 0 [],.ref 1 [],.p x4,.ref 2 [],.p x5,.p x6,.p x7,.p x8,.p x9,.p x10])],[(0,some ⟨(.own 4 64 true [.leaf,.leaf,(.own 3 32 true []),(.own 3 32 true [])]),x11⟩),(1,some ⟨(.own 1 24 true [(.own 3 32 true [])]),x12⟩),(2,some ⟨(.own 1 16 false []),x13⟩)],0,0,5⟩
noncomputable def jO (x0 x1 x2 x3 x4 x5 x6 x7 x8 x9 x10 x11 x12 x13 x14 x15 : PV) : Option R:=cP 41 0 0 (aY.mode 41) (todoOf Tryz.prog 41 10) [(1,.p x0),(4,.ptr 0 0),(7,.ptr 1 0),(8,.p x1)] ⟨[(0,some [.ref 0 [],.ref 1 [],.p x2,.ref 2 [],.p x3,.p x4,.p x5,.p x6,.p x7,.p x8]),(1,some [.p x9,.p x10,.ref 3 [],.ref 4 []])],[(0,some ⟨(.own 4 64 true [.leaf,.leaf,(.own 3 32 true []),(.own 3 32 true [])]),x11⟩),(1,some ⟨(.own 1 24 true [(.own 3 32 true [])]),x12⟩),(2,some ⟨(.own 1 16 false []),x13⟩),(3,some ⟨(.own 3 32 true []),x14⟩),(4,some ⟨(.own 3 32 true []),x15⟩)],0,0,7⟩
noncomputable def uZ (x0 x1 : PV) : Option R:=bP 43 [.p x0,.p x1] ⟨[],[],0,0,0⟩
noncomputable def aIx (x0 x1 x2 : PV) : Option R:=bP 47 [.p x0,.p x1,.p x2,.p (.fn 48 [])] ⟨[],[],0,0,0⟩
noncomputable def sL (x0 x1 x2 x3 x4 x5 x6 x7 x8 x9 x10 x11 x12 x13 x14 x15 x16 x17 x18 x19 x20 x21 x22 x23 : PV) : Option R:=cP 47 0 0 (aY.mode 47) (todoOf Tryz.prog 47 5) [(3,.p (.fn 48 [])),(4,.ptr 0 0),(8,.ptr 1 0),(10,.ptr 2 0),(26,.p x0),(27,.p x1)] ⟨[(0,some [.p x2,.p x3]),(1,some [.ref 0 [],.ref 1 [],.p x4,.ref 2 [],.p x5,.p x6,.p x7,.p x8,.p x9,.p x10]),(2,some [.ref 3 [],.ref 4 [],.p x11,.ref 5 [],.p x12,.p x13,.p x14,.p x15,.p x16,.p x17])],[(0,some ⟨(.own 4 64 true [.leaf,.leaf,(.own 3 32 true []),(.own 3 32 true [])]),x18⟩),(1,some ⟨(.own 1 24 true [(.own 3 32 true [])]),x19⟩),(2,some ⟨(.own 1 16 false []),x20⟩),(3,some ⟨(.own 4 64 true [.leaf,.leaf,(.own 3 32 true []),(.own 3 32 true [])]),x21⟩),(4,some ⟨(.own 1 24 true [(.own 3 32 true [])]),x22⟩),(5,some ⟨(.own 1 16 false []),x23⟩)],0,0,9⟩
noncomputable def aE1 (x0 : PV) : Option R:=aK 48 [x0]
noncomputable def kF (x0 x1 : PV) : Option R:=bP 36 [.ref 0 [],.p x0] ⟨[],[(0,some ⟨(.own 1 16 false []),x1⟩)],0,0,1⟩
noncomputable def gR (x0 x1 x2 : PV) : Option R:=cP 36 0 1 ((aY.mode 36).map (Tmpl.fitK · [some (.own 1 16 false [])])) (todoOf Tryz.prog 36 2) [(0,.ref 0 []),(1,.p x0),(5,.p x1)] ⟨[],[(0,some ⟨(.own 1 16 false []),x2⟩)],0,0,1⟩
noncomputable def rF (x0 x1 : PV) : Option R:=bP 53 [.ref 0 [],.p x0] ⟨[],[(0,some ⟨(.own 3 40 true [.leaf,.leaf,(.own 2 16 true [])]),x1⟩)],0,0,1⟩
noncomputable def jB (x0 x1 x2 : PV) : Option R:=cP 53 0 1 ((aY.mode 53).map (Tmpl.fitK · [some (.own 3 40 true [.leaf,.leaf,(.own 2 16 true [])])])) (todoOf Tryz.prog 53 2) [(0,.ref 0 []),(1,.p x0),(5,.p x1)] ⟨[],[(0,some ⟨(.own 3 40 true [.leaf,.leaf,(.own 2 16 true [])]),x2⟩)],0,0,1⟩
noncomputable def pD (x0 x1 : PV) : Option R:=bP 55 [.ref 0 [],.p x0] ⟨[],[(0,some ⟨(.own 4 64 true [.leaf,.leaf,(.own 3 32 true []),(.own 3 32 true [])]),x1⟩)],0,0,1⟩
noncomputable def iG (x0 x1 x2 : PV) : Option R:=cP 55 0 1 ((aY.mode 55).map (Tmpl.fitK · [some (.own 4 64 true [.leaf,.leaf,(.own 3 32 true []),(.own 3 32 true [])])])) (todoOf Tryz.prog 55 2) [(0,.ref 0 []),(1,.p x0),(5,.p x1)] ⟨[],[(0,some ⟨(.own 4 64 true [.leaf,.leaf,(.own 3 32 true []),(.own 3 32 true [])]),x2⟩)],0,0,1⟩
noncomputable def tK (x0 x1 : PV) : Option R:=bP 56 [.ref 0 [],.p x0] ⟨[],[(0,some ⟨(.own 1 24 true [(.own 3 32 true [])]),x1⟩)],0,0,1⟩
noncomputable def kG (x0 x1 x2 : PV) : Option R:=cP 56 0 1 ((aY.mode 56).map (Tmpl.fitK · [some (.own 1 24 true [(.own 3 32 true [])])])) (todoOf Tryz.prog 56 2) [(0,.ref 0 []),(1,.p x0),(5,.p x1)] ⟨[],[(0,some ⟨(.own 1 24 true [(.own 3 32 true [])]),x2⟩)],0,0,1⟩
noncomputable def aMj (x0 : PV) : Option R:=bP 66 [.p x0] ⟨[],[],0,0,0⟩
noncomputable def aNa (x0 : PV) : Option R:=bP 67 [.p x0] ⟨[],[],0,0,0⟩
noncomputable def oH (x0 : PV) : Option R:=bP 69 [.p x0] ⟨[],[],0,0,0⟩
noncomputable def vA (x0 x1 x2 x3 x4 x5 x6 x7 x8 x9 x10 x11 : PV) : Option R:=bP 70 [.ptr 0 0,.agg [.p x0,.p x1]] ⟨[(0,some [.ref 0 [],.ref 1 [],.p x2,.ref 2 [],.p x3,.p x4,.p x5,.p x6,.p x7,.p x8])],[(0,some ⟨(.own 4 64 true [.leaf,.leaf,(.own 3 32 true []),(.own 3 32 true [])]),x9⟩),(1,some ⟨(.own 1 24 true [(.own 3 32 true [])]),x10⟩),(2,some ⟨(.own 1 16 false []),x11⟩)],0,0,4⟩
noncomputable def aLG (x0 x1 x2 x3 x4 x5 x6 x7 x8 x9 x10 x11 x12 x13 x14 x15 x16 x17 x18 x19 x20 x21 x22 : PV) : Option R:=bP 162 [.agg [.p x0,.p x1,.p x2,.p x3,.p x4,.p x5,.p x6,.p x7,.p x8,.p x9],.fn 163 [.ptr 0 0,.ptr 1 0,.ptr 2 0]] ⟨[(0,some [.p x10]),(1,some [.p x11,.p x12]),(2,some [.p x13,.p x14,.p x15,.p x16,.p x17,.p x18,.p x19,.p x20,.p x21,.p x22])],[],0,0,3⟩
noncomputable def iV (x0 x1 : PV) : Option R:=bP 219 [.p x0,.p x1] ⟨[],[],0,0,0⟩
noncomputable def lA (x0 x1 : PV) : Option R:=cP 219 0 0 (aY.mode 219) (todoOf Tryz.prog 219 3) [(0,.p x0),(1,.p x1)] ⟨[],[],0,0,0⟩
noncomputable def lB (x0 x1 : PV) : Option R:=cP 219 0 0 (aY.mode 219) (todoOf Tryz.prog 219 6) [(0,.p x0),(6,.p x1)] ⟨[],[],0,0,0⟩
noncomputable def eP (x0 x1 : PV) : Option R:=cP 219 0 0 (aY.mode 219) (todoOf Tryz.prog 219 8) [(7,.ref 0 []),(8,.p x0)] ⟨[],[(0,some ⟨(.own 1 8 false []),x1⟩)],0,0,1⟩
noncomputable def aAi (x0 x1 : PV) : Option R:=aK 259 [x0,x1]
noncomputable def wA (x0 x1 : PV) : Option R:=aK 283 [x0,x1]
noncomputable def xT (x0 : PV) : Option R:=bP 86 [.p x0] ⟨[],[],0,0,0⟩
noncomputable def iH (x0 : PV) : Option R:=bP 83 [.p x0] ⟨[],[],0,0,0⟩
noncomputable def lH (x0 x1 x2 x3 x4 x5 x6 x7 x8 x9 x10 x11 x12 x13 x14 x15 x16 x17 x18 x19 x20 x21 : PV) : Option R:=cP 83 0 0 (aY.mode 83) (todoOf Tryz.prog 83 3) [(1,.ptr 0 0),(2,.ptr 1 0),(3,.ref 3 []),(4,.p x0)] ⟨[(0,some [.p x1,.p x2,.p x3,.p x4,.p x5,.p x6,.p x7,.p x8,.p x9,.p x10]),(1,some [.ref 0 [],.ref 1 [],.p x11,.ref 2 [],.p x12,.p x13,.p x14,.p x15,.p x16,.p x17])],[(0,some ⟨(.own 4 64 true [.leaf,.leaf,(.own 3 32 true []),(.own 3 32 true [])]),x18⟩),(1,some ⟨(.own 1 24 true [(.own 3 32 true [])]),x19⟩),(2,some ⟨(.own 1 16 false []),x20⟩),(3,some ⟨(.own 4 64 true [.leaf,.leaf,(.own 3 32 true []),(.own 3 32 true [])]),x21⟩)],0,0,6⟩
noncomputable def dN (x0 x1 x2 x3 x4 x5 x6 x7 x8 x9 x10 x11 x12 : PV) : Option R:=bP 84 [.ptr 0 0] ⟨[(0,some [.p x0,.p x1,.ref 0 [],.ref 1 [],.p x2,.ref 2 [],.p x3,.p x4,.p x5,.p x6,.p x7,.p x8,.p x9])],[(0,some ⟨(.own 4 64 true [.leaf,.leaf,(.own 3 32 true []),(.own 3 32 true [])]),x10⟩),(1,some ⟨(.own 1 24 true [(.own 3 32 true [])]),x11⟩),(2,some ⟨(.own 1 16 false []),x12⟩)],0,0,4⟩
noncomputable def rG (x0 x1 x2 x3 x4 x5 x6 x7 x8 x9 x10 x11 x12 x13 x14 : PV) : Option R:=bP 85 [.ptr 0 0,.agg [.p x0,.p x1]] ⟨[(0,some [.p x2,.p x3,.ref 0 [],.ref 1 [],.p x4,.ref 2 [],.p x5,.p x6,.p x7,.p x8,.p x9,.p x10,.p x11])],[(0,some ⟨(.own 4 64 true [.leaf,.leaf,(.own 3 32 true []),(.own 3 32 true [])]),x12⟩),(1,some ⟨(.own 1 24 true [(.own 3 32 true [])]),x13⟩),(2,some ⟨(.own 1 16 false []),x14⟩)],0,0,4⟩
noncomputable def oM (x0 : PV) : Option R:=aK 135 [x0]
noncomputable def fE (x0 : PV) : Option R:=aK 136 [x0]
noncomputable def lJ (x0 x1 x2 : PV) : Option R:=aK 138 [x0,x1,x2]
noncomputable def aAN (x0 : PV) : Option R:=aK 139 [x0]
noncomputable def rH (x0 x1 : PV) : Option R:=aK 141 [x0,x1]
noncomputable def aAO (x0 x1 : PV) : Option R:=aK 197 [x0,x1]
noncomputable def aAj (x0 x1 x2 x3 x4 x5 x6 x7 x8 : PV) : Option R:=cP 197 0 0 (aY.mode 197) (todoOf Tryz.prog 197 2) [(2,.ptr 0 0),(3,.ptr 1 0),(4,.ptr 2 0)] ⟨[(0,some [.p x0,.p x1,.p x2]),(1,some [.p x3,.p x4,.p x5]),(2,some [.p x6,.p x7,.p x8])],[],0,0,3⟩
noncomputable def aAP (x0 x1 : PV) : Option R:=aK 198 [x0,x1]
noncomputable def aAQ (x0 x1 : PV) : Option R:=aK 199 [x0,x1]
noncomputable def xU (x0 x1 : PV) : Option R:=aK 200 [x0,x1]
noncomputable def xV (x0 x1 x2 x3 x4 x5 x6 x7 x8 : PV) : Option R:=cP 200 0 0 (aY.mode 200) (todoOf Tryz.prog 200 2) [(2,.ptr 0 0),(3,.ptr 1 0),(4,.ptr 2 0)] ⟨[(0,some [.p x0,.p x1,.p x2]),(1,some [.p x3,.p x4,.p x5]),(2,some [.p x6,.p x7,.p x8])],[],0,0,3⟩
noncomputable def mP (x0 x1 x2 x3 x4 x5 x6 x7 x8 : PV) : Option R:=cP 200 0 0 (aY.mode 200) (todoOf Tryz.prog 200 3) [(2,.ptr 0 0),(3,.ptr 1 0),(4,.ptr 2 0)] ⟨[(0,some [.p x0,.p x1,.p x2]),(1,some [.p x3,.p x4,.p x5]),(2,some [.p x6,.p x7,.p x8])],[],0,0,3⟩
noncomputable def xW (x0 x1 x2 x3 x4 x5 x6 x7 x8 : PV) : Option R:=cP 200 0 0 (aY.mode 200) (todoOf Tryz.prog 200 4) [(2,.ptr 0 0),(3,.ptr 1 0),(4,.ptr 2 0)] ⟨[(0,some [.p x0,.p x1,.p x2]),(1,some [.p x3,.p x4,.p x5]),(2,some [.p x6,.p x7,.p x8])],[],0,0,3⟩
noncomputable def xX (x0 x1 : PV) : Option R:=aK 201 [x0,x1]
noncomputable def dO (x0 : PV) : Option R:=aK 183 [x0]
noncomputable def fX (x0 x1 x2 : PV) : Option R:=aK 248 [x0,x1,x2]
noncomputable def tL (x0 x1 x2 : PV) : Option R:=aK 280 [x0,x1,x2]
noncomputable def aAR (x0 x1 : PV) : Option R:=bP 87 [.p x0,.p x1] ⟨[],[],0,0,0⟩
noncomputable def xY (x0 x1 : PV) : Option R:=aK 143 [x0,x1]
noncomputable def eE (x0 x1 : PV) : Option R:=aK 203 [x0,x1]
noncomputable def aAk (x0 x1 : PV) : Option R:=aK 204 [x0,x1]
noncomputable def eQ (x0 x1 : PV) : Option R:=aK 249 [x0,x1]
noncomputable def bO (x0 x1 x2 x3 : PV) : Option R:=cP 249 0 0 (aY.mode 249) (todoOf Tryz.prog 249 2) [(0,.p x0),(1,.p x1),(7,.p x2),(8,.p x3)] ⟨[],[],0,0,0⟩
noncomputable def vB (x0 x1 x2 : PV) : Option R:=aK 164 [x0,x1,x2]
noncomputable def tM (x0 x1 x2 : PV) : Option R:=bP 92 [.ref 0 [(x0,2)],.p x1] ⟨[],[(0,some ⟨(.own 3 40 true [.leaf,.leaf,(.own 2 16 true [])]),x2⟩)],0,0,1⟩
noncomputable def kH (x0 x1 x2 x3 : PV) : Option R:=cP 92 0 1 ((aY.mode 92).map (Tmpl.fitK · [some (.own 3 40 true [.leaf,.leaf,(.own 2 16 true [])])])) (todoOf Tryz.prog 92 2) [(0,.ref 0 [(x0,2)]),(1,.p x1),(5,.p x2)] ⟨[],[(0,some ⟨(.own 3 40 true [.leaf,.leaf,(.own 2 16 true [])]),x3⟩)],0,0,1⟩
noncomputable def lK (x0 x1 x2 : PV) : Option R:=bP 17 [.ref 0 [(x0,2)],.p x1] ⟨[],[(0,some ⟨(.own 4 64 true [.leaf,.leaf,(.own 3 32 true []),(.own 3 32 true [])]),x2⟩)],0,0,1⟩
noncomputable def gD (x0 x1 x2 x3 : PV) : Option R:=cP 17 0 1 ((aY.mode 17).map (Tmpl.fitK · [some (.own 4 64 true [.leaf,.leaf,(.own 3 32 true []),(.own 3 32 true [])])])) (todoOf Tryz.prog 17 2) [(0,.ref 0 [(x0,2)]),(1,.p x1),(5,.p x2)] ⟨[],[(0,some ⟨(.own 4 64 true [.leaf,.leaf,(.own 3 32 true []),(.own 3 32 true [])]),x3⟩)],0,0,1⟩
noncomputable def lL (x0 x1 x2 : PV) : Option R:=bP 17 [.ref 0 [(x0,3)],.p x1] ⟨[],[(0,some ⟨(.own 4 64 true [.leaf,.leaf,(.own 3 32 true []),(.own 3 32 true [])]),x2⟩)],0,0,1⟩
noncomputable def gE (x0 x1 x2 x3 : PV) : Option R:=cP 17 0 1 ((aY.mode 17).map (Tmpl.fitK · [some (.own 4 64 true [.leaf,.leaf,(.own 3 32 true []),(.own 3 32 true [])])])) (todoOf Tryz.prog 17 2) [(0,.ref 0 [(x0,3)]),(1,.p x1),(5,.p x2)] ⟨[],[(0,some ⟨(.own 4 64 true [.leaf,.leaf,(.own 3 32 true []),(.own 3 32 true [])]),x3⟩)],0,0,1⟩
noncomputable def lM (x0 x1 x2 : PV) : Option R:=bP 17 [.ref 0 [(x0,0)],.p x1] ⟨[],[(0,some ⟨(.own 1 24 true [(.own 3 32 true [])]),x2⟩)],0,0,1⟩
noncomputable def gF (x0 x1 x2 x3 : PV) : Option R:=cP 17 0 1 ((aY.mode 17).map (Tmpl.fitK · [some (.own 1 24 true [(.own 3 32 true [])])])) (todoOf Tryz.prog 17 2) [(0,.ref 0 [(x0,0)]),(1,.p x1),(5,.p x2)] ⟨[],[(0,some ⟨(.own 1 24 true [(.own 3 32 true [])]),x3⟩)],0,0,1⟩
noncomputable def aMv (x0 : PV) : Option R:=bP 105 [.p x0] ⟨[],[],0,0,0⟩
noncomputable def aNp (x0 : PV) : Option R:=bP 106 [.p x0] ⟨[],[],0,0,0⟩
noncomputable def pE (x0 : PV) : Option R:=bP 110 [.p x0] ⟨[],[],0,0,0⟩
noncomputable def iI (x0 x1 x2 x3 : PV) : Option R:=cP 110 0 0 (aY.mode 110) (todoOf Tryz.prog 110 3) [(3,.ref 0 []),(7,.p x0),(8,.p x1),(9,.p x2)] ⟨[],[(0,some ⟨(.own 4 64 true [.leaf,.leaf,(.own 3 32 true []),(.own 3 32 true [])]),x3⟩)],0,0,1⟩
noncomputable def tN (x0 : PV) : Option R:=bP 111 [.p x0] ⟨[],[],0,0,0⟩
noncomputable def kI (x0 x1 x2 x3 : PV) : Option R:=cP 111 0 0 (aY.mode 111) (todoOf Tryz.prog 111 3) [(3,.ref 0 []),(7,.p x0),(8,.p x1),(9,.p x2)] ⟨[],[(0,some ⟨(.own 1 24 true [(.own 3 32 true [])]),x3⟩)],0,0,1⟩
noncomputable def fP (x0 : PV) : Option R:=bP 112 [.p x0] ⟨[],[],0,0,0⟩
noncomputable def aAS (x0 x1 x2 x3 x4 x5 x6 x7 x8 x9 x10 x11 : PV) : Option R:=bP 113 [.ptr 0 0,.agg [.p x0,.p x1]] ⟨[(0,some [.ref 0 [],.ref 1 [],.p x2,.ref 2 [],.p x3,.p x4,.p x5,.p x6,.p x7,.p x8])],[(0,some ⟨(.own 4 64 true [.leaf,.leaf,(.own 3 32 true []),(.own 3 32 true [])]),x9⟩),(1,some ⟨(.own 1 24 true [(.own 3 32 true [])]),x10⟩),(2,some ⟨(.own 1 16 false []),x11⟩)],0,0,4⟩
noncomputable def hH (x0 x1 x2 x3 x4 x5 x6 x7 x8 x9 x10 x11 x12 x13 x14 x15 x16 : PV) : Option R:=cP 113 1 0 (aY.mode 113) (todoOf Tryz.prog 113 74) [(0,.ptr 0 0),(3,.ptr 1 0),(5,.eptr 0 [] x0 0),(9,.p x1),(10,.ref 3 []),(12,.p x2),(21,.p x3)] ⟨[(0,some [.ref 0 [],.ref 1 [],.p x4,.ref 2 [],.p x5,.p x6,.p x7,.p x8,.p x9,.p x10]),(1,some [.p x11,.p x12])],[(0,some ⟨(.own 4 64 true [.leaf,.leaf,(.own 3 32 true []),(.own 3 32 true [])]),x13⟩),(1,some ⟨(.own 1 24 true [(.own 3 32 true [])]),x14⟩),(2,some ⟨(.own 1 16 false []),x15⟩),(3,some ⟨(.own 3 32 true []),x16⟩)],0,0,6⟩
noncomputable def vC (x0 : PV) : Option R:=aK 169 [x0]
noncomputable def jP (x0 : PV) : Option R:=aK 170 [x0]
noncomputable def fY (x0 : PV) : Option R:=aK 171 [x0]
noncomputable def xZ (x0 x1 : PV) : Option R:=aK 172 [x0,x1]
noncomputable def aAT (x0 : PV) : Option R:=aK 173 [x0]
noncomputable def rI (x0 x1 : PV) : Option R:=aK 177 [x0,x1]
noncomputable def aAU (x0 x1 : PV) : Option R:=aK 220 [x0,x1]
noncomputable def aAV (x0 x1 : PV) : Option R:=aK 221 [x0,x1]
noncomputable def aAW (x0 x1 : PV) : Option R:=aK 222 [x0,x1]
noncomputable def yA (x0 x1 : PV) : Option R:=aK 223 [x0,x1]
noncomputable def strconv_Itoa (x0 : PV) : Option R:=aK 224 [x0]
noncomputable def lN (x0 : PV) : Option R:=aK 225 [x0]
noncomputable def qP (x0 x1 x2 : PV) : Option R:=aK 150 [x0,x1,x2]
noncomputable def mQ (x0 x1 x2 : PV) : Option R:=aK 260 [x0,x1,x2]
noncomputable def vD (x0 x1 : PV) : Option R:=aK 261 [x0,x1]
noncomputable def vE (x0 x1 : PV) : Option R:=aK 262 [x0,x1]
noncomputable def vF (x0 x1 : PV) : Option R:=aK 263 [x0,x1]
noncomputable def pF (x0 x1 : PV) : Option R:=aK 264 [x0,x1]
noncomputable def jC (x0 : PV) : Option R:=aK 266 [x0]
noncomputable def kJ (x0 : PV) : Option R:=aK 284 [x0]
noncomputable def dP (x0 : PV) : Option R:=bP 205 [.p x0] ⟨[],[],0,0,0⟩
noncomputable def bJ (x0 x1 x2 x3 x4 : PV) : Option R:=cP 205 0 0 (aY.mode 205) (todoOf Tryz.prog 205 3) [(0,.p x0),(3,.p x1),(9,.p x2),(10,.p x3),(11,.p x4)] ⟨[],[],0,0,0⟩
noncomputable def bG (x0 x1 x2 x3 : PV) : Option R:=cP 205 0 0 (aY.mode 205) (todoOf Tryz.prog 205 11) [(6,.ref 0 []),(25,.p x0),(26,.p x1),(27,.p x2)] ⟨[],[(0,some ⟨(.own 3 32 true []),x3⟩)],0,0,1⟩
noncomputable def aNb (x0 x1 x2 x3 x4 x5 x6 x7 x8 x9 x10 x11 x12 x13 x14 x15 : PV) : Option R:=bP 163 [.agg [.p x0,.p x1,.p x2],.ptr 0 0,.ptr 1 0,.ptr 2 0] ⟨[(0,some [.p x3]),(1,some [.p x4,.p x5]),(2,some [.p x6,.p x7,.p x8,.p x9,.p x10,.p x11,.p x12,.p x13,.p x14,.p x15])],[],0,0,3⟩
noncomputable def yB (x0 : PV) : Option R:=bP 142 [.p x0] ⟨[],[],0,0,0⟩
noncomputable def mT (x0 x1 x2 : PV) : Option R:=cP 142 0 0 (aY.mode 142) (todoOf Tryz.prog 142 3) [(0,.p x0),(3,.ref 0 []),(4,.p x1)] ⟨[],[(0,some ⟨(.own 2 16 true []),x2⟩)],0,0,1⟩
noncomputable def aAX (x0 : PV) : Option R:=aK 202 [x0]
noncomputable def mU (x0 : PV) : Option R:=bP 132 [.p x0] ⟨[],[],0,0,0⟩
noncomputable def nW (x0 : PV) : Option R:=bP 133 [.p x0] ⟨[],[],0,0,0⟩
noncomputable def gS (x0 x1 x2 : PV) : Option R:=cP 133 0 0 (aY.mode 133) (todoOf Tryz.prog 133 3) [(0,.p x0),(3,.ref 0 []),(4,.p x1)] ⟨[],[(0,some ⟨(.own 1 24 true [(.own 3 32 true [])]),x2⟩)],0,0,1⟩
noncomputable def fK (x0 x1 x2 x3 x4 x5 x6 x7 x8 x9 x10 x11 x12 x13 : PV) : Option R:=bP 134 [.ptr 0 0,.p x0] ⟨[(0,some [.p x1,.p x2,.ref 0 [],.ref 1 [],.p x3,.ref 2 [],.p x4,.p x5,.p x6,.p x7,.p x8,.p x9,.p x10])],[(0,some ⟨(.own 4 64 true [.leaf,.leaf,(.own 3 32 true []),(.own 3 32 true [])]),x11⟩),(1,some ⟨(.own 1 24 true [(.own 3 32 true [])]),x12⟩),(2,some ⟨(.own 1 16 false []),x13⟩)],0,0,4⟩
noncomputable def aZ (x0 x1 x2 x3 x4 x5 x6 x7 x8 x9 x10 x11 x12 x13 x14 x15 : PV) : Option R:=bP 134 [.ptr 0 0,.agg [.p x0,.p x1,.p x2]] ⟨[(0,some [.p x3,.p x4,.ref 0 [],.ref 1 [],.p x5,.ref 2 [],.p x6,.p x7,.p x8,.p x9,.p x10,.p x11,.p x12])],[(0,some ⟨(.own 4 64 true [.leaf,.leaf,(.own 3 32 true []),(.own 3 32 true [])]),x13⟩),(1,some ⟨(.own 1 24 true [(.own 3 32 true [])]),x14⟩),(2,some ⟨(.own 1 16 false []),x15⟩)],0,0,4⟩
noncomputable def aT (x0 x1 x2 x3 x4 x5 x6 x7 x8 x9 x10 x11 x12 : PV) : Option R:=bP 137 [.ptr 0 0] ⟨[(0,some [.p x0,.p x1,.ref 0 [],.ref 1 [],.p x2,.ref 2 [],.p x3,.p x4,.p x5,.p x6,.p x7,.p x8,.p x9])],[(0,some ⟨(.own 4 64 true [.leaf,.leaf,(.own 3 32 true []),(.own 3 32 true [])]),x10⟩),(1,some ⟨(.own 1 24 true [(.own 3 32 true [])]),x11⟩),(2,some ⟨(.own 1 16 false []),x12⟩)],0,0,4⟩
noncomputable def kK (x0 x1 x2 x3 x4 x5 x6 x7 x8 x9 x10 x11 x12 x13 x14 : PV) : Option R:=bP 140 [.ptr 0 0,.p x0,.p x1] ⟨[(0,some [.p x2,.p x3,.ref 0 [],.ref 1 [],.p x4,.ref 2 [],.p x5,.p x6,.p x7,.p x8,.p x9,.p x10,.p x11])],[(0,some ⟨(.own 4 64 true [.leaf,.leaf,(.own 3 32 true []),(.own 3 32 true [])]),x12⟩),(1,some ⟨(.own 1 24 true [(.own 3 32 true [])]),x13⟩),(2,some ⟨(.own 1 16 false []),x14⟩)],0,0,4⟩
noncomputable def gT (x0 x1 x2 x3 x4 x5 x6 x7 x8 x9 x10 x11 x12 x13 x14 x15 x16 : PV) : Option R:=cP 140 1 0 (aY.mode 140) (todoOf Tryz.prog 140 5) [(0,.ptr 0 0),(1,.p x0),(2,.p x1),(7,.ref 3 []),(8,.p x2)] ⟨[(0,some [.p x3,.p x4,.ref 0 [],.ref 1 [],.p x5,.ref 2 [],.p x6,.p x7,.p x8,.p x9,.p x10,.p x11,.p x12])],[(0,some ⟨(.own 4 64 true [.leaf,.leaf,(.own 3 32 true []),(.own 3 32 true [])]),x13⟩),(1,some ⟨(.own 1 24 true [(.own 3 32 true [])]),x14⟩),(2,some ⟨(.own 1 16 false []),x15⟩),(3,some ⟨(.own 3 32 true []),x16⟩)],0,0,5⟩
noncomputable def gG (x0 x1 x2 x3 x4 x5 x6 x7 x8 x9 x10 x11 x12 x13 x14 : PV) : Option R:=cP 140 1 0 (aY.mode 140) (todoOf Tryz.prog 140 10) [(0,.ptr 0 0),(1,.p x0),(7,.ref 3 [])] ⟨[(0,some [.p x1,.p x2,.ref 0 [],.ref 1 [],.p x3,.ref 2 [],.p x4,.p x5,.p x6,.p x7,.p x8,.p x9,.p x10])],[(0,some ⟨(.own 4 64 true [.leaf,.leaf,(.own 3 32 true []),(.own 3 32 true [])]),x11⟩),(1,some ⟨(.own 1 24 true [(.own 3 32 true [])]),x12⟩),(2,some ⟨(.own 1 16 false []),x13⟩),(3,some ⟨(.own 3 32 true []),x14⟩)],0,0,5⟩
noncomputable def qB (x0 x1 x2 : PV) : Option R:=bP 144 [.p x0,.p x1,.p x2] ⟨[],[],0,0,0⟩
noncomputable def bQ (x0 : PV) : Option R:=bP 167 [.p x0] ⟨[],[],0,0,0⟩
noncomputable def zB (x0 : PV) : Option R:=bP 174 [.p x0] ⟨[],[],0,0,0⟩
noncomputable def oI (x0 x1 x2 x3 x4 x5 x6 x7 x8 x9 x10 x11 : PV) : Option R:=bP 175 [.ptr 0 0,.p x0,.p x1] ⟨[(0,some [.ref 0 [],.ref 1 [],.p x2,.ref 2 [],.p x3,.p x4,.p x5,.p x6,.p x7,.p x8])],[(0,some ⟨(.own 4 64 true [.leaf,.leaf,(.own 3 32 true []),(.own 3 32 true [])]),x9⟩),(1,some ⟨(.own 1 24 true [(.own 3 32 true [])]),x10⟩),(2,some ⟨(.own 1 16 false []),x11⟩)],0,0,4⟩
noncomputable def rJ (x0 x1 x2 x3 x4 x5 x6 x7 x8 x9 x10 : PV) : Option R:=bP 176 [.ptr 0 0,.p x0] ⟨[(0,some [.ref 0 [],.ref 1 [],.p x1,.ref 2 [],.p x2,.p x3,.p x4,.p x5,.p x6,.p x7])],[(0,some ⟨(.own 4 64 true [.leaf,.leaf,(.own 3 32 true []),(.own 3 32 true [])]),x8⟩),(1,some ⟨(.own 1 24 true [(.own 3 32 true [])]),x9⟩),(2,some ⟨(.own 1 16 false []),x10⟩)],0,0,4⟩
noncomputable def eA (x0 : PV) : Option R:=bP 250 [.nils,.p x0] ⟨[],[],0,0,0⟩
end Go.Proofs.YthkofpnllaapeaaGreatDoor
