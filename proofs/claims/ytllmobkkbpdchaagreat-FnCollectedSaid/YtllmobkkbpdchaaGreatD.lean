/-
  Texts of the proof, part 4: a value-level evaluator and its soundness, what the functions compute, laws about it.
  Conditions: none.
-/
import Derived.Test.YtllmobkkbpdchaaGreatC
import Derived.Shelf.Spec.SlicesGrow
import Derived.Shelf.Strconv.Itoa3
import Derived.Shelf.SlGeneric
import Derived.Ground.Names8Prog
import Derived.Shelf.SortM.Plain
import Derived.Shelf.SortM.SortNone
import Derived.Ground.SlgmProg
import Derived.RangeFuncBox
import Derived.RangeFuncLeaves
import Derived.RangeFuncWrites
import Derived.Shelf.Abstract
import Derived.WalkKit
import Derived.OwnWalkIn
import Derived.Shelf.SlIterI.Sorted
import Derived.TacticsInMore
import Derived.LoopNIn
import Derived.LoopIn
set_option linter.all false
namespace Go.Proofs.YtllmobkkbpdchaaGreat
noncomputable section
open Go
def bA.back (m c : bA) (bs kl : List Nat) (n k n' k' : Nat) (s : Sx) : bA:=
 { w:=c.w,Z:=c.Z,L:=m.L,s:=s,
   ρ:={ box:=λx=>match eM bs n k x with | some i=>c.ρ.box i | none=>m.ρ.box x
        hdr:=λx=>match eM kl n' k' x with | some i=>c.ρ.hdr i | none=>m.ρ.hdr x
        fp:=λx=>match eM kl n' k' x with | some i=>c.ρ.fp i | none=>m.ρ.fp x
        ty:=λx=>match eM kl n' k' x with | some i=>c.ρ.ty i | none=>m.ρ.ty x
        ub:=λx=>m.ρ.ub x∨(n≤x∧x<n+k)
        ul:=λx=>m.ρ.ul x∨(n'≤x∧x<n'+k')}}
theorem fI (bs : List Nat) (n k x : Nat) : (∃ i,eM bs n k x=some i∧bs[i]? = some x)∨(∃ i,eM bs n k x=some (bs.length+i)∧x=n+i∧i<k∧x∉bs)∨(eM bs n k x=none∧x∉bs∧¬ (n≤x∧x<n+k)):=by
 rcases aIH (l:=bs) x with ⟨i,h1,h2⟩ | ⟨h1,h2⟩
 ·exact .inl ⟨i,by unfold eM;rw [h1],h2⟩
 ·by_cases h : n≤x∧x<n+k
  ·exact .inr (.inl ⟨x - n,by unfold eM;rw [h1];simp only [if_pos h],by omega,by omega,h2⟩)
  ·exact .inr (.inr ⟨by unfold eM;rw [h1];simp only [if_neg h],h2,h⟩)
theorem aDN (n k x : Nat) : eM [] n k x=zN n k x:=by
 unfold eM zN
 simp only [idx,List.length_nil,Nat.zero_add]
theorem aGU (n k x : Nat) : (∃ i,zN n k x=some i∧x=n+i∧i<k)∨(zN n k x=none∧¬ (n≤x∧x<n+k)):=by
 unfold zN
 by_cases h : n≤x∧x<n+k
 ·rw [if_pos h];exact .inl ⟨x - n,rfl,by omega,by omega⟩
 ·rw [if_neg h];exact .inr ⟨rfl,h⟩
theorem aAk.mono {w w' : World} {Z Z' : NP} {ρ ρ' : Loc} {live live' gone gone' : NP} (C : aAk w w' Z Z' ρ ρ' live live' gone) (h : ∀ l,gone l→gone' l) : aAk w w' Z Z' ρ ρ' live live' gone':=
 ⟨C.z,C.hw,C.b,C.u,λl hu hl=>⟨(C.l l hu hl).1,(C.l l hu hl).2.1,(C.l l hu hl).2.2.1,(C.l l hu hl).2.2.2.imp (h l) _root_.id⟩⟩
theorem dM.kept {w w' : World} {Z Z' : NP} {ρ ρ' : Loc} {live live' : NP} {kp : Bool} {kl : List Nat} (hk : kp=false→kl = []) (C : aAk w w' Z Z' ρ ρ' live live' (λl=>l∈kl)) {d : DV} {v : Value}
 (h : dM w Z ρ live d v) : dM w' Z' ρ' live' (scrubKeptD kp kl d) v:=by
 unfold scrubKeptD
 cases kp with
 | true=>exact dM.scrub C deep h
 | false=>
   have:=hk rfl
   subst this
   exact dM.carry (C.mono (λl hl=>by cases hl)) h
section
variable {m c : bA} {kp : Bool} {bs ls kl : List Nat} {n k n' k' : Nat} {s0 : St} {S : Sx}
structure wC (m c : bA) (kp : Bool) (bs ls kl : List Nat) (n k n' k' : Nat) (S : Sx) : Prop where
 kk : kp=false→kl = []
 kn : kl.Nodup
 ks : ∀ l∈kl,l∈ls
 row : ∀ i l,kl[i]? = some l→c.s.live i→c.ρ.hdr i=m.ρ.hdr l∧c.ρ.ty i=m.ρ.ty l
 inv : oP m
 cinv : oP c
 nb : bs.Nodup
 ab : ∀ b∈bs,∃ cs,m.s.box b=some cs
 al : ∀ l∈ls,∃ o,m.s.list l=some o
 size : m.w.heap.size≤c.w.heap.size
 os : c.w.os=m.w.os
 tape : c.w.tape=m.w.tape
 output : c.w.output=m.w.output
 keep : ∀ r,r<m.w.heap.size→¬ ((∃ b∈bs,r=m.ρ.box b)∨(∃ l∈ls,m.ρ.fp l r))→c.w.heap[r]? = m.w.heap[r]?
 own : ∀ r,c.owned r→((∃ b∈bs,r=m.ρ.box b)∨(∃ l∈ls,m.ρ.fp l r))∨m.w.heap.size≤r
 z : ∀ r,c.Z r→m.Z r∨((∃ b∈bs,r=m.ρ.box b)∨(∃ l∈ls,m.ρ.fp l r))∨m.w.heap.size≤r
 zz : ∀ r,m.Z r→c.Z r
 box : ∀ i b,bs[i]? = some b→c.ρ.box i=m.ρ.box b
 freshB : ∀ x,n≤x→x<n+k→¬ m.ρ.ub x
 freshL : ∀ x,n'≤x→x<n'+k'→¬ m.ρ.ul x
 sb : ∀ x cs,S.box x=some cs→(∃ i cs0,eM bs n k x=some i∧c.s.box i=some cs0∧cs.length=cs0.length∧∀ (j : Nat) d0 d v,cs0[j]? = some d0→cs[j]? = some d→c.rd d0 v→(m.back c bs kl n k n' k' S).rd d v)∨(eM bs n k x=none∧∃ cs0,m.s.box x=some cs0∧cs=cs0.map (scrubKeptD kp kl))
 sbx : ∀ x,(∃ cs,m.s.box x=some cs)→∃ cs,S.box x=some cs
 sl : ∀ x o,S.list x=some o→(∃ i,eM kl n' k' x=some i∧c.s.list i=some o)∨(eM kl n' k' x=none∧x∉ls∧m.s.list x=some o)
def aGV (m : bA) (bs ls : List Nat) (r : Nat) : Prop:=(∃ b∈bs,r=m.ρ.box b)∨(∃ l∈ls,m.ρ.fp l r)
theorem wC.mine (C : wC m c kp bs ls kl n k n' k' S) {r : Nat} (ho : m.owned r) (hn : ¬ aGV m bs ls r) : c.w.heap[r]? = m.w.heap[r]?∧¬ c.Z r∧¬ c.owned r∧r<m.w.heap.size:=by
 have hlt:=C.inv.owned_lt ho
 refine ⟨C.keep r hlt hn,λhz=>?_,λh=>?_,hlt⟩
 ·rcases C.z r hz with h | h | h
  ·exact C.inv.owned_notZ ho h
  ·exact hn h
  ·omega
 ·rcases C.own r h with h | h
  ·exact hn h
  ·omega
theorem wC.boxOut (C : wC m c kp bs ls kl n k n' k' S) {x : Nat} {cs : List DV} (hx : m.s.box x=some cs) (hn : x∉bs) : ¬ aGV m bs ls (m.ρ.box x):=by
 rintro (⟨b,hb,e⟩ | ⟨l,hl,h⟩)
 ·obtain ⟨cs',hcs'⟩:=C.ab b hb
  exact hn (C.inv.bb x cs b cs' hx hcs' e▸hb)
 ·obtain ⟨o,ho⟩:=C.al l hl
  exact C.inv.bl x cs l o hx ho h
theorem wC.rowOut (C : wC m c kp bs ls kl n k n' k' S) {l : Nat} {o : Own} (hl : m.s.list l=some o) (hn : l∉ls) {r : Nat} (hr : m.ρ.fp l r) : ¬ aGV m bs ls r:=by
 rintro (⟨b,hb,rfl⟩ | ⟨l',hl',h⟩)
 ·obtain ⟨cs',hcs'⟩:=C.ab b hb
  exact C.inv.bl b cs' l o hcs' hl hr
 ·obtain ⟨o',ho'⟩:=C.al l' hl'
  exact hn (C.inv.ll l o l' o' r hl ho' hr h▸hl')
theorem wC.LOut (C : wC m c kp bs ls kl n k n' k' S) {r : Nat} (hr : m.L r) : ¬ aGV m bs ls r:=by
 rintro (⟨b,hb,rfl⟩ | ⟨l,hl,h⟩)
 ·obtain ⟨cs',hcs'⟩:=C.ab b hb
  exact C.inv.Lb b cs' hcs' hr
 ·obtain ⟨o,ho⟩:=C.al l hl
  exact C.inv.Ll l o r ho h hr
theorem wC.rd (C : wC m c kp bs ls kl n k n' k' S) {d : DV} {v : Value} (h : m.rd d v) : (m.back c bs kl n k n' k' S).rd (scrubKeptD kp kl d) v:=by
 have Cr : aAk m.w c.w m.Z c.Z m.ρ (m.back c bs kl n k n' k' S).ρ m.s.live S.live (λl=>l∈kl):={
  z:=C.zz
  hw:=λr hr=>C.keep r (C.inv.zlt r hr) (by
   rintro (⟨b,hb,rfl⟩ | ⟨l,hl,h⟩)
   ·obtain ⟨cs',hcs'⟩:=C.ab b hb
    exact C.inv.bz b cs' hcs' hr
   ·obtain ⟨o,ho⟩:=C.al l hl
    exact (C.inv.row l o ho).2.2.notZ r h hr)
  b:=λb hb=>by
   refine ⟨.inl hb,?_⟩
   show (match eM bs n k b with | some i=>c.ρ.box i | none=>m.ρ.box b)=_
   rcases fI bs n k b with ⟨i,h1,h2⟩ | ⟨i,h1,h2,h3,h4⟩ | ⟨h1,_⟩
   ·rw [h1];exact C.box i b h2
   ·exact absurd hb (C.freshB b (by omega) (by omega))
   ·rw [h1]
  u:=λl hl=>.inl hl
  l:=λl hu hv=>by
   show _∧(match eM kl n' k' l with | some i=>c.ρ.hdr i | none=>m.ρ.hdr l)=_∧(match eM kl n' k' l with | some i=>c.ρ.ty i | none=>m.ρ.ty l)=_∧
    (l∈kl∨_∨∀ r,m.ρ.fp l r→(match eM kl n' k' l with | some i=>c.ρ.fp i | none=>m.ρ.fp l) r∧_)
   rcases fI kl n' k' l with ⟨i,h1,h2⟩ | ⟨i,h1,h2,h3,_⟩ | ⟨h1,_⟩
   ·rw [h1]
    have hm:=List.mem_of_getElem? h2
    obtain ⟨o,ho⟩:=C.al l (C.ks l hm)
    cases hs : S.list l with
    | none=>exact absurd hs hv
    | some o'=>
      rcases C.sl l o' hs with ⟨i',g1,g2⟩ | ⟨g1,_⟩
      ·rw [h1] at g1
       cases g1
       obtain ⟨q1,q2⟩:=C.row i l h2 (bA.live_of g2)
       exact ⟨bA.live_of ho,q1,q2,.inl hm⟩
      ·rw [h1] at g1;cases g1
   ·exact absurd hu (C.freshL l (by omega) (by omega))
   ·rw [h1]
    cases hs : S.list l with
    | none=>exact absurd hs hv
    | some o=>
      rcases C.sl l o hs with ⟨i,g1,_⟩ | ⟨_,g2,g3⟩
      ·rw [h1] at g1;cases g1
      ·exact ⟨bA.live_of g3,rfl,rfl,.inr (.inr λr hr=>⟨hr,(C.mine (.inr (.inl ⟨l,o,g3,hr⟩)) (C.rowOut g3 g2 hr)).1⟩)⟩}
 exact dM.kept C.kk Cr h
theorem wC.boxOf (C : wC m c kp bs ls kl n k n' k' S) {x : Nat} {cs : List DV} (h : S.box x=some cs) :
 (∃ i cs0,eM bs n k x=some i∧c.s.box i=some cs0∧(m.back c bs kl n k n' k' S).ρ.box x=c.ρ.box i)∨(eM bs n k x=none∧(∃ cs0,m.s.box x=some cs0∧cs=cs0.map (scrubKeptD kp kl))∧x∉bs∧(m.back c bs kl n k n' k' S).ρ.box x=m.ρ.box x):=by
 rcases C.sb x cs h with ⟨i,cs0,h1,h2,_⟩ | ⟨h1,h2⟩
 ·refine .inl ⟨i,cs0,h1,h2,?_⟩
  show (match eM bs n k x with | some i=>c.ρ.box i | none=>m.ρ.box x)=_
  rw [h1]
 ·refine .inr ⟨h1,h2,?_,?_⟩
  ·rcases fI bs n k x with ⟨i,g1,_⟩ | ⟨i,g1,_⟩ | ⟨_,g2,_⟩
   ·rw [h1] at g1;cases g1
   ·rw [h1] at g1;cases g1
   ·exact g2
  ·show (match eM bs n k x with | some i=>c.ρ.box i | none=>m.ρ.box x)=_
   rw [h1]
theorem wC.rowOf (C : wC m c kp bs ls kl n k n' k' S) {x : Nat} {o : Own} (h : S.list x=some o) :
 (∃ i,eM kl n' k' x=some i∧c.s.list i=some o∧(m.back c bs kl n k n' k' S).ρ.fp x=c.ρ.fp i∧(m.back c bs kl n k n' k' S).ρ.hdr x=c.ρ.hdr i∧(m.back c bs kl n k n' k' S).ρ.ty x=c.ρ.ty i)∨
 (eM kl n' k' x=none∧m.s.list x=some o∧x∉ls∧(m.back c bs kl n k n' k' S).ρ.fp x=m.ρ.fp x∧(m.back c bs kl n k n' k' S).ρ.hdr x=m.ρ.hdr x∧(m.back c bs kl n k n' k' S).ρ.ty x=m.ρ.ty x):=by
 rcases C.sl x o h with ⟨i,h1,h2⟩ | ⟨h1,h2,h3⟩
 ·refine .inl ⟨i,h1,h2,?_,?_,?_⟩
  ·show (match eM kl n' k' x with | some i=>c.ρ.fp i | none=>m.ρ.fp x)=_
   rw [h1]
  ·show (match eM kl n' k' x with | some i=>c.ρ.hdr i | none=>m.ρ.hdr x)=_
   rw [h1]
  ·show (match eM kl n' k' x with | some i=>c.ρ.ty i | none=>m.ρ.ty x)=_
   rw [h1]
 ·refine .inr ⟨h1,h3,h2,?_,?_,?_⟩
  ·show (match eM kl n' k' x with | some i=>c.ρ.fp i | none=>m.ρ.fp x)=_
   rw [h1]
  ·show (match eM kl n' k' x with | some i=>c.ρ.hdr i | none=>m.ρ.hdr x)=_
   rw [h1]
  ·show (match eM kl n' k' x with | some i=>c.ρ.ty i | none=>m.ρ.ty x)=_
   rw [h1]
theorem aKJ (hn : bs.Nodup) {x y i : Nat} (hx : eM bs n k x=some i) (hy : eM bs n k y=some i) : x=y:=by
 have hlt : ∀ {z i},bs[i]? = some z→i<bs.length:=λh=>(List.getElem?_eq_some_iff.1 h).1
 rcases fI bs n k x with ⟨i1,a1,a2⟩ | ⟨i1,a1,a2,_,_⟩ | ⟨a1,_⟩<;>rw [hx] at a1<;>first | (cases a1;done) | skip
 ·cases a1
  rcases fI bs n k y with ⟨i2,b1,b2⟩ | ⟨i2,b1,b2,_,_⟩ | ⟨b1,_⟩<;>rw [hy] at b1<;>first | (cases b1;done) | skip
  ·cases b1;rw [a2] at b2;cases b2;rfl
  ·have:=hlt a2;simp at b1;omega
 ·rcases fI bs n k y with ⟨i2,b1,b2⟩ | ⟨i2,b1,b2,_,_⟩ | ⟨b1,_⟩<;>rw [hy] at b1<;>first | (cases b1;done) | skip
  ·have:=hlt b2;simp at a1 b1;omega
  ·simp at a1 b1;omega
theorem wC.invB (C : wC m c kp bs ls kl n k n' k' S) : oP (m.back c bs kl n k n' k' S):=by
 have oldB : ∀ {x cs},m.s.box x=some cs→x∉bs→c.w.heap[m.ρ.box x]? = m.w.heap[m.ρ.box x]?∧¬ c.Z (m.ρ.box x)∧¬ c.owned (m.ρ.box x)∧m.ρ.box x<m.w.heap.size:=λhx hn=>C.mine (.inl ⟨_,_,hx,rfl⟩) (C.boxOut hx hn)
 have oldL : ∀ {l o r},m.s.list l=some o→l∉ls→m.ρ.fp l r→c.w.heap[r]? = m.w.heap[r]?∧¬ c.Z r∧¬ c.owned r∧r<m.w.heap.size:=λhl hn hr=>C.mine (.inr (.inl ⟨_,_,hl,hr⟩)) (C.rowOut hl hn hr)
 have hZw : ∀ r,m.Z r→c.w.heap[r]? = m.w.heap[r]?:=λr hr=>C.keep r (C.inv.zlt r hr) (by
  rintro (⟨b,hb,rfl⟩ | ⟨l,hl,h⟩)
  ·obtain ⟨cs',hcs'⟩:=C.ab b hb
   exact C.inv.bz b cs' hcs' hr
  ·obtain ⟨o,ho⟩:=C.al l hl
   exact (C.inv.row l o ho).2.2.notZ r h hr)
 refine ⟨?_,?_,C.cinv.zlt,?_,?_,?_,?_,?_,?_,?_,?_,?_⟩
 ·intro x cs h
  have h : S.box x=some cs:=h
  rcases C.sb x cs h with ⟨i,cs0,h1,_⟩ | ⟨h1,cs0,h2,_⟩
  ·rcases fI bs n k x with ⟨i1,a1,a2⟩ | ⟨i1,a1,a2,a3,_⟩ | ⟨a1,_⟩
   ·obtain ⟨cs',hcs'⟩:=C.ab x (List.mem_of_getElem? a2)
    exact .inl (C.inv.ub x cs' hcs')
   ·exact .inr (by omega)
   ·rw [h1] at a1;cases a1
  ·exact .inl (C.inv.ub x cs0 h2)
 ·intro l o h
  have h : S.list l=some o:=h
  rcases C.sl l o h with ⟨i,h1,_⟩ | ⟨h1,_,h2⟩
  ·rcases fI kl n' k' l with ⟨i1,a1,a2⟩ | ⟨i1,a1,a2,a3,_⟩ | ⟨a1,_⟩
   ·obtain ⟨o',ho'⟩:=C.al l (C.ks l (List.mem_of_getElem? a2))
    exact .inl (C.inv.ul l o' ho')
   ·exact .inr (by omega)
   ·rw [h1] at a1;cases a1
  ·exact .inl (C.inv.ul l o h2)
 ·intro x cs h
  have h : S.box x=some cs:=h
  rcases C.sb x cs h with ⟨i,cs0,h1,h2,h3,h4⟩ | ⟨h1,cs0,h2,he⟩
  ·obtain ⟨vs,ety,g1,g2,g3,g4⟩:=C.cinv.box i cs0 h2
   refine ⟨vs,ety,?_,by omega,g3,λj d v hd hv=>?_⟩
   ·show c.w.heap[(match eM bs n k x with | some i=>c.ρ.box i | none=>m.ρ.box x)]? = _
    rw [h1];exact g1
   ·have hj : j<cs0.length:=by have:=(List.getElem?_eq_some_iff.1 hd).1;omega
    have hd0 : cs0[j]? = some cs0[j]:=List.getElem?_eq_getElem hj
    exact h4 j _ d v hd0 hd (g4 j _ v hd0 hv)
  ·obtain ⟨vs,ety,g1,g2,g3,g4⟩:=C.inv.box x cs0 h2
   obtain ⟨_,_,q3,q4⟩:=(C.boxOf h).resolve_left (by rintro ⟨i,cs0,e,_⟩;rw [h1] at e;cases e)
   subst he
   refine ⟨vs,ety,by rw [q4];exact (oldB h2 q3).1.trans g1,by rw [List.length_map];exact g2,g3,λj d v hd hv=>?_⟩
   rw [List.getElem?_map] at hd
   cases hj : cs0[j]? with
   | none=>rw [hj] at hd;cases hd
   | some d0=>rw [hj] at hd;cases hd;exact C.rd (g4 j d0 v hj hv)
 ·intro l o h
  have h : S.list l=some o:=h
  rcases C.rowOf h with ⟨i,h1,h2,e1,e2,e3⟩ | ⟨h1,h2,h3,e1,e2,e3⟩
  ·obtain ⟨g1,g2,g3⟩:=C.cinv.row i o h2
   rw [e1,e2,e3]
   exact ⟨g1,g2,g3⟩
  ·obtain ⟨g1,g2,g3⟩:=C.inv.row l o h2
   rw [e1,e2,e3]
   exact ⟨g1,g2,g3.frame C.zz hZw (λr hr=>(oldL h2 h3 hr).1) (λr hr=>(oldL h2 h3 hr).2.1)⟩
 ·intro x cs h
  have h : S.box x=some cs:=h
  rcases C.boxOf h with ⟨i,cs0,h1,h2,e⟩ | ⟨h1,⟨_,h2,_⟩,h3,e⟩
  ·rw [e];exact C.cinv.bz i cs0 h2
  ·rw [e];exact (oldB h2 h3).2.1
 ·intro x cs x' cs' h h' he
  have h : S.box x=some cs:=h
  have h' : S.box x'=some cs':=h'
  rcases C.boxOf h with ⟨i,cs0,h1,h2,e⟩ | ⟨h1,⟨_,h2,_⟩,h3,e⟩<;>rcases C.boxOf h' with ⟨i',cs0',h1',h2',e'⟩ | ⟨h1',⟨_,h2',_⟩,h3',e'⟩<;>rw [e,e'] at he
  ·have:=C.cinv.bb i cs0 i' cs0' h2 h2' he
   subst this
   exact aKJ C.nb h1 h1'
  ·exact ((oldB h2' h3').2.2.1 (by rw [← he];exact .inl ⟨i,cs0,h2,rfl⟩)).elim
  ·exact ((oldB h2 h3).2.2.1 (by rw [he];exact .inl ⟨i',cs0',h2',rfl⟩)).elim
  ·exact C.inv.bb x _ x' _ h2 h2' he
 ·intro x cs l o h h'
  have h : S.box x=some cs:=h
  have h' : S.list l=some o:=h'
  rcases C.boxOf h with ⟨i,cs0,h1,h2,e⟩ | ⟨h1,⟨_,h2,_⟩,h3,e⟩<;>rcases C.rowOf h' with ⟨i',h1',h2',e1,_⟩ | ⟨h1',h2',h3',e1,_⟩<;>rw [e,e1]
  ·exact C.cinv.bl i cs0 i' o h2 h2'
  ·exact λhr=>(oldL h2' h3' hr).2.2.1 (.inl ⟨i,cs0,h2,rfl⟩)
  ·exact λhr=>(oldB h2 h3).2.2.1 (.inr (.inl ⟨i',o,h2',hr⟩))
  ·exact C.inv.bl x _ l o h2 h2'
 ·intro l o l' o' r h h' hr hr'
  have h : S.list l=some o:=h
  have h' : S.list l'=some o':=h'
  rcases C.rowOf h with ⟨i,h1,h2,e1,_⟩ | ⟨h1,h2,h3,e1,_⟩<;>rcases C.rowOf h' with ⟨i',h1',h2',e1',_⟩ | ⟨h1',h2',h3',e1',_⟩<;>rw [e1] at hr<;>rw [e1'] at hr'
  ·have:=C.cinv.ll i o i' o' r h2 h2' hr hr'
   subst this
   exact aKJ C.kn h1 h1'
  ·exact ((oldL h2' h3' hr').2.2.1 (.inr (.inl ⟨i,o,h2,hr⟩))).elim
  ·exact ((oldL h2 h3 hr).2.2.1 (.inr (.inl ⟨i',o',h2',hr'⟩))).elim
  ·exact C.inv.ll l o l' o' r h2 h2' hr hr'
 ·intro r hr
  obtain ⟨_,q2,_,q4⟩:=C.mine (.inr (.inr hr)) (C.LOut hr)
  exact ⟨q2,Nat.lt_of_lt_of_le q4 C.size⟩
 ·intro x cs h hL
  have h : S.box x=some cs:=h
  have hL : m.L _:=hL
  rcases C.boxOf h with ⟨i,cs0,h1,h2,e⟩ | ⟨h1,⟨_,h2,_⟩,h3,e⟩<;>rw [e] at hL
  ·exact (C.mine (.inr (.inr hL)) (C.LOut hL)).2.2.1 (.inl ⟨i,cs0,h2,rfl⟩)
  ·exact C.inv.Lb x _ h2 hL
 ·intro l o r h hr hL
  have h : S.list l=some o:=h
  have hL : m.L r:=hL
  rcases C.rowOf h with ⟨i,h1,h2,e1,_⟩ | ⟨h1,h2,h3,e1,_⟩<;>rw [e1] at hr
  ·exact (C.mine (.inr (.inr hL)) (C.LOut hL)).2.2.1 (.inr (.inl ⟨i,o,h2,hr⟩))
  ·exact C.inv.Ll l o r h2 hr hL
theorem wC.inCall (C : wC m c kp bs ls kl n k n' k' S) {r : Nat} (h : (∃ b∈bs,r=m.ρ.box b)∨(∃ l∈ls,m.ρ.fp l r)) : m.owned r:=by
 rcases h with ⟨b,hb,rfl⟩ | ⟨l,hl,h⟩
 ·obtain ⟨cs',hcs'⟩:=C.ab b hb
  exact .inl ⟨b,cs',hcs',rfl⟩
 ·obtain ⟨o,ho⟩:=C.al l hl
  exact .inr (.inl ⟨l,o,ho,h⟩)
theorem wC.step (C : wC m c kp bs ls kl n k n' k' S) {N : Nat} (h1 : N≤n) (h2 : n+k≤N+16) (h3 : N≤n') (h4 : n'+k'≤N+16) : gD m (m.back c bs kl n k n' k' S) (scrubKeptD kp kl) N where
 inv:=C.invB
 rd:=λd v h=>C.rd h
 size:=C.size
 os:=C.os
 tape:=C.tape
 output:=C.output
 keep:=λr hr ho=>C.keep r hr (λh=>ho (C.inCall h))
 own:=λr hr=>by
  rcases hr with ⟨x,cs,hx,rfl⟩ | ⟨l,o,hl,hf⟩ | hL
  ·rcases C.boxOf hx with ⟨i,cs0,g1,g2,e⟩ | ⟨g1,⟨_,g2,_⟩,g3,e⟩<;>rw [e]
   ·rcases C.own _ (.inl ⟨i,cs0,g2,rfl⟩) with h | h
    ·exact .inl (C.inCall h)
    ·exact .inr h
   ·exact .inl (.inl ⟨x,_,g2,rfl⟩)
  ·rcases C.rowOf hl with ⟨i,g1,g2,e,_⟩ | ⟨g1,g2,g3,e,_⟩<;>rw [e] at hf
   ·rcases C.own _ (.inr (.inl ⟨i,o,g2,hf⟩)) with h | h
    ·exact .inl (C.inCall h)
    ·exact .inr h
   ·exact .inl (.inr (.inl ⟨l,o,g2,hf⟩))
  ·exact .inl (.inr (.inr hL))
 z:=λr hr=>by
  rcases C.z r hr with h | h | h
  ·exact .inl h
  ·exact .inr (.inl (C.inCall h))
  ·exact .inr (.inr h)
 zz:=C.zz
 ub:=λb hb=>hb.imp id (λh=>by omega)
 ul:=λl hl=>hl.imp id (λh=>by omega)
 mub:=λb hb=>by
  refine ⟨.inl hb,?_⟩
  show (match eM bs n k b with | some i=>c.ρ.box i | none=>m.ρ.box b)=_
  rcases fI bs n k b with ⟨i,h1,h2⟩ | ⟨i,h1,h2,h3,h4⟩ | ⟨h1,_⟩
  ·rw [h1];exact C.box i b h2
  ·exact absurd hb (C.freshB b (by omega) (by omega))
  ·rw [h1]
 mul:=λl hl=>.inl hl
 bx:=λb cs hb=>C.sbx b ⟨cs,hb⟩
 hd:=λl hu hv=>by
  cases hs : S.list l with
  | none=>exact absurd hs hv
  | some o=>
    rcases C.rowOf hs with ⟨i,g1,g2,_⟩ | ⟨g1,g2,g3,e1,e2,e3⟩
    ·rcases fI kl n' k' l with ⟨i1,a1,a2⟩ | ⟨i1,a1,a2,a3,_⟩ | ⟨a1,_⟩
     ·rw [g1] at a1
      cases a1
      rename_i e1
      obtain ⟨o',ho'⟩:=C.al l (C.ks l (List.mem_of_getElem? a2))
      obtain ⟨q1,q2⟩:=C.row i l a2 (bA.live_of g2)
      exact ⟨bA.live_of ho',e1.2.1.trans q1,e1.2.2.trans q2⟩
     ·exact absurd hu (C.freshL l (by omega) (by omega))
     ·rw [g1] at a1;cases a1
    ·exact ⟨bA.live_of g2,e2,e3⟩
end
def aGW (P : Program) (mode : Nat→Option Tmpl) (S : Nat→List DV→St→OR) : Prop:=∀ g t args s l,mode g=some t→S g args s=some l→mJ P g∧∀ (m : bA) (aS : Array Value),iE m s s.base→args.length=aS.size→
 (∀ (i : Nat) d v,args[i]? = some d→aS[i]? = some v→m.rd d v)→Calls P g aS m.w (λe w'=>∃ v,e = .returned v∧uY m s.boxes.length (if t.keep then s.lists.length else 0) (some (t.fit s)) l v w')
theorem aDO : ∀ (ts : List (Option Own)) (ks : List (Option OTy)) (n : Nat),numO (fitO ts ks) n=numO ts n
 | [],[],_=>rfl
 | [],_::_,_=>rfl
 | some w::r,some o::q,n=>by
   simp only [fitO,numO]
   cases w.c<;>simp only [aDO r q]
 | some w::r,none::q,n=>by
   simp only [fitO,numO]
   cases w.c<;>simp only [aDO r q]
 | none::r,_::q,n=>by simp only [fitO,numO,aDO r q]
 | some _::_,[],_=>rfl
 | none::_,[],_=>rfl
theorem Tmpl.fit_keep {t : Tmpl} {s : St} : (t.fit s).keep=t.keep:=by
 unfold Tmpl.fit Tmpl.fitK
 split
 ·rfl
 ·rfl
theorem Tmpl.fit_wf {t : Tmpl} {s : St} (h : t.wf=true) : (t.fit s).wf=true:=by
 unfold Tmpl.fit Tmpl.fitK
 split
 ·unfold Tmpl.wf at h ⊢
  simp only [aDO]
  exact h
 ·exact h
theorem Tmpl.fit_nil {t : Tmpl} {s : St} (h : s.lists = []) : t.fit s=t:=by
 unfold Tmpl.fit Tmpl.fitK
 split
 ·rw [h]
  show ({ t with lists:=fitO t.lists []} : Tmpl)=t
  have : fitO t.lists []=t.lists:=by
   cases t.lists with
   | nil=>rfl
   | cons a r=>cases a<;>rfl
  rw [this]
 ·rfl
theorem aEN (l : R) : ∀ (bs : List (Option (List DV))),(fillB l bs).length=bs.length
 | []=>rfl
 | some _::r=>by simp [fillB,aEN l r]
 | none::r=>by simp [fillB,aEN l r]
theorem uL (l : R) : ∀ (bs : List (Option Own)),(fillO l bs).length=bs.length
 | []=>rfl
 | some _::r=>by simp [fillO,uL l r]
 | none::r=>by simp [fillO,uL l r]
theorem aCS (l : R) : ∀ {bs : List (Option (List DV))} {i : Nat} {fs : List DV},(fillB l bs)[i]? = some (some fs)→∃ ts,bs[i]? = some (some ts)
 | [],i,fs,h=>by simp [fillB] at h
 | some t::r,i,fs,h=>by
   cases i with
   | zero=>exact ⟨t,rfl⟩
   | succ i=>simpa using aCS l (bs:=r) (i:=i) (by simpa [fillB] using h)
 | none::r,i,fs,h=>by
   cases i with
   | zero=>simp [fillB] at h
   | succ i=>simpa using aCS l (bs:=r) (i:=i) (by simpa [fillB] using h)
theorem uZ (l : R) : ∀ {bs : List (Option Own)} {i : Nat} {w : Own},(fillO l bs)[i]? = some (some w)→∃ ts,bs[i]? = some (some ts)
 | [],i,fs,h=>by simp [fillO] at h
 | some t::r,i,fs,h=>by
   cases i with
   | zero=>exact ⟨t,rfl⟩
   | succ i=>simpa using uZ l (bs:=r) (i:=i) (by simpa [fillO] using h)
 | none::r,i,fs,h=>by
   cases i with
   | zero=>simp [fillO] at h
   | succ i=>simpa using uZ l (bs:=r) (i:=i) (by simpa [fillO] using h)
theorem aFA {α : Type} : ∀ {l : List (Option α)},allSome l=true→∀ (i : Nat) o,l[i]? = some o→∃ a,o=some a
 | [],_,i,o,h=>by simp at h
 | some a::r,h,i,o,hi=>by
   cases i with
   | zero=>simp at hi;exact ⟨a,hi.symm⟩
   | succ i=>exact aFA (l:=r) h i o (by simpa using hi)
 | none::r,h,_,_,_=>by simp [allSome] at h
theorem getD_some {α : Type} {l : List (Option α)} {i : Nat} {x : α} (h : l.getD i none=some x) : l[i]? = some (some x):=by
 rw [List.getD] at h
 cases hi : l[i]? with
 | none=>rw [hi] at h;cases h
 | some o=>rw [hi] at h;simp at h;rw [h]
theorem aA1 {m : bA} {s : St} {a : Seen} {r : Nat} (h : (m.pick a.bs a.ls (s.pick a)).owned r) : aGV m a.bs a.ls r:=by
 rcases h with ⟨i,cs,h,rfl⟩ | ⟨l,o,h,hr⟩ | h
 ·have h : (s.pick a).box i=some cs:=h
  rw [aAW] at h
  cases hbi : a.bs[i]? with
  | none=>rw [hbi] at h;cases h
  | some b=>
    refine .inl ⟨b,List.mem_of_getElem? hbi,?_⟩
    show m.ρ.box (a.bs.getD i 0)=_
    rw [eC hbi]
 ·have h : (s.pick a).list l=some o:=h
  rw [yO] at h
  cases hbi : a.ls[l]? with
  | none=>rw [hbi] at h;cases h
  | some l0=>
    refine .inr ⟨l0,List.mem_of_getElem? hbi,?_⟩
    have hr : m.ρ.fp (a.ls.getD l 0) r:=hr
    rw [eC hbi] at hr
    exact hr
 ·exact h.elim
section
variable {P : Program} {X : Cx} {O : Orc}
theorem aFB (hS : aGW P X.mode O.S) {ft : Foot} {n0 : Nat} {t : Tmpl} {f : Nat} (hm : X.mode f=some t) (hwf : t.wf=true) {args : List DV} {s : St} {k : DV→St→List Nat→OR} {r : R} (h : liveK O ft n0 t f args s k=some r) :
 mJ P f∧∃ d' s' kl,k d' s' kl=some r∧s.nl≤s'.nl∧∀ (n : Nat) (m : bA) (B L WB WL : NP),pN m s B L n→s'.nb≤n+16→s'.nl≤n+16→n≤n0→(∀ b∈ft.rb,B b∧WB b)→(∀ l∈ft.rl,L l∧WL l)→(t.keep=true→∀ x,(B x∧WB x)∧(L x∧WL x))→
  ∀ vs : Array Value,args.length=vs.size→(∀ (i : Nat) d v,args[i]? = some d→vs[i]? = some v→m.rd d v)→
    Calls P f vs m.w (λe w'=>∃ v,e = .returned v∧∃ m',m'.w=w'∧bV m m' s s' B L WB WL n (scrubKeptD t.keep kl)∧m'.rd d' v):=by
 unfold liveK at h
 generalize ha : reach s fuelR args ⟨[],[]⟩=a at h
 simp only at h
 have hkp : (t.fit (s.pick a)).keep=t.keep:=Tmpl.fit_keep
 have hwf : (t.fit (s.pick a)).wf=true:=Tmpl.fit_wf hwf
 have hS':=λl=>hS f t (args.map (ren (idx · a.bs 0) (idx · a.ls 0) deep)) (s.pick a) l hm
 rw [← hkp] at hS' ⊢
 generalize t.fit (s.pick a)=t at h hwf hS' ⊢
 generalize hkd : (if t.keep=true then a.ls else [])=kl at h
 split at h
 rotate_left
 ·cases h
 rename_i hc
 simp only [Bool.and_eq_true,List.all_eq_true,Bool.or_eq_true,Nat.blt_eq] at hc
 obtain ⟨⟨⟨⟨hlen,hsome⟩,hbs⟩,hls⟩,hkl⟩:=hc
 have hkl:=pO hkl
 have hlen:=pO hlen
 obtain ⟨l,hl,hk⟩:=aU h
 obtain ⟨hcb,HS⟩:=hS' l hl
 have nod:=jC (s:=s) fuelR args ⟨[],[]⟩ List.nodup_nil List.nodup_nil
 have liv:=fV (s:=s) fuelR args ⟨[],[]⟩ (by simp) (by simp)
 rw [ha] at nod liv
 refine ⟨hcb,_,_,_,hk,Nat.le_add_right _ _,λn m B L WB WL sit hnb hnl hn0 hB hL hall vs hvl hrd=>?_⟩
 have hnl : s.nl+(t.lists.length - kl.length)≤n+16:=hnl
 have hks : ∀ l∈kl,l∈a.ls:=λl hl=>by rw [← hkd] at hl;split at hl;exact hl;cases hl
 have hkn : kl.Nodup:=by rw [← hkd];split;exact nod.2.1;exact List.nodup_nil
 have hkk : t.keep=false→kl = []:=λhf=>by rw [← hkd,hf];rfl
 have hlists : (s.pick a).lists.length=a.ls.length:=sM
 have hnb : s.nb+(t.boxes.length - a.bs.length)≤n+16:=hnb
 have sn1:=sit.nb
 have sn2:=sit.nl
 have lin : ∀ l∈a.ls,l∈ft.rl∨(n≤l∧l<n+16):=λl hl=>by
  rcases hls l hl with h | ⟨h1,h2⟩
  ·exact .inl (sK.1 h)
  ·have:=pO h1;exact .inr (by omega)
 have hb : ∀ b∈a.bs,m.s.box b=s.box b:=λb hb=>sit.ab b (.inl (hB b (sK.1 (hbs b hb))).1)
 have hl' : ∀ l∈a.ls,m.s.list l=s.list l:=λl hl=>sit.al l ((lin l hl).imp (λh=>(hL l h).1) id)
 have pf:=aBW (a:=a) sit.inv hb hl' nod.1 nod.2.1
 have hboxes : (s.pick a).boxes.length=a.bs.length:=xN
 refine (HS (m.pick a.bs a.ls (s.pick a)) vs pf (by simpa using hvl) (λi d v hd hv=>?_)).mono ?_
 ·rw [List.getElem?_map] at hd
  cases hdi : args[i]? with
  | none=>rw [hdi] at hd;cases hd
  | some d0=>rw [hdi] at hd;cases hd;exact aGP hl' deep (hrd i d0 v hdi hv)
 ·rintro e w' ⟨v,rfl,c,hw,cinv,fw,d,s0,a0,hread,hdv,hfull,hub,hul⟩
  rw [hboxes,hlists] at fw
  obtain ⟨hless,lenB,lenL,HB,HO⟩:=Tmpl.read_sound hread hwf
  have lenB : t.boxes.length=a0.bs.length:=lenB.trans xN
  have lenL : t.lists.length=a0.ls.length:=lenL.trans sM
  refine ⟨v,rfl,?_⟩
  generalize hcsB : ((fillB l t.boxes).map λo=>o.map λcs=>cs.map (ren (backFb a.bs s.nb) (backFb kl s.nl) deep))=csB
  have hcsBl : csB.length=t.boxes.length:=by rw [← hcsB,List.length_map,aEN]
  have hab : ∀ b∈a.bs,∃ cs,m.s.box b=some cs:=λb hbm=>by
   rw [hb b hbm]
   exact Option.ne_none_iff_exists'.1 (liv.1 b hbm)
  have hal : ∀ l∈a.ls,∃ o,m.s.list l=some o:=λl hlm=>by
   rw [hl' l hlm]
   exact Option.ne_none_iff_exists'.1 (liv.2 l hlm)
  have freshB : ∀ x,s.nb≤x→x<s.nb+(t.boxes.length - a.bs.length)→¬ m.ρ.ub x:=λx h1 h2=>sit.fb x h1 (by omega)
  have freshL : ∀ x,s.nl≤x→x<s.nl+(t.lists.length - kl.length)→¬ m.ρ.ul x:=λx h1 h2=>sit.fl x h1 (by omega)
  have hout : ∀ b∈a.bs,¬ (s.nb≤b∧b<s.nb+(csB.length - a.bs.length)):=λb hbm hr=>by
   obtain ⟨cs,hcs⟩:=hab b hbm
   rw [hcsBl] at hr
   exact freshB b hr.1 hr.2 (sit.inv.ub b cs hcs)
  have scrL : ∀ x,look x (scrubKept t.keep kl s.boxes)=(s.box x).map (·.map (scrubKeptD t.keep kl)):=λx=>by
   unfold scrubKept scrubKeptD
   cases t.keep with
   | true=>exact aBT kl x s.boxes
   | false=>
     rw [if_neg (by simp),if_neg (by simp)]
     exact lX _
  have boxL : ∀ x,look x (backB a.bs s.nb csB (scrubKept t.keep kl s.boxes))=match eM a.bs s.nb (t.boxes.length - a.bs.length) x with | some i=>csB.getD i none | none=>(s.box x).map (·.map (scrubKeptD t.keep kl)):=λx=>by
   have:=aCR (x:=x) (cs:=csB) (bs:=a.bs) (n:=s.nb) (old:=scrubKept t.keep kl s.boxes) nod.1 (by rw [hcsBl];exact hlen) hout
   rw [hcsBl,scrL] at this
   exact this
  have houtL : ∀ l0∈kl,¬ (s.nl≤l0∧l0<s.nl+((fillO l t.lists).length - kl.length)):=λl0 hlm hr=>by
   obtain ⟨o,ho⟩:=hal l0 (hks l0 hlm)
   rw [uL] at hr
   exact freshL l0 hr.1 hr.2 (sit.inv.ul l0 o ho)
  have listL : ∀ x,look x (backB kl s.nl (fillO l t.lists) (s.killL a.ls).lists)=match eM kl s.nl (t.lists.length - kl.length) x with | some i=>(fillO l t.lists).getD i none | none=>(s.killL a.ls).list x:=λx=>by
   have:=aCR (x:=x) (cs:=fillO l t.lists) (bs:=kl) (n:=s.nl) (old:=(s.killL a.ls).lists) hkn (by rw [uL];exact hkl) houtL
   rw [uL] at this
   exact this
  let S : Sx:={ box:=λx=>match eM a.bs s.nb (t.boxes.length - a.bs.length) x with | some i=>csB.getD i none | none=>(m.s.box x).map (·.map (scrubKeptD t.keep kl))
                list:=λx=>match eM kl s.nl (t.lists.length - kl.length) x with | some i=>(fillO l t.lists).getD i none | none=>if x∈a.ls then none else m.s.list x}
  have hbn : ∀ x,(∃ cs,m.s.box x=some cs)→¬ (s.nb≤x∧x<s.nb+(t.boxes.length - a.bs.length)):=λx ⟨cs,hcs⟩ hr=>freshB x hr.1 hr.2 (sit.inv.ub x cs hcs)
  have cb_fb : ∀ b b',b<t.boxes.length→backFb a.bs s.nb b=some b'→eM a.bs s.nb (t.boxes.length - a.bs.length) b'=some b∧(m.ρ.ub b'∨(s.nb≤b'∧b'<s.nb+(t.boxes.length - a.bs.length))):=by
   intro b b' hlt hbb
   unfold backFb at hbb
   split at hbb
   ·rename_i x hx
    cases hbb
    obtain ⟨cs,hcs⟩:=hab b' (List.mem_of_getElem? hx)
    refine ⟨?_,.inl (sit.inv.ub b' cs hcs)⟩
    unfold eM
    rw [aJC (n:=0) nod.1 hx,Nat.zero_add]
   ·rename_i hx
    cases hbb
    have hge : a.bs.length≤b:=by
     rcases Nat.lt_or_ge b a.bs.length with h | h
     ·rw [List.getElem?_eq_getElem h] at hx;cases hx
     ·exact h
    have hnot : s.nb+(b - a.bs.length)∉a.bs:=λhm'=>hbn _ (hab _ hm') ⟨by omega,by omega⟩
    refine ⟨?_,.inr ⟨by omega,by omega⟩⟩
    unfold eM
    rw [aDM hnot]
    simp only
    rw [if_pos ⟨by omega,by omega⟩]
    congr 1
    omega
  have cl_fl : ∀ b b',b<t.lists.length→backFb kl s.nl b=some b'→eM kl s.nl (t.lists.length - kl.length) b'=some b∧(m.ρ.ul b'∨(s.nl≤b'∧b'<s.nl+(t.lists.length - kl.length))):=by
   intro b b' hlt hbb
   unfold backFb at hbb
   split at hbb
   ·rename_i x hx
    cases hbb
    obtain ⟨o,ho⟩:=hal b' (hks b' (List.mem_of_getElem? hx))
    refine ⟨?_,.inl (sit.inv.ul b' o ho)⟩
    unfold eM
    rw [aJC (n:=0) hkn hx,Nat.zero_add]
   ·rename_i hx
    cases hbb
    have hge : kl.length≤b:=by
     rcases Nat.lt_or_ge b kl.length with h | h
     ·rw [List.getElem?_eq_getElem h] at hx;cases hx
     ·exact h
    have hnot : s.nl+(b - kl.length)∉kl:=λhm'=>by
     obtain ⟨o,ho⟩:=hal _ (hks _ hm')
     exact freshL _ (by omega) (by omega) (sit.inv.ul _ o ho)
    refine ⟨?_,.inr ⟨by omega,by omega⟩⟩
    unfold eM
    rw [aDM hnot]
    simp only
    rw [if_pos ⟨by omega,by omega⟩]
    congr 1
    omega
  have ren_ok : ∀ {d : DV} {v : Value},c.rd d v→(m.back c a.bs kl s.nb (t.boxes.length - a.bs.length) s.nl (t.lists.length - kl.length) S).rd (ren (backFb a.bs s.nb) (backFb kl s.nl) deep d) v:=by
   intro d v hd
   refine dM.renum (λb b' hu hbb=>?_) (λl0 l' hu hll=>?_) deep hd
   ·obtain ⟨h1,h2⟩:=cb_fb b b' (by rw [lenB];exact hub b hu) hbb
    refine ⟨h2,?_⟩
    show (match eM a.bs s.nb (t.boxes.length - a.bs.length) b' with | some i=>c.ρ.box i | none=>m.ρ.box b')=_
    rw [h1]
   ·have hlt:=hul l0 hu
    rw [← lenL] at hlt
    obtain ⟨hcl,hcu⟩:=cl_fl l0 l' hlt hll
    refine ⟨hcu,λhv=>⟨?_,?_,?_,?_⟩⟩
    ·have hv : (match eM kl s.nl (t.lists.length - kl.length) l' with | some i=>(fillO l t.lists).getD i none | none=>if l'∈a.ls then none else m.s.list l')≠none:=hv
     rw [hcl] at hv
     obtain ⟨w1,hw1⟩:=Option.ne_none_iff_exists'.1 hv
     have hg:=getD_some hw1
     obtain ⟨ts,hts⟩:=uZ l hg
     obtain ⟨x,w2,g1,_⟩:=HO l0 ts hts
     have g1 : (s0.pick a0).list l0=some w2:=by
      have:=oT (n:=0) g1
      rw [Nat.zero_add] at this
      exact this
     rw [← hfull.list l0] at g1
     exact bA.live_of g1
    ·show (match eM kl s.nl (t.lists.length - kl.length) l' with | some i=>c.ρ.hdr i | none=>_)=_
     rw [hcl]
    ·show (match eM kl s.nl (t.lists.length - kl.length) l' with | some i=>c.ρ.ty i | none=>_)=_
     rw [hcl]
    ·show (match eM kl s.nl (t.lists.length - kl.length) l' with | some i=>c.ρ.fp i | none=>_)=_
     rw [hcl]
  have came : wC m c t.keep a.bs a.ls kl s.nb (t.boxes.length - a.bs.length) s.nl (t.lists.length - kl.length) S:={
   kk:=hkk
   kn:=hkn
   ks:=hks
   row:=λi l0 hi hlv=>by
    have hkt : t.keep=true:=by
     cases hk2 : t.keep with
     | true=>rfl
     | false=>rw [hkk hk2] at hi;simp at hi
    have hkl2 : kl=a.ls:=by rw [← hkd,hkt];rfl
    rw [hkl2] at hi
    obtain ⟨o,ho⟩:=hal l0 (List.mem_of_getElem? hi)
    have hlt : i<a.ls.length:=(List.getElem?_eq_some_iff.1 hi).1
    rw [hkt] at fw
    have hu : (m.pick a.bs a.ls (s.pick a)).ρ.ul i:=⟨hlt,by rw [eC hi];exact sit.inv.ul l0 o ho⟩
    obtain ⟨_,q⟩:=fw.row i (by simpa using hlt) hu
    obtain ⟨_,q1,q2⟩:=q hlv
    rw [q1,q2]
    show m.ρ.hdr (a.ls.getD i 0)=_∧m.ρ.ty (a.ls.getD i 0)=_
    rw [eC hi]
    exact ⟨rfl,rfl⟩
   inv:=sit.inv
   cinv:=cinv
   nb:=nod.1
   ab:=hab
   al:=hal
   size:=fw.size
   os:=fw.os
   tape:=fw.tape
   output:=fw.output
   keep:=λr hr hn=>fw.keep r hr (λho=>hn (aA1 ho))
   own:=λr hr=>(fw.own r hr).imp (λh=>aA1 h) id
   z:=λr hr=>(fw.z r hr).imp id (λh=>h.imp (λh=>aA1 h) id)
   zz:=fw.zz
   box:=λi b hbi=>by
    obtain ⟨cs,hcs⟩:=hab b (List.mem_of_getElem? hbi)
    have:=fw.box i (List.getElem?_eq_some_iff.1 hbi).1 (cs.map (ren (idx · a.bs 0) (idx · a.ls 0) deep)) (by
     show (s.pick a).box i=_
     rw [aAW,hbi,Option.bind_some,← hb b (List.mem_of_getElem? hbi),hcs];rfl)
    rw [this.1]
    show m.ρ.box (a.bs.getD i 0)=_
    rw [eC hbi]
   freshB:=freshB
   freshL:=freshL
   sb:=λx cs hx=>by
    have hx : (match eM a.bs s.nb (t.boxes.length - a.bs.length) x with | some i=>csB.getD i none | none=>(m.s.box x).map (·.map (scrubKeptD t.keep kl)))=some cs:=hx
    cases hcb : eM a.bs s.nb (t.boxes.length - a.bs.length) x with
    | none=>
      rw [hcb] at hx
      simp only at hx
      cases hmx : m.s.box x with
      | none=>rw [hmx] at hx;cases hx
      | some cs0=>rw [hmx] at hx;cases hx;exact .inr ⟨rfl,cs0,rfl,rfl⟩
    | some i=>
      rw [hcb] at hx
      have hg:=getD_some hx
      rw [← hcsB,List.getElem?_map] at hg
      cases hfi : (fillB l t.boxes)[i]? with
      | none=>rw [hfi] at hg;cases hg
      | some o=>
        rw [hfi] at hg
        simp only [Option.map_some,Option.some.injEq] at hg
        cases o with
        | none=>cases hg
        | some fs=>
          simp only [Option.map_some,Option.some.injEq] at hg
          obtain ⟨ts,hts⟩:=aCS l hfi
          obtain ⟨g1,x',cs0,g2,g3⟩:=HB i ts hts
          rw [hfi] at g1
          cases g1
          have g2 : (s0.pick a0).box i=some cs0:=by
           have:=aCA (n:=0) g2
           rw [Nat.zero_add] at this
           exact this
          rw [← hfull.box i] at g2
          refine .inl ⟨i,cs0,rfl,g2,by rw [← hg,List.length_map];exact g3.1,λj d0 d1 v0 h1 h2 h3=>?_⟩
          rw [← hg,List.getElem?_map] at h2
          cases hj : (fillDs l ts)[j]? with
          | none=>rw [hj] at h2;cases h2
          | some d2=>
            rw [hj] at h2
            cases h2
            exact ren_ok (g3.2 j d0 d2 h1 hj c v0 h3)
   sbx:=λx hx=>by
    show ∃ cs,(match eM a.bs s.nb (t.boxes.length - a.bs.length) x with | some i=>csB.getD i none | none=>(m.s.box x).map (·.map (scrubKeptD t.keep kl)))=some cs
    rcases fI a.bs s.nb (t.boxes.length - a.bs.length) x with ⟨i,h1,h2⟩ | ⟨i,h1,h2,h3,h4⟩ | ⟨h1,_⟩
    ·rw [h1]
     have hlt : i<a.bs.length:=(List.getElem?_eq_some_iff.1 h2).1
     have hti : (t.boxes.take a.bs.length)[i]? = some (t.boxes[i]'(by omega)):=by rw [List.getElem?_take,if_pos hlt,List.getElem?_eq_getElem]
     obtain ⟨ts,hts⟩:=aFA hsome i _ hti
     obtain ⟨g1,_⟩:=HB i ts (by rw [List.getElem?_eq_getElem (by omega),hts])
     refine ⟨(fillDs l ts).map (ren (backFb a.bs s.nb) (backFb kl s.nl) deep),?_⟩
     simp only
     rw [List.getD,← hcsB,List.getElem?_map,g1]
     rfl
    ·exact absurd ⟨by omega,by omega⟩ (hbn x hx)
    ·rw [h1]
     obtain ⟨cs,hcs⟩:=hx
     exact ⟨_,by simp only [hcs,Option.map_some];rfl⟩
   sl:=λx o hx=>by
    have hx : (match eM kl s.nl (t.lists.length - kl.length) x with | some i=>(fillO l t.lists).getD i none | none=>if x∈a.ls then none else m.s.list x)=some o:=hx
    cases hcl : eM kl s.nl (t.lists.length - kl.length) x with
    | none=>
      rw [hcl] at hx
      simp only at hx
      split at hx
      ·cases hx
      ·rename_i hn;exact .inr ⟨rfl,hn,hx⟩
    | some i=>
      rw [hcl] at hx
      have hg:=getD_some hx
      obtain ⟨ts,hts⟩:=uZ l hg
      obtain ⟨x',w2,g1,g2,_⟩:=HO i ts hts
      rw [hg] at g2
      cases g2
      have g1 : (s0.pick a0).list i=some o:=by
       have:=oT (n:=0) g1
       rw [Nat.zero_add] at this
       exact this
      rw [← hfull.list i] at g1
      exact .inl ⟨i,rfl,g1⟩}
  have wbs : ∀ b∈a.bs,B b∧WB b:=λb hbm=>hB b (sK.1 (hbs b hbm))
  refine ⟨m.back c a.bs kl s.nb (t.boxes.length - a.bs.length) s.nl (t.lists.length - kl.length) S,hw,?_,ren_ok (hless c v hdv)⟩
  refine {
   step:=came.step sn1 hnb sn2 hnl
   after:=⟨λx hx=>?_,λx hx=>?_,λx h1 h2=>?_,λx h1 h2=>?_,λx h1 h2=>?_,λx h1 h2=>?_⟩
   nb:=Nat.le_add_right _ _
   nl:=Nat.le_add_right _ _
   ub:=λx hx hu=>hu.elim id (λh=>by have hx : s.nb+(t.boxes.length - a.bs.length)≤x:=hx;omega)
   ul:=λx hx hu=>hu.elim id (λh=>by have hx : s.nl+(t.lists.length - kl.length)≤x:=hx;omega)}
  ·show (match eM a.bs s.nb (t.boxes.length - a.bs.length) x with | some i=>csB.getD i none | none=>(m.s.box x).map (·.map (scrubKeptD t.keep kl)))=look x (backB a.bs s.nb _ (scrubKept t.keep kl s.boxes))
   rw [boxL x]
   cases eM a.bs s.nb (t.boxes.length - a.bs.length) x with
   | some i=>rfl
   | none=>simp only;rw [sit.ab x hx]
  ·show (match eM kl s.nl (t.lists.length - kl.length) x with | some i=>(fillO l t.lists).getD i none | none=>if x∈a.ls then none else m.s.list x)=look x (backB kl s.nl (fillO l t.lists) (s.killL a.ls).lists)
   rw [listL x]
   cases eM kl s.nl (t.lists.length - kl.length) x with
   | some i=>rfl
   | none=>
     simp only
     rw [fU,sit.al x hx]
  ·by_cases hkt : t.keep=true
   ·exact absurd ((hall hkt x).1.1) h1
   ·have hkt : t.keep=false:=by simpa using hkt
    show (match eM a.bs s.nb (t.boxes.length - a.bs.length) x with | some i=>csB.getD i none | none=>(m.s.box x).map (λcs : List DV=>cs.map (scrubKeptD t.keep kl)))=_
    rcases fI a.bs s.nb (t.boxes.length - a.bs.length) x with ⟨i,g1,g2⟩ | ⟨i,g1,g2,g3,g4⟩ | ⟨g1,_⟩
    ·exact absurd (wbs x (List.mem_of_getElem? g2)).1 h1
    ·exact absurd ⟨by omega,by omega⟩ h2
    ·rw [g1,hkt]
     exact (lX _).symm
  ·by_cases hkt : t.keep=true
   ·exact absurd ((hall hkt x).2.1) h1
   ·have hkt : t.keep=false:=by simpa using hkt
    show (match eM kl s.nl (t.lists.length - kl.length) x with | some i=>(fillO l t.lists).getD i none | none=>if x∈a.ls then none else m.s.list x)=_
    rw [hkk hkt]
    rcases fI [] s.nl (t.lists.length - ([] : List Nat).length) x with ⟨i,g1,g2⟩ | ⟨i,g1,g2,g3,_⟩ | ⟨g1,_⟩
    ·simp at g2
    ·exact absurd ⟨by omega,by rw [hkk hkt] at hnl;omega⟩ h2
    ·rw [g1]
     simp only
     rw [if_neg]
     intro hxm
     rcases lin x hxm with h | h
     ·exact h1 (hL x h).1
     ·exact h2 h
  ·by_cases hkt : t.keep=true
   ·exact absurd ((hall hkt x).1.2) h1
   ·have hkt : t.keep=false:=by simpa using hkt
    show look x (backB a.bs s.nb _ (scrubKept t.keep kl s.boxes))=_
    rw [boxL x]
    rcases fI a.bs s.nb (t.boxes.length - a.bs.length) x with ⟨i,g1,g2⟩ | ⟨i,g1,g2,g3,g4⟩ | ⟨g1,_⟩
    ·exact absurd (wbs x (List.mem_of_getElem? g2)).2 h1
    ·exact absurd ⟨by omega,by omega⟩ h2
    ·rw [g1,hkt]
     exact (lX _).symm
  ·by_cases hkt : t.keep=true
   ·exact absurd ((hall hkt x).2.2) h1
   ·have hkt : t.keep=false:=by simpa using hkt
    show look x (backB kl s.nl (fillO l t.lists) (s.killL a.ls).lists)=_
    rw [listL x,hkk hkt]
    rcases fI [] s.nl (t.lists.length - ([] : List Nat).length) x with ⟨i,g1,g2⟩ | ⟨i,g1,g2,g3,_⟩ | ⟨g1,_⟩
    ·simp at g2
    ·exact absurd ⟨by omega,by rw [hkk hkt] at hnl;omega⟩ h2
    ·rw [g1]
     simp only
     rw [fU,if_neg]
     intro hxm
     rcases lin x hxm with h | h
     ·exact h1 (hL x h).2
     ·exact h2 h
end
theorem aGX : ∀ {cs : R} {cts : List OTy},PV.flatCs cts cs=true→∀ (j : Nat) c,cs[j]? = some c→PV.flatO (cts.getD j .leaf) c=true∨c.flat=true
 | [],_,_,j,c,h=>by simp at h
 | x::r,cts,h,j,c,hj=>by
   have tail : ∀ {b : Bool},(b&&PV.flatCs cts.tail r)=true→j≠0→PV.flatO (cts.getD j .leaf) c=true∨c.flat=true:=by
    intro b hb hj0
    simp only [Bool.and_eq_true] at hb
    obtain ⟨q,rfl⟩ : ∃ q,j=q+1:=⟨j - 1,by omega⟩
    have:=aGX hb.2 q c (by simpa using hj)
    cases cts with
    | nil=>simpa [List.getD] using this
    | cons o os=>simpa [List.getD] using this
   by_cases hj0 : j=0
   ·subst hj0
    simp at hj
    subst hj
    cases x with
    | lst xs=>
      unfold PV.flatCs at h
      simp only [Bool.and_eq_true] at h
      cases cts with
      | nil=>simp at h
      | cons o os=>
        cases o with
        | leaf=>simp at h
        | own s e g cts'=>exact .inl (by simpa [List.getD,PV.flatO] using h.1)
    | _=>unfold PV.flatCs at h;simp only [Bool.and_eq_true] at h;exact .inr h.1
   ·cases x<;>(unfold PV.flatCs at h;exact tail h hj0)
theorem aGY : ∀ {xs : R} {g : Bool} {cts : List OTy},PV.flatEs g cts xs=true→∀ (i : Nat) x,xs[i]? = some x→PV.flatE g cts x=true
 | [],_,_,_,i,x,h=>by simp at h
 | y::r,g,cts,h,i,x,hi=>by
   unfold PV.flatEs at h
   simp only [Bool.and_eq_true] at h
   cases i with
   | zero=>simp at hi;subst hi;exact h.1
   | succ i=>exact aGY h.2 i x (by simpa using hi)
theorem cT.flat {w : World} {Z Z' : NP} {o : OTy} {x : PV} {v : Value} {F : NP} (h : cT w Z o x v F) (hf : PV.flatO o x=true∨x.flat=true) (hn : ∀ r,F r→¬ Z' r) : cT w Z' o x v F:=by
 induction h with
 | leaf x v F h hF=>
   rcases hf with hf | hf
   ·simp [PV.flatO] at hf
   ·exact .leaf x v F (h.flat hf) hF
 | hole s e g cts v F h hF=>exact .hole s e g cts v F h hF
 | nil s e g cts F a hF=>exact .nil s e g cts F a hF
 | own s e g cts xs b o cap cells ety cv fp F hh hs ho hl hz he hc hv hr hF hb hd ih=>
   have hf : PV.flatEs g cts xs=true:=by
    rcases hf with hf | hf
    ·simpa [PV.flatO] using hf
    ·simp [PV.flat] at hf
   refine .own s e g cts xs b o cap cells ety cv fp F hh hs ho hl (hn b ((hF b).2 (.inl rfl))) he hc hv (λi j x hx hj=>?_) hF hb hd
   have hi : i<xs.length:=(List.getElem?_eq_some_iff.1 hx).1
   refine ih i j x hx hj ?_ (λr hr=>hn r ((hF r).2 (.inr ⟨i,j,hi,hj,hr⟩)))
   have hfe:=aGY hf i x hx
   have hel:=he i x hx
   cases g with
   | true=>
     obtain ⟨cs,rfl,hlen⟩:=aAO hel
     rw [gJ]
     unfold PV.flatE at hfe
     simp only [Bool.true_and] at hfe
     have hj' : cs[j]? = some (cs[j]'(by omega)):=List.getElem?_eq_getElem (by omega)
     have hg : cs.getD j .hole=cs[j]'(by omega):=by rw [List.getD,hj'];rfl
     rw [hg]
     exact aGX hfe j _ hj'
   | false=>
     have hs1:=aDv hel
     have hj0 : j=0:=by omega
     subst hj0
     show PV.flatO (cts.getD 0 .leaf) x=true∨x.flat=true
     cases x with
     | lst ys=>
       unfold PV.flatE at hfe
       cases cts with
       | nil=>simp at hfe
       | cons o os=>
         cases o with
         | leaf=>simp at hfe
         | own s' e' g' cts'=>exact .inl (by simpa [List.getD,PV.flatO] using hfe)
     | agg cs=>unfold PV.flatE at hfe;simp at hfe
     | _=>unfold PV.flatE at hfe;simp only [Bool.not_false,Bool.true_and] at hfe;exact .inr hfe
inductive aAp (l : R) : DV→Prop
 | p (k : IntKind) (i : Int) : (gd l i.toNat).flat=true→aAp l (.p (.int k i))
 | ref (n : Nat) (path : eH) : aAp l (.ref n path)
 | agg (cs : List DV) : (∀ c∈cs,aAp l c)→aAp l (.agg cs)
 | tup (cs : List DV) : (∀ c∈cs,aAp l c)→aAp l (.tup cs)
theorem qI {l : R} : ∀ {cs : List DV} {k : OR} {r : R},guardCells l cs k=some r→(∀ c∈cs,aAp l c)∧k=some r
 | [],k,r,h=>⟨by simp,h⟩
 | .p (.int kk i)::cs,k,r,h=>by
  unfold guardCells at h
  obtain ⟨hf,h'⟩:=aA0 h
  obtain ⟨h1,h2⟩:=qI h'
  refine ⟨λc hc=>?_,h2⟩
  rcases List.mem_cons.1 hc with rfl | hc
  ·exact .p _ _ hf
  ·exact h1 c hc
 | .ref n path::cs,k,r,h=>by
  unfold guardCells at h
  obtain ⟨h1,h2⟩:=qI h
  refine ⟨λc hc=>?_,h2⟩
  rcases List.mem_cons.1 hc with rfl | hc
  ·exact .ref _ _
  ·exact h1 c hc
 | .p (.bool _)::_,_,_,h=>by simp [guardCells] at h
 | .p (.str _)::_,_,_,h=>by simp [guardCells] at h
 | .p .nil::_,_,_,h=>by simp [guardCells] at h
 | .p .nilf::_,_,_,h=>by simp [guardCells] at h
 | .p (.agg _)::_,_,_,h=>by simp [guardCells] at h
 | .p (.lst _)::_,_,_,h=>by simp [guardCells] at h
 | .p (.bx _)::_,_,_,h=>by simp [guardCells] at h
 | .p (.fn _ _)::_,_,_,h=>by simp [guardCells] at h
 | .p (.tup _)::_,_,_,h=>by simp [guardCells] at h
 | .p .hole::_,_,_,h=>by simp [guardCells] at h
 | .nils::_,_,_,h=>by simp [guardCells] at h
 | .agg _::_,_,_,h=>by simp [guardCells] at h
 | .tup _::_,_,_,h=>by simp [guardCells] at h
 | .fn _ _::_,_,_,h=>by simp [guardCells] at h
 | .ptr _ _::_,_,_,h=>by simp [guardCells] at h
 | .sref _ _ _ _::_,_,_,h=>by simp [guardCells] at h
 | .eptr _ _ _ _::_,_,_,h=>by simp [guardCells] at h
 | .fptr _ _ _ _::_,_,_,h=>by simp [guardCells] at h
 | .bptr _ _::_,_,_,h=>by simp [guardCells] at h
 | .gptr _ _ _ _::_,_,_,h=>by simp [guardCells] at h
 | .nilq _ _::_,_,_,h=>by simp [guardCells] at h
 | .bsl _ _::_,_,_,h=>by simp [guardCells] at h
 | .dead::_,_,_,h=>by simp [guardCells] at h
theorem sN {l : R} : ∀ {cs : List DV} {k : OR} {r : R},guardAggs l cs k=some r→(∀ c∈cs,aAp l c)∧k=some r
 | [],k,r,h=>⟨by simp,h⟩
 | d::cs,k,r,h=>by
   have one : ∀ {d : DV},guardCells l [d] (guardAggs l cs k)=some r→(∀ c∈d::cs,aAp l c)∧k=some r:=by
    intro d h
    obtain ⟨h1,h2⟩:=qI h
    obtain ⟨h3,h4⟩:=sN h2
    refine ⟨λc hc=>?_,h4⟩
    rcases List.mem_cons.1 hc with rfl | hc
    ·exact h1 _ List.mem_cons_self
    ·exact h3 c hc
   cases d with
   | agg ds=>
     unfold guardAggs at h
     obtain ⟨h1,h2⟩:=qI h
     obtain ⟨h3,h4⟩:=sN h2
     refine ⟨λc hc=>?_,h4⟩
     rcases List.mem_cons.1 hc with rfl | hc
     ·exact .agg _ h1
     ·exact h3 c hc
   | _=>exact one (by simpa only [guardAggs] using h)
theorem aJD {l : R} {d : DV} {k : OR} {r : R} (h : guardRes l d k=some r) : aAp l d∧k=some r:=by
 unfold guardRes at h
 split at h
 ·obtain ⟨h1,h2⟩:=sN h
  exact ⟨.tup _ h1,h2⟩
 ·obtain ⟨h1,h2⟩:=sN h
  exact ⟨h1 _ List.mem_cons_self,h2⟩
theorem aCB {l : R} : ∀ {cs : List (Option Own)} {k : OR} {r : R},guardRows l cs k=some r→(∀ (i : Nat) w kk j,cs[i]? = some (some w)→w.c = .int kk j→PV.flatO w.o (gd l j.toNat)=true)∧k=some r
 | [],k,r,h=>⟨λi w kk j hi=>by simp at hi,h⟩
 | none::_,_,_,h=>by simp [guardRows] at h
 | some w::cs,k,r,h=>by
   unfold guardRows at h
   split at h
   ·rename_i kk j hc
    unfold PV.guardOwn at h
    split at h
    ·rename_i hf
     obtain ⟨h1,h2⟩:=aCB h
     refine ⟨λi w' kk' j' hi hc'=>?_,h2⟩
     cases i with
     | zero=>
       simp at hi
       subst hi
       rw [hc] at hc'
       cases hc'
       exact hf
     | succ i=>exact h1 i w' kk' j' (by simpa using hi) hc'
    ·cases h
   ·cases h
mutual
theorem aCT (l : R) : ∀ (ds : List DV),fillDs l ds=ds.map (fillD l)
 | []=>rfl
 | d::r=>by simp only [fillDs,List.map_cons,aCT l r]
end
theorem aAp.rd {l : R} {w : World} {Z Z' : NP} {ρ : Loc} {live live' : NP} (hl : ∀ x,live' x→live x) {d : DV} (hf : aAp l d) : ∀ {v : Value},dM w Z ρ live (fillD l d) v→dM w Z' ρ live' (fillD l d) v:=by
 induction hf with
 | p k i hfl=>
   intro v h
   simp only [fillD] at h ⊢
   cases h with
   | p _ _ h=>exact .p _ _ (h.flat hfl)
 | ref n path=>
   intro v h
   simp only [fillD] at h ⊢
   cases h with
   | ref _ _ _ h1 h2 h3=>exact .ref _ _ _ h1 h2 (λhv=>h3 (hl _ hv))
 | agg cs _ ih=>
   intro v h
   simp only [fillD,aCT] at h ⊢
   cases h with
   | agg _ vs h1 h2 h3=>
     refine .agg _ vs h1 h2 (λi d v hd hv=>?_)
     rw [List.getElem?_map] at hd
     cases hc : cs[i]? with
     | none=>rw [hc] at hd;cases hd
     | some c=>
       rw [hc] at hd
       cases hd
       exact ih c (List.mem_of_getElem? hc) (h3 i _ v (by rw [List.getElem?_map,hc];rfl) hv)
 | tup cs _ ih=>
   intro v h
   simp only [fillD,aCT] at h ⊢
   cases h with
   | tup _ vs h1 h3=>
     refine .tup _ vs h1 (λi d v hd hv=>?_)
     rw [List.getElem?_map] at hd
     cases hc : cs[i]? with
     | none=>rw [hc] at hd;cases hd
     | some c=>
       rw [hc] at hd
       cases hd
       exact ih c (List.mem_of_getElem? hc) (h3 i _ v (by rw [List.getElem?_map,hc];rfl) hv)
section
variable {P : Program} {X : Cx} {O : Orc}
theorem lentK_sound (hS : aGW P X.mode O.S) {t : Tmpl} {f : Nat} (hm : X.mode f=some t) (hwf : t.wf=true) {args : List DV} {s : St} {k : DV→St→OR} {r : R} (h : lentK O t f args s k=some r) :
 mJ P f∧∃ d' s',k d' s'=some r∧∀ (n : Nat) (m : bA) (B L WB WL : NP),pN m s B L n→s'.nb≤n+16→s'.nl≤n+16→aGe m s args→
  ∀ vs : Array Value,args.length=vs.size→(∀ (i : Nat) d v,args[i]? = some d→vs[i]? = some v→m.rd d v)→
    Calls P f vs m.w (λe w'=>∃ v,e = .returned v∧∃ m',m'.w=w'∧bV m m' s s' B L WB WL n id∧m'.rd d' v):=by
 unfold lentK at h
 obtain ⟨ps,h1,hpl,H⟩:=wK h
 obtain ⟨l,hl,h2⟩:=aU h1
 obtain ⟨hflat,h3⟩:=aJD h2
 obtain ⟨hrows,hk⟩:=aCB h3
 obtain ⟨hcb,HS⟩:=hS f t _ _ l hm hl
 rw [Tmpl.fit_nil rfl] at HS
 refine ⟨hcb,_,_,hk,λn m B L WB WL sit hnb hnl hM vs hvl hrd=>?_⟩
 have hnl : s.nl+t.lists.length≤n+16:=hnl
 have sn1:=sit.nb
 have sn2:=sit.nl
 let m0 : bA:={ w:=m.w,Z:=λx=>m.Z x∨m.owned x,s:={ box:=λ_=>none,list:=λ_=>none},L:=λ_=>False,
                ρ:={ box:=λ_=>0,hdr:=λ_=>.nilFunc,fp:=λ_ _=>False,ty:=λ_=>.leaf,ub:=λ_=>False,ul:=λ_=>False}}
 have full0 : iE m0 ⟨[],[],0,0,0⟩ 0:={
  inv:={
   ub:=λ_ _ h=>by cases h
   ul:=λ_ _ h=>by cases h
   zlt:=sit.inv.zlt.next (λ_ h=>.inl h) (λ_ _=>rfl) λr hr=>hr.elim (sit.inv.zlt r) (λh=>sit.inv.owned_lt h)
   box:=λ_ _ h=>by cases h
   row:=λ_ _ h=>by cases h
   bz:=λ_ _ h=>by cases h
   bb:=λ_ _ _ _ h=>by cases h
   bl:=λ_ _ _ _ h=>by cases h
   ll:=λ_ _ _ _ _ h=>by cases h
   Lz:=λ_ h=>h.elim
   Lb:=λ_ _ _ h=>h
   Ll:=λ_ _ _ _ _ h=>h}
  box:=λ_=>rfl
  list:=λ_=>rfl
  ub:=λ_ h=>h.elim
  ul:=λ_ h=>h.elim}
 have own0 : ∀ r,¬ m0.owned r:=by
  rintro r (⟨_,_,h,_⟩ | ⟨_,_,h,_⟩ | h)
  ·cases h
  ·cases h
  ·exact h
 have hreps:=H m (λx=>m.Z x∨m.owned x) sit.inv hM (.inl λr hr=>.inr hr) (λr hr=>.inl hr) vs hvl hrd
 refine (HS m0 vs full0 (by rw [List.length_map];omega) (λi d v hd hv=>?_)).mono ?_
 ·rw [List.getElem?_map] at hd
  cases hp : ps[i]? with
  | none=>rw [hp] at hd;cases hd
  | some p=>rw [hp] at hd;cases hd;exact .p _ _ (hreps i p v hp hv)
 ·rintro e w' ⟨v,rfl,c,hw,cinv,fw,d,s0,a0,hread,hdv,hfull,hub,hul⟩
  obtain ⟨hless,lenB,lenL,HB,HO⟩:=Tmpl.read_sound hread hwf
  have lenL : t.lists.length=a0.ls.length:=lenL.trans sM
  refine ⟨v,rfl,?_⟩
  have rowC : ∀ i w,c.s.list i=some w→∃ w0,t.lists[i]? = some (some w0)∧(fillO l t.lists)[i]? = some (some w)∧PV.flatO w.o w.c=true:=by
   intro i w hi
   have hlt : i<t.lists.length:=by rw [lenL];exact hul i (cinv.ul i w hi)
   have hi':=hi
   rw [hfull.list i] at hi'
   cases hti : t.lists[i]'hlt with
   | none=>
     exfalso
     have : ∀ {cs : List (Option Own)} {k : OR} {r : R},guardRows l cs k=some r→∀ (j : Nat),cs[j]?≠some none:=by
      intro cs
      induction cs with
      | nil=>intro k r _ j;simp
      | cons x xs ih=>
        intro k r h j
        cases x with
        | none=>simp [guardRows] at h
        | some w=>
          unfold guardRows at h
          split at h
          ·unfold PV.guardOwn at h
           split at h
           ·cases j with
            | zero=>simp
            | succ j=>simpa using ih h j
           ·cases h
          ·cases h
     exact this h3 i (by rw [List.getElem?_eq_getElem hlt,hti])
   | some w0=>
     have ht : t.lists[i]? = some (some w0):=by rw [List.getElem?_eq_getElem hlt,hti]
     obtain ⟨x,w1,g1,g2,⟨kk,j,g3,g4⟩,g5⟩:=HO i w0 ht
     have g1 : (s0.pick a0).list i=some w1:=by
      have:=oT (n:=0) g1
      rw [Nat.zero_add] at this
      exact this
     rw [g1] at hi'
     cases hi'
     refine ⟨w0,ht,g2,?_⟩
     have:=hrows i w0 kk j ht g3
     rw [g4,g5] at this
     exact this
  let c1 : bA:={ w:=c.w,Z:=λx=>c.Z x∧(m.Z x∨m.w.heap.size≤x),s:={ box:=λ_=>none,list:=c.s.list},L:=λ_=>False,ρ:=c.ρ}
  have c1inv : oP c1:={
   ub:=λ_ _ h=>by cases h
   ul:=λl o h=>cinv.ul l o h
   zlt:=⟨λr hr=>cinv.zlt r hr.1,sit.inv.zlt.glob.mono (λr h=>⟨fw.zz r (.inl h),.inl h⟩) (λr h=>fw.keep r (Nat.lt_of_lt_of_le (sit.inv.zlt r h) (Nat.le_refl _)) (own0 r))⟩
   box:=λ_ _ h=>by cases h
   row:=λi o hi=>by
    have hi : c.s.list i=some o:=hi
    obtain ⟨g1,g2,g3⟩:=cinv.row i o hi
    obtain ⟨w0,_,_,hf⟩:=rowC i o hi
    exact ⟨g1,g2,g3.flat (.inl hf) (λr hr hz=>g3.notZ r hr hz.1)⟩
   bz:=λ_ _ h=>by cases h
   bb:=λ_ _ _ _ h=>by cases h
   bl:=λ_ _ _ _ h=>by cases h
   ll:=λl o l' o' r h h'=>cinv.ll l o l' o' r h h'
   Lz:=λ_ h=>h.elim
   Lb:=λ_ _ _ h=>h
   Ll:=λ_ _ _ _ _ h=>h}
  have c1own : ∀ r,c1.owned r→c.owned r:=by
   rintro r (⟨_,_,h,_⟩ | ⟨l,o,h,hr⟩ | h)
   ·cases h
   ·exact .inr (.inl ⟨l,o,h,hr⟩)
   ·exact h.elim
  let S : Sx:={ box:=m.s.box
                list:=λx=>match zN s.nl t.lists.length x with | some i=>(fillO l t.lists).getD i none | none=>m.s.list x}
  have freshL : ∀ x,s.nl≤x→x<s.nl+t.lists.length→¬ m.ρ.ul x:=λx h1 h2=>sit.fl x h1 (by omega)
  have cb0 : ∀ x,eM [] s.nb 0 x=none:=λx=>by
   unfold eM
   simp only [idx]
   rw [if_neg (by omega)]
  have listC : ∀ i w,(fillO l t.lists)[i]? = some (some w)→c.s.list i=some w:=by
   intro i w hi
   obtain ⟨ts,hts⟩:=uZ l hi
   obtain ⟨x',w2,g1,g2,_⟩:=HO i ts hts
   rw [hi] at g2
   cases g2
   have g1 : (s0.pick a0).list i=some w:=by
    have:=oT (n:=0) g1
    rw [Nat.zero_add] at this
    exact this
   rw [← hfull.list i] at g1
   exact g1
  have came : wC m c1 false [] [] [] s.nb 0 s.nl t.lists.length S:={
   kk:=λ_=>rfl
   kn:=List.nodup_nil
   ks:=by simp
   row:=λi l0 h=>by simp at h
   inv:=sit.inv
   cinv:=c1inv
   nb:=List.nodup_nil
   ab:=by simp
   al:=by simp
   size:=fw.size
   os:=fw.os
   tape:=fw.tape
   output:=fw.output
   keep:=λr hr _=>fw.keep r hr (own0 r)
   own:=λr hr=>.inr ((fw.own r (c1own r hr)).resolve_left (own0 r))
   z:=λr hr=>hr.2.imp id (λh=>.inr h)
   zz:=λr hr=>⟨fw.zz r (.inl hr),.inl hr⟩
   box:=λi b h=>by simp at h
   freshB:=λx h1 h2=>by omega
   freshL:=freshL
   sb:=λx cs hx=>.inr ⟨cb0 x,cs,hx,(List.map_id _).symm⟩
   sbx:=λx hx=>hx
   sl:=λx o hx=>by
    have hx : (match zN s.nl t.lists.length x with | some i=>(fillO l t.lists).getD i none | none=>m.s.list x)=some o:=hx
    rw [aDN]
    cases hcl : zN s.nl t.lists.length x with
    | none=>rw [hcl] at hx;exact .inr ⟨rfl,by simp,hx⟩
    | some i=>
      rw [hcl] at hx
      exact .inl ⟨i,rfl,listC i o (getD_some hx)⟩}
  have listL : ∀ x,look x (backO s.nl (fillO l t.lists) s.lists)=match zN s.nl t.lists.length x with | some i=>(fillO l t.lists).getD i none | none=>s.list x:=λx=>by
   have:=aGT (x:=x) (cs:=fillO l t.lists) (n:=s.nl) (old:=s.lists)
   rw [uL] at this
   exact this
  have hres : c1.rd (fillD l t.res) v:=hflat.rd (λ_ h=>h) (hless c v hdv)
  refine ⟨m.back c1 [] [] s.nb 0 s.nl t.lists.length S,hw,?_,?_⟩
  ·refine {
    step:=by have:=came.step sn1 (by omega) sn2 hnl;exact this
    after:=⟨λx hx=>sit.ab x hx,λx hx=>?_,λ_ _ _=>rfl,λx h1 h2=>?_,λ_ _ _=>rfl,λx h1 h2=>?_⟩
    nb:=Nat.le_refl _
    nl:=Nat.le_add_right _ _
    ub:=λx hx hu=>hu.elim id (λh=>by omega)
    ul:=λx hx hu=>hu.elim id (λh=>by have hx : s.nl+t.lists.length≤x:=hx;omega)}
   ·show (match zN s.nl t.lists.length x with | some i=>(fillO l t.lists).getD i none | none=>m.s.list x)=look x (backO s.nl (fillO l t.lists) s.lists)
    rw [listL x]
    cases zN s.nl t.lists.length x with
    | some i=>rfl
    | none=>exact sit.al x hx
   ·show (match zN s.nl t.lists.length x with | some i=>(fillO l t.lists).getD i none | none=>m.s.list x)=_
    rcases aGU s.nl t.lists.length x with ⟨i,g1,g2,g3⟩ | ⟨g1,_⟩
    ·exact absurd ⟨by omega,by omega⟩ h2
    ·rw [g1]
   ·show look x (backO s.nl (fillO l t.lists) s.lists)=_
    rw [listL x]
    rcases aGU s.nl t.lists.length x with ⟨i,g1,g2,g3⟩ | ⟨g1,_⟩
    ·exact absurd ⟨by omega,by omega⟩ h2
    ·rw [g1]
  ·refine dM.renum (ρ:=c1.ρ) (live:=c1.s.live) (λb b' hu hbb=>by cases hbb) (λl0 l' hu hll=>?_) deep hres
   unfold backFl at hll
   cases hll
   have hlt:=hul l0 hu
   rw [← lenL] at hlt
   have hcl : zN s.nl t.lists.length (s.nl+l0)=some l0:=by
    unfold zN
    rw [if_pos ⟨by omega,by omega⟩]
    congr 1
    omega
   refine ⟨.inr ⟨by omega,by omega⟩,λhv=>⟨?_,?_,?_,?_⟩⟩
   ·have hv : (match zN s.nl t.lists.length (s.nl+l0) with | some i=>(fillO l t.lists).getD i none | none=>m.s.list (s.nl+l0))≠none:=hv
    rw [hcl] at hv
    obtain ⟨w1,hw1⟩:=Option.ne_none_iff_exists'.1 hv
    have:=listC l0 w1 (getD_some hw1)
    show c.s.list l0≠none
    rw [this];simp
   ·show (match eM [] s.nl t.lists.length (s.nl+l0) with | some i=>c.ρ.hdr i | none=>_)=_
    rw [aDN,hcl]
   ·show (match eM [] s.nl t.lists.length (s.nl+l0) with | some i=>c.ρ.ty i | none=>_)=_
    rw [aDN,hcl]
   ·show (match eM [] s.nl t.lists.length (s.nl+l0) with | some i=>c.ρ.fp i | none=>_)=_
    rw [aDN,hcl]
end
section
variable {P : Program} {X : Cx} {O : Orc}
theorem aCU : ∀ (ds : List DV) (ts : List Nat) (s : St) (k : List DV→St→OR),ownArgs X ds ts s k=ownCells X ds (ts.map (elemOf X)) s k
 | [],ts,s,k=>by cases ts<;>rfl
 | d::ds,[],s,k=>rfl
 | d::ds,t::ts,s,k=>by
   unfold ownArgs ownCells
   simp only [List.map_cons]
   cases d<;>cases elemOf X t<;>simp only [aCU ds ts]
theorem aH0 {f : Nat} (hP : aEM P O.C) : ∀ ps r,O.C f ps=some r→mJ P f∧∀ (w : World) (Z : NP) (aS us : Array Value),ZOk w Z→ps.length=aS.size→
 (∀ (i : Nat) x v,ps[i]? = some x→aS[i]? = some v→iH w Z x v)→([] : R).length=us.size→(∀ (i : Nat) x v,([] : R)[i]? = some x→us[i]? = some v→iH w Z x v)→
 Calls P f (aS++us) w (λe w'=>∃ v,e = .returned v∧∃ Z',aDL w w' Z Z'∧iH w' Z' (hd r) v):=by
 intro ps r h
 obtain ⟨h1,h2⟩:=hP f ps r h
 refine ⟨h1,λw Z aS us hz hl hr hu _=>?_⟩
 have : us = #[]:=Array.eq_empty_of_size_eq_zero hu.symm
 subst this
 rw [Array.append_empty]
 exact h2 w Z aS hz hl hr
theorem aA2 (kp : Bool) (kl : List Nat) (t : Nat) (e : Env) : (scrubKeptE kp kl e).get t=scrubKeptD kp kl (e.get t):=by
 unfold scrubKeptE scrubKeptD
 cases kp with
 | true=>exact zG kl t e
 | false=>rfl
theorem aGZ {t : Tmpl} {args : List DV} {l : Nat} {path : eH} {rest : List DV} (h : nestedArg t args=some (l,path,rest)) : args = .ref l path::rest∧path≠[]∧t.keep=true:=by
 unfold nestedArg at h
 split at h
 ·split at h
  ·rename_i hc
   cases h
   simp only [Bool.and_eq_true] at hc
   exact ⟨rfl,by simp,hc.1⟩
  ·cases h
 ·cases h
theorem aH1 {b : Bool} {kl : List Nat} {l : Nat} {path : eH} (h : mem l kl=false) : scrubKeptD b kl (.ref l path) = .ref l path:=by
 unfold scrubKeptD
 cases b<;>simp [deep,scrub,scrub1,h]
theorem aH2 {b : Bool} {kl : List Nat} {l : Nat} : scrubKeptD b kl (.ref l []) = .ref l []:=by
 unfold scrubKeptD
 cases b<;>simp [deep,scrub,scrub1]
theorem aKK (hP : aEM P O.C) (hS : aGW P X.mode O.S) (hwf : ∀ g t,X.mode g=some t→t.wf=true) {f : Nat} {args : List DV} {ts : List Nat} {e : Env} {s : St} {k : DV→Env→St→OR} {r : R} (h : callK X O f args ts e s k=some r) :
 mJ P f∧∃ d' e' s' scr,k d' e' s'=some r∧(∀ t,e'.get t=scr (e.get t))∧((match X.mode f with | some t=>{ deepFoot s args (!t.lent) with last:=!t.lent&&t.keep} | none=>deepFoot s args false).last=false→scr=_root_.id)∧∀ (n : Nat) (m : bA) (B L WB WL : NP),pN m s B L n→s'.nb≤n+16→s'.nl≤n+16→
  (∀ ft,ft=(match X.mode f with | some t=>{ deepFoot s args (!t.lent) with last:=!t.lent&&t.keep} | none=>deepFoot s args false)→ft.Cov B L WB WL∧(ft.ok=true∨∀ x,B x∧L x))→
  ∀ vs : Array Value,args.length=vs.size→(∀ (i : Nat) d v,args[i]? = some d→vs[i]? = some v→m.rd d v)→
    Calls P f vs m.w (λe w'=>∃ v,e = .returned v∧∃ m',m'.w=w'∧bV m m' s s' B L WB WL n scr∧m'.rd d' v):=by
 unfold callK at h
 split at h
 ·rename_i hmode
  unfold pureK at h
  obtain ⟨hcb,d',hk,H⟩:=aKH (caps:=[]) (k:=λd s=>k d e s) (aH0 hP) h
  refine ⟨hcb,d',e,s,_root_.id,hk,λ_=>rfl,λ_=>rfl,λn m B L WB WL sit _ _ hft vs hl hr=>?_⟩
  obtain ⟨C,hok⟩:=hft _ rfl
  rw [hmode] at C hok
  have:=H n m B L WB WL sit (aJB sit C hok) vs #[] hl hr rfl (λi x v h=>by simp at h)
  rwa [Array.append_empty] at this
 ·rename_i t hmode
  split at h
  ·rename_i hlent
   obtain ⟨hcb,d',s',hk,H⟩:=lentK_sound hS hmode (hwf f t hmode) h
   refine ⟨hcb,d',e,s',_root_.id,hk,λ_=>rfl,λ_=>rfl,λn m B L WB WL sit hnb hnl hft vs hl hr=>?_⟩
   obtain ⟨C,hok⟩:=hft _ rfl
   rw [hmode] at C hok
   simp only [hlent,Bool.not_true,Bool.false_and] at C hok
   exact H n m B L WB WL sit hnb hnl (aJB sit C hok) vs hl hr
  ·rename_i hlent
   have hlent : t.lent=false:=by simpa using hlent
   split at h
   ·rename_i l path rest hna
    obtain ⟨hargs,hpath,hkeep⟩:=aGZ hna
    subst hargs
    obtain ⟨s1,h1,hs1,_,HLV⟩:=aAo hpath h
    obtain ⟨hcb,d',s2,kl,hk2,hs2,H⟩:=aFB hS hmode (hwf f t hmode) h1
    split at hk2
    ·cases hk2
    rename_i hnk
    obtain ⟨s3,hk3,hnl3,hnb3,HB⟩:=aGH hpath hk2
    refine ⟨hcb,d',scrubKeptE t.keep kl e,s3,scrubKeptD t.keep kl,hk3,λt'=>aA2 t.keep kl t' e,λhla=>?_,λn m B L WB WL sit hnb hnl hft vs hl hr=>?_⟩
    ·rw [hmode] at hla
     simp only [hlent,Bool.not_false,Bool.true_and] at hla
     rw [hkeep] at hla;cases hla
    obtain ⟨C,hok⟩:=hft _ rfl
    rw [hmode] at C hok
    simp only [hlent,Bool.not_false,Bool.true_and] at C hok
    have hall:=C.all hkeep
    have hsz : 0<vs.size:=by rw [← hl];simp
    have hv0:=hr 0 _ vs[0] rfl (Array.getElem?_eq_getElem hsz)
    obtain ⟨m1,hw1,G1,hd1⟩:=HLV n m B L WB WL sit (by omega) ⟨(hall l).2.1,(hall l).2.2.2⟩ _ hv0
    have sit1:=G1.sit sit
    have:=H n m1 B L WB WL sit1 (by omega) (by omega) sit.nl (λb _=>⟨(hall b).1,(hall b).2.2.1⟩) (λl _=>⟨(hall l).2.1,(hall l).2.2.2⟩) (λ_ x=>⟨⟨(hall x).1,(hall x).2.2.1⟩,⟨(hall x).2.1,(hall x).2.2.2⟩⟩) vs (by simpa using hl) (λi d v h1 h2=>by
     cases i with
     | zero=>
       rw [Array.getElem?_eq_getElem hsz] at h2
       cases h1;cases h2;exact hd1
     | succ i=>exact G1.step.rd _ _ (hr (i+1) d v h1 h2))
    rw [hw1] at this
    refine this.mono ?_
    rintro e w' ⟨v,rfl,m',hw,G,hd⟩
    have sit2:=G.sit sit1
    have g1 : m'.rd (.ref l path) vs[0]:=by
     have : m'.rd (scrubKeptD t.keep kl (.ref l path)) vs[0]:=G.step.rd _ _ (G1.step.rd _ _ hv0)
     rwa [aH1 (by simpa using hnk)] at this
    have g2 : m'.rd (.ref s.nl []) vs[0]:=by
     have : m'.rd (scrubKeptD t.keep kl (.ref s.nl [])) vs[0]:=G.step.rd _ _ hd1
     rwa [aH2] at this
    obtain ⟨m3,hw3,G3⟩:=HB n m' B L WB WL sit2 ⟨(hall l).2.1,(hall l).2.2.2⟩ ⟨(hall _).2.1,(hall _).2.2.2⟩ _ g1 g2
    exact ⟨v,rfl,m3,hw3.trans hw,(G1.trans G).trans G3,G3.step.rd _ _ hd⟩
   rw [aCU] at h
   obtain ⟨ds',s1,h1,hlen,hms,HM⟩:=nG h
   obtain ⟨hcb,d',s',kl,hk,hs1,H⟩:=aFB hS hmode (hwf f t hmode) h1
   refine ⟨hcb,d',scrubKeptE t.keep kl e,s',scrubKeptD t.keep kl,hk,λt'=>aA2 t.keep kl t' e,λhla=>?_,λn m B L WB WL sit hnb hnl hft vs hl hr=>?_⟩
   ·rw [hmode] at hla
    simp only [hlent,Bool.not_false,Bool.true_and] at hla
    unfold scrubKeptD
    rw [hla];rfl
   obtain ⟨C,hok⟩:=hft _ rfl
   rw [hmode] at C hok
   simp only [hlent,Bool.not_false,Bool.true_and] at C hok
   obtain ⟨m1,M1,hr1⟩:=HM n m sit.inv sit.nl (by omega) sit.fl vs.toList (λi d u h1 h2=>hr i d u h1 (by simpa using h2))
   have G1:=M1.goes WB WL sit hms (by omega)
   have sit1:=G1.sit sit
   have hwb : (deepFoot s args true).wb=(deepFoot s args true).rb:=rfl
   have hwl : (deepFoot s args true).wl=(deepFoot s args true).rl:=rfl
   have:=H n m1 B L WB WL sit1 hnb hnl sit.nl (λb hb=>⟨C.rb b hb,C.wb b (by show b∈(deepFoot s args true).wb;rw [hwb];exact hb)⟩) (λl hl=>⟨C.rl l hl,C.wl l (by show l∈(deepFoot s args true).wl;rw [hwl];exact hl)⟩) (λhkp x=>⟨⟨(C.all hkp x).1,(C.all hkp x).2.2.1⟩,⟨(C.all hkp x).2.1,(C.all hkp x).2.2.2⟩⟩) vs (by omega) (λi d v h1 h2=>hr1 i d v h1 (by simpa using h2))
   rw [M1.w] at this
   refine this.mono ?_
   rintro e w' ⟨v,rfl,m',hw,G,hd⟩
   exact ⟨v,rfl,m',hw,G1.trans G,hd⟩
theorem aL9 (hP : aEM P O.C) (hS : aGW P X.mode O.S) (hwf : ∀ g t,X.mode g=some t→t.wf=true) : aDH P X O:=by
 intro d args ts e s k r h
 unfold applyK at h
 split at h
 ·rename_i f caps
  obtain ⟨hcb,d',e',s',scr,hk,he,hid,H⟩:=aKK hP hS hwf h
  have hfeq : callFoot X (.fn f caps) args s=(match X.mode f with | some t=>{ deepFoot s (args++caps) (!t.lent) with last:=!t.lent&&t.keep} | none=>deepFoot s (args++caps) false):=by
   unfold callFoot
   simp only
   cases X.mode f<;>rfl
  refine ⟨d',e',s',scr,hk,he,λhla=>hid (by rw [← hfeq];exact hla),λn m B L WB WL sit hnb hnl C hok vf vs hvf hl hr=>?_⟩
  cases hvf with
  | fn _ _ us hul hur=>
    have e1 : (do let df ← Deferred.ofValue (.func (.func f) #[] us.toArray) vs;invoke df.target df.args : Sem Next).run P m.w = .ok (.enter f (vs++us.toArray)) m.w:=by
     simp [Deferred.ofValue,invoke,aDK hcb]
    rw [e1]
    refine (H n m B L WB WL sit hnb hnl (λft hft=>?_) (vs++us.toArray) (by simp;omega) (λi d v hd hv=>?_))
    ·rw [hfeq,← hft] at C hok
     exact ⟨C,hok⟩
    ·rw [Array.getElem?_append] at hv
     split at hv
     ·rename_i hi
      rw [List.getElem?_append_left (by omega)] at hd
      exact hr i d v hd hv
     ·rename_i hi
      rw [List.getElem?_append_right (by omega)] at hd
      refine hur (i - args.length) d v hd ?_
      rw [hl]
      simpa using hv
 ·rename_i v
  cases v with
  | fn f caps=>
    obtain ⟨hcb,d',hk,H⟩:=aKH (P:=P) (f:=f) (C:=λvs=>PV.apply O.C (.fn f caps) vs) (caps:=caps) (k:=λd s=>k d e s) (λps r0 h0=>by
     have h0 : O.C f (ps++caps)=some r0:=h0
     obtain ⟨h1,h2⟩:=hP f _ _ h0
     refine ⟨h1,λw Z aS us hz hl hr hul hur=>h2 w Z (aS++us) hz (by simp;omega) (λi x v hx hv=>?_)⟩
     rw [Array.getElem?_append] at hv
     split at hv
     ·rw [List.getElem?_append_left (by omega)] at hx
      exact hr i x v hx hv
     ·rw [List.getElem?_append_right (by omega)] at hx
      exact hur (i - ps.length) x v hx (by rw [hl];exact hv)) h
    refine ⟨d',e,s,id,hk,λ_=>rfl,λ_=>rfl,λn m B L WB WL sit hnb hnl C hok vf vs hvf hl hr=>?_⟩
    cases hvf with
    | p _ _ hvf=>cases hvf with
      | fn _ _ us hul hur=>
        have e1 : (do let df ← Deferred.ofValue (.func (.func f) #[] us.toArray) vs;invoke df.target df.args : Sem Next).run P m.w = .ok (.enter f (vs++us.toArray)) m.w:=by
         simp [Deferred.ofValue,invoke,aDK hcb]
        rw [e1]
        exact H n m B L WB WL sit (aJB (ds:=args) (wr:=false) sit C hok) vs us.toArray hl hr (by simpa using hul) (λi x v hx hv=>hur i x v hx (by simpa using hv))
  | _=>
    exfalso
    split at h<;>
    ·obtain ⟨ps,h1,_⟩:=wK (s:=s) h
     obtain ⟨r0,hr0,_⟩:=aU h1
     simp [PV.apply] at hr0
 ·cases h
end
structure Hyp (P : Program) (T : Tab) (H : Hints) : Prop where
 tab : T=tabOf P
 zero : mR P H.zok
 mixed : P.follows .mixedOrders=true
 code : ∀ (f : Nat) (fn : Func) (c : Code),P.funcs[f]? = some fn→fn.body=some c→codeOk fn.ntmps c=true∧fn.name≠ "runtime.NumGoroutine"
 prim : aEM P λg args=>(H.prim g).bind λp=>p args
 primS : ∀ g h,H.primS g=some h→∀ t args s l,H.mode g=some t→h args s=some l→mJ P g∧∀ (m : bA) (aS : Array Value),iE m s s.base→args.length=aS.size→
  (∀ (i : Nat) d v,args[i]? = some d→aS[i]? = some v→m.rd d v)→Calls P g aS m.w (λe w'=>∃ v,e = .returned v∧uY m s.boxes.length (if t.keep then s.lists.length else 0) (some (t.fit s)) l v w')
 glob : ∀ g,H.glob g=none
 wf : ∀ g t,H.mode g=some t→t.wf=true
section
variable {P : Program} {T : Tab} {H : Hints}
theorem aG0 : ∀ (ds : List DV) (n t : Nat),(argEnv n ds).get t=if n≤t then ds.getD (t - n) .dead else .dead
 | [],n,t=>by simp [argEnv,Env.get]
 | d::r,n,t=>by
   unfold argEnv
   simp only [Env.get]
   by_cases h : t=n
   ·subst h;simp
   ·have hb : Nat.beq t n=false:=by
     cases hb : Nat.beq t n with
     | false=>rfl
     | true=>exact absurd (bR hb) h
    rw [hb]
    simp only [Bool.false_eq_true,if_false]
    rw [aG0]
    by_cases h2 : n≤t
    ·rw [if_pos h2,if_pos (by omega),show t - n=t - (n+1)+1 by omega]
     simp [List.getD]
    ·rw [if_neg h2,if_neg (by omega)]
theorem aKL {m : bA} {args : List DV} {vs : Array Value} {n : Nat} (hl : args.length=vs.size) (hr : ∀ (i : Nat) d v,args[i]? = some d→vs[i]? = some v→m.rd d v) :
 iT m (argEnv 0 args).get ⟨vs++Array.replicate n undef,[]⟩:=by
 intro t
 rw [aG0,if_pos (Nat.zero_le _),Nat.sub_zero]
 by_cases h : t<args.length
 ·have hd : args[t]? = some args[t]:=List.getElem?_eq_getElem h
  have hv : vs[t]? = some (vs[t]'(by omega)):=Array.getElem?_eq_getElem (by omega)
  have e1 : args.getD t .dead=args[t]:=by rw [List.getD,hd];rfl
  have e2 : Act.eval ⟨vs++Array.replicate n undef,[]⟩ (.tmp t)=vs[t]'(by omega):=by
   show (vs++Array.replicate n undef).getD t undef=_
   rw [Array.getD_eq_getD_getElem?,Array.getElem?_append_left (by omega),hv];rfl
  rw [e1,e2]
  exact hr t _ _ hd hv
 ·have e1 : args.getD t .dead = .dead:=by rw [List.getD,List.getElem?_eq_none (by omega)];rfl
  rw [e1]
  exact .dead _
theorem aCC {f : Nat} {fn : Func} {c : Code} (hfn : P.funcs[f]? = some fn) (hc : fn.body=some c) {nb nl : Nat} {out : Option Tmpl} {args : List DV} {s : St} {r : R} (hg : aPS P f nb nl out [.code c] (argEnv 0 args) s r)
 {m : bA} {vs : Array Value} (hf : iE m s s.base) (hl : args.length=vs.size) (hr : ∀ (i : Nat) d v,args[i]? = some d→vs[i]? = some v→m.rd d v) :
 Calls P f vs m.w (λe w'=>∃ v,e = .returned v∧uY m nb nl out r v w'):=by
 intro cs
 let b : Frame:={ (default : Frame) with fn:=f,kind:=.normal}
 have henter : Frame.enter P f vs .normal=b.at ⟨vs++Array.replicate (fn.ntmps - vs.size) undef,[]⟩ [.code c]:=by
  simp [Frame.enter,Frame.at,hfn,hc,b]
 obtain ⟨v,w',fr,h1,h2,h3,h4⟩:=hg m ⟨vs++Array.replicate (fn.ntmps - vs.size) undef,[]⟩ fn hfn hf (aKL hl hr) (by simp;omega) rfl b cs rfl rfl
 rw [← henter] at h2
 exact ⟨.returned v,w',fr,⟨v,rfl,h1⟩,h2,h3,h4⟩
theorem aCV {f : Nat} {n nb nl : Nat} {out : Option Tmpl} {e : Env} {s : St} {r : R} (h : runN P T H n f nb nl out (startOf P f) e s=some r) : ∃ fn c,P.funcs[f]? = some fn∧fn.body=some c∧startOf P f = [.code c]:=by
 cases hb : bodyOf P f with
 | none=>
   exfalso
   cases n with
   | zero=>simp [runN] at h
   | succ n=>
     unfold runN at h
     have hs : startOf P f = [.code (.refuse "")]:=by unfold startOf;rw [hb]
     rw [hs] at h
     unfold evalFuel eval at h
     simp at h
 | some c=>
   have hs : startOf P f = [.code c]:=by unfold startOf;rw [hb]
   unfold bodyOf at hb
   cases hf : P.funcs[f]? with
   | none=>rw [hf] at hb;cases hb
   | some fn=>rw [hf] at hb;exact ⟨fn,c,rfl,hb,hs⟩
theorem aQB (hy : Hyp P T H) {g : Nat} {fn : Func} {c : Code} (hg : P.funcs[g]? = some fn) (hc : fn.body=some c) : oL fn.ntmps [.code c]:=λx hx=>by
 simp at hx;subst hx;exact (hy.code _ _ _ hg hc).1
def aMZ (P : Program) (run : Nat→Nat→Nat→Option Tmpl→List Item→Env→St→OR) : Prop:=∀ (f nb nl : Nat) (out : Option Tmpl) (todo : List Item) (e : Env) (s : St) (r : R) (fn : Func),run f nb nl out todo e s=some r→P.funcs[f]? = some fn→oL fn.ntmps todo→aPS P f nb nl out todo e s r
def aOM (P : Program) (run : Nat→Nat→Nat→Option Tmpl→List Item→Env→St→OR) : Prop:=∀ {f nb nl : Nat} {out : Option Tmpl} {e : Env} {s : St} {r : R},run f nb nl out (startOf P f) e s=some r→∃ fn c,P.funcs[f]? = some fn∧fn.body=some c∧startOf P f = [.code c]
variable {run : Nat → Nat → Nat → Option Tmpl → List Item → Env → St → OR}
theorem aKM (hy : Hyp P T H) (hrun : aMZ P run) (hst : aOM P run) (f nb nl : Nat) (out : Option Tmpl) : aEM P (orcOf P H run f nb nl out).C:=by
 intro g args r h
 have h : (match H.prim g with | some h=>h args | none=>run g 0 0 none (startOf P g) (argEnv 0 (args.map .p)) ⟨[],[],0,0,0⟩)=some r:=h
 cases hpr : H.prim g with
 | some p=>
   rw [hpr] at h
   exact hy.prim g args r (by simp only [hpr,Option.bind_some];exact h)
 | none=>
 rw [hpr] at h
 simp only at h
 obtain ⟨fg,c,hfg,hc,hst'⟩:=hst h
 rw [hst'] at h
 have good:=hrun g 0 0 none _ _ _ r fg h hfg (aQB hy hfg hc)
 refine ⟨⟨fg,c,hfg,hc,(hy.code _ _ _ hfg hc).2⟩,λw Z aS hz hl hr=>?_⟩
 let m0 : bA:={ w:=w,Z:=Z,s:={ box:=λ_=>none,list:=λ_=>none},L:=λ_=>False,
                ρ:={ box:=λ_=>0,hdr:=λ_=>.nilFunc,fp:=λ_ _=>False,ty:=λ_=>.leaf,ub:=λ_=>False,ul:=λ_=>False}}
 have full0 : iE m0 ⟨[],[],0,0,0⟩ 0:={
  inv:={
   ub:=λ_ _ h=>by cases h
   ul:=λ_ _ h=>by cases h
   zlt:=hz
   box:=λ_ _ h=>by cases h
   row:=λ_ _ h=>by cases h
   bz:=λ_ _ h=>by cases h
   bb:=λ_ _ _ _ h=>by cases h
   bl:=λ_ _ _ _ h=>by cases h
   ll:=λ_ _ _ _ _ h=>by cases h
   Lz:=λ_ h=>h.elim
   Lb:=λ_ _ _ h=>h
   Ll:=λ_ _ _ _ _ h=>h}
  box:=λ_=>rfl
  list:=λ_=>rfl
  ub:=λ_ h=>h.elim
  ul:=λ_ h=>h.elim}
 have own0 : ∀ r,¬ m0.owned r:=by
  rintro r (⟨_,_,h,_⟩ | ⟨_,_,h,_⟩ | h)
  ·cases h
  ·cases h
  ·exact h
 refine (aCC hfg hc good (m:=m0) (vs:=aS) full0 (by simpa using hl) (λi d v hd hv=>?_)).mono ?_
 ·rw [List.getElem?_map] at hd
  cases hp : args[i]? with
  | none=>rw [hp] at hd;cases hd
  | some p=>rw [hp] at hd;cases hd;exact .p _ _ (hr i p v hp hv)
 ·rintro e w' ⟨v,rfl,m',rfl,inv',fw,pv,rfl,hrep⟩
  refine ⟨v,rfl,λx=>m'.Z x∨m'.owned x,⟨fw.size,fw.os,fw.tape,fw.output,λr hr=>fw.keep r hr (own0 r),λr hr=>.inl (fw.zz r hr),λr hr=>?_⟩,hrep⟩
  rcases hr with hr | hr
  ·rcases fw.z r hr with h | h | h
   ·exact .inl h
   ·exact (own0 r h).elim
   ·exact .inr ⟨h,inv'.zlt r hr⟩
  ·exact .inr ⟨(fw.own r hr).resolve_left (own0 r),inv'.owned_lt hr⟩
theorem aON (hy : Hyp P T H) (hrun : aMZ P run) (hst : aOM P run) (f nb nl : Nat) (out : Option Tmpl) : aGW P H.mode (orcOf P H run f nb nl out).S:=by
 intro g t args s l hmode h
 have h : (match H.mode g with | some t=>(match H.primS g with | some h=>h args s | none=>run g s.boxes.length (if t.keep then s.lists.length else 0) (some (t.fit s)) (startOf P g) (argEnv 0 args) s) | none=>none)=some l:=h
 rw [hmode] at h
 simp only at h
 cases hps : H.primS g with
 | some p=>
   rw [hps] at h
   exact hy.primS g p hps t args s l hmode h
 | none=>
 rw [hps] at h
 simp only at h
 obtain ⟨fg,c,hfg,hc,hst'⟩:=hst h
 rw [hst'] at h
 have good:=hrun g s.boxes.length (if t.keep then s.lists.length else 0) (some (t.fit s)) _ _ _ l fg h hfg (aQB hy hfg hc)
 exact ⟨⟨fg,c,hfg,hc,(hy.code _ _ _ hfg hc).2⟩,λm aS hf hl hr=>aCC hfg hc good hf hl hr⟩
theorem aIJ (hy : Hyp P T H) : ∀ (n : Nat),aMZ P (runN P T H n)
 | 0,_,_,_,_,_,_,_,_,_,h,_,_=>by simp [runN] at h
 | n+1,f,nb,nl,out,todo,e,s,r,fn,h,hfn,hok=>by
   unfold runN at h
   have ih:=aIJ hy n
   have hP:=aKM hy ih aCV f nb nl out
   have hS:=aON hy ih aCV f nb nl out
   refine aGR (X:=cxOf P T H f nb nl out) (O:=orcOf P H (runN P T H n) f nb nl out) hy.tab hy.zero hy.glob (aL9 hP hS hy.wf) hy.mixed hfn ?_ (λtodo e s r h hk=>ih f nb nl out todo e s r fn h hfn hk) evalFuel true todo e s r h hok
   show ((P.funcs[f]?).map (·.results.toList)).getD []=_
   rw [hfn];rfl
end
def aN {β : Type} (a : Option β) (b : Nat→Option β) : Prop:=∀ r,a=some r→∃ N,∀ n,N≤n→b n=some r
section
variable {α β : Type}
theorem aN.none {b : Nat→Option β} : aN (Option.none : Option β) b:=λr h=>by cases h
theorem aN.rfl (a : Option β) : aN a (λ_=>a):=λr h=>⟨0,λ_ _=>h⟩
theorem aN.bd {o : Option α} {k : α→Option β} {k' : Nat→α→Option β} (h : ∀ a,aN (k a) (λn=>k' n a)) : aN (bd o k) (λn=>bd o (k' n)):=by
 cases o with
 | none=>exact aN.none
 | some a=>exact h a
theorem aN.bd2 {o : Option α} {o' : Nat→Option α} {k : α→Option β} {k' : Nat→α→Option β} (ho : aN o o') (h : ∀ a,aN (k a) (λn=>k' n a)) : aN (Go.Proofs.YtllmobkkbpdchaaGreat.bd o k) (λn=>Go.Proofs.YtllmobkkbpdchaaGreat.bd (o' n) (k' n)):=by
 intro r hr
 obtain ⟨a,ha,hk⟩:=aU hr
 obtain ⟨N,hN⟩:=ho a ha
 obtain ⟨M,hM⟩:=h a r hk
 refine ⟨max N M,λn hn=>?_⟩
 show Go.Proofs.YtllmobkkbpdchaaGreat.bd (o' n) (k' n)=some r
 rw [hN n (by omega)]
 exact hM n (by omega)
theorem aN.pvite {c : PV} {a b : Option β} {a' b' : Nat→Option β} (ha : aN a a') (hb : aN b b') : aN (PV.ite c a b) (λn=>PV.ite c (a' n) (b' n)):=by
 intro r hr
 rcases yK hr with ⟨rfl,h⟩ | ⟨rfl,h⟩
 ·obtain ⟨N,hN⟩:=ha r h
  exact ⟨N,λn hn=>hN n hn⟩
 ·obtain ⟨N,hN⟩:=hb r h
  exact ⟨N,λn hn=>hN n hn⟩
theorem aN.nilT {c : PV} {a b : Option β} {a' b' : Nat→Option β} (ha : aN a a') (hb : aN b b') : aN (PV.nilT c a b) (λn=>PV.nilT c (a' n) (b' n)):=by
 intro r hr
 obtain ⟨h1,h2⟩:=aIG hr
 obtain ⟨M,hM⟩:=hb r h2
 cases c with
 | lst xs=>
   cases xs with
   | nil=>
     obtain ⟨N,hN⟩:=ha r (h1 (Eq.refl _))
     refine ⟨max N M,λn hn=>?_⟩
     show @_root_.ite _ (a' n=b' n) (Classical.propDecidable _) (a' n) Option.none=some r
     rw [hN n (by omega),hM n (by omega),if_pos (Eq.refl _)]
   | cons x xs=>exact ⟨M,λn hn=>hM n hn⟩
 | _=>cases hr
theorem aN.ite {c : Prop} [Decidable c] {a b : Option β} {a' b' : Nat→Option β} (ha : aN a a') (hb : aN b b') : aN (if c then a else b) (λn=>if c then a' n else b' n):=by
 by_cases h : c
 ·simp only [h,if_true];exact ha
 ·simp only [h,if_false];exact hb
theorem aN.flat {r : PV} {a : Option β} {a' : Nat→Option β} (ha : aN a a') : aN (PV.guardFlat r a) (λn=>PV.guardFlat r (a' n)):=by
 unfold PV.guardFlat;exact aN.ite ha aN.none
theorem aN.own {o : OTy} {r : PV} {a : Option β} {a' : Nat→Option β} (ha : aN a a') : aN (PV.guardOwn o r a) (λn=>PV.guardOwn o r (a' n)):=by
 unfold PV.guardOwn;exact aN.ite ha aN.none
end
section
variable {X : Cx}
theorem aDP {v : PV} : ∀ {m : Nat} {k : R→OR} {k' : Nat→R→OR},(∀ l,aN (k l) (λn=>k' n l))→aN (cellsK.go v m k) (λn=>cellsK.go v m (k' n))
 | 0,_,_,h=>h []
 | _+1,_,_,h=>by
   unfold cellsK.go
   exact aDP λl=>aN.bd λc=>h _
theorem pV {m : Nat} {d : DV} {k : List DV→OR} {k' : Nat→List DV→OR} (h : ∀ l,aN (k l) (λn=>k' n l)) : aN (cellsK m d k) (λn=>cellsK m d (k' n)):=by
 cases d<;>simp only [cellsK]<;>first
  | exact aN.none
  | exact aN.ite (h _) aN.none
  | exact aN.bd λv=>aDP λl=>h _
theorem lI : ∀ {path : eH} {o : OTy} {c : PV} {k : OTy→PV→OR} {k' : Nat→OTy→PV→OR},(∀ o c,aN (k o c) (λn=>k' n o c))→aN (getK o c path k) (λn=>getK o c path (k' n))
 | [],_,_,_,_,h=>h _ _
 | (i,j)::r,o,c,k,k',h=>by
   unfold getK
   exact aN.bd λx=>aN.ite (aN.bd λy=>lI h) (aN.ite (lI h) aN.none)
theorem rT : ∀ {path : eH} {o : OTy} {c y : PV} {k : PV→OR} {k' : Nat→PV→OR},(∀ c,aN (k c) (λn=>k' n c))→aN (setK o c path y k) (λn=>setK o c path y (k' n))
 | [],_,_,_,_,_,h=>h _
 | (i,j)::r,o,c,y,k,k',h=>by
   unfold setK
   exact aN.bd λx=>aN.ite (aN.bd λz=>rT λz'=>aN.bd h) (aN.ite (rT λz'=>aN.bd h) aN.none)
theorem uM {s : St} {d : DV} {k : OTy→PV→OR} {k' : Nat→OTy→PV→OR} (h : ∀ o c,aN (k o c) (λn=>k' n o c)) : aN (rowK s d k) (λn=>rowK s d (k' n)):=by
 cases d<;>simp only [rowK]<;>try exact aN.none
 ·rename_i l path
  cases s.list l with
  | none=>exact aN.none
  | some w=>exact lI h
 ·rename_i l path lo hi
  cases s.list l with
  | none=>exact aN.none
  | some w=>exact lI λo c=>aN.bd λc=>h _ _
theorem aEO {α β : Type} {f : α→(β→OR)→OR} (hf : ∀ a k (k' : Nat→β→OR),(∀ b,aN (k b) (λn=>k' n b))→aN (f a k) (λn=>f a (k' n))) :
 ∀ {l : List α} {k : List β→OR} {k' : Nat→List β→OR},(∀ b,aN (k b) (λn=>k' n b))→aN (mapK f l k) (λn=>mapK f l (k' n))
 | [],_,_,h=>h _
 | d::r,k,k',h=>by
   unfold mapK
   exact hf _ _ _ λv=>aEO hf λvs=>h _
theorem aCW {s : St} : ∀ {m : Nat} {d : DV} {k : PV→OR} {k' : Nat→PV→OR},(∀ v,aN (k v) (λn=>k' n v))→aN (snapK s m d k) (λn=>snapK s m d (k' n))
 | 0,_,_,_,_=>by simp only [snapK];exact aN.none
 | m+1,d,k,k',h=>by
   have mp:=λ{ds : List DV} {k : R→OR} {k' : Nat→R→OR} (h : ∀ v,aN (k v) (λn=>k' n v))=>aEO (f:=snapK s m) (λa k k' h=>aCW h) (l:=ds) h
   cases d<;>simp only [snapK]<;>first
    | exact aN.none
    | exact h _
    | exact mp λvs=>h _
    | exact uM λ_ c=>h _
    | skip
   ·rename_i b off
    cases off with
    | zero=>
      cases s.box b with
      | none=>exact aN.none
      | some cs=>exact mp λvs=>h _
    | succ n=>exact aN.none
   ·rename_i b n
    cases s.box b with
    | none=>exact aN.none
    | some cs=>exact aN.ite (mp λvs=>aN.bd λc=>h _) aN.none
theorem vA {s : St} {m : Nat} {ds : List DV} {k : R→OR} {k' : Nat→R→OR} (h : ∀ v,aN (k v) (λn=>k' n v)) : aN (snapL s m ds k) (λn=>snapL s m ds (k' n)):=by
 unfold snapL
 exact aEO (f:=snapK s m) (λa k k' h=>aCW h) h
theorem aMa {s : St} {d : DV} {k : PV→St→OR} {k' : Nat→PV→St→OR} (h : ∀ v s,aN (k v s) (λn=>k' n v s)) : aN (sinkK s d k) (λn=>sinkK s d (k' n)):=by
 unfold sinkK
 cases bsOf deep d with
 | nil=>exact aCW λv=>h _ _
 | cons=>exact aN.none
theorem sQ {ct : OTy} {s : St} {d : DV} {k : PV→St→OR} {k' : Nat→PV→St→OR} (h : ∀ v s,aN (k v s) (λn=>k' n v s)) : aN (sinkAs ct s d k) (λn=>sinkAs ct s d (k' n)):=by
 cases ct with
 | leaf=>exact aMa h
 | own a b c e=>
   cases d<;>simp only [sinkAs]<;>first
    | exact aN.none
    | exact h _ _
    | skip
   ·rename_i l path
    cases path with
    | nil=>
      dsimp only
      cases s.list l with
      | none=>exact aN.none
      | some w=>exact aN.ite (h _ _) aN.none
    | cons=>exact aN.none
   ·rename_i l path lo hi
    cases path with
    | nil=>
      dsimp only
      cases s.list l with
      | none=>exact aN.none
      | some w=>exact aN.ite (aN.bd λc=>h _ _) aN.none
    | cons=>exact aN.none
theorem vB {o : OTy} : ∀ {ds : List DV} {s : St} {j : Nat} {k : R→St→OR} {k' : Nat→R→St→OR},(∀ v s,aN (k v s) (λn=>k' n v s))→aN (sinkCells o s j ds k) (λn=>sinkCells o s j ds (k' n))
 | [],_,_,_,_,h=>h _ _
 | d::r,s,j,k,k',h=>by
   unfold sinkCells
   exact sQ λv s=>vB λvs s=>h _ _
theorem aG1 {o : OTy} {s : St} {d : DV} {k : PV→St→OR} {k' : Nat→PV→St→OR} (h : ∀ v s,aN (k v s) (λn=>k' n v s)) : aN (elemK o s d k) (λn=>elemK o s d (k' n)):=by
 unfold elemK
 cases o.g with
 | true=>
   cases d<;>simp only [if_true]<;>first
    | exact aN.none
    | exact aN.ite (h _ _) aN.none
    | exact aN.ite (vB λvs s=>h _ _) aN.none
 | false=>
   cases d<;>simp only [Bool.false_eq_true,if_false]<;>first
    | exact aN.none
    | exact sQ h
theorem mQ : ∀ {ds : List DV} {ts : List (Option Nat)} {s : St} {k : List DV→St→OR} {k' : Nat→List DV→St→OR},(∀ v s,aN (k v s) (λn=>k' n v s))→aN (ownCells X ds ts s k) (λn=>ownCells X ds ts s (k' n))
 | [],ts,s,k,k',h=>by cases ts<;>exact h _ _
 | d::ds,[],s,k,k',h=>h _ _
 | d::ds,t::ts,s,k,k',h=>by
   unfold ownCells
   cases d<;>cases t<;>exact mQ λvs s=>h _ _
theorem aA3 {l : Nat} {path : eH} {i : PV} {o : OTy} {x : PV} : ∀ {m off : Nat} {k : List DV→OR} {k' : Nat→List DV→OR},(∀ v,aN (k v) (λn=>k' n v))→aN (cellsE l path i o x m off k) (λn=>cellsE l path i o x m off (k' n))
 | 0,_,_,_,h=>h _
 | m+1,off,k,k',h=>by
   unfold cellsE
   exact aN.ite (aN.bd λy=>aA3 λds=>h _) (aA3 λds=>h _)
theorem aG2 {x : PV} {s : Nat} {g : Bool} {off : Nat} {r : TyR} {k : DV→OR} {k' : Nat→DV→OR} (h : ∀ v,aN (k v) (λn=>k' n v)) : aN (partK x s g off r k) (λn=>partK x s g off r (k' n)):=by
 unfold partK
 exact aN.ite (aN.ite (h _) (aN.bd λy=>h _)) (aN.ite (aN.bd λy=>h _) (aN.ite (h _) aN.none))
theorem aFC {c : PV} : ∀ {m off : Nat} {k : R→OR} {k' : Nat→R→OR},(∀ v,aN (k v) (λn=>k' n v))→aN (loadK.cellsB c m off k) (λn=>loadK.cellsB c m off (k' n))
 | 0,_,_,_,h=>h _
 | m+1,off,k,k',h=>by
   unfold loadK.cellsB
   exact aN.bd λv=>aFC λl=>h _
theorem aMb {t : Nat} {a : DV} {s : St} {k : DV→OR} {k' : Nat→DV→OR} (h : ∀ v,aN (k v) (λn=>k' n v)) : aN (loadK X t a s k) (λn=>loadK X t a s (k' n)):=by
 unfold loadK
 refine aN.ite aN.none ?_
 cases a<;>(try simp only)<;>first
  | exact aN.none
  | exact aN.ite (aFC λl=>h _) (aN.bd λy=>h _)
  | exact aG2 h
  | skip
 ·rename_i b off
  cases s.box b with
  | none=>exact aN.none
  | some cs=>
    refine aN.ite (aN.ite (h _) aN.none) ?_
    cases cs[off]? with
    | none=>exact aN.none
    | some d=>exact h _
 ·rename_i l path i off
  cases s.list l with
  | none=>exact aN.none
  | some w=>
    exact lI λo c=>aN.bd λx=>aN.ite (aG2 h) (aN.ite (aN.ite (aA3 λds=>h _) aN.none)
     (aN.ite (aN.ite (aN.bd λy=>h _) (aN.ite (h _) aN.none)) (aN.ite (h _) aN.none)))
theorem aBX {d : DV} {k : DV→OR} {k' : Nat→DV→OR} (h : ∀ v,aN (k v) (λn=>k' n v)) : aN (oneK d k) (λn=>oneK d (k' n)):=by
 cases d<;>simp only [oneK]<;>first
  | exact aN.none
  | exact h _
  | exact aN.bd λx=>h _
theorem aKN {t b off : Nat} {v : DV} {s : St} {k : St→OR} {k' : Nat→St→OR} (h : ∀ v,aN (k v) (λn=>k' n v)) : aN (storeB X t b off v s k) (λn=>storeB X t b off v s (k' n)):=by
 unfold storeB
 simp only
 cases s.box b with
 | none=>exact aN.none
 | some cs=>
   refine aN.ite (aN.ite (pV λvs=>mQ λvs s=>h _) (aN.ite (aBX λv=>?_) aN.none)) aN.none
   cases v<;>(try simp only)<;>first
    | exact h _
    | skip
   ·cases elemOf X t with
    | none=>exact aN.none
    | some u=>exact h _
   ·rename_i l path lo hi
    cases path with
    | cons=>exact h _
    | nil=>
      cases cs[off]? with
      | none=>exact h _
      | some d=>
        cases d<;>(try simp only)<;>first
         | exact h _
         | skip
        rename_i l' path'
        cases path' with
        | cons=>exact h _
        | nil=>
          refine aN.ite ?_ (h _)
          cases s.list l with
          | none=>exact aN.none
          | some w=>exact aN.bd λc=>h _
theorem aFD {m : Nat} {c i : PV} : ∀ {ys : R} {c : PV} {off : Nat} {k : PV→OR} {k' : Nat→PV→OR},(∀ v,aN (k v) (λn=>k' n v))→aN (storeK.setAll m c i off ys k) (λn=>storeK.setAll m c i off ys (k' n))
 | [],_,_,_,_,h=>h _
 | y::ys,c,off,k,k',h=>by
   unfold storeK.setAll
   exact aN.bd λc=>aFD (c:=c) h
theorem aKO {e : Env} {l : Nat} {path : eH} {w : Own} {c : PV} {s : St} {k : Env→St→OR} {k' : Nat→Env→St→OR} (h : ∀ e s,aN (k e s) (λn=>k' n e s)) : aN (storeK.fin e k l path w c s) (λn=>storeK.fin e (k' n) l path w c s):=by
 unfold storeK.fin
 refine rT λc'=>?_
 unfold touchK
 exact aN.ite (h _ _) (h _ _)
theorem aG3 {e : Env} {o : OTy} {ds : List DV} {off l : Nat} {path : eH} {i : PV} {s : St} {k : Env→St→OR} {k' : Nat→Env→St→OR} (h : ∀ e s,aN (k e s) (λn=>k' n e s)) : aN (storeK.setIn e k o ds off l path i s) (λn=>storeK.setIn e (k' n) o ds off l path i s):=by
 unfold storeK.setIn
 refine vB λys s=>?_
 cases s.list l with
 | none=>exact aN.none
 | some w=>exact lI λo c=>aFD (c:=c) λc=>aKO h
theorem aA4 {t : Nat} {a v : DV} {e : Env} {s : St} {k : Env→St→OR} {k' : Nat→Env→St→OR} (h : ∀ e s,aN (k e s) (λn=>k' n e s)) : aN (storeK X t a v e s k) (λn=>storeK X t a v e s (k' n)):=by
 unfold storeK
 refine aN.ite aN.none ?_
 cases a<;>(try simp only)<;>first
  | exact aN.none
  | exact aKN λs=>h _ _
  | skip
 rename_i l path i off
 cases s.list l with
 | none=>exact aN.none
 | some w=>
   refine lI λo c=>aN.ite (aG1 λx s=>?_) (aN.ite (pV λds=>aG3 h) (aN.ite (aBX λv=>aG3 h) aN.none))
   cases s.list l with
   | none=>exact aN.none
   | some w=>exact lI λo c=>aN.bd λc=>aKO h
theorem aA5 {fs : List (Nat × Nat)} : ∀ {ps : List (Nat × DV)} {cs : List DV} {k : List DV→OR} {k' : Nat→List DV→OR},(∀ v,aN (k v) (λn=>k' n v))→aN (buildK X fs ps cs k) (λn=>buildK X fs ps cs (k' n))
 | [],_,_,_,h=>h _
 | (i,v)::r,cs,k,k',h=>by
   unfold buildK
   cases fs[i]? with
   | none=>exact aN.none
   | some p=>exact aN.ite (aN.ite (pV λvs=>aA5 h) (aN.ite (aBX λv=>aA5 h) aN.none)) aN.none
theorem aFE {o : OTy} : ∀ {ds : List DV} {s : St} {k : R→St→OR} {k' : Nat→R→St→OR},(∀ v s,aN (k v s) (λn=>k' n v s))→aN (elemsK o s ds k) (λn=>elemsK o s ds (k' n))
 | [],_,_,_,h=>h _ _
 | d::r,s,k,k',h=>by
   unfold elemsK
   exact aG1 λv s=>aFE λvs s=>h _ _
theorem zO {dst : Option Nat} {t : Nat} {d : DV} {e : Env} {s : St} {k : DV→St→OR} {k' : Nat→DV→St→OR} (h : ∀ v s,aN (k v s) (λn=>k' n v s)) : aN (moveK X dst t d e s k) (λn=>moveK X dst t d e s (k' n)):=by
 cases d<;>simp only [moveK]<;>first
  | exact aN.none
  | exact h _ _
  | skip
 ·cases elemOf X t with
  | none=>exact h _ _
  | some u=>exact h _ _
 ·rename_i l path lo hi
  cases path with
  | cons=>exact h _ _
  | nil=>
    cases dst with
    | none=>exact h _ _
    | some t=>
      dsimp only
      generalize e.get t=d0
      cases d0<;>(try simp only)<;>first
       | exact h _ _
       | skip
      rename_i l' path'
      cases path' with
      | cons=>exact h _ _
      | nil=>
        refine aN.ite ?_ (h _ _)
        cases s.list l with
        | none=>exact aN.none
        | some w=>exact aN.bd λc=>h _ _
theorem aMc {c a b : DV} {e : Env} {s : St} {k : DV→St→OR} {k' : Nat→DV→St→OR} (h : ∀ v s,aN (k v s) (λn=>k' n v s)) : aN (pickK X c a b e s k) (λn=>pickK X c a b e s (k' n)):=by
 cases c<;>simp only [pickK]<;>first
  | exact aN.none
  | exact aN.pvite (zO h) (zO h)
theorem aKP {t : Nat} {s : St} {k : DV→St→OR} {k' : Nat→DV→St→OR} (h : ∀ v s,aN (k v s) (λn=>k' n v s)) : aN (allocK X t s k) (λn=>allocK X t s (k' n)):=by
 unfold allocK
 exact aN.ite (mQ λcs s=>h _ _) aN.none
theorem aNT {t : Nat} {x : DV} {s : St} {k : DV→St→OR} {k' : Nat→DV→St→OR} (h : ∀ v s,aN (k v s) (λn=>k' n v s)) : aN (boxK X t x s k) (λn=>boxK X t x s (k' n)):=by
 unfold boxK
 exact aN.ite (pV λcs=>mQ λcs s=>h _ _) (aBX λd=>mQ λcs s=>h _ _)
theorem aJE {t : Nat} {ps : List (Nat × DV)} {k : DV→OR} {k' : Nat→DV→OR} (h : ∀ v,aN (k v) (λn=>k' n v)) : aN (buildTK X t ps k) (λn=>buildTK X t ps (k' n)):=by
 unfold buildTK
 cases (X.T.at t).d<;>(try simp only)<;>first
  | exact aN.none
  | exact aN.ite (aA5 λcs=>h _) aN.none
theorem aEP {t m : Nat} {ps : List (Nat × DV)} {s : St} {k : DV→St→OR} {k' : Nat→DV→St→OR} (h : ∀ v s,aN (k v s) (λn=>k' n v s)) : aN (buildSliceK X t m ps s k) (λn=>buildSliceK X t m ps s (k' n)):=by
 unfold buildSliceK lendK
 cases elemOf X t with
 | none=>exact aN.none
 | some u=>exact aN.ite (aN.ite (h _ _) aN.none) (aN.ite (aFE λvs s=>aN.bd λc=>h _ _) aN.none)
theorem aFP {t : Nat} {l c : DV} {s : St} {k : DV→St→OR} {k' : Nat→DV→St→OR} (h : ∀ v s,aN (k v s) (λn=>k' n v s)) : aN (makeSliceK X t l c s k) (λn=>makeSliceK X t l c s (k' n)):=by
 unfold makeSliceK
 cases elemOf X t with
 | none=>exact aN.none
 | some u=>
   cases l<;>cases c<;>(try simp only)<;>first
    | exact aN.none
    | exact aN.ite (aN.bd λ_=>aN.bd λy=>aN.pvite (aN.bd λc=>h _ _) aN.none) aN.none
theorem aG4 {x : DV} {s : St} {k : DV→OR} {k' : Nat→DV→OR} (h : ∀ v,aN (k v) (λn=>k' n v)) : aN (nilCheckK x s k) (λn=>nilCheckK x s (k' n)):=by
 cases x<;>simp only [nilCheckK]<;>first
  | exact aN.none
  | exact h _
  | exact aN.bd λv=>h _
  | skip
 rename_i l path i off
 cases s.list l with
 | none=>exact aN.none
 | some w=>exact h _
theorem aMd {op : UnOp} {x : DV} {k : DV→OR} {k' : Nat→DV→OR} (h : ∀ v,aN (k v) (λn=>k' n v)) : aN (unOpK op x k) (λn=>unOpK op x (k' n)):=by
 cases op<;>cases x<;>simp only [unOpK]<;>first
  | exact aN.none
  | exact aN.bd λv=>h _
theorem aKQ {t : Nat} {x i : DV} {k : DV→OR} {k' : Nat→DV→OR} (h : ∀ v,aN (k v) (λn=>k' n v)) : aN (indexK X t x i k) (λn=>indexK X t x i (k' n)):=by
 unfold indexK
 cases (X.T.at t).d<;>cases x<;>cases i<;>(try simp only)<;>first
  | exact aN.none
  | exact aN.bd λv=>h _
  | skip
 refine aN.ite ?_ aN.none
 split
 ·exact aN.bd λv=>h _
 ·exact aN.none
theorem aG5 {d : DV} {k : DV→OR} {k' : Nat→DV→OR} (h : ∀ v,aN (k v) (λn=>k' n v)) : aN (soK d k) (λn=>soK d (k' n)):=by
 cases d<;>simp only [soK]<;>first
  | exact aN.bd λv=>h _
  | exact h _
theorem aH3 {x : DV} {i : Nat} {k : DV→OR} {k' : Nat→DV→OR} (h : ∀ v,aN (k v) (λn=>k' n v)) : aN (extractK x i k) (λn=>extractK x i (k' n)):=by
 cases x<;>simp only [extractK]<;>first
  | exact aN.none
  | exact aN.bd λv=>h _
  | skip
 rename_i cs
 cases cs[i]? with
 | none=>exact aN.none
 | some d=>exact h _
theorem aKR {t f : Nat} {x : DV} {k : DV→OR} {k' : Nat→DV→OR} (h : ∀ v,aN (k v) (λn=>k' n v)) : aN (fieldK X t x f k) (λn=>fieldK X t x f (k' n)):=by
 unfold fieldK
 cases (X.T.at t).d<;>(try simp only)<;>first
  | exact aN.none
  | skip
 rename_i fs
 cases fs[f]? with
 | none=>exact aN.none
 | some p=>
   refine aN.ite aN.none ?_
   cases x<;>(try simp only)<;>first
    | exact aN.none
    | exact aN.ite (aN.bd λy=>h _) (aN.bd λy=>h _)
    | skip
   rename_i cs
   refine aN.ite (aN.ite (h _) aN.none) ?_
   cases cs[p.1]? with
   | none=>exact aN.none
   | some d=>exact h _
theorem aFQ {t f : Nat} {x : DV} {s : St} {k : DV→OR} {k' : Nat→DV→OR} (h : ∀ v,aN (k v) (λn=>k' n v)) : aN (fieldAddrK X t x f s k) (λn=>fieldAddrK X t x f s (k' n)):=by
 unfold fieldAddrK
 cases (X.T.at t).d<;>(try simp only)<;>first
  | exact aN.none
  | skip
 rename_i fs
 cases fs[f]? with
 | none=>exact aN.none
 | some p=>
   refine aN.ite aN.none ?_
   cases x<;>(try simp only)<;>first
    | exact aN.none
    | exact h _
    | exact aN.bd λy=>h _
    | skip
   rename_i l path i off
   cases s.list l with
   | none=>exact aN.none
   | some w=>exact h _
theorem aFR {t : Nat} {x i : DV} {s : St} {k : DV→OR} {k' : Nat→DV→OR} (h : ∀ v,aN (k v) (λn=>k' n v)) : aN (indexAddrK X t x i s k) (λn=>indexAddrK X t x i s (k' n)):=by
 unfold indexAddrK
 cases (X.T.at t).d<;>cases i<;>(try simp only)<;>first
  | exact aN.none
  | skip
 ·refine aN.ite aN.none ?_
  cases x<;>(try simp only)<;>first
   | exact aN.none
   | exact aN.bd λy=>h _
   | exact uM λo c=>aN.ite (aN.bd λ_=>h _) aN.none
   | exact uM λo c=>aN.ite (aN.bd λ_=>aN.bd λj=>h _) aN.none
 ·rename_i i
  refine aN.ite aN.none ?_
  cases x<;>cases i<;>(try simp only)<;>first
   | exact aN.none
   | exact aN.ite (h _) aN.none
   | exact aN.ite (aN.bd λv=>h _) aN.none
theorem aJF {t : Nat} {x : DV} {lo hi : Option DV} {mx : DV} {s : St} {k : DV→St→OR} {k' : Nat→DV→St→OR} (h : ∀ v s,aN (k v s) (λn=>k' n v s)) : aN (noRoomK X t x lo hi mx s k) (λn=>noRoomK X t x lo hi mx s (k' n)):=by
 unfold noRoomK
 cases elemOf X t with
 | none=>exact aN.none
 | some u=>
   cases x<;>cases lo<;>(try exact aN.none)
   cases hi with
   | none=>exact aN.none
   | some d=>
     cases d<;>cases mx<;>first
      | exact aN.none
      | exact aN.ite (aN.bd λ_=>h _ _) aN.none
theorem aKS {t : Nat} {x : DV} {lo hi : Option DV} {s : St} {k : DV→OR} {k' : Nat→DV→OR} (h : ∀ v,aN (k v) (λn=>k' n v)) : aN (sliceK X t x lo hi s k) (λn=>sliceK X t x lo hi s (k' n)):=by
 unfold sliceK
 cases sliceK.lowOf lo with
 | none=>exact aN.none
 | some l=>
   cases (X.T.at t).d<;>(try simp only)<;>first
    | exact aN.none
    | skip
   ·cases x<;>(try simp only)<;>first
     | exact aN.none
     | skip
    cases hi with
    | none=>exact aN.bd λ_=>aN.bd λy=>h _
    | some d=>
      cases d<;>(try simp only)<;>first
       | exact aN.none
       | exact aN.bd λy=>h _
   ·refine aN.ite aN.none ?_
    cases x<;>(try simp only)<;>first
     | exact aN.none
     | skip
    ·cases hi with
     | none=>exact aN.bd λ_=>aN.bd λy=>h _
     | some d=>
       cases d<;>(try simp only)<;>first
        | exact aN.none
        | exact aN.bd λy=>h _
    ·refine uM λo c=>aN.ite ?_ aN.none
     cases hi with
     | none=>exact aN.bd λ_=>aN.bd λy=>h _
     | some d=>
       cases d<;>(try simp only)<;>first
        | exact aN.none
        | exact aN.bd λy=>h _
theorem aNU {t : Nat} {d : DV} {s : St} {k : DV→OR} {k' : Nat→DV→OR} (h : ∀ v,aN (k v) (λn=>k' n v)) : aN (lenK X t d s k) (λn=>lenK X t d s (k' n)):=by
 unfold lenK
 cases (X.T.at t).d<;>cases d<;>(try simp only)<;>first
  | exact aN.none
  | exact h _
  | exact aN.bd λy=>h _
  | exact uM λ_ c=>aN.bd λy=>h _
theorem aCX : ∀ {ds : List DV} {k : R→OR} {k' : Nat→R→OR},(∀ v,aN (k v) (λn=>k' n v))→aN (eqK.trees ds k) (λn=>eqK.trees ds (k' n))
 | [],_,_,h=>h _
 | d::ds,k,k',h=>by
   cases d<;>simp only [eqK.trees]<;>first
    | exact aN.none
    | exact aCX λvs=>h _
theorem aNV {op : BinOp} {x : DV} {k : DV→OR} {k' : Nat→DV→OR} (h : ∀ v,aN (k v) (λn=>k' n v)) : aN (nilK op x k) (λn=>nilK op x (k' n)):=by
 unfold nilK
 cases op<;>cases x<;>(try simp only)<;>first
  | exact aN.none
  | exact aN.bd λv=>h _
theorem aNW {op : BinOp} {t : Nat} {x y : DV} {k : DV→OR} {k' : Nat→DV→OR} (h : ∀ v,aN (k v) (λn=>k' n v)) : aN (binK X op t x y k) (λn=>binK X op t x y (k' n)):=by
 unfold binK
 cases (X.T.at t).d<;>(try simp only)<;>first
  | exact aN.none
  | skip
 ·cases x<;>cases y<;>(try simp only)<;>first
  | exact aN.none
  | exact aN.bd λv=>h _
 ·cases x<;>cases y<;>(try simp only)<;>first
  | exact aN.none
  | exact aN.bd λv=>h _
 ·cases x<;>cases y<;>(try simp only)<;>first
  | exact aN.none
  | exact aN.bd λv=>h _
 ·cases x<;>cases y<;>(try simp only)<;>first
   | exact aN.none
   | exact aN.bd λv=>h _
   | skip
  rename_i v
  cases v<;>cases op<;>(try simp only)<;>first
   | exact aN.none
   | exact h _
 ·cases y<;>(try simp only)<;>first
  | exact aN.none
  | exact aNV h
 ·unfold eqK
  cases eqKinds X 10 t with
  | none=>exact aN.none
  | some qs=>exact pV λas_=>pV λbs=>aCX λas_=>aCX λbs=>aN.bd λv=>h _
theorem aBY {d : DV} {s : St} {k : PV→OR} {k' : Nat→PV→OR} (h : ∀ v,aN (k v) (λn=>k' n v)) : aN (srcK d s k) (λn=>srcK d s (k' n)):=by
 cases d<;>simp only [srcK]<;>first
  | exact aN.none
  | exact h _
  | exact uM λo c=>aN.ite (h _) aN.none
theorem aMe {a b : Nat} {x : DV} {s : St} {k : DV→OR} {k' : Nat→DV→OR} (h : ∀ v,aN (k v) (λn=>k' n v)) : aN (convK X a b x s k) (λn=>convK X a b x s (k' n)):=by
 unfold convK
 cases (X.T.at a).d<;>cases (X.T.at b).d<;>(try simp only)<;>first
  | exact aN.none
  | skip
 ·cases x<;>(try simp only)<;>first
  | exact aN.none
  | exact aN.bd λv=>h _
 ·cases x<;>(try simp only)<;>first
  | exact aN.none
  | exact aN.bd λv=>h _
 ·rename_i e
  cases x<;>(try simp only)<;>first
   | exact aN.none
   | skip
  cases (X.T.at e).d<;>(try simp only)<;>first
   | exact aN.none
   | skip
  rename_i kk
  cases kk<;>(try simp only)<;>first
   | exact aN.none
   | exact aN.bd λv=>h _
 ·rename_i e
  cases (X.T.at e).d<;>(try simp only)<;>first
   | exact aN.none
   | skip
  rename_i kk
  cases kk<;>(try simp only)<;>first
   | exact aN.none
   | exact aBY λc=>aN.bd λy=>h _
theorem aG6 {o : OTy} {d : DV} {s : St} {k : PV→St→OR} {k' : Nat→PV→St→OR} (h : ∀ v s,aN (k v s) (λn=>k' n v s)) : aN (appendedK o d s k) (λn=>appendedK o d s (k' n)):=by
 unfold appendedK
 exact aN.ite (aBY λy=>h _ _) (sQ h)
theorem aFF {o : OTy} {c : PV} {q : Option (PV × PV)} {k : PV→OR} {k' : Nat→PV→OR} (h : ∀ v,aN (k v) (λn=>k' n v)) : aN (pieceK o c q k) (λn=>pieceK o c q (k' n)):=by
 cases q with
 | none=>exact h _
 | some p=>exact aN.bd h
theorem aKT {l : Nat} {path : eH} {q : Option (PV × PV)} {s : St} {k : DV→St→OR} {k' : Nat→DV→St→OR} (h : ∀ d s,aN (k d s) (λn=>k' n d s)) : aN (leaveK l path q s k) (λn=>leaveK l path q s (k' n)):=by
 unfold leaveK
 cases s.list l with
 | none=>exact aN.none
 | some w=>exact lI λo c=>aN.ite (aFF λc1=>rT λc'=>h _ _) aN.none
theorem aA6 {l : Nat} {path : eH} {s : St} {k : Nat→St→OR} {k' : Nat→Nat→St→OR} (h : ∀ x s,aN (k x s) (λn=>k' n x s)) : aN (leaveRowK l path s k) (λn=>leaveRowK l path s (k' n)):=by
 unfold leaveRowK
 cases s.list l with
 | none=>exact aN.none
 | some w=>exact lI λ_ _=>aN.ite (rT λ_=>h _ _) aN.none
theorem pD {l : Nat} : ∀ {ds : List DV} {s : St} {k : List DV→St→OR} {k' : Nat→List DV→St→OR},(∀ ds s,aN (k ds s) (λn=>k' n ds s))→aN (leaveCells l ds s k) (λn=>leaveCells l ds s (k' n))
 | [],s,k,k',h=>h _ _
 | d::r,s,k,k',h=>by
   unfold leaveCells
   split
   ·exact aN.ite (aA6 λx s1=>pD λ_ _=>h _ _) (pD λ_ _=>h _ _)
   ·exact pD λ_ _=>h _ _
theorem aJG {t : Nat} {a v : DV} {e : Env} {s : St} {k : Env→St→OR} {k' : Nat→Env→St→OR} (h : ∀ e s,aN (k e s) (λn=>k' n e s)) : aN (storeLK X t a v e s k) (λn=>storeLK X t a v e s (k' n)):=by
 unfold storeLK
 split
 ·exact pD λ_ _=>aA4 λ_ _=>aN.ite (h _ _) aN.none
 ·exact aKT λ_ _=>aA4 λ_ _=>aN.ite (h _ _) aN.none
 ·exact aA4 h
theorem aIK {d : DV} {te : Nat} {e : Env} {s : St} {l : Nat} {path : eH} {q : Option (PV × PV)} {k : DV→Env→St→OR} {k' : Nat→DV→Env→St→OR} (h : ∀ v e s,aN (k v e s) (λn=>k' n v e s)) : aN (appendK.nest X d te e s k l path q) (λn=>appendK.nest X d te e s (k' n) l path q):=by
 unfold appendK.nest
 cases s.list l with
 | none=>exact aN.none
 | some w=>
   exact lI λo c=>aN.ite (aBY λy=>aFF λc=>rT λc'=>aN.bd λc2=>h _ _ _) aN.none
theorem aJH {base d : DV} {te : Nat} {e : Env} {s : St} {k : DV→Env→St→OR} {k' : Nat→DV→Env→St→OR} (h : ∀ v e s,aN (k v e s) (λn=>k' n v e s)) : aN (appendK X base d te e s k) (λn=>appendK X base d te e s (k' n)):=by
 have plain : ∀ (q : Option OTy) (base : DV),aN (match q with
  | some o=>if fits X o te then appendedK o d s λy s=>sinkAs o s base λc s=>bd (PV.cat o.s o.e o.g c y) λc'=>k (.ref s.nl []) e (s.addList ⟨o,c'⟩) else none
  | none=>none) (λn=>match q with
  | some o=>if fits X o te then appendedK o d s λy s=>sinkAs o s base λc s=>bd (PV.cat o.s o.e o.g c y) λc'=>k' n (.ref s.nl []) e (s.addList ⟨o,c'⟩) else none
  | none=>none):=by
  intro q base
  cases q with
  | none=>exact aN.none
  | some o=>exact aN.ite (aG6 λy s=>sQ λc s=>aN.bd λc'=>h _ _ _) aN.none
 cases base with
 | ref l path=>
   cases path with
   | nil=>exact plain (baseTy X te s (.ref l [])) (.ref l [])
   | cons p r=>exact aIK h
 | sref l path lo hi=>
   cases path with
   | nil=>exact plain (baseTy X te s (.sref l [] lo hi)) (.sref l [] lo hi)
   | cons p r=>exact aIK h
 | p v=>exact plain (baseTy X te s (.p v)) (.p v)
 | nils=>exact plain (baseTy X te s .nils) .nils
 | agg cs=>exact plain (baseTy X te s (.agg cs)) (.agg cs)
 | tup cs=>exact plain (baseTy X te s (.tup cs)) (.tup cs)
 | fn f cs=>exact plain (baseTy X te s (.fn f cs)) (.fn f cs)
 | ptr b off=>exact plain (baseTy X te s (.ptr b off)) (.ptr b off)
 | bsl b n=>exact plain (baseTy X te s (.bsl b n)) (.bsl b n)
 | eptr l path i off=>exact plain (baseTy X te s (.eptr l path i off)) (.eptr l path i off)
 | fptr x s' g off=>exact plain (baseTy X te s (.fptr x s' g off)) (.fptr x s' g off)
 | bptr c off=>exact plain (baseTy X te s (.bptr c off)) (.bptr c off)
 | gptr l path i off=>exact plain (baseTy X te s (.gptr l path i off)) (.gptr l path i off)
 | nilq c neg=>exact plain (baseTy X te s (.nilq c neg)) (.nilq c neg)
 | dead=>exact plain (baseTy X te s .dead) .dead
theorem aIL {d : DV} {e : Env} {s : St} {k : Env→St→OR} {k' : Nat→Env→St→OR} (h : ∀ e s,aN (k e s) (λn=>k' n e s)) : aN (frz1 d e s k) (λn=>frz1 d e s (k' n)):=by
 unfold frz1
 split
 ·split
  ·exact h _ _
  ·exact h _ _
 ·exact h _ _
theorem yP : ∀ {fs : List (Nat × Option Nat)} {e : Env} {s : St} {k : Env→St→OR} {k' : Nat→Env→St→OR},(∀ e s,aN (k e s) (λn=>k' n e s))→aN (frzK fs e s k) (λn=>frzK fs e s (k' n))
 | [],_,_,_,_,h=>h _ _
 | (t,none)::r,e,s,k,k',h=>aIL λe s=>yP h
 | (t,some j)::r,e,s,k,k',h=>by
   unfold frzK
   generalize e.get t=d0
   cases d0<;>(try simp only)<;>first
    | exact yP h
    | skip
   rename_i b off
   cases s.box b with
   | none=>exact yP h
   | some cs=>exact aIL λe s=>yP h
theorem aFG {te : Nat} {src : DV} {s : St} {l : Nat} {w : Own} {lo hi : PV} {k : DV→St→OR} {k' : Nat→DV→St→OR} (h : ∀ v s,aN (k v s) (λn=>k' n v s)) : aN (copyK.go X te src s k l w lo hi) (λn=>copyK.go X te src s (k' n) l w lo hi):=by
 unfold copyK.go
 exact aN.ite (aBY λy=>aN.bd λn=>aN.bd λc=>h _ _) aN.none
theorem aMf {te : Nat} {dst src : DV} {s : St} {k : DV→St→OR} {k' : Nat→DV→St→OR} (h : ∀ v s,aN (k v s) (λn=>k' n v s)) : aN (copyK X te dst src s k) (λn=>copyK X te dst src s (k' n)):=by
 unfold copyK
 cases dst<;>(try simp only)<;>first
  | exact aN.none
  | skip
 ·rename_i l path
  cases path with
  | cons=>exact aN.none
  | nil=>
    dsimp only
    cases s.list l with
    | none=>exact aN.none
    | some w=>exact aN.bd λn=>aFG h
 ·rename_i l path lo hi
  cases path with
  | cons=>exact aN.none
  | nil=>
    dsimp only
    cases s.list l with
    | none=>exact aN.none
    | some w=>exact aFG h
end
structure EvO (O : Orc) (O' : Nat→Orc) : Prop where
 L : ∀ todo e s,aN (O.L todo e s) (λn=>(O' n).L todo e s)
 C : ∀ g args,aN (O.C g args) (λn=>(O' n).C g args)
 S : ∀ g args s,aN (O.S g args s) (λn=>(O' n).S g args s)
section
variable {X : Cx} {O : Orc} {O' : Nat → Orc}
theorem aAq {l : R} : ∀ {cs : List DV} {a : OR} {a' : Nat→OR},aN a a'→aN (guardCells l cs a) (λn=>guardCells l cs (a' n))
 | [],_,_,h=>h
 | d::cs,a,a',h=>by
   have ih:=aAq (l:=l) (cs:=cs) h
   cases d with
   | ref=>simp only [guardCells];exact ih
   | p v=>
     cases v with
     | int=>simp only [guardCells];exact aN.flat ih
     | _=>simp only [guardCells];exact aN.none
   | _=>simp only [guardCells];exact aN.none
theorem aA7 {l : R} : ∀ {cs : List DV} {a : OR} {a' : Nat→OR},aN a a'→aN (guardAggs l cs a) (λn=>guardAggs l cs (a' n))
 | [],_,_,h=>h
 | d::cs,a,a',h=>by
   have ih:=aA7 (l:=l) (cs:=cs) h
   cases d<;>(try simp only [guardAggs])<;>exact aAq ih
theorem aH4 {l : R} {d : DV} {a : OR} {a' : Nat→OR} (h : aN a a') : aN (guardRes l d a) (λn=>guardRes l d (a' n)):=by
 cases d<;>(try simp only [guardRes])<;>exact aA7 h
theorem aA8 {l : R} : ∀ {cs : List (Option Own)} {a : OR} {a' : Nat→OR},aN a a'→aN (guardRows l cs a) (λn=>guardRows l cs (a' n))
 | [],_,_,h=>h
 | none::_,_,_,_=>by simp only [guardRows];exact aN.none
 | some w::cs,a,a',h=>by
   simp only [guardRows]
   cases w.c<;>(try simp only)<;>first
    | exact aN.none
    | exact aN.own (aA8 h)
theorem aMg (hO : EvO O O') {f : Nat} {args : List DV} {s : St} {k : DV→St→OR} {k' : Nat→DV→St→OR} (h : ∀ v s,aN (k v s) (λn=>k' n v s)) : aN (pureK O f args s k) (λn=>pureK (O' n) f args s (k' n)):=by
 unfold pureK
 exact aN.ite (vA λvs=>aN.bd2 (hO.C _ _) λr=>aN.flat (h _ _)) (vA λvs=>aN.bd2 (hO.C _ _) λr=>h _ _)
theorem aMh (hO : EvO O O') {t : Tmpl} {f : Nat} {args : List DV} {s : St} {k : DV→St→OR} {k' : Nat→DV→St→OR} (h : ∀ v s,aN (k v s) (λn=>k' n v s)) : aN (lentK O t f args s k) (λn=>lentK (O' n) t f args s (k' n)):=by
 unfold lentK
 exact vA λvs=>aN.bd2 (hO.S _ _ _) λl=>aH4 (aA8 (h _ _))
theorem aG7 (hO : EvO O O') {ft : Foot} {n0 : Nat} {t : Tmpl} {f : Nat} {args : List DV} {s : St} {k : DV→St→List Nat→OR} {k' : Nat→DV→St→List Nat→OR} (h : ∀ v s l,aN (k v s l) (λn=>k' n v s l)) : aN (liveK O ft n0 t f args s k) (λn=>liveK (O' n) ft n0 t f args s (k' n)):=by
 unfold liveK
 exact aN.ite (aN.bd2 (hO.S _ _ _) λl=>h _ _ _) aN.none
theorem aH5 {l : Nat} {path : eH} {x : Nat} {s : St} {k : St→OR} {k' : Nat→St→OR} (h : ∀ s,aN (k s) (λn=>k' n s)) : aN (backRowK l path x s k) (λn=>backRowK l path x s (k' n)):=by
 unfold backRowK
 cases s.list l with
 | none=>exact aN.none
 | some w=>
   refine aN.ite (sQ λy s1=>?_) aN.none
   cases s1.list l with
   | none=>exact aN.none
   | some w1=>exact rT λ_=>h _
theorem aMi (hO : EvO O O') {f : Nat} {args : List DV} {ts : List Nat} {e : Env} {s : St} {k : DV→Env→St→OR} {k' : Nat→DV→Env→St→OR} (h : ∀ v e s,aN (k v e s) (λn=>k' n v e s)) : aN (callK X O f args ts e s k) (λn=>callK X (O' n) f args ts e s (k' n)):=by
 unfold callK
 cases X.mode f with
 | none=>exact aMg hO λ_ _=>h _ _ _
 | some t=>
   refine aN.ite (aMh hO λ_ _=>h _ _ _) ?_
   cases nestedArg t args with
   | none=>
     simp only [aCU]
     exact mQ λargs s=>aG7 hO λ_ _ _=>h _ _ _
   | some q=>
     obtain ⟨l,path,rest⟩:=q
     exact aA6 λx s1=>aG7 hO λ_ _ _=>aN.ite aN.none (aH5 λ_=>h _ _ _)
theorem aG8 (hO : EvO O O') {v : PV} {vs : R} : aN (PV.apply O.C v vs) (λn=>PV.apply (O' n).C v vs):=by
 unfold PV.apply
 cases v<;>(try simp only)<;>first
  | exact aN.none
  | exact hO.C _ _
theorem aKU (hO : EvO O O') {d : DV} {args : List DV} {ts : List Nat} {e : Env} {s : St} {k : DV→Env→St→OR} {k' : Nat→DV→Env→St→OR} (h : ∀ v e s,aN (k v e s) (λn=>k' n v e s)) : aN (applyK X O d args ts e s k) (λn=>applyK X (O' n) d args ts e s (k' n)):=by
 cases d<;>(try simp only [applyK])<;>first
  | exact aN.none
  | exact aMi hO h
  | exact aN.ite (vA λvs=>aN.bd2 (aG8 hO) λr=>aN.flat (h _ _ _)) (vA λvs=>aN.bd2 (aG8 hO) λr=>h _ _ _)
theorem aH6 {b : Builtin} {ts : List Nat} {args : List DV} {e : Env} {s : St} {k : DV→Env→St→OR} {k' : Nat→DV→Env→St→OR} (h : ∀ v e s,aN (k v e s) (λn=>k' n v e s)) : aN (builtinK X b ts args e s k) (λn=>builtinK X b ts args e s (k' n)):=by
 unfold builtinK
 split
 ·exact aNU λn=>h _ _ _
 ·rename_i t u a d
  cases elemOf X t with
  | none=>exact aN.none
  | some te=>exact aN.ite (aJH h) aN.none
 ·rename_i t u a d
  cases elemOf X t with
  | none=>exact aN.none
  | some te=>exact aMf λd s=>h _ _ _
 ·exact aN.bd λc=>h _ _ _
 ·exact aN.bd λc=>h _ _ _
 ·exact aN.none
theorem aEQ (hO : EvO O O') {o : Oper} {e : Env} {s : St} {k : Kont} {k' : Nat→Kont} (h : ∀ e s,aN (k e s) (λn=>k' n e s)) : aN (exec X O o e s k) (λn=>exec X (O' n) o e s (k' n)):=by
 obtain ⟨dst,op,type,pos,after,guard⟩:=o
 cases op<;>simp only [exec]<;>try exact aN.none
 case move=>exact zO λ_ _=>h _ _
 case assign=>exact zO λ_ _=>h _ _
 case pick=>exact aMc λ_ _=>h _ _
 case alloc=>exact aKP λ_ _=>h _ _
 case box=>exact aNT λ_ _=>h _ _
 case build=>exact aJE λ_=>h _ _
 case buildSlice=>exact aEP λ_ _=>h _ _
 case makeSlice=>exact aFP λ_ _=>h _ _
 case load=>exact aG5 λ_=>aMb λ_=>h _ _
 case store=>exact aG5 λ_=>aJG λ_ _=>h _ _
 case nilCheck=>exact aG5 λ_=>aG4 λ_=>h _ _
 case binOp=>exact aNW λ_=>h _ _
 case unOp=>exact aMd λ_=>h _ _
 case convert=>exact aMe λ_=>h _ _
 case makeFunc fn first caps=>
  cases fn<;>(try simp only)<;>first
   | exact aN.none
   | exact aN.ite (h _ _) aN.none
 case slice t x lo hi mx=>
  cases mx with
  | none=>exact aKS λ_=>h _ _
  | some _=>exact aJF λ_ _=>h _ _
 case fieldAddr=>exact aFQ λ_=>h _ _
 case field=>exact aKR λ_=>h _ _
 case indexAddr=>exact aFR λ_=>h _ _
 case index=>exact aKQ λ_=>h _ _
 case extract=>exact aH3 λ_=>h _ _
 case call c=>
  cases c.callee with
  | value f=>exact aKU hO λ_ _ _=>h _ _
  | builtin b=>exact aH6 λ_ _ _=>h _ _
  | invoke _ _=>exact aN.none
theorem kB (hO : EvO O O') {ops : Array Oper} {draw : Bool} : ∀ {r : List Oper} {i : Nat} {acc : List (Nat × Foot)} {e : Env} {s : St} {k : Kont} {k' : Nat→Kont},(∀ e s,aN (k e s) (λn=>k' n e s))→aN (execOps X O ops draw i acc r e s k) (λn=>execOps X (O' n) ops draw i acc r e s (k' n))
 | [],i,acc,e,s,k,k',h=>by
  unfold execOps
  exact aN.ite aN.none (h _ _)
 | o::r,i,acc,e,s,k,k',h=>by
   unfold execOps
   simp only [stf,stp]
   cases o.guard with
   | none=>exact aEQ hO λe s'=>aN.ite (kB hO h) aN.none
   | some p=>
     obtain ⟨j,want⟩:=p
     simp only
     cases guardDst ops.toList j with
     | none=>exact aN.none
     | some t=>
       simp only
       generalize e.get t=d0
       have hskip:=kB (ops:=ops) (draw:=draw) (r:=r) (i:=i+1) (acc:=if draw then (i,Foot.none)::acc else []) (e:=put o.dst (.tup []) e) (s:={ s with nb:=s.base+16*i,nl:=s.base+16*i}) hO h
       cases d0<;>(try simp only)<;>first
        | exact aN.none
        | (rename_i cs;cases cs with
           | nil=>exact hskip
           | cons=>exact aN.none)
        | exact aN.pvite (aN.ite (aEQ hO λe s'=>aN.ite (kB hO h) aN.none) (kB hO h)) (aN.ite (kB hO h) (aEQ hO λe s'=>aN.ite (kB hO h) aN.none))
theorem aBZ (hO : EvO O O') : ∀ (m : Nat) (first : Bool) (todo : List Item) (e : Env) (s : St),aN (eval X O m first todo e s) (λn=>eval X (O' n) m first todo e s)
 | 0,_,_,_,_=>by simp only [eval];exact aN.none
 | m+1,first,todo,e,s=>by
   have ih:=aBZ hO m
   cases todo with
   | nil=>simp only [eval];exact aN.rfl _
   | cons x k=>
   cases x with
   | inBlock id=>simp only [eval];exact ih _ _ _ _
   | inScope c=>simp only [eval];exact ih _ _ _ _
   | inLoop c=>simp only [eval];exact ih _ _ _ _
   | code c=>
     cases c<;>simp only [eval]<;>first
      | exact aN.none
      | exact aN.rfl _
      | exact ih _ _ _ _
      | skip
     case exit id=>
      cases exitTo id k with
      | none=>exact aN.none
      | some k'=>exact ih _ _ _ _
     case goto l=>
      cases gotoIn l k with
      | none=>exact aN.none
      | some k'=>exact ih _ _ _ _
     case cond c a b=>
      generalize ev X e c=d0
      cases d0<;>(try simp only)<;>first
       | exact aN.none
       | exact aN.nilT (ih _ _ _ _) (ih _ _ _ _)
       | skip
      cases c<;>(try simp only)<;>exact aN.pvite (ih _ _ _ _) (ih _ _ _ _)
     case region id ops draw=>
      refine yP λe s=>?_
      cases first with
      | true=>exact kB hO λe s=>ih _ _ _ _
      | false=>
        cases X.cut id with
        | none=>exact kB hO λe s=>ih _ _ _ _
        | some keep=>exact hO.L _ _ _
   | _=>simp only [eval];exact aN.none
end
section
variable (P : Program) (T : Tab) (H : Hints)
def wD (f nb nl : Nat) (out : Option Tmpl) (todo : List Item) (e : Env) (s : St) : OR:=
 open Classical in if h : ∃ r,∃ n,runN P T H n f nb nl out todo e s=some r then some h.choose else none
end
section
variable {P : Program} {T : Tab} {H : Hints}
theorem aN.le {β : Type} {a b : Option β} (h : ∀ r,a=some r→b=some r) : aN a (λ_=>b):=λr hr=>⟨0,λ_ _=>h r hr⟩
theorem aN.of {β : Type} {a b : Option β} (h : aN a (λ_=>b)) : ∀ r,a=some r→b=some r:=λr hr=>let ⟨N,hN⟩:=h r hr;hN N (Nat.le_refl _)
theorem aG9 {run : Nat→Nat→Nat→Option Tmpl→List Item→Env→St→OR} {run' : Nat→Nat→Nat→Nat→Option Tmpl→List Item→Env→St→OR}
 (h : ∀ f nb nl out todo e s,aN (run f nb nl out todo e s) (λn=>run' n f nb nl out todo e s)) (f nb nl : Nat) (out : Option Tmpl) : EvO (orcOf P H run f nb nl out) (λn=>orcOf P H (run' n) f nb nl out) where
 L:=λtodo e s=>h _ _ _ _ _ _ _
 C:=λg args=>by
  simp only [orcOf]
  cases H.prim g with
  | none=>exact h _ _ _ _ _ _ _
  | some p=>exact aN.rfl _
 S:=λg args s=>by
  simp only [orcOf]
  cases H.mode g with
  | none=>exact aN.none
  | some t=>cases H.primS g with
    | none=>exact h _ _ _ _ _ _ _
    | some p=>exact aN.rfl _
theorem aIM : ∀ (n f nb nl : Nat) (out : Option Tmpl) (todo : List Item) (e : Env) (s : St) (r : R),runN P T H n f nb nl out todo e s=some r→runN P T H (n+1) f nb nl out todo e s=some r
 | 0,_,_,_,_,_,_,_,_,h=>by simp [runN] at h
 | n+1,f,nb,nl,out,todo,e,s,r,h=>by
   have ih:=aIM n
   unfold runN at h ⊢
   exact (aBZ (aG9 (run':=λ_=>runN P T H (n+1)) (λf nb nl out todo e s=>aN.le (ih f nb nl out todo e s)) f nb nl out) evalFuel true todo e s).of r h
theorem aJI {n n' f nb nl : Nat} {out : Option Tmpl} {todo : List Item} {e : Env} {s : St} {r : R} (h : runN P T H n f nb nl out todo e s=some r) (hn : n≤n') : runN P T H n' f nb nl out todo e s=some r:=by
 induction hn with
 | refl=>exact h
 | step _ ih=>exact aIM _ _ _ _ _ _ _ _ _ ih
theorem aM0 {n f nb nl : Nat} {out : Option Tmpl} {todo : List Item} {e : Env} {s : St} {r : R} (h : runN P T H n f nb nl out todo e s=some r) : wD P T H f nb nl out todo e s=some r:=by
 unfold wD
 have hex : ∃ r,∃ n,runN P T H n f nb nl out todo e s=some r:=⟨r,n,h⟩
 rw [dif_pos hex]
 obtain ⟨n',h'⟩:=hex.choose_spec
 have h1:=aJI h (Nat.le_max_left n n')
 have h2:=aJI h' (Nat.le_max_right n n')
 rw [h1] at h2
 exact h2.symm
theorem aB0 {f nb nl : Nat} {out : Option Tmpl} {todo : List Item} {e : Env} {s : St} {r : R} (h : wD P T H f nb nl out todo e s=some r) : ∃ n,runN P T H n f nb nl out todo e s=some r:=by
 unfold wD at h
 split at h
 ·rename_i hex
  cases h
  exact hex.choose_spec
 ·cases h
theorem aNX (f nb nl : Nat) (out : Option Tmpl) (todo : List Item) (e : Env) (s : St) : aN (wD P T H f nb nl out todo e s) (λn=>runN P T H n f nb nl out todo e s):=by
 intro r hr
 obtain ⟨n,hn⟩:=aB0 hr
 exact ⟨n,λn' h'=>aJI hn h'⟩
theorem aM1 (f nb nl : Nat) (out : Option Tmpl) (todo : List Item) (e : Env) (s : St) :
 wD P T H f nb nl out todo e s=eval (cxOf P T H f nb nl out) (orcOf P H (wD P T H) f nb nl out) evalFuel true todo e s:=by
 cases h : eval (cxOf P T H f nb nl out) (orcOf P H (wD P T H) f nb nl out) evalFuel true todo e s with
 | some r=>
   obtain ⟨N,hN⟩:=aBZ (aG9 (run':=λn=>runN P T H n) aNX f nb nl out) evalFuel true todo e s r h
   refine aM0 (n:=N+1) ?_
   unfold runN
   exact hN N (Nat.le_refl _)
 | none=>
   cases h' : wD P T H f nb nl out todo e s with
   | none=>rfl
   | some r=>
     exfalso
     obtain ⟨n,hn⟩:=aB0 h'
     cases n with
     | zero=>simp [runN] at hn
     | succ n=>
       unfold runN at hn
       have:=(aBZ (aG9 (run':=λ_=>wD P T H) (λf nb nl out todo e s=>aN.le (λr h=>aM0 h)) f nb nl out) evalFuel true todo e s).of r hn
       rw [h] at this
       cases this
def aOO (P : Program) (T : Tab) (H : Hints) (f : Nat) (args : R) : OR:=(orcOf P H (wD P T H) 0 0 0 none).C f args
def aQC (P : Program) (T : Tab) (H : Hints) (f : Nat) (args : List DV) (s : St) : OR:=(orcOf P H (wD P T H) 0 0 0 none).S f args s
theorem aPU (hy : Hyp P T H) : aMZ P (wD P T H):=by
 intro f nb nl out todo e s r fn h hfn hok
 obtain ⟨n,hn⟩:=aB0 h
 exact aIJ hy n f nb nl out todo e s r fn hn hfn hok
theorem aPV : aOM P (wD P T H):=by
 intro f nb nl out e s r h
 obtain ⟨n,hn⟩:=aB0 h
 exact aCV hn
theorem aKV (hy : Hyp P T H) {f : Nat} {args : R} {r : R} (h : aOO P T H f args=some r) {w : World} {aS : Array Value} {Z : NP} (hz : ZOk w Z) (hl : args.length=aS.size)
 (hr : ∀ (i : Nat) x v,args[i]? = some x→aS[i]? = some v→iH w Z x v) : Calls P f aS w (λe w'=>∃ v,e = .returned v∧∃ Z',aDL w w' Z Z'∧iH w' Z' (hd r) v):=
 (aKM hy (aPU hy) aPV 0 0 0 none f args r h).2 w Z aS hz hl hr
theorem aM2 (f nb nl : Nat) (out : Option Tmpl) (todo : List Item) (e : Env) (s : St) (r : OR) (h : eval (cxOf P T H f nb nl out) (orcOf P H (wD P T H) f nb nl out) evalFuel true todo e s=r) : wD P T H f nb nl out todo e s=r:=
 (aM1 f nb nl out todo e s).trans h
theorem aOP (f : Nat) (hp : H.prim f=none) (args : R) (r : OR) (h : eval (cxOf P T H f 0 0 none) (orcOf P H (wD P T H) f 0 0 none) evalFuel true (startOf P f) (argEnv 0 (args.map .p)) ⟨[],[],0,0,0⟩=r) : aOO P T H f args=r:=by
 show (match H.prim f with | some h=>h args | none=>wD P T H f 0 0 none (startOf P f) (argEnv 0 (args.map .p)) ⟨[],[],0,0,0⟩)=r
 rw [hp]
 exact aM2 _ _ _ _ _ _ _ _ h
theorem aOQ (f : Nat) (hp : H.primS f=none) (args : List DV) (s : St) (r : OR) (h : (match H.mode f with | some t=>eval (cxOf P T H f s.boxes.length (if t.keep then s.lists.length else 0) (some (t.fit s))) (orcOf P H (wD P T H) f s.boxes.length (if t.keep then s.lists.length else 0) (some (t.fit s))) evalFuel true (startOf P f) (argEnv 0 args) s | none=>none)=r) : aQC P T H f args s=r:=by
 show (match H.mode f with | some t=>(match H.primS f with | some h=>h args s | none=>wD P T H f s.boxes.length (if t.keep then s.lists.length else 0) (some (t.fit s)) (startOf P f) (argEnv 0 args) s) | none=>none)=r
 rw [← h,hp]
 cases H.mode f with
 | none=>rfl
 | some t=>exact aM1 _ _ _ _ _ _ _
end
def aQT (f nb nl : Nat) (out : Option Tmpl) (todo : List Item) (e : Env) (s : St) : OR:=wD Tryz.prog T mG f nb nl out todo e s
def aZ (f : Nat) (args : R) : OR:=aOO Tryz.prog T mG f args
def cC (f : Nat) (args : List DV) (s : St) : OR:=aQC Tryz.prog T mG f args s
def orc (f nb nl : Nat) (out : Option Tmpl) : Orc:=orcOf Tryz.prog mG (wD Tryz.prog T mG) f nb nl out
theorem aV (f nb nl : Nat) (out : Option Tmpl) (todo : List Item) (e : Env) (s : St) (r : OR) (h : eval (cxOf Tryz.prog T mG f nb nl out) (orc f nb nl out) evalFuel true todo e s=r) : aQT f nb nl out todo e s=r:=aM2 f nb nl out todo e s r h
theorem aW (f : Nat) (args : R) (r : OR) (h : (match mG.prim f with | some p=>p args | none=>eval (cxOf Tryz.prog T mG f 0 0 none) (orc f 0 0 none) evalFuel true (startOf Tryz.prog f) (argEnv 0 (args.map .p)) ⟨[],[],0,0,0⟩)=r) : aZ f args=r:=by
 cases hp : mG.prim f with
 | none=>rw [hp] at h;exact aOP f hp args r h
 | some p=>rw [hp] at h;rw [← h];show (match mG.prim f with | some h=>h args | none=>_)=_;rw [hp]
theorem bN (f : Nat) (args : List DV) (s : St) (r : OR) (h : (match mG.mode f with | some t=>(match mG.primS f with | some p=>p args s | none=>eval (cxOf Tryz.prog T mG f s.boxes.length (if t.keep then s.lists.length else 0) (some (t.fit s))) (orc f s.boxes.length (if t.keep then s.lists.length else 0) (some (t.fit s))) evalFuel true (startOf Tryz.prog f) (argEnv 0 args) s) | none=>none)=r) : cC f args s=r:=by
 cases hp : mG.primS f with
 | none=>simp only [hp] at h;exact aOQ f hp args s r h
 | some p=>
   simp only [hp] at h
   rw [← h]
   show (match mG.mode f with | some t=>(match mG.primS f with | some h=>h args s | none=>_) | none=>none)=_
   rw [hp]
set_option maxRecDepth 100000 in
theorem aM3 : (Tryz.prog.funcs.toList.all λf=>match f.body with | some c=>codeOk f.ntmps c&&(f.name != "runtime.NumGoroutine") | none=>true)=true:=by kernel_rfl
theorem aPW : Tryz.prog.follows .mixedOrders=true:=by kernel_rfl
theorem aRl : (aMR.all λp=>p.2.wf)=true:=by kernel_rfl
theorem aOR {m m' : bA} {s s' : St} {l : Nat} {scr : DV→DV} {w : Own} {v : Value} {t : Tmpl} (hf : iE m s s.base)
 (G : bV m m' (s.at s.base) s' (λ_=>True) (λ_=>True) (λb=>b∈([] : List Nat)∨true=true) (λl=>l∈([] : List Nat)∨true=true) s.base scr) (hl : s'.list l=some w) (hv : m'.rd (.ref l []) v)
 (ht : t.res = .ref 0 []∧t.boxes = []∧t.lists = [some ⟨w.o,.int .i64 0⟩]) : uY m 0 0 (some t) [w.c] v m'.w:=by
 have hf':=(bV.full (f:=⟨[],[],[],[],true,true⟩) hf G).1
 have hb : ∀ b∈([] : List Nat),m'.s.box b=s'.box b:=λb _=>hf'.box b
 have hl' : ∀ x∈[l],m'.s.list x=s'.list x:=λx _=>hf'.list x
 have pf:=aBW (a:=⟨[],[l]⟩) hf'.inv hb hl' List.nodup_nil (by simp)
 have fw:=aGQ (a:=⟨[],[l]⟩) hf' 0 0 (λb h=>by omega) (λb h=>by omega)
 refine ⟨m'.pick [] [l] (s'.pick ⟨[],[l]⟩),rfl,pf.inv,(G.step.fwd hf.inv 0 0).trans fw,?_⟩
 refine ⟨.ref 0 [],s',⟨[],[l]⟩,?_,?_,pf,λx hx=>hx.1,λx hx=>hx.1⟩
 ·unfold Tmpl.read
  rw [ht.1,ht.2.1,ht.2.2]
  have e1 : (s'.pick ⟨[],[l]⟩).boxes = []:=rfl
  have e2 : (s'.pick ⟨[],[l]⟩).lists = [(0,some w)]:=by
   show [(0,s'.list l)]=_
   rw [hl]
  rw [e1,e2]
  simp [readD,readB,readO,OTy.same_refl]
 ·have:=aGP (a:=⟨[],[l]⟩) hl' deep hv
  have e : ren (idx · [] 0) (idx · [l] 0) deep (.ref l []) = .ref 0 []:=by
   simp [deep,ren,ren1,idx]
  rw [e] at this
  exact this
theorem aKW {P : Program} {ρ : Go.Shelf.Ren} (L : Lays8.n4 P ρ) {i0 : TypeInfo} {z : Value} (hi0 : P.info? (ρ.t 25)=some i0) (hz0 : i0.zero=some z) (hzs : z.cells.size=i0.size) (hs0 : 0<i0.size) {e : Nat} (hby : i0.bytes=e)
 {args : List DV} {s : St} {r : R} (h : uS e args s=some r) {m : bA} {aS : Array Value} (hf : iE m s s.base) (hl : args.length=aS.size) (hr : ∀ (i : Nat) d v,args[i]? = some d→aS[i]? = some v→m.rd d v)
 {t : Tmpl} {eb : Nat} {g : Bool} (ht : t.res = .ref 0 []∧t.boxes = []∧t.lists = [some ⟨.own i0.size eb g [],.int .i64 0⟩]) :
 Calls P (ρ.f 4) aS m.w (λe w'=>∃ v,e = .returned v∧uY m 0 0 (some t) r v w'):=by
 unfold uS at h
 split at h
 rotate_left
 ·cases h
 rename_i n _
 split at h
 rotate_left
 ·cases h
 rename_i hc
 obtain ⟨hn,hbound,hlen⟩:=hc
 cases h
 obtain ⟨v0,v1,rfl⟩ : ∃ v0 v1,aS = #[v0,v1]:=by
  match aS,hl with
  | ⟨[a,b]⟩,_=>exact ⟨a,b,rfl⟩
  | ⟨[]⟩,h=>simp at h
  | ⟨[_]⟩,h=>simp at h
  | ⟨_::_::_::_⟩,h=>simp at h
 have h0:=hr 0 _ _ rfl rfl
 have h1:=hr 1 _ _ rfl rfl
 obtain rfl : v1 = .int .i64 n:=by
  cases h1 with
  | p _ _ h1=>cases h1;rfl
 obtain rfl : v0 = .slice none 0 0:=by cases h0;rfl
 obtain ⟨k,rfl⟩:=Int.eq_ofNat_of_zero_le hn
 simp only [Int.toNat_natCast] at hbound
 have sit:=hf.sit (Nat.le_refl s.base)
 have hlf : (OTy.own i0.size eb g []).isLeaf=false:=rfl
 have hmw : m.w.heap.size=m.w.heap.size:=rfl
 have fin : ∀ {w' : World} {v : Value} {F' : NP},cT w' m.Z (.own i0.size eb g []) (.lst []) v F'→dQ v→(∀ r,F' r→m.w.heap.size≤r)→(∀ r,r<m.w.heap.size→w'.heap[r]? = m.w.heap[r]?)→
  m.w.heap.size≤w'.heap.size→w'.os=m.w.os→w'.tape=m.w.tape→w'.output=m.w.output→uY m 0 0 (some t) [.lst []] v w':=by
  intro w' v F' hro' hcv hF' hw hsize hos htape hout
  have G2:=bV.addRow (B:=λ_=>True) (L:=λ_=>True) (λb=>b∈([] : List Nat)∨true=true) (λl=>l∈([] : List Nat)∨true=true) sit (show s.base<s.base+16 by omega) (own:=⟨.own i0.size eb g [],.lst []⟩) hlf hro' (λr hr=>.inr (hF' r hr)) (λr hr _=>hw r hr) hsize hos htape hout
  exact aOR (l:=s.base) hf G2 (w:=⟨.own i0.size eb g [],.lst []⟩) (by simp [St.list,St.addList,St.at,look]) (bA.addRow_rd hcv) ht
 by_cases hroom : 0+k≤0
 ·refine (Any8.slices_Grow_room L none 0 0 k m.w (Nat.le_refl _) (by omega) (by omega) hroom).mono ?_
  rintro e w' ⟨rfl,rfl⟩
  exact ⟨_,rfl,fin (F':=λ_=>False) (.nil _ _ _ _ _ _ (λ_ h=>h)) trivial (λ_ h=>h.elim) (λ_ _=>rfl) (Nat.le_refl _) rfl rfl rfl⟩
 ·refine (Any8.slices_Grow_grow L i0 z hi0 hz0 hs0 none 0 0 k [] m.w (Nat.le_refl _) (by omega) (by rw [hby,Nat.zero_add];exact hbound) (by omega) (by simp) (λ_=>rfl) (λa h=>by cases h)).mono ?_
  rintro e w' ⟨rfl,rfl⟩
  refine ⟨_,rfl,?_⟩
  generalize hcp : grownCap m.w (0+k) 0 (ρ.t 25)=cp
  have hge : 0+k≤cp:=by rw [← hcp];exact grownCap_ge _ _ _ _
  generalize hcells : (([] : List Value).toArray++Builtin.zeroCells z.cells (0+k - 0)++Builtin.zeroCells z.cells (cp - (0+k)) : Array Value)=cells
  have hcsz : cp*i0.size≤cells.size:=by
   rw [← hcells]
   simp only [Array.size_append,List.size_toArray,List.length_nil,aAn,hzs,← Nat.add_mul]
   rw [Nat.zero_add,← Nat.add_mul]
   exact Nat.mul_le_mul_right _ (by omega)
  have hnew : (m.w.drew.alloc (.cells cells (ρ.t 25))).heap[m.w.heap.size]? = some (.cells cells (ρ.t 25) (0,0)):=heap_alloc_new m.w.drew _
  have hro':=(Els.nil (w:=m.w.drew.alloc (.cells cells (ρ.t 25))) (Z:=m.Z) (.own i0.size eb g []) (λ_ _=>.nilFunc) (λ_ _ _=>False)).repO hlf hs0 (b:=m.w.heap.size) (off:=0) (cap:=cp) hnew (by rw [Nat.zero_add];exact hcsz) (by simp) (λhzr=>by have:=hf.inv.zlt _ hzr;omega)
   (λi j hi=>by simp at hi) (λi j hi=>by simp at hi)
  refine fin hro' trivial (λr hr=>?_) (λr hr=>heap_alloc_old m.w.drew _ hr) (by simp) rfl rfl rfl
  rcases hr with rfl | ⟨i,j,hi,_⟩
  ·exact Nat.le_refl _
  ·simp at hi
end
noncomputable section
open Go Go.Shelf
def Tryz.lays8n4_ren : Go.Shelf.Ren:=⟨λ| 4=>188 | n=>n,λ| 22=>79 | 25=>49 | 3=>3 | 4=>4 | 9=>9 | 20=>20 | 0=>0 | n=>n,λ| n=>n⟩
theorem Tryz.lays8n4 : Go.Proofs.Lays8.n4 Tryz.prog Tryz.lays8n4_ren:={
 mixed:=by kernel_rfl
 f4:=⟨Tryz.f188.name,by decide,Tryz.func188.trans (congrArg some (by kernel_rfl))⟩
 t0:=Tryz.underlying0
 a0:=Tryz.isAgg0
 z0:=Tryz.sizeOf0
 v0:=Tryz.zeroValue0
 t3:=Tryz.underlying3
 a3:=Tryz.isAgg3
 z3:=Tryz.sizeOf3
 v3:=Tryz.zeroValue3
 t4:=Tryz.underlying4
 a4:=Tryz.isAgg4
 z4:=Tryz.sizeOf4
 v4:=Tryz.zeroValue4
 t9:=Tryz.underlying9
 a9:=Tryz.isAgg9
 z9:=Tryz.sizeOf9
 v9:=Tryz.zeroValue9
 t20:=Tryz.underlying20
 a20:=Tryz.isAgg20
 z20:=Tryz.sizeOf20
 v20:=Tryz.zeroValue20
 t22:=Tryz.underlying79
 a22:=Tryz.isAgg79
 z22:=Tryz.sizeOf79
 v22:=Tryz.zeroValue79}
def Tryz.sort64_ren : Go.Shelf.Ren:=⟨λ| 5=>134 | 8=>172 | 7=>171 | 19=>198 | 20=>199 | 10=>189 | 11=>190 | 12=>191 | 13=>192 | 14=>193 | 15=>194 | 16=>195 | 17=>196 | 18=>197 | 30=>209 | 31=>210 | 32=>211 | 33=>212 | 34=>213 | 35=>157 | 40=>221 | n=>n,λ| 23=>30 | 25=>3 | 3=>3 | 32=>118 | 22=>30 | 0=>0 | 44=>171 | 46=>174 | 4=>4 | 36=>200 | 35=>199 | 41=>68 | 5=>5 | 9=>9 | 53=>213 | 57=>217 | 63=>222 | 64=>148 | n=>n,λ| n=>n⟩
theorem Tryz.sort64 : Go.Proofs.SlLaysM.n5 Tryz.prog Tryz.sort64_ren:={
 mixed:=by kernel_rfl
 f5:=⟨Tryz.f134.name,by decide,Tryz.func134.trans (congrArg some (by kernel_rfl))⟩
 f7:=⟨Tryz.f171.name,by decide,Tryz.func171.trans (congrArg some (by kernel_rfl))⟩
 f8:=Tryz.func172.trans (congrArg some (by kernel_rfl))
 f10:=⟨Tryz.f189.name,by decide,Tryz.func189.trans (congrArg some (by kernel_rfl))⟩
 f11:=⟨Tryz.f190.name,by decide,Tryz.func190.trans (congrArg some (by kernel_rfl))⟩
 f12:=⟨Tryz.f191.name,by decide,Tryz.func191.trans (congrArg some (by kernel_rfl))⟩
 f13:=⟨Tryz.f192.name,by decide,Tryz.func192.trans (congrArg some (by kernel_rfl))⟩
 f14:=⟨Tryz.f193.name,by decide,Tryz.func193.trans (congrArg some (by kernel_rfl))⟩
 f15:=⟨Tryz.f194.name,by decide,Tryz.func194.trans (congrArg some (by kernel_rfl))⟩
 f16:=⟨Tryz.f195.name,by decide,Tryz.func195.trans (congrArg some (by kernel_rfl))⟩
 f17:=⟨Tryz.f196.name,by decide,Tryz.func196.trans (congrArg some (by kernel_rfl))⟩
 f18:=⟨Tryz.f197.name,by decide,Tryz.func197.trans (congrArg some (by kernel_rfl))⟩
 f19:=Tryz.func198.trans (congrArg some (by kernel_rfl))
 f20:=Tryz.func199.trans (congrArg some (by kernel_rfl))
 f30:=⟨Tryz.f209.name,by decide,Tryz.func209.trans (congrArg some (by kernel_rfl))⟩
 f31:=Tryz.func210.trans (congrArg some (by kernel_rfl))
 f32:=Tryz.func211.trans (congrArg some (by kernel_rfl))
 f33:=⟨Tryz.f212.name,by decide,Tryz.func212.trans (congrArg some (by kernel_rfl))⟩
 f34:=⟨Tryz.f213.name,by decide,Tryz.func213.trans (congrArg some (by kernel_rfl))⟩
 f35:=⟨Tryz.f157.name,by decide,Tryz.func157.trans (congrArg some (by kernel_rfl))⟩
 f40:=⟨Tryz.f221.name,by decide,Tryz.func221.trans (congrArg some (by kernel_rfl))⟩
 t0:=Tryz.underlying0
 a0:=Tryz.isAgg0
 z0:=Tryz.sizeOf0
 v0:=Tryz.zeroValue0
 t3:=Tryz.underlying3
 a3:=Tryz.isAgg3
 z3:=Tryz.sizeOf3
 v3:=Tryz.zeroValue3
 t4:=Tryz.underlying4
 a4:=Tryz.isAgg4
 z4:=Tryz.sizeOf4
 v4:=Tryz.zeroValue4
 t5:=Tryz.underlying5
 a5:=Tryz.isAgg5
 z5:=Tryz.sizeOf5
 v5:=Tryz.zeroValue5
 t9:=Tryz.underlying9
 a9:=Tryz.isAgg9
 z9:=Tryz.sizeOf9
 v9:=Tryz.zeroValue9
 t22:=Tryz.underlying30
 a22:=Tryz.isAgg30
 z22:=Tryz.sizeOf30
 v22:=Tryz.zeroValue30
 t23:=Tryz.underlying30
 a23:=Tryz.isAgg30
 z23:=Tryz.sizeOf30
 v23:=Tryz.zeroValue30
 t25:=Tryz.underlying3
 a25:=Tryz.isAgg3
 z25:=Tryz.sizeOf3
 v25:=Tryz.zeroValue3
 t32:=Tryz.underlying118
 a32:=Tryz.isAgg118
 z32:=Tryz.sizeOf118
 v32:=Tryz.zeroValue118
 t35:=Tryz.underlying199
 a35:=Tryz.isAgg199
 z35:=Tryz.sizeOf199
 v35:=Tryz.zeroValue199
 t36:=Tryz.underlying200
 a36:=Tryz.isAgg200
 z36:=Tryz.sizeOf200
 v36:=Tryz.zeroValue200
 t41:=Tryz.underlying68
 a41:=Tryz.isAgg68
 z41:=Tryz.sizeOf68
 v41:=Tryz.zeroValue68
 t44:=Tryz.underlying171
 a44:=Tryz.isAgg171
 z44:=Tryz.sizeOf171
 v44:=Tryz.zeroValue171
 t46:=Tryz.underlying174
 a46:=Tryz.isAgg174
 z46:=Tryz.sizeOf174
 v46:=Tryz.zeroValue174
 t53:=Tryz.underlying213
 a53:=Tryz.isAgg213
 z53:=Tryz.sizeOf213
 v53:=Tryz.zeroValue213
 t57:=Tryz.underlying217
 a57:=Tryz.isAgg217
 z57:=Tryz.sizeOf217
 v57:=Tryz.zeroValue217
 t63:=Tryz.underlying222
 a63:=Tryz.isAgg222
 z63:=Tryz.sizeOf222
 v63:=Tryz.zeroValue222
 t64:=Tryz.underlying148
 a64:=Tryz.isAgg148
 z64:=Tryz.sizeOf148
 v64:=Tryz.zeroValue148}
end
noncomputable section
open Go Go.RowKit Go.Shelf
section
attribute [local go_sem] Oper.semAt_some
def aH7 (zs : List Int) (k : Nat) : List Int:=(List.range k).map λj=>zs[j]?.getD 0
theorem aNY (zs : List Int) (k : Nat) : aH7 zs (k+1)=aH7 zs k++[zs[k]?.getD 0]:=by simp [aH7,List.range_succ]
theorem aKX (zs : List Int) (k : Nat) : (aH7 zs k).length=k:=by simp [aH7]
theorem aOS (zs : List Int) : aH7 zs zs.length=zs:=by
 apply List.ext_getElem
 ·simp [aH7]
 ·intro i h1 h2
  simp [aH7,h2]
set_option maxRecDepth 100000 in
set_option maxHeartbeats 2000000 in
theorem aOT (F : Fence) (n : Nat) (h7 : F.fn 135) (hro : F.round=none) (hn : 1≤n) (l Bs o n₀ b off len cap : Nat) (zs : List Int) (hreach : len*8≤140737488351232) (hb : b<n₀) (J Jx : List Int→World→Prop)
 (hY : ∀ pre x W,J pre W→pre.length<len→YieldAt F (n - 1) Tryz.prog l #[.int .i64 x] W λe W'=>
  (e = .returned (.bool true)∧J (pre++[x]) W'∧Below n₀ W W')∨(e = .returned (.bool false)∧Jx (pre++[x]) W'))
 (W : World) (hBs : W.cell? ⟨Bs,o,none⟩=some (.slice (some ⟨b,off,none⟩) len cap)) (hc : ∀ j,j<len→W.cell? ⟨b,off+j,none⟩=some (.int .i64 (zs[j]?.getD 0))) (h0 : J [] W) :
 CallsIn F n Tryz.prog 135 #[.func (.yield l) #[] #[],.pointer (some ⟨Bs,o,none⟩)] W λe W'=>(∃ v,e = .returned v)∧
  ((∃ ys,ys=aH7 zs len∧J ys W')∨(∃ pre,True∧Jx pre W')):=by
 refine callsIn_of_wp Tryz.func135 rfl h7 ?_ hro
 simp only [Tryz.ntmps135,List.size_toArray,List.length_cons,List.length_nil,Nat.reduceAdd,Nat.reduceSub,Array.replicate_succ,Array.replicate_zero,List.push_toArray,List.append_toArray,List.nil_append,List.cons_append]
 gi_wp2
 gi_loopw [7] (λi wr=>∃ k : Nat,k≤len∧i = .int .i64 k∧J (aH7 zs k) wr∧Below n₀ W wr)
  (λi _=>match i with | .int _ k=>len - k.toNat | _=>0)
 case atStart=>exact ⟨0,Nat.zero_le _,rfl,h0,Below.refl _ _⟩
 case round=>
  obtain ⟨k,hk,rfl,hJs,hnx⟩:=hrel
  have hcx : k<len→wr.cell? ⟨b,off+k,none⟩=some (.int .i64 (zs[k]?.getD 0)):=λh=>(hnx.cell (p:=⟨b,off+k,none⟩) hb).trans (hc k h)
  by_cases hlt : k<len
  ·obtain ⟨fn,tmps,assign,body,hy,hR⟩:=hY _ (zs[k]?.getD 0) wr hJs (by rw [aKX];exact hlt)
   have hcx':=hcx hlt
   gi_wp2
   refine hR.mono ?_
   rintro e W3 (⟨rfl,hJ3,hk3⟩ | ⟨rfl,hJx3⟩)
   ·gi_wp2
    go_roundw
    case rel=>exact ⟨k+1,by omega,by simp,by rw [aNY];exact hJ3,hnx.trans hk3⟩
    case measure=>simp;omega
   ·gi_wp2
    refine bodyPost_ret (results_none rfl _ _ _) rfl ?_
    exact ⟨⟨_,rfl⟩,.inr ⟨_,trivial,hJx3⟩⟩
  ·obtain rfl : k=len:=by omega
   gi_wp2
   go_end0
   exact ⟨⟨_,rfl⟩,.inl ⟨_,rfl,hJs⟩⟩
set_option maxRecDepth 100000 in
set_option maxHeartbeats 1000000 in
theorem aJJ (F : Fence) (n : Nat) (h7 : F.fn 135) (hro : F.round=none) (l Bs o : Nat) (a : Option Addr) (cap : Nat) (J : List Int→World→Prop) (W : World) (hBs : W.cell? ⟨Bs,o,none⟩=some (.slice a 0 cap)) (h0 : J [] W) :
 CallsIn F n Tryz.prog 135 #[.func (.yield l) #[] #[],.pointer (some ⟨Bs,o,none⟩)] W λe W'=>(∃ v,e = .returned v)∧J [] W':=by
 refine callsIn_of_wp Tryz.func135 rfl h7 ?_ hro
 simp only [Tryz.ntmps135,List.size_toArray,List.length_cons,List.length_nil,Nat.reduceAdd,Nat.reduceSub,Array.replicate_succ,Array.replicate_zero,List.push_toArray,List.append_toArray,List.nil_append,List.cons_append]
 gi_wp2
 gi_loopw [7] (λi wr=>i = .int .i64 0∧J [] wr) (λ_ _=>0)
 case atStart=>exact ⟨rfl,h0⟩
 case round=>
  obtain ⟨rfl,hJs⟩:=hrel
  gi_wp2
  go_end0
  exact ⟨⟨_,rfl⟩,hJs⟩
def pW (n₀ : Nat) (W : World) (sv : Value) (zs : List Int) : Prop:=
 (∃ a cap,sv = .slice a 0 cap∧zs = [])∨∃ b off cap,sv = .slice (some ⟨b,off,none⟩) zs.length cap∧b<n₀∧∀ j,j<zs.length→W.cell? ⟨b,off+j,none⟩=some (.int .i64 (zs[j]?.getD 0))
theorem pW.below {n₀ : Nat} {A B : World} (h : Below n₀ A B) {sv : Value} {zs : List Int} : pW n₀ A sv zs→pW n₀ B sv zs
 | .inl e=>.inl e
 | .inr ⟨b,off,cap,e,hb,hc⟩=>.inr ⟨b,off,cap,e,hb,λj hj=>(h.cell (p:=⟨b,off+j,none⟩) hb).trans (hc j hj)⟩
theorem aMj (F : Fence) (n : Nat) (h7 : F.fn 135) (hro : F.round=none) (hn : 1≤n) (Bs o n₀ : Nat) (sv : Value) (zs : List Int) (hreach : zs.length*8≤140737488351232) (w : World) (hBs : Bs<w.heap.size) (hn₀ : n₀≤w.heap.size)
 (hc : w.cell? ⟨Bs,o,none⟩=some sv) (hI : pW n₀ w sv zs) :
 SeqStopsK F n Tryz.prog 135 #[.pointer (some ⟨Bs,o,none⟩)] (λx : Int=>#[Value.int .i64 x]) (Below n₀) (λys=>ys=zs) (λ_=>True) zs.length w:=λl J Jx W hW _ _ hY h0=>by
 have hc':=(hW.cell (p:=⟨Bs,o,none⟩) hBs).trans hc
 rcases hI.below (hW.mono hn₀) with ⟨a,cap,rfl,rfl⟩ | ⟨b,off,cap,rfl,hb,hcs⟩
 ·exact (aJJ F n h7 hro l Bs o a cap J W hc' h0).mono λe W' ⟨he,hj⟩=>⟨he,.inl ⟨_,rfl,hj⟩⟩
 ·refine (aOT F n h7 hro hn l Bs o n₀ b off zs.length cap zs hreach hb J Jx hY W hc' hcs h0).mono ?_
  rintro e W' ⟨he,⟨ys,rfl,hj⟩ | ⟨pre,_,hj⟩⟩
  ·exact ⟨he,.inl ⟨_,aOS zs,hj⟩⟩
  ·exact ⟨he,.inr ⟨_,trivial,hj⟩⟩
end
set_option maxRecDepth 100000 in
theorem aOU : ∃ i0 : TypeInfo,Tryz.prog.info? 3=some i0∧i0.zero=some (.int .i64 0)∧i0.size=1∧i0.bytes=8:=by
 have h : (Tryz.prog.info? 3).map (λi=>(i.zero,i.size,i.bytes))=some (some (.int .i64 0),1,8):=by kernel_rfl
 cases hi : Tryz.prog.info? 3 with
 | none=>rw [hi] at h;cases h
 | some i=>rw [hi] at h;simp at h;exact ⟨i,rfl,h.1,h.2.1,h.2.2⟩
def ApI (n₀ B : Nat) (pre : List Int) (W : World) : Prop:=∃ v,Boxed W B 30 v∧W.ownsRow n₀ 3 1 v pre.length (pre.map (Value.int .i64))
theorem sO {W : World} {n₀ : Nat} {v : Value} {k : Nat} {xs : List Value} (h : W.ownsRow n₀ 3 1 v k xs) {j : Nat} {o : Obj} (hj : W.heap[j]? = some o) (ho : ∀ cur,o≠.cells cur 3 (0,0)) : v.ownBlock=none∨v.ownBlock≠some j:=by
 rcases h.2 with ⟨rfl,_⟩ | ⟨g,cap,cur,rfl,_,hg,_⟩
 ·exact .inl rfl
 ·refine .inr (λe=>?_)
  cases e
  rw [hg] at hj
  cases hj
  exact ho _ rfl
theorem aPX (n₀ B : Nat) : Go.Own (ApI n₀ B):=λpre A W row ⟨v,h1,h2⟩ hg hr=>by
 cases row with
 | none=>exact ⟨v,h1.kept hg (by simp),h2.kept hg (by cases v.ownBlock<;>simp)⟩
 | some r=>
   obtain ⟨o,ho,hc⟩:=hr r rfl
   refine ⟨v,h1.kept hg (λe=>?_),h2.kept hg (sO h2 ho (λcur e=>by subst e;cases hc))⟩
   cases e
   have:=h1
   unfold Boxed at this
   rw [this] at ho
   cases ho
   cases hc
set_option maxRecDepth 100000 in
set_option maxHeartbeats 4000000 in
theorem aJK (F : Fence) (n : Nat) (h99 : F.fn 170) (h65 : F.fn 135) (hro : F.round=none) (hn : 4≤n) (Bs o : Nat) (sv : Value) (zs : List Int) (hreach : zs.length*8≤140737488351232) (w : World) (hBs : Bs<w.heap.size)
 (hc : w.cell? ⟨Bs,o,none⟩=some sv) (hI : pW w.heap.size w sv zs) :
 CallsIn F n Tryz.prog 170 #[.slice none 0 0,.func (.func 135) #[] #[.pointer (some ⟨Bs,o,none⟩)]] w λe w'=>∃ v,e = .returned v∧w'.ownsRow w.heap.size 3 1 v zs.length (zs.map (Value.int .i64))∧Below w.heap.size w w':=by
 have h1 : 1≤n:=by omega
 obtain ⟨i0,hi,hz0,hz1,hz2⟩:=aOU
 refine callsIn_of_wp_marks Tryz.func170 rfl h99 ?_ hro
 simp only [Tryz.ntmps170,List.size_toArray,List.length_cons,List.length_nil,Nat.reduceAdd,Nat.reduceSub,Array.replicate_succ,Array.replicate_zero,List.push_toArray,List.append_toArray,List.nil_append,List.cons_append]
 gi_wp2
 have bS:=Boxed.new w 30 (.slice none 0 0)
 have hB0 : Below w.heap.size w (w.alloc (.cells #[.slice none 0 0] 30)):=(Below.refl _ w).alloc (Nat.le_refl _) _
 refine wpIn_rangeFunc_ownG hro h1 (gf:=135) (lb:=#[.pointer (some ⟨Bs,o,none⟩)]) rfl h65 (enters_of Tryz.func135 (by kernel_rfl) rfl)
  (aMj F (n - 1) h65 hro (by omega) Bs o w.heap.size sv zs hreach _ (by simp;omega) (by simp) ((hB0.cell (p:=⟨Bs,o,none⟩) hBs).trans hc) (hI.below hB0)) belowK_t (belowK_b (by simp)) (Below.refl _ _) (λ_=>rfl)
  (λpre W=>ApI w.heap.size w.heap.size pre W∧Below w.heap.size w W)
  (λ_ _ _=>False)
  (OwnFrom.and (Go.Own.from (aPX _ _) _) (ownFrom_below (Nat.le_refl _) (by simp)))
  (λ_ _ _ _ _ hs _ _=>hs)
  ⟨⟨_,bS,World.ownsRow_nil _ _ _ _⟩,hB0⟩
  (λx=>{ tmps:=#[.slice none 0 0,.func (.func 135) #[] #[.pointer (some ⟨Bs,o,none⟩)],.pointer (some ⟨w.heap.size,0,none⟩),undef,.slice none 0 0,.int .i64 x,.func (.func 135) #[] #[.pointer (some ⟨Bs,o,none⟩)],.int .i64 x,undef,undef,undef,undef,undef],defers:=[]}) ?assign ?body ?done ?stop
 case assign=>
  intro l x W K hK
  gi_wp2_with gi_round_op_a
  exact hK
 case body=>
  rintro l pre x W ⟨⟨v,hb,hrow⟩,hB⟩ hlt
  have hbc:=hb.cell
  have hbl:=hb.lt
  gi_wp2_with (first
   | (gi_at_builtin;refine wpListIn_append_own _ rfl _ _ 30 rfl w.heap.size 3 i0 (.int .i64 0) 1 8 Tryz.underlying30 hi hz0 hz1 hz2 rfl (by decide) _ _ _ rfl (hrow.alloc _) ⟨W.heap.size,0,none⟩ 1 1 [.int .i64 x] rfl rfl (cell_one_new _ _ _) (by simp [Value.oneCell']) (by unfold maxLen;omega) (by omega) (by have:=hB.size;simp;omega) ?_;intro v' w3 hown' hg3 hnil3
      have hg3 : (W.alloc (.cells #[.int .i64 x] 3)).grownBy w3 v.ownBlock:=hg3
      have hb3 : Boxed w3 w.heap.size 30 v:=Boxed.kept (hb.alloc _) hg3 (λe=>by
       rcases sO hrow hb (λcur e=>by cases e) with h | h
       ·rw [h] at e;cases e
       ·exact h e.symm)
      have hcell : ∀ (j : Nat) (o : Obj),v.ownBlock=some j→(W.alloc (.cells #[.int .i64 x] 3)).heap[j]? = some o→o.isCells=true:=λj o hj ho=>by
       rcases (hrow.alloc (.cells #[.int .i64 x] 3)).2 with ⟨rfl,_⟩ | ⟨g,cap,cur,rfl,_,hg,_⟩
       ·cases hj
       ·cases hj;rw [hg] at ho;cases ho;rfl
      have hK3 : KeepsOthers W w3:=(KeepsOthers.alloc W _).trans (KeepsOthers.of_grownBy hg3 hcell)
      have hBel : Below w.heap.size W w3:=((Below.refl w.heap.size W).alloc hB.size _).grown hg3 (by have:=hB.size;simp;omega) (λk e=>(hrow.lt k e).1)
      have hc3:=hb3.cell
      have hf3:=hb3.frozen
      obtain ⟨g',cap',rfl⟩ : ∃ g' cap',v' = .slice (some ⟨g',0,none⟩) (pre.length+1) cap':=by
       rcases hown'.2 with ⟨_,h0⟩ | ⟨g',cap',cur',h,_⟩
       ·omega
       ·exact ⟨g',cap',h⟩
      go_frame)
   | gi_round_op_a)
  have ho4:=hown'.kept (grownBy_setCell' w3 w.heap.size (.slice (some ⟨g',0,none⟩) (pre.length+1) cap')) (sO hown' hb3 (λcur e=>by cases e))
  refine ⟨(hK3.trans (KeepsOthers.setCell _ _ _)).from _,hBel.setCell (p:=⟨w.heap.size,0,none⟩) (Nat.le_refl _) _,⟨_,Boxed.set _ hb3,?_⟩,(hB.trans hBel).setCell (p:=⟨w.heap.size,0,none⟩) (Nat.le_refl _) _⟩
  simpa using ho4
 case done=>
  rintro D ys W hD rfl ⟨⟨v,hb,hrow⟩,hB⟩ hK
  have hbc:=hb.cell
  gi_wp2
  refine ⟨by simp,.inl ⟨_,_,rfl,run_takeDeferred hK,?_⟩⟩
  refine ⟨_,results_tmp rfl _ _ _,?_⟩
  have hbk:=belowK_b (w:=w) (Nat.le_refl _) W D (.deferred (some [])) (.deferred none) (by simp at hD;omega) hK rfl rfl
  exact ⟨v,rfl,hrow.kept (grownBy_putObj' _ _ _) (sO hrow hK (λcur e=>by cases e)),hB.trans hbk⟩
 case stop=>
  rintro D c pre W _ _ h _
  exact h.elim
set_option maxRecDepth 100000 in
set_option maxHeartbeats 1000000 in
theorem aMk (F : Fence) (n : Nat) (h63 : F.fn 133) (h99 : F.fn 170) (h65 : F.fn 135) (hro : F.round=none) (hn : 5≤n) (Bs o : Nat) (sv : Value) (zs : List Int) (hreach : zs.length*8≤140737488351232) (w : World) (hBs : Bs<w.heap.size)
 (hc : w.cell? ⟨Bs,o,none⟩=some sv) (hI : pW w.heap.size w sv zs) :
 CallsIn F n Tryz.prog 133 #[.func (.func 135) #[] #[.pointer (some ⟨Bs,o,none⟩)]] w λe w'=>∃ v,e = .returned v∧w'.ownsRow w.heap.size 3 1 v zs.length (zs.map (Value.int .i64))∧Below w.heap.size w w':=by
 have h1 : 1≤n:=by omega
 refine callsIn_of_wp Tryz.func133 rfl h63 ?_ hro
 simp only [Tryz.ntmps133,List.size_toArray,List.length_cons,List.length_nil,Nat.reduceAdd,Nat.reduceSub,Array.replicate_succ,Array.replicate_zero,List.push_toArray,List.append_toArray,List.nil_append,List.cons_append]
 gi_wp2_with (gi_at_call 170;refine (aJK F (n - 1) h99 h65 hro (by omega) Bs o sv zs hreach w hBs hc hI).mono ?_;rintro e w' ⟨v,rfl,hrow,hb⟩)
 go_ret
 exact ⟨v,rfl,hrow,hb⟩
set_option maxRecDepth 100000 in
set_option maxHeartbeats 2000000 in
theorem aNZ (F : Fence) (n : Nat) (h31 : F.fn 73) (h63 : F.fn 133) (h64 : F.fn 134) (h99 : F.fn 170) (h65 : F.fn 135) (hro : F.round=none) (hn : 6≤n) (hsort : ∀ (blk off cap : Nat) (ss : List Int) (W : World),Sort.Holds (Value.int .i64) W blk off ss.toArray→blk<W.heap.size→ss.length<4611686018427387904→
 CallsIn F (n - 1) Tryz.prog 134 #[.slice (some ⟨blk,off,none⟩) ss.length cap] W λe w'=>e = .returned (.tuple #[])∧∃ k os,w'=Sort.grow (Sort.putRow (Value.int .i64) (Sort.ahead W k) blk off (ss.mergeSort λx y=>decide (x≤y)).toArray) os)
 (hnone : ∀ (p : Option Addr) (cap : Nat) (W : World),CallsIn F (n - 1) Tryz.prog 134 #[.slice p 0 cap] W λe w'=>e = .returned (.tuple #[])∧w'=W)
 (Bs o : Nat) (sv : Value) (zs : List Int) (hreach : zs.length*8≤140737488351232) (w : World) (hBs : Bs<w.heap.size)
 (hc : w.cell? ⟨Bs,o,none⟩=some sv) (hI : pW w.heap.size w sv zs) :
 CallsIn F n Tryz.prog 73 #[.func (.func 135) #[] #[.pointer (some ⟨Bs,o,none⟩)]] w λe w'=>∃ v,e = .returned v∧Below w.heap.size w w'∧
  (zs = []∧v = .slice none 0 0∨∃ g cap cur,v = .slice (some ⟨g,0,none⟩) zs.length cap∧w.heap.size≤g∧w'.heap[g]? = some (.cells cur 3 (0,0))∧zs.length≤cap∧∀ j : Nat,j<zs.length→cur[j]? = ((zs.mergeSort λx y=>decide (x≤y)).map (Value.int .i64))[j]?):=by
 have h1 : 1≤n:=by omega
 refine callsIn_of_wp Tryz.func73 rfl h31 ?_ hro
 simp only [Tryz.ntmps73,List.size_toArray,List.length_cons,List.length_nil,Nat.reduceAdd,Nat.reduceSub,Array.replicate_succ,Array.replicate_zero,List.push_toArray,List.append_toArray,List.nil_append,List.cons_append]
 gi_wp2_with (gi_at_call 133;refine (aMk F (n - 1) h63 h99 h65 hro (by omega) Bs o sv zs hreach w hBs hc hI).mono ?_;rintro e W ⟨v,rfl,hrow,hb⟩)
 rcases hrow.2 with ⟨rfl,hz⟩ | ⟨gb,cap,cur,rfl,hbase,hgb,r1,r2,r3,r4⟩
 ·have hzs : zs = []:=List.eq_nil_of_length_eq_zero hz
  subst hzs
  gi_wp2_with (gi_at_call 134;refine (hnone none 0 W).mono ?_;rintro e w' ⟨rfl,rfl⟩)
  go_ret
  refine ⟨_,rfl,hb,?_⟩
  simp
 ·have hH : Sort.Holds (Value.int .i64) W gb 0 zs.toArray:=holds_of_block_i hgb (by simpa using r4)
  have hgl : gb<W.heap.size:=(Array.getElem?_eq_some_iff.1 hgb).1
  gi_wp2_with (gi_at_call 134;refine (hsort gb 0 cap zs W hH hgl (by omega)).mono ?_;rintro e w' ⟨rfl,k,os,rfl⟩)
  go_ret
  have ho : (Sort.grow (Sort.putRow (Value.int .i64) (Sort.ahead W k) gb 0 (zs.mergeSort λx y=>decide (x≤y)).toArray) os).ownsRow w.heap.size 3 1 (.slice (some ⟨gb,0,none⟩) zs.length cap) zs.length ((zs.mergeSort λx y=>decide (x≤y)).map (Value.int .i64)):=ownsRow_sorted_i (by simp) hbase hgb r1 r2 r3
  refine ⟨_,rfl,hb.grown (grownBy_sorted_i _) hb.size (λj hj=>by cases hj;exact hbase),?_⟩
  rcases ho.2 with ⟨h,_⟩ | ⟨g2,cap2,cur2,h,hb2,hg2,q1,q2,q3,q4⟩
  ·cases h
  ·cases h
   refine .inr ⟨gb,cap,cur2,rfl,hbase,hg2,r1,λj hj=>?_⟩
   rw [← q4,List.getElem?_take_of_lt (by omega),Array.getElem?_toList]
theorem aHa : ∀ {xs : R} {l : List Int},aAM xs=some l→xs=l.map (PV.int .i64)
 | [],l,h=>by cases h;rfl
 | x::r,l,h=>by
   cases x with
   | int k n=>
     cases k<;>try (simp [aAM] at h)
     cases hl : aAM r with
     | none=>rw [hl] at h;cases h
     | some l'=>
       rw [hl] at h
       cases h
       rw [aHa hl];rfl
   | _=>simp [aAM] at h
theorem aH8 {args : R} {r : R} (h : uT 135 args=some r) {w : World} {Z : NP} {aS : Array Value} (hz : ∀ r,Z r→r<w.heap.size) (hl : args.length=aS.size)
 (hr : ∀ (i : Nat) x v,args[i]? = some x→aS[i]? = some v→iH w Z x v) : Calls Tryz.prog 73 aS w (λe w'=>∃ v,e = .returned v∧∃ Z',aDL w w' Z Z'∧iH w' Z' (hd r) v):=by
 unfold uT at h
 split at h
 rotate_left
 ·cases h
 rename_i g xs
 split at h
 rotate_left
 ·cases h
 rename_i hg
 have hg:=bR hg
 subst hg
 split at h
 rotate_left
 ·cases h
 rename_i l hxs
 split at h
 rotate_left
 ·cases h
 rename_i hlen
 cases h
 have hx:=aHa hxs
 subst hx
 obtain ⟨v0,rfl⟩ : ∃ v0,aS = #[v0]:=by
  match aS,hl with
  | ⟨[a]⟩,_=>exact ⟨a,rfl⟩
  | ⟨[]⟩,h=>simp at h
  | ⟨_::_::_⟩,h=>simp at h
 have h0:=hr 0 _ _ rfl rfl
 cases h0 with
 | fn _ _ us hul hur=>
   obtain ⟨pv,rfl⟩ : ∃ pv,us = [pv]:=by
    match us,hul with
    | [a],_=>exact ⟨a,rfl⟩
    | [],h=>simp at h
    | _::_::_,h=>simp at h
   have hp:=hur 0 _ _ rfl rfl
   cases hp with
   | bx _ B o cells ety fz cv hZB hh hcl hcv hrep=>
     have hB:=hz _ hZB
     have hc : w.cell? ⟨B,o,none⟩=some (cv 0):=sJ hh (by simpa using hcl 0 (by simp))
     have hrow:=hrep 0 _ rfl
     have hI : pW w.heap.size w (cv 0) l:=by
      generalize hL : PV.lst (l.map (PV.int .i64))=x at hrow
      generalize cv 0=sv at hrow
      cases hrow with
      | empty a cap=>
        injection hL with hL
        exact .inl ⟨a,cap,rfl,by simpa using hL⟩
      | lst ys b o2 s cap g cells2 e2 fz2 cv2 hZ2 hh2 hs hcap hel hc2 hcv2 hr2=>
        injection hL with hL
        subst hL
        rw [List.length_map] at hc2 ⊢
        refine .inr ⟨b,o2,cap,rfl,hz _ hZ2,λj hj=>?_⟩
        have hy : (l.map (PV.int .i64))[j]? = some (.int .i64 (l[j]?.getD 0)):=by
         rw [List.getElem?_map,List.getElem?_eq_getElem hj];rfl
        have he:=hel j _ hy
        have hgs : g=false∧s=1:=by
         unfold PV.isEl at he
         simp only [Bool.and_eq_true,Bool.not_eq_true'] at he
         exact ⟨he.1,bR he.2⟩
        obtain ⟨rfl,rfl⟩:=hgs
        have hv:=hr2 j 0 _ hy (by omega)
        have hcell:=hc2 j 0 hj (by omega)
        have hv : iH w Z (.int .i64 (l[j]?.getD 0)) (cv2 j 0):=hv
        generalize hq : cv2 j 0=q at hv hcell
        cases hv
        exact sJ hh2 (by rw [← hcell];congr 1;omega)
      | _=>cases hL
     have hsort : ∀ (blk off cap : Nat) (ss : List Int) (W : World),Sort.Holds (Value.int .i64) W blk off ss.toArray→blk<W.heap.size→ss.length<4611686018427387904→
      CallsIn Fence.wide (6 - 1) Tryz.prog 134 #[.slice (some ⟨blk,off,none⟩) ss.length cap] W λe w'=>e = .returned (.tuple #[])∧∃ k os,w'=Sort.grow (Sort.putRow (Value.int .i64) (Sort.ahead W k) blk off (ss.mergeSort λx y=>decide (x≤y)).toArray) os:=
      λblk off cap ss W h1 h2 h3=>callsIn_wide.2 (AnyM.slices_Sort_int Tryz.sort64 blk off cap ss W h1 h2 h3)
     have hnone : ∀ (p : Option Addr) (cap : Nat) (W : World),CallsIn Fence.wide (6 - 1) Tryz.prog 134 #[.slice p 0 cap] W λe w'=>e = .returned (.tuple #[])∧w'=W:=
      λp cap W=>callsIn_wide.2 (AnyM.slices_Sort_int_none Tryz.sort64 p cap W)
     have main:=(callsIn_wide (n:=6)).1 (aNZ Fence.wide 6 trivial trivial trivial trivial trivial rfl (Nat.le_refl _) hsort hnone B o (cv 0) l (by omega) w hB hc hI)
     refine main.mono ?_
     rintro e w' ⟨v,rfl,hb,hv⟩
     refine ⟨v,rfl,?_⟩
     rcases hv with ⟨rfl,rfl⟩ | ⟨g,cap,cur,rfl,hge,hgb,hcap,hcells⟩
     ·exact ⟨Z,⟨hb.size,hb.os,hb.tape,hb.output,λr hr=>hb.block r hr,λ_ h=>h,λ_ h=>.inl h⟩,by simpa [hd] using iH.empty (w:=w') (Z:=Z) none 0⟩
     ·have hgl : g<w'.heap.size:=(Array.getElem?_eq_some_iff.1 hgb).1
      refine ⟨λr=>Z r∨r=g,⟨hb.size,hb.os,hb.tape,hb.output,λr hr=>hb.block r hr,λ_ h=>.inl h,λr h=>?_⟩,?_⟩
      ·rcases h with h | rfl
       ·exact .inl h
       ·exact .inr ⟨hge,hgl⟩
      ·have hml : ((l.mergeSort λx y=>decide (x≤y)).map (PV.int .i64)).length=l.length:=by simp
       have key:=iH.lst (w:=w') (Z:=λr=>Z r∨r=g) ((l.mergeSort λx y=>decide (x≤y)).map (PV.int .i64)) g 0 1 cap false cur 3 (0,0) (λi _=>.int .i64 ((l.mergeSort λx y=>decide (x≤y))[i]?.getD 0)) (.inr rfl) hgb (by omega) (by rw [hml];exact hcap)
        (λi x hx=>by
         rw [List.getElem?_map] at hx
         cases hq : (l.mergeSort λx y=>decide (x≤y))[i]? with
         | none=>rw [hq] at hx;cases hx
         | some n=>rw [hq] at hx;cases hx;rfl)
        (λi j hi hj=>by
         rw [hml] at hi
         rw [show 0+i*1+j=i by omega,hcells i hi,List.getElem?_map,List.getElem?_eq_getElem (by simpa using hi)];rfl)
        (λi j _ _=>trivial)
        (λi j x hx hj=>by
         rw [List.getElem?_map] at hx
         cases hq : (l.mergeSort λx y=>decide (x≤y))[i]? with
         | none=>rw [hq] at hx;cases hx
         | some n=>rw [hq] at hx;cases hx;exact .int _ _)
       rw [hml] at key
       exact key
end
noncomputable section
open Go
theorem aOV {α : Type} {n : Nat} : ∀ {l : List (Nat × α)} {a : α},lk n l=some a→∃ p∈l,p.2=a
 | [],a,h=>by simp [lk] at h
 | (m,b)::r,a,h=>by
   unfold lk at h
   split at h
   ·cases h;exact ⟨_,List.mem_cons_self,rfl⟩
   ·obtain ⟨p,h1,h2⟩:=aOV h
    exact ⟨p,List.mem_cons_of_mem _ h1,h2⟩
theorem aMl {α : Type} {n : Nat} : ∀ {l : List (Nat × α)} {a : α},lk n l=some a→(n,a)∈l
 | [],a,h=>by simp [lk] at h
 | (m,b)::r,a,h=>by
   unfold lk at h
   split at h
   ·rename_i hb
    cases h
    rw [bR hb]
    exact List.mem_cons_self
   ·exact List.mem_cons_of_mem _ (aMl h)
theorem aFH {g : Nat} (h : ((Tryz.prog.funcs[g]?).bind (·.body)).isSome=true) : mJ Tryz.prog g:=by
 cases hf : Tryz.prog.funcs[g]? with
 | none=>rw [hf] at h;cases h
 | some fn=>
   rw [hf] at h
   cases hb : fn.body with
   | none=>simp [hb] at h
   | some c=>
     have hc:=aM3
     rw [List.all_eq_true] at hc
     have:=hc fn (by rw [← Array.getElem?_toList] at hf;exact List.mem_of_getElem? hf)
     rw [hb] at this
     simp only [Bool.and_eq_true,bne_iff_ne,ne_eq] at this
     exact ⟨fn,c,hf,hb,this.2⟩
set_option maxRecDepth 100000 in
theorem aQU : aEM Tryz.prog λg args=>(mG.prim g).bind λp=>p args:=by
 intro g args r h
 have h : ((mG.prim g).bind λp=>p args)=some r:=h
 cases hp : mG.prim g with
 | none=>rw [hp] at h;cases h
 | some p=>
   rw [hp] at h
   have h : p args=some r:=h
   have hm:=aMl (show lk g aJi=some p from hp)
   simp only [aJi,List.mem_cons,List.not_mem_nil,or_false,Prod.mk.injEq] at hm
   obtain ⟨rfl,rfl⟩:=hm
   exact ⟨aFH (by kernel_rfl),λw Z aS hz hl hr=>aH8 h (λr hr=>hz r hr) hl hr⟩
set_option maxRecDepth 100000 in
theorem aRm : (Tryz.prog.info? (Tryz.lays8n4_ren.t 25)).map (λi=>(i.size,i.bytes,i.zero.map (·.cells.size)))=some (3,32,some 3):=by kernel_rfl
set_option maxRecDepth 100000 in
theorem aPY : ∀ g h,mG.primS g=some h→∀ t args s l,mG.mode g=some t→h args s=some l→mJ Tryz.prog g∧∀ (m : bA) (aS : Array Value),iE m s s.base→args.length=aS.size→
 (∀ (i : Nat) d v,args[i]? = some d→aS[i]? = some v→m.rd d v)→Calls Tryz.prog g aS m.w (λe w'=>∃ v,e = .returned v∧uY m s.boxes.length (if t.keep then s.lists.length else 0) (some (t.fit s)) l v w'):=by
 intro g h hp t args s l ht h
 have hm:=aMl (show lk g aGq=some _ from hp)
 simp only [aGq,List.mem_cons,List.not_mem_nil,or_false,Prod.mk.injEq] at hm
 obtain ⟨rfl,rfl⟩:=hm
 refine ⟨aFH (by kernel_rfl),λm aS hf hl hr=>?_⟩
 have htt : mG.mode 188=some ⟨false,false,.ref 0 [],[],[some ⟨.own 3 32 true [],.int .i64 0⟩],true⟩:=by kernel_rfl
 rw [htt] at ht
 cases ht
 have tg:=aRm
 cases hi : Tryz.prog.info? (Tryz.lays8n4_ren.t 25) with
 | none=>rw [hi] at tg;cases tg
 | some i0=>
   rw [hi] at tg
   simp only [Option.map_some,Option.some.injEq,Prod.mk.injEq] at tg
   cases hz : i0.zero with
   | none=>rw [hz] at tg;cases tg.2.2
   | some z=>
     rw [hz] at tg
     simp only [Option.map_some,Option.some.injEq] at tg
     have hb : s.boxes.length=0:=by
      have : ∀ a,uS 32 args s=some a→s.boxes = []:=λa h=>by
       unfold uS at h
       split at h
       ·assumption
       ·cases h
      rw [this _ h];rfl
     rw [hb]
     exact aKW Tryz.lays8n4 hi hz (by omega) (by omega) tg.2.1 h hf hl hr (g:=true) (eb:=32) (t:=⟨false,false,.ref 0 [],[],[some ⟨.own 3 32 true [],.int .i64 0⟩],true⟩) ⟨rfl,rfl,by rw [tg.1]⟩
theorem aM4 : ∀ (l : List Nat),(l.map λt=>(Tryz.prog.info? t).bind (·.zero))=(l.map λt=>some (zeroVal T t))→∀ t,mem t l=true→(Tryz.prog.info? t).bind (·.zero)=some (zeroVal T t)
 | [],_,t,h=>by simp [mem] at h
 | x::r,h,t,hm=>by
   simp only [List.map_cons,List.cons.injEq] at h
   unfold mem at hm
   split at hm
   ·rename_i hx
    rw [bR hx];exact h.1
   ·exact aM4 r h.2 t hm
theorem hyp : Hyp Tryz.prog T mG where
 tab:=aQA.symm
 zero:=λt h=>by
  rw [aQA]
  exact aM4 aPP aRh t h
 mixed:=aPW
 code:=λf fn c hf hc=>by
  have h:=aM3
  rw [List.all_eq_true] at h
  have:=h fn (by rw [← Array.getElem?_toList] at hf;exact List.mem_of_getElem? hf)
  rw [hc] at this
  simp only [Bool.and_eq_true,bne_iff_ne,ne_eq] at this
  exact this
 prim:=aQU
 primS:=aPY
 glob:=λ_=>rfl
 wf:=λg t h=>by
  obtain ⟨p,hp,rfl⟩:=aOV h
  have:=aRl
  rw [List.all_eq_true] at this
  exact this p hp
variable (a b c d e f g h i j k l m n o q r s t u v w x y z A B C D E F G H I J K L M N : PV)
def gX (f b l t : Nat) (e : Env) (s : St) : OR:=aQT f b l (mG.mode f) (todoOf Tryz.prog f t) e s
def yQ : OR:=aZ 6 [a]
def aHb : OR:=aZ 7 [a]
def wM : OR:=aZ 27 [a,b]
def qJ : OR:=gX 27 0 0 4 [(2,.ptr 0 0),(3,.ptr 1 0),(5,.p a)] ⟨[(0,some [.p b,.p c,.p d,.p e,.p f,.p g,.p h,.p i,.p j,.p k]),(1,some [.p l,.p m,.p n,.p o,.p q,.p r,.p s,.p t,.p u,.p v])],[],0,0,2⟩
def nH : OR:=gX 27 0 0 9 [(2,.ptr 0 0),(3,.ptr 1 0),(6,.p a)] ⟨[(0,some [.p b,.p c,.p d,.p e,.p f,.p g,.p h,.p i,.p j,.p k]),(1,some [.p l,.p m,.p n,.p o,.p q,.p r,.p s,.p t,.p u,.p v])],[],0,0,2⟩
def rU : OR:=aZ 29 [a,b]
def nT : OR:=aZ 30 [a,b]
def aCY : OR:=aZ 31 [a,b,c]
def rV : OR:=aZ 32 [a]
def vC : OR:=aZ 64 [a,b]
def mX : OR:=gX 64 0 0 4 [(0,.p a),(1,.p b),(5,.p c)] ⟨[],[],0,0,0⟩
def mK : OR:=aZ 65 [a,b]
def lY : OR:=gX 65 0 0 4 [(0,.p a),(1,.p b),(5,.p c)] ⟨[],[],0,0,0⟩
def qK : OR:=aZ 67 [a]
def aDQ : OR:=aZ 68 [a,b]
def jV : OR:=gX 68 0 0 5 [(2,.ptr 0 0),(3,.ptr 1 0),(5,.p a),(6,.p b)] ⟨[(0,some [.p c,.p d]),(1,some [.p e,.p f,.p g,.p h,.p i,.p j,.p k,.p l,.p m,.p n])],[],0,0,2⟩
def fL : OR:=gX 68 0 0 10 [(2,.ptr 0 0),(3,.ptr 1 0),(5,.p a),(7,.p b)] ⟨[(0,some [.p c,.p d]),(1,some [.p e,.p f,.p g,.p h,.p i,.p j,.p k,.p l,.p m,.p n])],[],0,0,2⟩
def bO : OR:=gX 68 0 0 21 [(2,.ptr 0 0),(3,.ptr 1 0),(5,.p a),(8,.p b)] ⟨[(0,some [.p c,.p d]),(1,some [.p e,.p f,.p g,.p h,.p i,.p j,.p k,.p l,.p m,.p n])],[],0,0,2⟩
def aA9 : OR:=aZ 60 [a]
def zP : OR:=aZ 70 [a]
def mL : OR:=gX 70 0 0 3 [(1,.ptr 0 0),(3,.ref 0 []),(8,.p a),(9,.p b)] ⟨[(0,some [.p c,.p d])],[(0,some ⟨(.own 1 24 false []),e⟩)],0,0,2⟩
def aIN : OR:=aZ 69 [a,b,c]
def kC : OR:=gX 69 0 0 8 [(1,.p a),(3,.ptr 0 0),(5,.ptr 1 0),(7,.ptr 2 0),(43,.p b),(44,.p c),(45,.p d)] ⟨[(0,some [.p e,.p f]),(1,some [.p g,.p h,.p i,.p j,.p k,.p l,.p m,.p n,.p o,.p q]),(2,some [.p r])],[],0,0,3⟩
def aBa : OR:=aZ 71 [a,b]
def aBb : OR:=aZ 113 [a]
def nI : OR:=gX 113 0 0 4 [(1,.ptr 0 0),(2,.ptr 1 0),(3,.p a)] ⟨[(0,some [.p b,.p c]),(1,some [.p d,.p e,.p f])],[],0,0,2⟩
def lJ : OR:=gX 113 0 0 9 [(1,.ptr 0 0),(2,.ptr 1 0),(3,.p a),(4,.p b),(5,.p c),(6,.p d)] ⟨[(0,some [.p e,.p f]),(1,some [.p g,.p h,.p i])],[],0,0,2⟩
def mN : OR:=gX 113 0 0 18 [(1,.ptr 0 0),(2,.ptr 1 0),(3,.p a),(4,.p b),(5,.p c),(6,.p d),(9,.p e),(10,.p f),(11,.p g)] ⟨[(0,some [.p h,.p i]),(1,some [.p j,.p k,.p l])],[],0,0,2⟩
def jW : OR:=gX 113 0 0 23 [(1,.ptr 0 0),(2,.ptr 1 0),(3,.p a),(4,.p b),(5,.p c),(6,.p d),(9,.p e),(10,.p f),(12,.p g)] ⟨[(0,some [.p h,.p i]),(1,some [.p j,.p k,.p l])],[],0,0,2⟩
def aM : OR:=aZ 82 [a,b,c]
def vD : OR:=aZ 114 [a,b,c]
def lK : OR:=aZ 115 [a,b,c]
def kD : OR:=gX 115 0 0 2 [(1,.p a),(2,.p b),(3,.ptr 0 0),(7,.p c)] ⟨[(0,some [.p d,.p e])],[],0,0,1⟩
def nU : OR:=aZ 116 [a]
def pE : OR:=gX 116 0 0 4 [(0,.p a),(3,.p b)] ⟨[],[],0,0,0⟩
def pF : OR:=aZ 117 [a,b,c,d]
def aBc : OR:=aZ 109 [a]
def nJ : OR:=gX 109 0 0 4 [(1,.ptr 0 0),(2,.ptr 1 0),(16,.p a),(17,.p b)] ⟨[(0,some [.p c,.p d]),(1,some [.p e,.p f,.p g])],[],0,0,2⟩
def nK : OR:=gX 109 0 0 8 [(1,.ptr 0 0),(2,.ptr 1 0),(3,.p a),(4,.ptr 2 0),(16,.p b),(17,.p c),(28,.p d),(29,.p e),(30,.p f)] ⟨[(0,some [.p g,.p h]),(1,some [.p i,.p j,.p k]),(2,some [.p l])],[],0,0,3⟩
def wN : OR:=aZ 49 [a,b]
def nL : OR:=gX 49 0 0 5 [(2,.ptr 0 0),(5,.p a),(6,.ref 0 []),(7,.p b)] ⟨[(0,some [.p c,.p d])],[(0,some ⟨(.own 1 8 false []),e⟩)],0,0,2⟩
def jD : OR:=gX 49 0 0 8 [(2,.ptr 0 0),(5,.p a),(6,.ref 0 []),(7,.p b),(27,.p c),(28,.p d),(29,.p e)] ⟨[(0,some [.p f,.p g])],[(0,some ⟨(.own 1 8 false []),h⟩)],0,0,2⟩
def gB : OR:=gX 49 0 0 13 [(2,.ptr 0 0),(5,.p a),(6,.ref 0 []),(7,.p b),(10,.p c),(11,.p d),(27,.p e),(28,.p f),(29,.p g),(51,.p h),(52,.p i),(53,.p j)] ⟨[(0,some [.p k,.p l])],[(0,some ⟨(.own 1 8 false []),m⟩)],0,0,2⟩
def aAr : OR:=gX 49 0 0 16 [(2,.ptr 0 0),(5,.p a),(6,.ref 0 []),(10,.p b),(11,.p c),(13,.p d),(27,.p e),(28,.p f),(29,.p g),(51,.p h),(52,.p i),(53,.p j)] ⟨[(0,some [.p k,.p l])],[(0,some ⟨(.own 1 8 false []),m⟩)],0,0,2⟩
def wO : OR:=aZ 118 [a]
def cL : OR:=aZ 85 [a,b,c]
def dX : OR:=aZ 86 [a,b]
def aBd : OR:=aZ 119 [a]
def tY : OR:=aZ 123 [a,b,c,d,e,f,g]
def cE : OR:=aZ 124 [a,b,c]
def bL : OR:=gX 124 0 0 4 [(1,.p a),(2,.p b),(15,.p c),(16,.p d),(17,.p e)] ⟨[],[],0,0,0⟩
def aBe : OR:=aZ 125 [a,b]
def cO : OR:=aZ 126 [a,b,c]
def bU : OR:=gX 126 0 0 4 [(1,.p a),(2,.p b),(15,.p c),(16,.p d),(17,.p e)] ⟨[],[],0,0,0⟩
def aDR : OR:=aZ 127 [a,b]
def jE : OR:=aZ 128 [a,b]
def eX : OR:=gX 128 0 0 4 [(0,.p a),(1,.p b),(12,.p c),(13,.p d)] ⟨[],[],0,0,0⟩
def xO : OR:=aZ 161 [a]
def nV : OR:=gX 161 0 0 4 [(1,.ptr 0 0),(3,.p a)] ⟨[(0,some [.p b,.p c])],[],0,0,1⟩
def lL : OR:=gX 161 0 0 9 [(1,.ptr 0 0),(4,.p a)] ⟨[(0,some [.p b,.p c])],[],0,0,1⟩
def mY : OR:=gX 161 0 0 15 [(1,.ptr 0 0),(4,.p a),(5,.ptr 1 0),(6,.p b)] ⟨[(0,some [.p c,.p d]),(1,some [.p e,.p f,.p g])],[],0,0,2⟩
def lM : OR:=aZ 83 [a,b]
def mZ : OR:=gX 83 0 0 4 [(2,.ptr 0 0),(5,.p a),(6,.ref 0 []),(7,.p b)] ⟨[(0,some [.p c,.p d])],[(0,some ⟨(.own 1 8 false []),e⟩)],0,0,2⟩
def kE : OR:=gX 83 0 0 9 [(2,.ptr 0 0),(5,.p a),(6,.ref 0 []),(8,.p b)] ⟨[(0,some [.p c,.p d])],[(0,some ⟨(.own 1 8 false []),e⟩)],0,0,2⟩
def eI : OR:=gX 83 0 0 12 [(2,.ptr 0 0),(5,.p a),(6,.ref 0 []),(8,.p b),(9,.p c)] ⟨[(0,some [.p d,.p e])],[(0,some ⟨(.own 1 8 false []),f⟩)],0,0,2⟩
def fJ : OR:=gX 83 0 0 19 [(2,.ptr 0 0),(5,.p a),(6,.ref 0 []),(8,.p b),(9,.p c),(12,.p d),(13,.p e),(14,.p f)] ⟨[(0,some [.p g,.p h])],[(0,some ⟨(.own 1 8 false []),i⟩)],0,0,2⟩
def vE : OR:=gX 83 0 0 22 [(2,.ptr 0 0),(5,.p a),(6,.ref 0 []),(9,.p b),(12,.p c),(13,.p d),(14,.p e)] ⟨[(0,some [.p f,.p g])],[(0,some ⟨(.own 1 8 false []),h⟩)],0,0,2⟩
def wP : OR:=aZ 141 [a,b]
def tZ : OR:=aZ 142 [a,b]
def aAs : OR:=gX 142 0 0 3 [(1,.p a),(2,.ptr 0 0),(5,.ref 0 [])] ⟨[(0,some [.p b,.p c])],[(0,some ⟨(.own 1 8 false []),d⟩)],0,0,2⟩
def pG : OR:=gX 142 0 0 4 [(2,.ptr 0 0),(5,.ref 0 [])] ⟨[(0,some [.p a,.p b])],[(0,some ⟨(.own 1 8 false []),c⟩)],0,0,2⟩
def pH : OR:=gX 142 0 0 5 [(2,.ptr 0 0),(5,.ref 0 [])] ⟨[(0,some [.p a,.p b])],[(0,some ⟨(.own 1 8 false []),c⟩)],0,0,2⟩
def iU : OR:=aZ 162 [a]
def xP : OR:=aZ 47 [a]
def nW : OR:=gX 47 0 0 4 [(1,.ptr 0 0),(22,.p a),(23,.p b),(24,.p c)] ⟨[(0,some [.p d,.p e])],[],0,0,1⟩
def wQ : OR:=aZ 93 [a,b,c]
def uA : OR:=aZ 94 [a,b]
def fM : OR:=aZ 137 [a,b]
def iQ : OR:=aZ 159 [a,b]
def aCD : OR:=aZ 160 [a,b,c]
def gY : OR:=aZ 163 [a,b]
def xQ : OR:=aZ 164 [a]
def lN : OR:=aZ 143 [a,b]
def dY : OR:=gX 143 0 0 2 [(0,.p a),(1,.p b),(7,.p c),(8,.p d)] ⟨[],[],0,0,0⟩
def pX : OR:=aZ 88 [a]
def qL : OR:=gX 88 0 0 2 [(0,.p a),(5,.p b),(6,.p c)] ⟨[],[],0,0,0⟩
def dB : OR:=aZ 48 [a,b]
def cU : OR:=aZ 166 [a,b]
def dG : OR:=gX 166 0 0 4 [(0,.p a),(1,.p b),(12,.p c),(13,.p d)] ⟨[],[],0,0,0⟩
def aCZ : OR:=aZ 186 [a,b,c]
def aAt : OR:=aZ 87 [a]
def eS : OR:=aZ 89 [a,b]
def aAu : OR:=aZ 90 [a,b,c]
def aBf : OR:=aZ 147 [a,b]
def pI : OR:=gX 147 0 0 24 [(2,.ptr 0 0),(3,.ptr 1 0)] ⟨[(0,some [.p a,.p b]),(1,some [.p c,.p d])],[],0,0,2⟩
def aAv : OR:=gX 147 0 0 25 [(2,.ptr 0 0),(3,.ptr 1 0)] ⟨[(0,some [.p a,.p b]),(1,some [.p c,.p d])],[],0,0,2⟩
def fN : OR:=aZ 130 [a,b]
def fO : OR:=gX 130 0 0 2 [(0,.p a),(1,.p b),(7,.p c),(8,.p d)] ⟨[],[],0,0,0⟩
def oU : OR:=aZ 185 [a,b]
def fP : OR:=gX 185 0 0 2 [(0,.p a),(1,.p b),(7,.p c),(8,.p d)] ⟨[],[],0,0,0⟩
def jF : OR:=aZ 187 [a,b]
def bP : OR:=gX 187 0 0 2 [(0,.p a),(1,.p b),(7,.p c),(8,.p d)] ⟨[],[],0,0,0⟩
def jG : OR:=aZ 144 [a,b]
def dH : OR:=gX 144 0 0 2 [(0,.p a),(1,.p b),(7,.p c),(8,.p d)] ⟨[],[],0,0,0⟩
def aC0 : OR:=aZ 91 [a,b,c]
def vF : OR:=aZ 145 [a]
def aC1 : OR:=cC 26 [.p a,.p b] ⟨[],[],0,0,0⟩
def aQV : OR:=cC 28 [.p a,.p b] ⟨[],[],0,0,0⟩
def uB : OR:=cC 33 [.p a,.p b] ⟨[],[],0,0,0⟩
def nX : OR:=aZ 75 [a]
def kX : OR:=gX 75 0 0 4 [(1,.ptr 0 0),(3,.ptr 1 0),(4,.fn 136 [.ptr 1 0]),(11,.p a),(12,.p b),(13,.p c)] ⟨[(0,some [.p d,.p e,.p f,.p g,.p h,.p i,.p j,.p k,.p l,.p m]),(1,some [.ref 0 []])],[(0,some ⟨(.own 1 8 false []),n⟩)],0,0,3⟩
def kF : OR:=gX 75 0 0 11 [(1,.ptr 0 0),(3,.ptr 1 0),(4,.fn 136 [.ptr 1 0]),(7,.p a)] ⟨[(0,some [.p b,.p c,.p d,.p e,.p f,.p g,.p h,.p i,.p j,.p k]),(1,some [.ref 0 []])],[(0,some ⟨(.own 1 8 false []),l⟩)],0,0,3⟩
def rE : OR:=aZ 74 [a]
def qM : OR:=aZ 73 [a]
def zQ : OR:=cC 34 [.p a,.p b] ⟨[],[],0,0,0⟩
def mO : OR:=gX 34 0 0 5 [(3,.ptr 0 0),(4,.ptr 1 0),(5,.ptr 2 0),(6,.p a)] ⟨[(0,some [.p b,.p c,.p d,.p e,.p f,.p g,.p h,.p i,.p j,.p k]),(1,some [.ref 0 [],.ref 1 [],.p l,.ref 2 [],.p m,.p n,.p o,.p q,.p r,.p s]),(2,some [.p t,.ref 3 [],.ref 4 []])],[(0,some ⟨(.own 4 64 true [.leaf,.leaf,(.own 3 32 true []),(.own 3 32 true [])]),u⟩),(1,some ⟨(.own 1 24 true [(.own 3 32 true [])]),v⟩),(2,some ⟨(.own 1 16 false []),w⟩),(3,some ⟨(.own 1 8 false []),x⟩),(4,some ⟨(.own 1 8 false []),y⟩)],0,0,8⟩
def mP : OR:=gX 34 0 0 9 [(3,.ptr 0 0),(4,.ptr 1 0),(5,.ptr 2 0),(7,.p a)] ⟨[(0,some [.p b,.p c,.p d,.p e,.p f,.p g,.p h,.p i,.p j,.p k]),(1,some [.ref 0 [],.ref 1 [],.p l,.ref 2 [],.p m,.p n,.p o,.p q,.p r,.p s]),(2,some [.p t,.ref 3 [],.ref 4 []])],[(0,some ⟨(.own 4 64 true [.leaf,.leaf,(.own 3 32 true []),(.own 3 32 true [])]),u⟩),(1,some ⟨(.own 1 24 true [(.own 3 32 true [])]),v⟩),(2,some ⟨(.own 1 16 false []),w⟩),(3,some ⟨(.own 1 8 false []),x⟩),(4,some ⟨(.own 1 8 false []),y⟩)],0,0,8⟩
def nY : OR:=gX 34 0 0 15 [(3,.ptr 0 0),(4,.ptr 1 0),(5,.ptr 2 0),(8,.p a)] ⟨[(0,some [.p b,.p c,.p d,.p e,.p f,.p g,.p h,.p i,.p j,.p k]),(1,some [.ref 0 [],.ref 1 [],.p l,.ref 2 [],.p m,.p n,.p o,.p q,.p r,.p s]),(2,some [.p t,.ref 3 [],.ref 4 []])],[(0,some ⟨(.own 4 64 true [.leaf,.leaf,(.own 3 32 true []),(.own 3 32 true [])]),u⟩),(1,some ⟨(.own 1 24 true [(.own 3 32 true [])]),v⟩),(2,some ⟨(.own 1 16 false []),w⟩),(3,some ⟨(.own 1 8 false []),x⟩),(4,some ⟨(.own 1 8 false []),y⟩)],0,0,8⟩
def iY : OR:=gX 34 0 0 21 [(3,.ptr 0 0),(4,.ptr 1 0),(5,.ptr 2 0),(9,.ptr 3 0),(10,.p a),(11,.p b)] ⟨[(0,some [.p c,.p d,.p e,.p f,.p g,.p h,.p i,.p j,.p k,.p l]),(1,some [.ref 0 [],.ref 1 [],.p m,.ref 2 [],.p n,.p o,.p q,.p r,.p s,.p t]),(2,some [.p u,.ref 3 [],.ref 4 []]),(3,some [.p v,.ref 5 [],.ref 6 []])],[(0,some ⟨(.own 4 64 true [.leaf,.leaf,(.own 3 32 true []),(.own 3 32 true [])]),w⟩),(1,some ⟨(.own 1 24 true [(.own 3 32 true [])]),x⟩),(2,some ⟨(.own 1 16 false []),y⟩),(3,some ⟨(.own 1 8 false []),z⟩),(4,some ⟨(.own 1 8 false []),A⟩),(5,some ⟨(.own 1 8 false []),B⟩),(6,some ⟨(.own 1 8 false []),C⟩)],0,0,11⟩
def iZ : OR:=gX 34 0 0 29 [(3,.ptr 0 0),(4,.ptr 1 0),(5,.ptr 2 0),(9,.ptr 3 0),(12,.ptr 4 0),(13,.p a)] ⟨[(0,some [.p b,.p c,.p d,.p e,.p f,.p g,.p h,.p i,.p j,.p k]),(1,some [.ref 0 [],.ref 1 [],.p l,.ref 2 [],.p m,.p n,.p o,.p q,.p r,.p s]),(2,some [.p t,.ref 3 [],.ref 4 []]),(3,some [.p u,.ref 5 [],.ref 6 []]),(4,some [.ref 7 [],.ref 8 [],.p v,.ref 9 [],.p w,.p x,.p y,.p z,.p A,.p B])],[(0,some ⟨(.own 4 64 true [.leaf,.leaf,(.own 3 32 true []),(.own 3 32 true [])]),C⟩),(1,some ⟨(.own 1 24 true [(.own 3 32 true [])]),D⟩),(2,some ⟨(.own 1 16 false []),E⟩),(3,some ⟨(.own 1 8 false []),F⟩),(4,some ⟨(.own 1 8 false []),G⟩),(5,some ⟨(.own 1 8 false []),H⟩),(6,some ⟨(.own 1 8 false []),I⟩),(7,some ⟨(.own 4 64 true [.leaf,.leaf,(.own 3 32 true []),(.own 3 32 true [])]),J⟩),(8,some ⟨(.own 1 24 true [(.own 3 32 true [])]),K⟩),(9,some ⟨(.own 1 16 false []),L⟩)],0,0,15⟩
def lO : OR:=gX 34 0 0 34 [(3,.ptr 0 0),(4,.ptr 1 0),(9,.ptr 2 0),(12,.ptr 3 0),(14,.p a)] ⟨[(0,some [.p b,.p c,.p d,.p e,.p f,.p g,.p h,.p i,.p j,.p k]),(1,some [.ref 0 [],.ref 1 [],.p l,.ref 2 [],.p m,.p n,.p o,.p q,.p r,.p s]),(2,some [.p t,.ref 3 [],.ref 4 []]),(3,some [.ref 5 [],.ref 6 [],.p u,.ref 7 [],.p v,.p w,.p x,.p y,.p z,.p A])],[(0,some ⟨(.own 4 64 true [.leaf,.leaf,(.own 3 32 true []),(.own 3 32 true [])]),B⟩),(1,some ⟨(.own 1 24 true [(.own 3 32 true [])]),C⟩),(2,some ⟨(.own 1 16 false []),D⟩),(3,some ⟨(.own 1 8 false []),E⟩),(4,some ⟨(.own 1 8 false []),F⟩),(5,some ⟨(.own 4 64 true [.leaf,.leaf,(.own 3 32 true []),(.own 3 32 true [])]),G⟩),(6,some ⟨(.own 1 24 true [(.own 3 32 true [])]),H⟩),(7,some ⟨(.own 1 16 false []),I⟩)],0,0,12⟩
def zR : OR:=cC 35 [.p a] ⟨[],[],0,0,0⟩
def rW : OR:=cC 50 [.ptr 0 0] ⟨[(0,some [.p a,.p b,.p c])],[],0,0,1⟩
def vG : OR:=cC 61 [.ptr 0 0,.agg [.p a,.p b],.p c] ⟨[(0,some [.p d,.p e,.p f])],[],0,0,1⟩
def wR : OR:=gX 61 1 0 6 [(0,.ptr 0 0),(6,.ptr 1 0),(7,.ptr 2 0)] ⟨[(0,some [.p a,.p b,.p c]),(1,some [.ref 0 [],.ref 1 [],.p d,.ref 2 [],.p e,.p f,.p g,.p h,.p i,.p j]),(2,some [.ref 3 [],.ref 4 [],.p k,.ref 5 [],.p l,.p m,.p n,.p o,.p q,.p r])],[(0,some ⟨(.own 4 64 true [.leaf,.leaf,(.own 3 32 true []),(.own 3 32 true [])]),s⟩),(1,some ⟨(.own 1 24 true [(.own 3 32 true [])]),t⟩),(2,some ⟨(.own 1 16 false []),u⟩),(3,some ⟨(.own 4 64 true [.leaf,.leaf,(.own 3 32 true []),(.own 3 32 true [])]),v⟩),(4,some ⟨(.own 1 24 true [(.own 3 32 true [])]),w⟩),(5,some ⟨(.own 1 16 false []),x⟩)],0,0,9⟩
def tH : OR:=cC 62 [.ptr 0 0,.agg [.p a,.p b,.p c,.p d,.p e,.p f,.p g,.p h,.p i,.p j]] ⟨[(0,some [.p k,.p l,.p m])],[],0,0,1⟩
def gL : OR:=gX 62 1 0 8 [(3,.ptr 1 0),(4,.ptr 2 0),(5,.p a),(6,.p b),(7,.ptr 3 0),(8,.ptr 4 0),(9,.p c)] ⟨[(0,some [.p d,.p e,.p f]),(1,some [.p g,.p h,.p i,.p j,.p k,.p l,.p m,.p n,.p o,.p q]),(2,some [.ref 0 [],.ref 1 [],.p r,.ref 2 [],.p s,.p t,.p u,.p v,.p w,.p x]),(3,some [.ref 3 [],.ref 4 [],.p y,.ref 5 [],.p z,.p A,.p B,.p C,.p D,.p E]),(4,some [.p F,.ref 6 [],.ref 7 []])],[(0,some ⟨(.own 4 64 true [.leaf,.leaf,(.own 3 32 true []),(.own 3 32 true [])]),G⟩),(1,some ⟨(.own 1 24 true [(.own 3 32 true [])]),H⟩),(2,some ⟨(.own 1 16 false []),I⟩),(3,some ⟨(.own 4 64 true [.leaf,.leaf,(.own 3 32 true []),(.own 3 32 true [])]),J⟩),(4,some ⟨(.own 1 24 true [(.own 3 32 true [])]),K⟩),(5,some ⟨(.own 1 16 false []),L⟩),(6,some ⟨(.own 1 8 false []),M⟩),(7,some ⟨(.own 1 8 false []),N⟩)],0,0,13⟩
def eV : OR:=gX 62 1 0 12 [(3,.ptr 1 0),(4,.ptr 2 0),(5,.p a),(6,.p b),(7,.ptr 3 0),(8,.ptr 4 0),(10,.p c)] ⟨[(0,some [.p d,.p e,.p f]),(1,some [.p g,.p h,.p i,.p j,.p k,.p l,.p m,.p n,.p o,.p q]),(2,some [.ref 0 [],.ref 1 [],.p r,.ref 2 [],.p s,.p t,.p u,.p v,.p w,.p x]),(3,some [.ref 3 [],.ref 4 [],.p y,.ref 5 [],.p z,.p A,.p B,.p C,.p D,.p E]),(4,some [.p F,.ref 6 [],.ref 7 []])],[(0,some ⟨(.own 4 64 true [.leaf,.leaf,(.own 3 32 true []),(.own 3 32 true [])]),G⟩),(1,some ⟨(.own 1 24 true [(.own 3 32 true [])]),H⟩),(2,some ⟨(.own 1 16 false []),I⟩),(3,some ⟨(.own 4 64 true [.leaf,.leaf,(.own 3 32 true []),(.own 3 32 true [])]),J⟩),(4,some ⟨(.own 1 24 true [(.own 3 32 true [])]),K⟩),(5,some ⟨(.own 1 16 false []),L⟩),(6,some ⟨(.own 1 8 false []),M⟩),(7,some ⟨(.own 1 8 false []),N⟩)],0,0,13⟩
def iJ : OR:=gX 62 1 0 16 [(3,.ptr 1 0),(4,.ptr 2 0),(7,.ptr 3 0),(8,.ptr 4 0),(11,.p a)] ⟨[(0,some [.p b,.p c,.p d]),(1,some [.p e,.p f,.p g,.p h,.p i,.p j,.p k,.p l,.p m,.p n]),(2,some [.ref 0 [],.ref 1 [],.p o,.ref 2 [],.p q,.p r,.p s,.p t,.p u,.p v]),(3,some [.ref 3 [],.ref 4 [],.p w,.ref 5 [],.p x,.p y,.p z,.p A,.p B,.p C]),(4,some [.p D,.ref 6 [],.ref 7 []])],[(0,some ⟨(.own 4 64 true [.leaf,.leaf,(.own 3 32 true []),(.own 3 32 true [])]),E⟩),(1,some ⟨(.own 1 24 true [(.own 3 32 true [])]),F⟩),(2,some ⟨(.own 1 16 false []),G⟩),(3,some ⟨(.own 4 64 true [.leaf,.leaf,(.own 3 32 true []),(.own 3 32 true [])]),H⟩),(4,some ⟨(.own 1 24 true [(.own 3 32 true [])]),I⟩),(5,some ⟨(.own 1 16 false []),J⟩),(6,some ⟨(.own 1 8 false []),K⟩),(7,some ⟨(.own 1 8 false []),L⟩)],0,0,13⟩
def vH : OR:=cC 63 [.p a] ⟨[],[],0,0,0⟩
def qN : OR:=cC 120 [.agg [.p a,.p b,.p c,.p d,.p e,.p f,.p g,.p h,.p i,.p j],.fn 121 [.ptr 0 0,.ptr 1 0,.ptr 2 0]] ⟨[(0,some [.p k]),(1,some [.p l,.p m]),(2,some [.p n,.p o,.p q,.p r,.p s,.p t,.p u,.p v,.p w,.p x])],[],0,0,3⟩
def fW : OR:=gX 120 3 0 2 [(1,.fn 121 [.ptr 0 0,.ptr 1 0,.ptr 2 0]),(2,.ptr 3 0),(13,.p a),(14,.p b),(15,.p c)] ⟨[(0,some [.p d]),(1,some [.p e,.p f]),(2,some [.p g,.p h,.p i,.p j,.p k,.p l,.p m,.p n,.p o,.p q]),(3,some [.p r,.p s,.p t,.p u,.p v,.p w,.p x,.p y,.p z,.p A])],[],0,0,4⟩
def fX : OR:=gX 120 3 0 5 [(1,.fn 121 [.ptr 0 0,.ptr 1 0,.ptr 2 0]),(2,.ptr 3 0),(13,.p a),(14,.p b),(15,.p c),(24,.ref 0 []),(25,.p d),(26,.p e)] ⟨[(0,some [.p f]),(1,some [.p g,.p h]),(2,some [.p i,.p j,.p k,.p l,.p m,.p n,.p o,.p q,.p r,.p s]),(3,some [.p t,.p u,.p v,.p w,.p x,.p y,.p z,.p A,.p B,.p C])],[(0,some ⟨(.own 3 32 true []),D⟩)],0,0,5⟩
def dS : OR:=gX 120 3 0 11 [(1,.fn 121 [.ptr 0 0,.ptr 1 0,.ptr 2 0]),(2,.ptr 3 0),(36,.p a),(37,.p b),(38,.p c)] ⟨[(0,some [.p d]),(1,some [.p e,.p f]),(2,some [.p g,.p h,.p i,.p j,.p k,.p l,.p m,.p n,.p o,.p q]),(3,some [.p r,.p s,.p t,.p u,.p v,.p w,.p x,.p y,.p z,.p A])],[],0,0,4⟩
def fK : OR:=gX 120 3 0 14 [(1,.fn 121 [.ptr 0 0,.ptr 1 0,.ptr 2 0]),(2,.ptr 3 0),(36,.p a),(37,.p b),(38,.p c),(43,.p d),(44,.p e),(45,.p f)] ⟨[(0,some [.p g]),(1,some [.p h,.p i]),(2,some [.p j,.p k,.p l,.p m,.p n,.p o,.p q,.p r,.p s,.p t]),(3,some [.p u,.p v,.p w,.p x,.p y,.p z,.p A,.p B,.p C,.p D])],[],0,0,4⟩
def mT : OR:=cC 92 [.p a,.p b] ⟨[],[],0,0,0⟩
def oV : OR:=gX 92 0 0 3 [(0,.p a),(1,.p b)] ⟨[],[],0,0,0⟩
def oW : OR:=gX 92 0 0 6 [(0,.p a),(6,.p b)] ⟨[],[],0,0,0⟩
def gP : OR:=gX 92 0 0 8 [(7,.ref 0 []),(8,.p a)] ⟨[],[(0,some ⟨(.own 1 8 false []),b⟩)],0,0,1⟩
def aCE : OR:=aZ 146 [a,b]
def aAw : OR:=aZ 174 [a,b]
def aPM : OR:=cC 66 [.p a] ⟨[],[],0,0,0⟩
def pJ : OR:=cC 72 [.p a,.p b] ⟨[],[],0,0,0⟩
def lZ : OR:=gX 72 0 0 5 [(2,.ptr 0 0),(4,.ptr 1 0),(5,.fn 129 [.ptr 2 0]),(6,.ptr 3 0),(18,.p a),(19,.p b),(20,.p c)] ⟨[(0,some [.p d,.p e,.p f,.p g,.p h,.p i,.p j,.p k,.p l,.p m]),(1,some [.ref 0 [],.ref 1 [],.p n,.ref 2 [],.p o,.p q,.p r,.p s,.p t,.p u]),(2,some [.p v]),(3,some [.ref 3 [],.ref 4 [],.p w,.ref 5 [],.p x,.p y,.p z,.p A,.p B,.p C])],[(0,some ⟨(.own 4 64 true [.leaf,.leaf,(.own 3 32 true []),(.own 3 32 true [])]),D⟩),(1,some ⟨(.own 1 24 true [(.own 3 32 true [])]),E⟩),(2,some ⟨(.own 1 16 false []),F⟩),(3,some ⟨(.own 4 64 true [.leaf,.leaf,(.own 3 32 true []),(.own 3 32 true [])]),G⟩),(4,some ⟨(.own 1 24 true [(.own 3 32 true [])]),H⟩),(5,some ⟨(.own 1 16 false []),I⟩)],0,0,10⟩
def iK : OR:=gX 72 0 0 10 [(2,.ptr 0 0),(4,.ptr 1 0),(5,.fn 129 [.ptr 2 0]),(6,.ptr 3 0),(39,.ref 3 []),(40,.p a),(41,.p b)] ⟨[(0,some [.p c,.p d,.p e,.p f,.p g,.p h,.p i,.p j,.p k,.p l]),(1,some [.ref 0 [],.ref 1 [],.p m,.ref 2 [],.p n,.p o,.p q,.p r,.p s,.p t]),(2,some [.p u]),(3,some [.ref 3 [],.ref 4 [],.p v,.ref 5 [],.p w,.p x,.p y,.p z,.p A,.p B])],[(0,some ⟨(.own 4 64 true [.leaf,.leaf,(.own 3 32 true []),(.own 3 32 true [])]),C⟩),(1,some ⟨(.own 1 24 true [(.own 3 32 true [])]),D⟩),(2,some ⟨(.own 1 16 false []),E⟩),(3,some ⟨(.own 4 64 true [.leaf,.leaf,(.own 3 32 true []),(.own 3 32 true [])]),F⟩),(4,some ⟨(.own 1 24 true [(.own 3 32 true [])]),G⟩),(5,some ⟨(.own 1 16 false []),H⟩)],0,0,10⟩
def iL : OR:=gX 72 0 0 16 [(2,.ptr 0 0),(4,.ptr 1 0),(5,.fn 129 [.ptr 2 0]),(6,.ptr 3 0),(55,.ref 4 []),(56,.p a),(57,.p b)] ⟨[(0,some [.p c,.p d,.p e,.p f,.p g,.p h,.p i,.p j,.p k,.p l]),(1,some [.ref 0 [],.ref 1 [],.p m,.ref 2 [],.p n,.p o,.p q,.p r,.p s,.p t]),(2,some [.p u]),(3,some [.ref 3 [],.ref 4 [],.p v,.ref 5 [],.p w,.p x,.p y,.p z,.p A,.p B])],[(0,some ⟨(.own 4 64 true [.leaf,.leaf,(.own 3 32 true []),(.own 3 32 true [])]),C⟩),(1,some ⟨(.own 1 24 true [(.own 3 32 true [])]),D⟩),(2,some ⟨(.own 1 16 false []),E⟩),(3,some ⟨(.own 4 64 true [.leaf,.leaf,(.own 3 32 true []),(.own 3 32 true [])]),F⟩),(4,some ⟨(.own 1 24 true [(.own 3 32 true [])]),G⟩),(5,some ⟨(.own 1 16 false []),H⟩)],0,0,10⟩
def jH : OR:=cC 136 [.p a,.ptr 0 0] ⟨[(0,some [.ref 0 []])],[(0,some ⟨(.own 1 8 false []),b⟩)],0,0,2⟩
def fA : OR:=gX 136 1 0 1 [(1,.ptr 0 0),(5,.p a),(6,.p b),(7,.p c)] ⟨[(0,some [.ref 0 []])],[(0,some ⟨(.own 1 8 false []),d⟩)],0,0,2⟩
def rF : OR:=gX 136 1 0 4 [(1,.ptr 0 0),(4,.ptr 1 0),(5,.p a),(6,.p b),(7,.p c)] ⟨[(0,some [.ref 0 []]),(1,some [.p d,.p e,.p f])],[(0,some ⟨(.own 1 8 false []),g⟩)],0,0,3⟩
def mU : OR:=cC 136 [.ref 0 [],.ptr 0 0] ⟨[(0,some [.ref 1 []])],[(0,some ⟨(.own 3 32 true []),a⟩),(1,some ⟨(.own 1 8 false []),b⟩)],0,0,3⟩
def eF : OR:=gX 136 1 0 1 [(1,.ptr 0 0),(5,.ref 1 []),(6,.p a),(7,.p b)] ⟨[(0,some [.ref 0 []])],[(0,some ⟨(.own 1 8 false []),c⟩),(1,some ⟨(.own 3 32 true []),d⟩)],0,0,3⟩
def pY : OR:=gX 136 1 0 4 [(1,.ptr 0 0),(4,.ptr 1 0),(5,.ref 1 []),(6,.p a),(7,.p b)] ⟨[(0,some [.ref 0 []]),(1,some [.p c,.p d,.p e])],[(0,some ⟨(.own 1 8 false []),f⟩),(1,some ⟨(.own 3 32 true []),g⟩)],0,0,4⟩
def bX : OR:=cC 76 [.ptr 0 0,.p a] ⟨[(0,some [.p b,.ref 0 [],.ref 1 []])],[(0,some ⟨(.own 1 8 false []),c⟩),(1,some ⟨(.own 1 8 false []),d⟩)],0,0,3⟩
def dT : OR:=gX 76 1 0 3 [(0,.ptr 0 0),(1,.p a),(5,.ref 2 []),(6,.p b)] ⟨[(0,some [.p c,.ref 0 [],.ref 1 []])],[(0,some ⟨(.own 1 8 false []),d⟩),(1,some ⟨(.own 1 8 false []),e⟩),(2,some ⟨(.own 3 32 true []),f⟩)],0,0,4⟩
def gM : OR:=cC 77 [.ptr 0 0,.agg [.p a,.p b,.p c]] ⟨[(0,some [.p d,.ref 0 [],.ref 1 []])],[(0,some ⟨(.own 1 8 false []),e⟩),(1,some ⟨(.own 1 8 false []),f⟩)],0,0,3⟩
def dJ : OR:=gX 77 1 0 6 [(0,.ptr 0 0),(3,.ptr 1 0),(4,.ptr 2 0)] ⟨[(0,some [.p a,.ref 0 [],.ref 1 []]),(1,some [.p b,.p c,.p d]),(2,some [.p e,.p f,.p g])],[(0,some ⟨(.own 1 8 false []),h⟩),(1,some ⟨(.own 1 8 false []),i⟩)],0,0,5⟩
def iR : OR:=cC 78 [.p a] ⟨[],[],0,0,0⟩
def pK : OR:=gX 78 0 0 3 [(1,.ptr 0 0),(2,.ptr 1 0),(3,.ref 3 []),(4,.p a)] ⟨[(0,some [.p b,.p c,.p d,.p e,.p f,.p g,.p h,.p i,.p j,.p k]),(1,some [.ref 0 [],.ref 1 [],.p l,.ref 2 [],.p m,.p n,.p o,.p q,.p r,.p s])],[(0,some ⟨(.own 4 64 true [.leaf,.leaf,(.own 3 32 true []),(.own 3 32 true [])]),t⟩),(1,some ⟨(.own 1 24 true [(.own 3 32 true [])]),u⟩),(2,some ⟨(.own 1 16 false []),v⟩),(3,some ⟨(.own 4 64 true [.leaf,.leaf,(.own 3 32 true []),(.own 3 32 true [])]),w⟩)],0,0,6⟩
def cZ : OR:=cC 95 [.ptr 0 0,.p a] ⟨[(0,some [.p b,.p c,.p d])],[],0,0,1⟩
def tI : OR:=cC 96 [.ptr 0 0,.p a] ⟨[(0,some [.p b,.p c,.p d])],[],0,0,1⟩
def rX : OR:=cC 97 [.ptr 0 0] ⟨[(0,some [.p a,.p b,.p c])],[],0,0,1⟩
def rY : OR:=cC 99 [.ptr 0 0,.agg [.p a,.p b]] ⟨[(0,some [.p c,.p d,.p e])],[],0,0,1⟩
def kY : OR:=gX 99 1 0 3 [(0,.ptr 0 0),(3,.ptr 1 0),(5,.ref 0 []),(6,.p a)] ⟨[(0,some [.p b,.p c,.p d]),(1,some [.p e,.p f])],[(0,some ⟨(.own 3 32 true []),g⟩)],0,0,3⟩
def gC : OR:=aZ 153 [a]
def gQ : OR:=aZ 154 [a]
def aF : OR:=cC 79 [.ptr 0 0,.p a] ⟨[(0,some [.p b,.p c,.p d])],[],0,0,1⟩
def iM : OR:=gX 79 1 0 9 [(0,.ptr 0 0),(1,.p a),(5,.p b)] ⟨[(0,some [.p c,.p d,.p e])],[],0,0,1⟩
def aHc : OR:=cC 110 [.p a,.p b,.p c] ⟨[],[],0,0,0⟩
def wS : OR:=gX 110 0 0 5 [(2,.p a),(3,.ptr 0 0),(6,.ptr 1 0),(7,.ptr 2 0),(9,.p b)] ⟨[(0,some [.p c,.p d]),(1,some [.ref 0 [],.ref 1 [],.p e,.ref 2 [],.p f,.p g,.p h,.p i,.p j,.p k]),(2,some [.ref 3 [],.ref 4 [],.p l,.ref 5 [],.p m,.p n,.p o,.p q,.p r,.p s])],[(0,some ⟨(.own 4 64 true [.leaf,.leaf,(.own 3 32 true []),(.own 3 32 true [])]),t⟩),(1,some ⟨(.own 1 24 true [(.own 3 32 true [])]),u⟩),(2,some ⟨(.own 1 16 false []),v⟩),(3,some ⟨(.own 4 64 true [.leaf,.leaf,(.own 3 32 true []),(.own 3 32 true [])]),w⟩),(4,some ⟨(.own 1 24 true [(.own 3 32 true [])]),x⟩),(5,some ⟨(.own 1 16 false []),y⟩)],0,0,9⟩
def eJ : OR:=cC 111 [.ptr 0 0] ⟨[(0,some [.p a,.p b,.p c])],[],0,0,1⟩
def eY : OR:=cC 112 [.ptr 0 0] ⟨[(0,some [.p a,.p b,.p c])],[],0,0,1⟩
def fF : OR:=cC 165 [.p a] ⟨[],[],0,0,0⟩
def bY : OR:=gX 165 0 0 3 [(0,.p a),(3,.p b),(9,.p c),(10,.p d),(11,.p e)] ⟨[],[],0,0,0⟩
def bW : OR:=gX 165 0 0 11 [(6,.ref 0 []),(25,.p a),(26,.p b),(27,.p c)] ⟨[],[(0,some ⟨(.own 3 32 true []),d⟩)],0,0,1⟩
def pZ : OR:=cC 121 [.agg [.p a,.p b,.p c],.ptr 0 0,.ptr 1 0,.ptr 2 0] ⟨[(0,some [.p d]),(1,some [.p e,.p f]),(2,some [.p g,.p h,.p i,.p j,.p k,.p l,.p m,.p n,.p o,.p q])],[],0,0,3⟩
def zS : OR:=aZ 122 [a,b,c]
def xR : OR:=cC 131 [.p a] ⟨[],[],0,0,0⟩
def cJ : OR:=cC 132 [.p a] ⟨[],[],0,0,0⟩
def gZ : OR:=cC 129 [.ref 0 [],.ptr 0 0] ⟨[(0,some [.p a])],[(0,some ⟨(.own 3 32 true []),b⟩)],0,0,2⟩
def gR : OR:=aQT 129 1 1 ((mG.mode 129).map (Tmpl.fitK · [some (.own 3 32 true [])])) (todoOf Tryz.prog 129 1) [(0,.ref 0 []),(1,.ptr 0 0),(5,.ref 0 []),(6,.p a),(7,.p b)] ⟨[(0,some [.p c])],[(0,some ⟨(.own 3 32 true []),d⟩)],0,0,2⟩
def mV : OR:=cC 77 [.ptr 0 0,.p a] ⟨[(0,some [.p b,.ref 0 [],.ref 1 []])],[(0,some ⟨(.own 1 8 false []),c⟩),(1,some ⟨(.own 1 8 false []),d⟩)],0,0,3⟩
def qO : OR:=cC 138 [.p a] ⟨[],[],0,0,0⟩
def rZ : OR:=cC 139 [.p a] ⟨[],[],0,0,0⟩
def kZ : OR:=gX 139 0 0 3 [(0,.p a),(3,.ref 0 []),(4,.p b)] ⟨[],[(0,some ⟨(.own 1 24 true [(.own 3 32 true [])]),c⟩)],0,0,1⟩
def mA : OR:=cC 148 [.ptr 0 0] ⟨[(0,some [.p a,.p b,.p c])],[],0,0,1⟩
def jO : OR:=gX 148 1 0 3 [(0,.ptr 0 0),(2,.ptr 1 0),(3,.ptr 2 0),(4,.p a)] ⟨[(0,some [.p b,.p c,.p d]),(1,some [.ref 0 [],.ref 1 []]),(2,some [.ref 2 [],.ref 3 []])],[(0,some ⟨(.own 1 16 false []),e⟩),(1,some ⟨(.own 3 40 true []),f⟩),(2,some ⟨(.own 1 16 false []),g⟩),(3,some ⟨(.own 3 40 true []),h⟩)],0,0,7⟩
def gE : OR:=gX 148 1 0 8 [(0,.ptr 0 0),(2,.ptr 1 0),(3,.ptr 2 0),(5,.ref 4 []),(6,.p a)] ⟨[(0,some [.p b,.p c,.p d]),(1,some [.ref 0 [],.ref 1 []]),(2,some [.ref 2 [],.ref 3 []])],[(0,some ⟨(.own 1 16 false []),e⟩),(1,some ⟨(.own 3 40 true []),f⟩),(2,some ⟨(.own 1 16 false []),g⟩),(3,some ⟨(.own 3 40 true []),h⟩),(4,some ⟨(.own 3 40 true []),i⟩)],0,0,8⟩
def iS : OR:=gX 148 1 0 15 [(0,.ptr 0 0),(2,.ptr 1 0),(3,.ptr 2 0),(5,.ref 4 []),(6,.p a),(7,.ptr 3 0),(8,.ptr 4 0)] ⟨[(0,some [.p b,.p c,.p d]),(1,some [.ref 0 [],.ref 1 []]),(2,some [.ref 2 [],.ref 3 []]),(3,some [.p e,.p f,.ref 5 []]),(4,some [.ptr 0 0,.ref 6 [],.p g,.p h,.p i,.p j])],[(0,some ⟨(.own 1 16 false []),k⟩),(1,some ⟨(.own 3 40 true []),l⟩),(2,some ⟨(.own 1 16 false []),m⟩),(3,some ⟨(.own 3 40 true []),n⟩),(4,some ⟨(.own 3 40 true []),o⟩),(5,some ⟨(.own 2 16 true []),q⟩),(6,some ⟨(.own 2 16 true []),r⟩)],0,0,12⟩
def xS : OR:=cC 149 [.ptr 0 0,.agg [.p a,.p b]] ⟨[(0,some [.p c,.p d,.p e])],[],0,0,1⟩
def nB : OR:=gX 149 1 0 21 [(0,.ptr 0 0),(4,.ptr 1 0),(5,.ptr 2 0)] ⟨[(0,some [.p a,.p b,.p c]),(1,some [.ref 0 [],.ref 1 []]),(2,some [.ref 2 [],.ref 3 []])],[(0,some ⟨(.own 1 16 false []),d⟩),(1,some ⟨(.own 3 40 true [.leaf,.leaf,(.own 2 16 true [])]),e⟩),(2,some ⟨(.own 1 16 false []),f⟩),(3,some ⟨(.own 3 40 true [.leaf,.leaf,(.own 2 16 true [])]),g⟩)],0,0,7⟩
def nZ : OR:=gX 149 1 0 6 [(0,.ptr 0 0),(4,.ptr 1 0),(5,.ptr 2 0),(6,.p a),(8,.ptr 3 0)] ⟨[(0,some [.p b,.p c,.p d]),(1,some [.ref 0 [],.ref 1 []]),(2,some [.ref 2 [],.ref 3 []]),(3,some [.p e,.p f])],[(0,some ⟨(.own 1 16 false []),g⟩),(1,some ⟨(.own 3 40 true [.leaf,.leaf,(.own 2 16 true [])]),h⟩),(2,some ⟨(.own 1 16 false []),i⟩),(3,some ⟨(.own 3 40 true [.leaf,.leaf,(.own 2 16 true [])]),j⟩)],0,0,8⟩
def aC2 : OR:=cC 150 [.p a,.p b] ⟨[],[],0,0,0⟩
def oX : OR:=gX 150 0 0 4 [(1,.p a),(2,.ptr 0 0),(4,.ptr 1 0),(6,.p b)] ⟨[(0,some [.p c,.p d]),(1,some [.ref 0 [],.ref 1 [],.p e,.ref 2 [],.p f,.p g,.p h,.p i,.p j,.p k])],[(0,some ⟨(.own 4 64 true [.leaf,.leaf,(.own 3 32 true []),(.own 3 32 true [])]),l⟩),(1,some ⟨(.own 1 24 true [(.own 3 32 true [])]),m⟩),(2,some ⟨(.own 1 16 false []),n⟩)],0,0,5⟩
def nM : OR:=gX 150 0 0 10 [(1,.p a),(4,.ptr 0 0),(7,.ptr 1 0),(8,.p b)] ⟨[(0,some [.ref 0 [],.ref 1 [],.p c,.ref 2 [],.p d,.p e,.p f,.p g,.p h,.p i]),(1,some [.p j,.p k,.ref 3 [],.ref 4 []])],[(0,some ⟨(.own 4 64 true [.leaf,.leaf,(.own 3 32 true []),(.own 3 32 true [])]),l⟩),(1,some ⟨(.own 1 24 true [(.own 3 32 true [])]),m⟩),(2,some ⟨(.own 1 16 false []),n⟩),(3,some ⟨(.own 3 32 true []),o⟩),(4,some ⟨(.own 3 32 true []),q⟩)],0,0,7⟩
def zT : OR:=cC 152 [.p a,.p b] ⟨[],[],0,0,0⟩
def fR : OR:=cC 188 [.nils,.p a] ⟨[],[],0,0,0⟩
def tJ : OR:=cC 167 [.p a] ⟨[],[],0,0,0⟩
def mB : OR:=gX 167 0 0 3 [(3,.ref 0 []),(7,.p a),(8,.p b),(9,.p c)] ⟨[],[(0,some ⟨(.own 4 64 true [.leaf,.leaf,(.own 3 32 true []),(.own 3 32 true [])]),d⟩)],0,0,1⟩
def xT : OR:=cC 168 [.p a] ⟨[],[],0,0,0⟩
def oA : OR:=gX 168 0 0 3 [(3,.ref 0 []),(7,.p a),(8,.p b),(9,.p c)] ⟨[],[(0,some ⟨(.own 1 24 true [(.own 3 32 true [])]),d⟩)],0,0,1⟩
def jI : OR:=cC 169 [.p a] ⟨[],[],0,0,0⟩
def gN : OR:=cC 175 [.ptr 0 0,.p a,.p b] ⟨[(0,some [.ptr 1 0,.ref 0 [],.p c,.p d,.p e,.p f]),(1,some [.p g,.p h,.p i])],[(0,some ⟨(.own 2 16 true []),j⟩)],0,0,3⟩
def gA : OR:=gX 175 2 0 1 [(0,.ptr 0 0),(1,.p a),(6,.p b)] ⟨[(0,some [.ptr 1 0,.ref 0 [],.p c,.p d,.p e,.p f]),(1,some [.p g,.p h,.p i])],[(0,some ⟨(.own 2 16 true []),j⟩)],0,0,3⟩
def sA : OR:=cC 178 [.ptr 0 0,.p a] ⟨[(0,some [.p b,.p c,.p d])],[],0,0,1⟩
def aP : OR:=cC 176 [.ptr 0 0,.p a] ⟨[(0,some [.ptr 1 0,.ref 0 [],.p b,.p c,.p d,.p e]),(1,some [.p f,.p g,.p h])],[(0,some ⟨(.own 2 16 true []),i⟩)],0,0,3⟩
def gS : OR:=gX 176 2 0 2 [(0,.ptr 0 0),(4,.ptr 1 0)] ⟨[(0,some [.ptr 1 0,.ref 0 [],.p a,.p b,.p c,.p d]),(1,some [.p e,.p f,.p g])],[(0,some ⟨(.own 2 16 true []),h⟩)],0,0,3⟩
def dK : OR:=gX 176 2 0 38 [(0,.ptr 0 0),(1,.p a),(5,.p b),(6,.p c)] ⟨[(0,some [.ptr 1 0,.ref 0 [],.p d,.p e,.p f,.p g]),(1,some [.p h,.p i,.p j])],[(0,some ⟨(.own 2 16 true []),k⟩)],0,0,3⟩
def gF : OR:=gX 176 2 0 50 [(0,.ptr 0 0),(1,.p a),(7,.p b)] ⟨[(0,some [.ptr 1 0,.ref 0 [],.p c,.p d,.p e,.p f]),(1,some [.p g,.p h,.p i])],[(0,some ⟨(.own 2 16 true []),j⟩)],0,0,3⟩
def fB : OR:=gX 176 2 0 51 [(0,.ptr 0 0),(1,.p a),(7,.p b),(8,.p c)] ⟨[(0,some [.ptr 1 0,.ref 0 [],.p d,.p e,.p f,.p g]),(1,some [.p h,.p i,.p j])],[(0,some ⟨(.own 2 16 true []),k⟩)],0,0,3⟩
def aJ : OR:=cC 177 [.ptr 0 0,.p a,.p b] ⟨[(0,some [.ptr 1 0,.ref 0 [],.p c,.p d,.p e,.p f]),(1,some [.p g,.p h,.p i])],[(0,some ⟨(.own 2 16 true []),j⟩)],0,0,3⟩
def pP : OR:=cC 179 [.p a] ⟨[],[],0,0,0⟩
def jP : OR:=gX 179 0 0 3 [(1,.ptr 0 0),(2,.ptr 1 0),(3,.ptr 2 0),(4,.p a)] ⟨[(0,some [.p b,.p c]),(1,some [.ref 0 [],.ref 1 []]),(2,some [.ref 2 [],.ref 3 []])],[(0,some ⟨(.own 1 16 false []),d⟩),(1,some ⟨(.own 3 40 true [.leaf,.leaf,(.own 2 16 true [])]),e⟩),(2,some ⟨(.own 1 16 false []),f⟩),(3,some ⟨(.own 3 40 true [.leaf,.leaf,(.own 2 16 true [])]),g⟩)],0,0,7⟩
def eZ : OR:=cC 182 [.ptr 0 0] ⟨[(0,some [.p a,.p b,.ref 0 [],.ref 1 [],.p c,.ref 2 [],.p d,.p e,.p f,.p g,.p h,.p i,.p j])],[(0,some ⟨(.own 4 64 true [.leaf,.leaf,(.own 3 32 true []),(.own 3 32 true [])]),k⟩),(1,some ⟨(.own 1 24 true [(.own 3 32 true [])]),l⟩),(2,some ⟨(.own 1 16 false []),m⟩)],0,0,4⟩
def vI : OR:=cC 183 [.ptr 0 0,.agg [.p a,.p b]] ⟨[(0,some [.p c,.p d,.ref 0 [],.ref 1 [],.p e,.ref 2 [],.p f,.p g,.p h,.p i,.p j,.p k,.p l])],[(0,some ⟨(.own 4 64 true [.leaf,.leaf,(.own 3 32 true []),(.own 3 32 true [])]),m⟩),(1,some ⟨(.own 1 24 true [(.own 3 32 true [])]),n⟩),(2,some ⟨(.own 1 16 false []),o⟩)],0,0,4⟩
def pQ : OR:=aZ 205 [a,b,c]
def aC3 : OR:=aZ 206 [a]
def vJ : OR:=aZ 208 [a,b]
def aC4 : OR:=aZ 215 [a,b]
def aCF : OR:=gX 215 0 0 2 [(2,.ptr 0 0),(3,.ptr 1 0),(4,.ptr 2 0)] ⟨[(0,some [.p a,.p b,.p c]),(1,some [.p d,.p e,.p f]),(2,some [.p g,.p h,.p i])],[],0,0,3⟩
def aC5 : OR:=aZ 216 [a,b]
def aC6 : OR:=aZ 217 [a,b]
def aBg : OR:=aZ 218 [a,b]
def aBh : OR:=gX 218 0 0 2 [(2,.ptr 0 0),(3,.ptr 1 0),(4,.ptr 2 0)] ⟨[(0,some [.p a,.p b,.p c]),(1,some [.p d,.p e,.p f]),(2,some [.p g,.p h,.p i])],[],0,0,3⟩
def qP : OR:=gX 218 0 0 3 [(2,.ptr 0 0),(3,.ptr 1 0),(4,.ptr 2 0)] ⟨[(0,some [.p a,.p b,.p c]),(1,some [.p d,.p e,.p f]),(2,some [.p g,.p h,.p i])],[],0,0,3⟩
def aBi : OR:=gX 218 0 0 4 [(2,.ptr 0 0),(3,.ptr 1 0),(4,.ptr 2 0)] ⟨[(0,some [.p a,.p b,.p c]),(1,some [.p d,.p e,.p f]),(2,some [.p g,.p h,.p i])],[],0,0,3⟩
def aBj : OR:=aZ 219 [a,b]
def fG : OR:=aZ 220 [a]
def jX : OR:=aZ 222 [a,b,c]
def xU : OR:=aZ 223 [a,b,c]
def lP : OR:=cC 200 [.ptr 0 0,.p a] ⟨[(0,some [.ptr 1 0,.ref 0 [],.p b,.p c,.p d,.p e]),(1,some [.p f,.p g,.p h])],[(0,some ⟨(.own 2 16 true []),i⟩)],0,0,3⟩
def iN : OR:=gX 200 2 0 7 [(0,.ptr 0 0),(1,.p a),(4,.ptr 1 0),(6,.p b)] ⟨[(0,some [.ptr 1 0,.ref 0 [],.p c,.p d,.p e,.p f]),(1,some [.p g,.p h,.p i])],[(0,some ⟨(.own 2 16 true []),j⟩)],0,0,3⟩
def jJ : OR:=cC 201 [.ptr 0 0,.p a] ⟨[(0,some [.ptr 1 0,.ref 0 [],.p b,.p c,.p d,.p e]),(1,some [.p f,.p g,.p h])],[(0,some ⟨(.own 2 16 true []),i⟩)],0,0,3⟩
def fC : OR:=gX 201 2 0 3 [(0,.ptr 0 0),(1,.p a),(4,.p b),(5,.p c)] ⟨[(0,some [.ptr 1 0,.ref 0 [],.p d,.p e,.p f,.p g]),(1,some [.p h,.p i,.p j])],[(0,some ⟨(.own 2 16 true []),k⟩)],0,0,3⟩
def mC : OR:=cC 202 [.ptr 0 0,.p a] ⟨[(0,some [.ptr 1 0,.ref 0 [],.p b,.p c,.p d,.p e]),(1,some [.p f,.p g,.p h])],[(0,some ⟨(.own 2 16 true []),i⟩)],0,0,3⟩
def jA : OR:=cC 203 [.ptr 0 0,.p a] ⟨[(0,some [.p b,.p c,.ref 0 [],.ref 1 [],.p d,.ref 2 [],.p e,.p f,.p g,.p h,.p i,.p j,.p k])],[(0,some ⟨(.own 4 64 true [.leaf,.leaf,(.own 3 32 true []),(.own 3 32 true [])]),l⟩),(1,some ⟨(.own 1 24 true [(.own 3 32 true [])]),m⟩),(2,some ⟨(.own 1 16 false []),n⟩)],0,0,4⟩
def bK : OR:=cC 203 [.ptr 0 0,.agg [.p a,.p b,.p c]] ⟨[(0,some [.p d,.p e,.ref 0 [],.ref 1 [],.p f,.ref 2 [],.p g,.p h,.p i,.p j,.p k,.p l,.p m])],[(0,some ⟨(.own 4 64 true [.leaf,.leaf,(.own 3 32 true []),(.own 3 32 true [])]),n⟩),(1,some ⟨(.own 1 24 true [(.own 3 32 true [])]),o⟩),(2,some ⟨(.own 1 16 false []),q⟩)],0,0,4⟩
def bE : OR:=cC 204 [.ptr 0 0] ⟨[(0,some [.p a,.p b,.ref 0 [],.ref 1 [],.p c,.ref 2 [],.p d,.p e,.p f,.p g,.p h,.p i,.p j])],[(0,some ⟨(.own 4 64 true [.leaf,.leaf,(.own 3 32 true []),(.own 3 32 true [])]),k⟩),(1,some ⟨(.own 1 24 true [(.own 3 32 true [])]),l⟩),(2,some ⟨(.own 1 16 false []),m⟩)],0,0,4⟩
def oB : OR:=cC 207 [.ptr 0 0,.p a,.p b] ⟨[(0,some [.p c,.p d,.ref 0 [],.ref 1 [],.p e,.ref 2 [],.p f,.p g,.p h,.p i,.p j,.p k,.p l])],[(0,some ⟨(.own 4 64 true [.leaf,.leaf,(.own 3 32 true []),(.own 3 32 true [])]),m⟩),(1,some ⟨(.own 1 24 true [(.own 3 32 true [])]),n⟩),(2,some ⟨(.own 1 16 false []),o⟩)],0,0,4⟩
def lA : OR:=gX 207 1 0 5 [(0,.ptr 0 0),(1,.p a),(2,.p b),(7,.ref 3 []),(8,.p c)] ⟨[(0,some [.p d,.p e,.ref 0 [],.ref 1 [],.p f,.ref 2 [],.p g,.p h,.p i,.p j,.p k,.p l,.p m])],[(0,some ⟨(.own 4 64 true [.leaf,.leaf,(.own 3 32 true []),(.own 3 32 true [])]),n⟩),(1,some ⟨(.own 1 24 true [(.own 3 32 true [])]),o⟩),(2,some ⟨(.own 1 16 false []),q⟩),(3,some ⟨(.own 3 32 true []),r⟩)],0,0,5⟩
def kG : OR:=gX 207 1 0 10 [(0,.ptr 0 0),(1,.p a),(7,.ref 3 [])] ⟨[(0,some [.p b,.p c,.ref 0 [],.ref 1 [],.p d,.ref 2 [],.p e,.p f,.p g,.p h,.p i,.p j,.p k])],[(0,some ⟨(.own 4 64 true [.leaf,.leaf,(.own 3 32 true []),(.own 3 32 true [])]),l⟩),(1,some ⟨(.own 1 24 true [(.own 3 32 true [])]),m⟩),(2,some ⟨(.own 1 16 false []),n⟩),(3,some ⟨(.own 3 32 true []),o⟩)],0,0,5⟩
def oC : OR:=cC 214 [.ptr 0 0] ⟨[(0,some [.ptr 1 0,.ref 0 [],.p a,.p b,.p c,.p d]),(1,some [.p e,.p f,.p g])],[(0,some ⟨(.own 2 16 true []),h⟩)],0,0,3⟩
variable (a b c d e f g h i j k l m n o p q r s t u : PV)
theorem aCf : yQ a=bd (aHb a) λb=>PV.ite (hd b) (some [.bool true]) (bd (rV a) λc=>bd (PV.comp (hd c) 0) λd=>bd (PV.comp (hd c) 1) λe=>bd (PV.whole 2 d) λf=>bd (PV.cell f 0) λg=>bd (PV.cell f 1) λh=>bd (PV.whole 10 e) λi=>bd (PV.cell i 0) λj=>bd (PV.cell i 1) λk=>bd (PV.cell i 2) λl=>bd (PV.cell i 3) λm=>
 bd (PV.cell i 4) λn=>bd (PV.cell i 5) λo=>bd (PV.cell i 6) λp=>bd (PV.cell i 7) λq=>bd (PV.cell i 8) λr=>bd (PV.cell i 9) λs=>bd (uB (.agg [g,h]) (.agg [j,k,l,m,n,o,p,q,r,s])) λt=>PV.guardFlat (gd t 0) (PV.guardFlat (gd t 1) (PV.guardFlat (gd t 2) (PV.guardFlat (gd t 3) (PV.guardFlat (gd t 4) (PV.guardFlat (gd t 5) (PV.guardFlat (gd t 6) (
 PV.guardOwn (.own 4 64 true [.leaf,.leaf,(.own 3 32 true []),(.own 3 32 true [])]) (gd t 7) (PV.guardOwn (.own 1 24 true [(.own 3 32 true [])]) (gd t 8) (PV.guardOwn (.own 1 16 false []) (gd t 9) (bd (zQ (.agg [g,h]) (.agg [j,k,l,m,n,o,p,q,r,s])) λu=>PV.guardFlat (gd u 0) (PV.guardFlat (gd u 1) (PV.guardFlat (gd u 2) (PV.guardFlat (gd u 3) (PV.guardFlat (gd u 4) (
 PV.guardFlat (gd u 5) (PV.guardFlat (gd u 6) (PV.guardOwn (.own 4 64 true [.leaf,.leaf,(.own 3 32 true []),(.own 3 32 true [])]) (gd u 7) (PV.guardOwn (.own 1 24 true [(.own 3 32 true [])]) (gd u 8) (PV.guardOwn (.own 1 16 false []) (gd u 9) (bd (wM (.agg [(gd t 7),(gd t 8),(gd t 0),(gd t 9),(gd t 1),(gd t 2),(gd t 3),(gd t 4),(gd t 5),(gd t 6)]) (.agg [(gd u 7),(gd u 8),(gd u 0),(gd u 9),(gd u 1),(gd u 2),(gd u 3),(gd u 4),(gd u 5),(gd u 6)])) λv=>
 PV.guardFlat (hd v) (bd (PV.not (hd v)) λw=>PV.ite w (some [.bool false]) (bd (rU (.agg [g,h]) (.agg [j,k,l,m,n,o,p,q,r,s])) λx=>bd (PV.not (hd x)) λy=>PV.ite y (bd (PV.len (gd t 7)) λz=>bd (PV.bin .eql z (.I 0)) λA=>some [A]) (bd (nT (.agg [g,h]) (.agg [(gd t 7),(gd t 8),(gd t 0),(gd t 9),(gd t 1),(gd t 2),(gd t 3),(gd t 4),(gd t 5),(gd t 6)])) λB=>
 PV.guardFlat (hd B) (PV.ite (hd B) (bd (aCY (.agg [g,h]) (.agg [(gd t 7),(gd t 8),(gd t 0),(gd t 9),(gd t 1),(gd t 2),(gd t 3),(gd t 4),(gd t 5),(gd t 6)]) (.agg [j,k,l,m,n,o,p,q,r,s])) λC=>PV.guardFlat (hd C) (PV.ite (hd C) (bd (PV.bin .eql (gd t 6) s) λD=>PV.ite D (bd (PV.len (gd t 8)) λE=>bd (aC1 (.agg [g,h]) (.agg [j,k,l,m,n,o,p,q,r,s])) λF=>
 PV.guardFlat (gd F 0) (PV.guardFlat (gd F 1) (PV.guardFlat (gd F 2) (PV.guardFlat (gd F 3) (PV.guardFlat (gd F 4) (PV.guardFlat (gd F 5) (PV.guardFlat (gd F 6) (PV.guardOwn (.own 4 64 true [.leaf,.leaf,(.own 3 32 true []),(.own 3 32 true [])]) (gd F 7) (PV.guardOwn (.own 1 24 true [(.own 3 32 true [])]) (gd F 8) (PV.guardOwn (.own 1 16 false []) (gd F 9) (bd (PV.len (gd F 8)) λG=>
 bd (PV.bin .eql E G) λH=>PV.ite H (bd (uB (.agg [g,h]) (.agg [(gd t 7),(gd t 8),(gd t 0),(gd t 9),(gd t 1),(gd t 2),(gd t 3),(gd t 4),(gd t 5),(gd t 6)])) λI=>PV.guardFlat (gd I 0) (PV.guardFlat (gd I 1) (PV.guardFlat (gd I 2) (PV.guardFlat (gd I 3) (PV.guardFlat (gd I 4) (PV.guardFlat (gd I 5) (PV.guardFlat (gd I 6) (PV.guardOwn (.own 4 64 true [.leaf,.leaf,(.own 3 32 true []),(.own 3 32 true [])]) (gd I 7) (
 PV.guardOwn (.own 1 24 true [(.own 3 32 true [])]) (gd I 8) (PV.guardOwn (.own 1 16 false []) (gd I 9) (bd (wM (.agg [(gd I 7),(gd I 8),(gd I 0),(gd I 9),(gd I 1),(gd I 2),(gd I 3),(gd I 4),(gd I 5),(gd I 6)]) (.agg [(gd t 7),(gd t 8),(gd t 0),(gd t 9),(gd t 1),(gd t 2),(gd t 3),(gd t 4),(gd t 5),(gd t 6)])) λJ=>PV.guardFlat (hd J) (some [(hd J)])))))))))))) (some [.bool false]))))))))))))
 (some [.bool false])) (some [.bool false]))) (some [.bool false])))))))))))))))))))))))))):=aW _ _ _ (by kernel_rfl)
theorem aKY : aHb a=bd (PV.len a) λb=>bd (PV.bin .gtr b (.I 1048576)) λc=>some [c]:=aW _ _ _ (by kernel_rfl)
theorem aHd : wM a b=bd (PV.whole 10 a) λc=>bd (PV.cell c 0) λd=>bd (PV.cell c 1) λe=>bd (PV.cell c 2) λf=>bd (PV.cell c 3) λg=>bd (PV.cell c 4) λh=>bd (PV.cell c 5) λi=>bd (PV.cell c 6) λj=>bd (PV.cell c 7) λk=>bd (PV.cell c 8) λl=>bd (PV.cell c 9) λm=>bd (PV.whole 10 b) λn=>bd (PV.cell n 0) λo=>bd (PV.cell n 1) λp=>
 bd (PV.cell n 2) λq=>bd (PV.cell n 3) λr=>bd (PV.cell n 4) λs=>bd (PV.cell n 5) λt=>bd (PV.cell n 6) λu=>bd (PV.cell n 7) λv=>bd (PV.cell n 8) λw=>bd (PV.cell n 9) λx=>bd (PV.bin .neq f q) λy=>PV.ite y (some [.bool false]) (bd (PV.bin .neq h s) λz=>PV.ite z (some [.bool false]) (bd (PV.bin .neq i t) λA=>PV.ite A (some [.bool false]) (bd (PV.ceq [1,1,2] .neq (.agg [j,k,l]) (.agg [u,v,w])) λB=>
 PV.ite B (some [.bool false]) (bd (PV.bin .neq m x) λC=>PV.ite C (some [.bool false]) (bd (vC g r) λD=>bd (PV.not (hd D)) λE=>PV.ite E (some [.bool false]) (bd (PV.len e) λF=>bd (PV.len p) λG=>bd (PV.bin .neq F G) λH=>PV.ite H (some [.bool false]) (bd (PV.len d) λI=>bd (PV.len o) λJ=>bd (PV.bin .neq I J) λK=>PV.ite K (some [.bool false]) (qJ (.I 0) d e f g h i j k l m o p q r s t u v w x)))))))):=aW _ _ _ (by kernel_rfl)
theorem wU : qJ a b c d e f g h i j k l m n o p q r s t u=bd (PV.len c) λv=>bd (PV.bin .lss a v) λw=>PV.ite w (bd (PV.at_ 1 true c a) λx=>bd (PV.cell x 0) λy=>bd (PV.at_ 1 true m a) λz=>bd (PV.cell z 0) λA=>bd (mK y A) λB=>bd (PV.not (hd B)) λC=>PV.ite C (some [.bool false]) (bd (PV.bin .add a (.I 1)) λD=>
 qJ D b c d e f g h i j k l m n o p q r s t u)) (nH (.I 0) b c d e f g h i j k l m n o p q r s t u):=aV _ _ _ _ _ _ _ _ (by kernel_rfl)
theorem wV : nH a b c d e f g h i j k l m n o p q r s t u=bd (PV.len b) λv=>bd (PV.bin .lss a v) λw=>PV.ite w (bd (PV.at_ 4 true b a) λx=>bd (PV.whole 4 x) λy=>bd (PV.cell y 0) λz=>bd (PV.cell y 1) λA=>bd (PV.cell y 2) λB=>bd (PV.cell y 3) λC=>bd (PV.at_ 4 true l a) λD=>bd (PV.whole 4 D) λE=>bd (PV.cell E 0) λF=>bd (PV.cell E 1) λG=>
 bd (PV.cell E 2) λH=>bd (PV.cell E 3) λI=>bd (PV.bin .neq z F) λJ=>PV.ite J (some [.bool false]) (bd (PV.bin .neq A G) λK=>PV.ite K (some [.bool false]) (bd (mK B H) λL=>bd (PV.not (hd L)) λM=>PV.ite M (some [.bool false]) (bd (mK C I) λN=>bd (PV.not (hd N)) λO=>PV.ite O (some [.bool false]) (bd (PV.bin .add a (.I 1)) λP=>
 nH P b c d e f g h i j k l m n o p q r s t u))))) (some [.bool true]):=aV _ _ _ _ _ _ _ _ (by kernel_rfl)
theorem aDS : rU a b=bd (PV.whole 2 a) λc=>bd (PV.cell c 0) λd=>bd (PV.cell c 1) λe=>bd (PV.whole 10 b) λf=>bd (PV.cell f 0) λg=>bd (PV.cell f 1) λh=>bd (PV.cell f 2) λi=>bd (PV.cell f 3) λj=>bd (PV.cell f 4) λk=>bd (PV.cell f 5) λl=>bd (PV.cell f 6) λm=>bd (PV.cell f 7) λn=>bd (PV.cell f 8) λo=>bd (PV.cell f 9) λp=>
 bd (qK (.agg [d,e])) λq=>PV.ite (hd q) (bd (aDQ (.agg [d,e]) (.agg [g,h,i,j,k,l,m,n,o,p])) λr=>some [(hd r)]) (some [.bool false]):=aW _ _ _ (by kernel_rfl)
theorem aDT : nT a b=bd (PV.whole 2 a) λc=>bd (PV.cell c 0) λd=>bd (PV.cell c 1) λe=>bd (PV.whole 10 b) λf=>bd (PV.cell f 0) λg=>bd (PV.cell f 1) λh=>bd (PV.cell f 2) λi=>bd (PV.cell f 3) λj=>bd (PV.cell f 4) λk=>bd (PV.cell f 5) λl=>bd (PV.cell f 6) λm=>bd (PV.cell f 7) λn=>bd (PV.cell f 8) λo=>bd (PV.cell f 9) λp=>
 bd (aA9 (.agg [d,e])) λq=>PV.ite (hd q) (bd (zP (.agg [d,e])) λr=>bd (aIN (.agg [d,e]) (hd r) (.agg [g,h,i,j,k,l,m,n,o,p])) λs=>some [(hd s)]) (some [.bool false]):=aW _ _ _ (by kernel_rfl)
theorem aH9 : aCY a b c=bd (PV.whole 2 a) λd=>bd (PV.cell d 0) λe=>bd (PV.cell d 1) λf=>bd (PV.whole 10 b) λg=>bd (PV.cell g 0) λh=>bd (PV.cell g 1) λi=>bd (PV.cell g 2) λj=>bd (PV.cell g 3) λk=>bd (PV.cell g 4) λl=>bd (PV.cell g 5) λm=>bd (PV.cell g 6) λn=>bd (PV.cell g 7) λo=>bd (PV.cell g 8) λp=>bd (PV.cell g 9) λq=>
 bd (PV.whole 10 c) λr=>bd (PV.cell r 0) λs=>bd (PV.cell r 1) λt=>bd (PV.cell r 2) λu=>bd (PV.cell r 3) λv=>bd (PV.cell r 4) λw=>bd (PV.cell r 5) λx=>bd (PV.cell r 6) λy=>bd (PV.cell r 7) λz=>bd (PV.cell r 8) λA=>bd (PV.cell r 9) λB=>bd (nT (.agg [e,f]) (.agg [h,i,j,k,l,m,n,o,p,q])) λC=>PV.ite (hd C) (bd (nT (.agg [e,f]) (.agg [s,t,u,v,w,x,y,z,A,B])) λD=>
 PV.ite (hd D) (bd (vH (.agg [h,i,j,k,l,m,n,o,p,q])) λE=>PV.guardFlat (gd E 0) (PV.guardFlat (gd E 1) (PV.guardFlat (gd E 2) (PV.guardFlat (gd E 3) (PV.guardFlat (gd E 4) (PV.guardFlat (gd E 5) (PV.guardFlat (gd E 6) (PV.guardOwn (.own 4 64 true [.leaf,.leaf,(.own 3 32 true []),(.own 3 32 true [])]) (gd E 7) (PV.guardOwn (.own 1 24 true [(.own 3 32 true [])]) (gd E 8) (
 PV.guardOwn (.own 1 16 false []) (gd E 9) (bd (vH (.agg [s,t,u,v,w,x,y,z,A,B])) λF=>PV.guardFlat (gd F 0) (PV.guardFlat (gd F 1) (PV.guardFlat (gd F 2) (PV.guardFlat (gd F 3) (PV.guardFlat (gd F 4) (PV.guardFlat (gd F 5) (PV.guardFlat (gd F 6) (PV.guardOwn (.own 4 64 true [.leaf,.leaf,(.own 3 32 true []),(.own 3 32 true [])]) (gd F 7) (PV.guardOwn (.own 1 24 true [(.own 3 32 true [])]) (gd F 8) (
 PV.guardOwn (.own 1 16 false []) (gd F 9) (bd (aBa (.agg [(gd E 7),(gd E 8),(gd E 0),(gd E 9),(gd E 1),(gd E 2),(gd E 3),(gd E 4),(gd E 5),(gd E 6)]) (.agg [(gd F 7),(gd F 8),(gd F 0),(gd F 9),(gd F 1),(gd F 2),(gd F 3),(gd F 4),(gd F 5),(gd F 6)])) λG=>PV.guardFlat (hd G) (some [(hd G)])))))))))))))))))))))) (some [.bool false])) (some [.bool false]):=aW _ _ _ (by kernel_rfl)
theorem aCg : rV a=bd (zR a) λb=>bd (rW (gd b 0) (gd b 1) (gd b 2)) λc=>bd (PV.whole 2 (gd c 0)) λd=>bd (PV.cell d 0) λe=>bd (PV.cell d 1) λf=>bd (vG e f (.I 15) (gd c 1) (gd c 2) (gd c 3)) λg=>bd (PV.whole 10 (gd g 0)) λh=>bd (PV.cell h 0) λi=>bd (PV.cell h 1) λj=>bd (PV.cell h 2) λk=>
 bd (PV.cell h 3) λl=>bd (PV.cell h 4) λm=>bd (PV.cell h 5) λn=>bd (PV.cell h 6) λo=>bd (PV.cell h 7) λp=>bd (PV.cell h 8) λq=>bd (PV.cell h 9) λr=>bd (rU (.agg [e,f]) (.agg [i,j,k,l,m,n,o,p,q,r])) λs=>PV.ite (hd s) (bd (tH i j k l m n o p q r (gd g 1) (gd g 2) (gd g 3)) λt=>bd (PV.whole 10 (gd t 0)) λu=>bd (PV.cell u 0) λv=>
 bd (PV.cell u 1) λw=>bd (PV.cell u 2) λx=>bd (PV.cell u 3) λy=>bd (PV.cell u 4) λz=>bd (PV.cell u 5) λA=>bd (PV.cell u 6) λB=>bd (PV.cell u 7) λC=>bd (PV.cell u 8) λD=>bd (PV.cell u 9) λE=>some [(.tup [(.agg [e,f]),(.agg [v,w,x,y,z,A,B,C,D,E])])]) (some [(.tup [(.agg [e,f]),(.agg [i,j,k,l,m,n,o,p,q,r])])]):=aW _ _ _ (by kernel_rfl)
theorem aDU : vC a b=bd (PV.len a) λc=>bd (PV.len b) λd=>bd (PV.bin .neq c d) λe=>PV.ite e (some [.bool false]) (mX a b (.I 0)):=aW _ _ _ (by kernel_rfl)
theorem sR : mX a b c=bd (PV.len a) λd=>bd (PV.bin .lss c d) λe=>PV.ite e (bd (PV.at_ 1 false a c) λf=>bd (PV.at_ 1 false b c) λg=>bd (PV.bin .neq f g) λh=>PV.ite h (some [.bool false]) (bd (PV.bin .add c (.I 1)) λi=>mX a b i)) (some [.bool true]):=aV _ _ _ _ _ _ _ _ (by kernel_rfl)
theorem aC7 : mK a b=bd (PV.len a) λc=>bd (PV.len b) λd=>bd (PV.bin .neq c d) λe=>PV.ite e (some [.bool false]) (lY a b (.I 0)):=aW _ _ _ (by kernel_rfl)
theorem rG : lY a b c=bd (PV.len a) λd=>bd (PV.bin .lss c d) λe=>PV.ite e (bd (PV.at_ 3 true a c) λf=>bd (PV.at_ 3 true b c) λg=>bd (PV.whole 3 f) λh=>bd (PV.cell h 0) λi=>bd (PV.cell h 1) λj=>bd (PV.cell h 2) λk=>bd (PV.whole 3 g) λl=>bd (PV.cell l 0) λm=>bd (PV.cell l 1) λn=>bd (PV.cell l 2) λo=>bd (PV.ceq [1,1,2] .neq (.agg [i,j,k]) (.agg [m,n,o])) λp=>
 PV.ite p (some [.bool false]) (bd (PV.bin .add c (.I 1)) λq=>lY a b q)) (some [.bool true]):=aV _ _ _ _ _ _ _ _ (by kernel_rfl)
theorem aFS : qK a=bd (PV.whole 2 a) λb=>bd (PV.cell b 0) λc=>bd (PV.cell b 1) λd=>bd (aBb (.agg [c,d])) λe=>bd (PV.cell (hd e) 0) λf=>bd (PV.bin .eql f (.I 0)) λg=>some [g]:=aW _ _ _ (by kernel_rfl)
theorem aAx : aDQ a b=bd (PV.whole 2 a) λc=>bd (PV.cell c 0) λd=>bd (PV.cell c 1) λe=>bd (PV.whole 10 b) λf=>bd (PV.cell f 0) λg=>bd (PV.cell f 1) λh=>bd (PV.cell f 2) λi=>bd (PV.cell f 3) λj=>bd (PV.cell f 4) λk=>bd (PV.cell f 5) λl=>bd (PV.cell f 6) λm=>bd (PV.cell f 7) λn=>bd (PV.cell f 8) λo=>bd (PV.cell f 9) λp=>
 bd (PV.len h) λq=>bd (PV.bin .gtr q (.I 120)) λr=>PV.ite r (some [.bool false]) (bd (aM i q (.I 120)) λs=>bd (PV.not (hd s)) λt=>PV.ite t (some [.bool false]) (bd (PV.len j) λu=>bd (PV.bin .gtr u (.I 200)) λv=>PV.ite v (some [.bool false]) (bd (aM p (.I 0) (.I 50000)) λw=>bd (PV.not (hd w)) λx=>PV.ite x
 (some [.bool false]) (bd (vD (.agg [d,e]) (.agg [m,n,o]) q) λy=>bd (PV.not (hd y)) λz=>PV.ite z (some [.bool false]) (jV q (.I 0) d e g h i j k l m n o p))))):=aW _ _ _ (by kernel_rfl)
theorem mD : jV a b c d e f g h i j k l m n=bd (PV.bin .lss b a) λo=>PV.ite o (bd (PV.at_ 1 true f b) λp=>bd (PV.cell p 0) λq=>bd (PV.len q) λr=>bd (PV.bin .gtr r (.I 6)) λs=>PV.ite s (some [.bool false]) (bd (PV.at_ 1 true f b) λt=>bd (PV.cell t 0) λu=>bd (lK (.agg [c,d]) u a) λv=>bd (PV.not (hd v)) λw=>
 PV.ite w (some [.bool false]) (bd (PV.bin .add b (.I 1)) λx=>jV a x c d e f g h i j k l m n))) (fL a (.I 0) c d e f g h i j k l m n):=aV _ _ _ _ _ _ _ _ (by kernel_rfl)
theorem lB : fL a b c d e f g h i j k l m n=bd (PV.len h) λo=>bd (PV.bin .lss b o) λp=>PV.ite p (bd (PV.at_ 1 false h b) λq=>bd (nU q) λr=>bd (PV.not (hd r)) λs=>PV.ite s (some [.bool false]) (bd (PV.bin .add b (.I 1)) λt=>fL a t c d e f g h i j k l m n)) (bd (PV.bin .eql i (.I 1)) λu=>PV.ite u
 (bd (PV.len e) λv=>bd (PV.bin .eql v (.I 0)) λw=>PV.ite w (bd (PV.bin .eql j (.I 0)) λx=>some [x]) (some [.bool false])) (bd (PV.bin .neq i (.I 0)) λy=>PV.ite y (bd (PV.bin .neq i (.I 2)) λz=>PV.ite z (some [.bool false]) (bd (PV.ceq [1,1,2] .neq (.agg [k,l,m]) (.agg [(.I 0),(.I 0),(.str (bs []))])) λA=>PV.ite A (some [.bool false])
 (bd (PV.len e) λB=>bd (aM B (.I 1) (.I 24)) λC=>bd (PV.not (hd C)) λD=>PV.ite D (some [.bool false]) (bd (PV.bin .eql i (.I 0)) λE=>PV.ite E (bd (PV.bin .neq j (.I 0)) λF=>PV.ite F (some [.bool false]) (bd (PV.bin .eql i (.I 2)) λG=>PV.ite G (bd (aM j (.I 1) (.I 8)) λH=>bd (PV.not (hd H)) λI=>
 PV.ite I (some [.bool false]) (bO a (.I 0) c d e f g h i j k l m n)) (bO a (.I 0) c d e f g h i j k l m n))) (bd (PV.bin .eql i (.I 2)) λJ=>PV.ite J (bd (aM j (.I 1) (.I 8)) λK=>bd (PV.not (hd K)) λL=>PV.ite L (some [.bool false]) (bO a (.I 0) c d e f g h i j k l m n)) (bO a (.I 0) c d e f g h i j k l m n))))))
 (bd (PV.ceq [1,1,2] .neq (.agg [k,l,m]) (.agg [(.I 0),(.I 0),(.str (bs []))])) λM=>PV.ite M (some [.bool false]) (bd (PV.len e) λN=>bd (aM N (.I 1) (.I 24)) λO=>bd (PV.not (hd O)) λP=>PV.ite P (some [.bool false]) (bd (PV.bin .eql i (.I 0)) λQ=>PV.ite Q (bd (PV.bin .neq j (.I 0)) λR=>PV.ite R (some [.bool false])
 (bd (PV.bin .eql i (.I 2)) λS=>PV.ite S (bd (aM j (.I 1) (.I 8)) λT=>bd (PV.not (hd T)) λU=>PV.ite U (some [.bool false]) (bO a (.I 0) c d e f g h i j k l m n)) (bO a (.I 0) c d e f g h i j k l m n))) (bd (PV.bin .eql i (.I 2)) λV=>PV.ite V (bd (aM j (.I 1) (.I 8)) λW=>
 bd (PV.not (hd W)) λX=>PV.ite X (some [.bool false]) (bO a (.I 0) c d e f g h i j k l m n)) (bO a (.I 0) c d e f g h i j k l m n))))))):=aV _ _ _ _ _ _ _ _ (by kernel_rfl)
theorem lC : bO a b c d e f g h i j k l m n=bd (PV.len e) λo=>bd (PV.bin .lss b o) λp=>PV.ite p (bd (PV.at_ 4 true e b) λq=>bd (PV.len e) λr=>bd (PV.bin .sub r (.I 1)) λs=>bd (PV.bin .eql b s) λt=>bd (pF (.agg [c,d]) q a t) λu=>bd (PV.not (hd u)) λv=>PV.ite v (some [.bool false]) (bd (PV.bin .add b (.I 1)) λw=>
 bO a w c d e f g h i j k l m n)) (some [.bool true]):=aV _ _ _ _ _ _ _ _ (by kernel_rfl)
theorem aHe : aA9 a=bd (PV.whole 2 a) λb=>bd (PV.cell b 0) λc=>bd (PV.cell b 1) λd=>bd (aBc (.agg [c,d])) λe=>bd (PV.whole 3 (hd e)) λf=>bd (PV.cell f 0) λg=>bd (PV.cell f 1) λh=>bd (PV.cell f 2) λi=>bd (PV.ceq [1,1,1] .eql (.agg [g,h,i]) (.agg [(.I 0),(.I 0),(.I 0)])) λj=>some [j]:=aW _ _ _ (by kernel_rfl)
end
end Go.Proofs.YtllmobkkbpdchaaGreat
