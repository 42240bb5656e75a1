/-
  Texts of the proof, part 4: a value-level evaluator and its soundness, what the functions compute, laws about it.
  Conditions: none.
-/
import Derived.Test.YtllmobkkbpdchaaGreatC
import Derived.Shelf.Spec.SlicesGrow
import Derived.Shelf.Strconv.Itoa3
import Derived.Shelf.SlGeneric
import Derived.Ground.Names8Prog
set_option linter.all false
namespace Go.Proofs.YtllmobkkbpdchaaGreat
noncomputable section
open Go
def bA.back (m c : bA) (bs kl : List Nat) (n k n' k' : Nat) (s : Sx) : bA:=
 { w:=c.w,Z:=c.Z,L:=m.L,s:=s,
   ρ:={ box:=λx=>match eI bs n k x with | some i=>c.ρ.box i | none=>m.ρ.box x
        hdr:=λx=>match eI kl n' k' x with | some i=>c.ρ.hdr i | none=>m.ρ.hdr x
        fp:=λx=>match eI kl n' k' x with | some i=>c.ρ.fp i | none=>m.ρ.fp x
        ty:=λx=>match eI kl n' k' x with | some i=>c.ρ.ty i | none=>m.ρ.ty x
        ub:=λx=>m.ρ.ub x∨(n≤x∧x<n+k)
        ul:=λx=>m.ρ.ul x∨(n'≤x∧x<n'+k')}}
theorem fG (bs : List Nat) (n k x : Nat) : (∃ i,eI bs n k x=some i∧bs[i]? = some x)∨(∃ i,eI bs n k x=some (bs.length+i)∧x=n+i∧i<k∧x∉bs)∨(eI bs n k x=none∧x∉bs∧¬ (n≤x∧x<n+k)):=by
 rcases aH9 (l:=bs) x with ⟨i,h1,h2⟩ | ⟨h1,h2⟩
 ·exact .inl ⟨i,by unfold eI;rw [h1],h2⟩
 ·by_cases h : n≤x∧x<n+k
  ·exact .inr (.inl ⟨x - n,by unfold eI;rw [h1];simp only [if_pos h],by omega,by omega,h2⟩)
  ·exact .inr (.inr ⟨by unfold eI;rw [h1];simp only [if_neg h],h2,h⟩)
theorem aDj (n k x : Nat) : eI [] n k x=yT n k x:=by
 unfold eI yT
 simp only [idx,List.length_nil,Nat.zero_add]
theorem aGl (n k x : Nat) : (∃ i,yT n k x=some i∧x=n+i∧i<k)∨(yT n k x=none∧¬ (n≤x∧x<n+k)):=by
 unfold yT
 by_cases h : n≤x∧x<n+k
 ·rw [if_pos h];exact .inl ⟨x - n,rfl,by omega,by omega⟩
 ·rw [if_neg h];exact .inr ⟨rfl,h⟩
theorem zP.mono {w w' : World} {Z Z' : Nat→Prop} {ρ ρ' : Loc} {live live' gone gone' : Nat→Prop} (C : zP w w' Z Z' ρ ρ' live live' gone) (h : ∀ l,gone l→gone' l) : zP w w' Z Z' ρ ρ' live live' gone':=
 ⟨C.z,C.hw,C.b,C.u,λl hu hl=>⟨(C.l l hu hl).1,(C.l l hu hl).2.1,(C.l l hu hl).2.2.1,(C.l l hu hl).2.2.2.imp (h l) _root_.id⟩⟩
theorem dJ.kept {w w' : World} {Z Z' : Nat→Prop} {ρ ρ' : Loc} {live live' : Nat→Prop} {kp : Bool} {kl : List Nat} (hk : kp=false→kl = []) (C : zP w w' Z Z' ρ ρ' live live' (λl=>l∈kl)) {d : DV} {v : Value}
 (h : dJ w Z ρ live d v) : dJ w' Z' ρ' live' (scrubKeptD kp kl d) v:=by
 unfold scrubKeptD
 cases kp with
 | true=>exact dJ.scrub C deep h
 | false=>
   have:=hk rfl
   subst this
   exact dJ.carry (C.mono (λl hl=>by cases hl)) h
section
variable {m c : bA} {kp : Bool} {bs ls kl : List Nat} {n k n' k' : Nat} {s0 : St} {S : Sx}
structure vF (m c : bA) (kp : Bool) (bs ls kl : List Nat) (n k n' k' : Nat) (S : Sx) : Prop where
 kk : kp=false→kl = []
 kn : kl.Nodup
 ks : ∀ l∈kl,l∈ls
 row : ∀ i l,kl[i]? = some l→c.s.live i→c.ρ.hdr i=m.ρ.hdr l∧c.ρ.ty i=m.ρ.ty l
 inv : oG m
 cinv : oG c
 nb : bs.Nodup
 ab : ∀ b∈bs,∃ cs,m.s.box b=some cs
 al : ∀ l∈ls,∃ o,m.s.list l=some o
 size : m.w.heap.size≤c.w.heap.size
 os : c.w.os=m.w.os
 tape : c.w.tape=m.w.tape
 output : c.w.output=m.w.output
 keep : ∀ r,r<m.w.heap.size→¬ ((∃ b∈bs,r=m.ρ.box b)∨(∃ l∈ls,m.ρ.fp l r))→c.w.heap[r]? = m.w.heap[r]?
 own : ∀ r,c.owned r→((∃ b∈bs,r=m.ρ.box b)∨(∃ l∈ls,m.ρ.fp l r))∨m.w.heap.size≤r
 z : ∀ r,c.Z r→m.Z r∨((∃ b∈bs,r=m.ρ.box b)∨(∃ l∈ls,m.ρ.fp l r))∨m.w.heap.size≤r
 zz : ∀ r,m.Z r→c.Z r
 box : ∀ i b,bs[i]? = some b→c.ρ.box i=m.ρ.box b
 freshB : ∀ x,n≤x→x<n+k→¬ m.ρ.ub x
 freshL : ∀ x,n'≤x→x<n'+k'→¬ m.ρ.ul x
 sb : ∀ x cs,S.box x=some cs→(∃ i cs0,eI bs n k x=some i∧c.s.box i=some cs0∧cs.length=cs0.length∧∀ (j : Nat) d0 d v,cs0[j]? = some d0→cs[j]? = some d→c.rd d0 v→(m.back c bs kl n k n' k' S).rd d v)∨(eI bs n k x=none∧∃ cs0,m.s.box x=some cs0∧cs=cs0.map (scrubKeptD kp kl))
 sbx : ∀ x,(∃ cs,m.s.box x=some cs)→∃ cs,S.box x=some cs
 sl : ∀ x o,S.list x=some o→(∃ i,eI kl n' k' x=some i∧c.s.list i=some o)∨(eI kl n' k' x=none∧x∉ls∧m.s.list x=some o)
def aGm (m : bA) (bs ls : List Nat) (r : Nat) : Prop:=(∃ b∈bs,r=m.ρ.box b)∨(∃ l∈ls,m.ρ.fp l r)
theorem vF.mine (C : vF m c kp bs ls kl n k n' k' S) {r : Nat} (ho : m.owned r) (hn : ¬ aGm m bs ls r) : c.w.heap[r]? = m.w.heap[r]?∧¬ c.Z r∧¬ c.owned r∧r<m.w.heap.size:=by
 have hlt:=C.inv.owned_lt ho
 refine ⟨C.keep r hlt hn,λhz=>?_,λh=>?_,hlt⟩
 ·rcases C.z r hz with h | h | h
  ·exact C.inv.owned_notZ ho h
  ·exact hn h
  ·omega
 ·rcases C.own r h with h | h
  ·exact hn h
  ·omega
theorem vF.boxOut (C : vF m c kp bs ls kl n k n' k' S) {x : Nat} {cs : List DV} (hx : m.s.box x=some cs) (hn : x∉bs) : ¬ aGm m bs ls (m.ρ.box x):=by
 rintro (⟨b,hb,e⟩ | ⟨l,hl,h⟩)
 ·obtain ⟨cs',hcs'⟩:=C.ab b hb
  exact hn (C.inv.bb x cs b cs' hx hcs' e▸hb)
 ·obtain ⟨o,ho⟩:=C.al l hl
  exact C.inv.bl x cs l o hx ho h
theorem vF.rowOut (C : vF m c kp bs ls kl n k n' k' S) {l : Nat} {o : Own} (hl : m.s.list l=some o) (hn : l∉ls) {r : Nat} (hr : m.ρ.fp l r) : ¬ aGm m bs ls r:=by
 rintro (⟨b,hb,rfl⟩ | ⟨l',hl',h⟩)
 ·obtain ⟨cs',hcs'⟩:=C.ab b hb
  exact C.inv.bl b cs' l o hcs' hl hr
 ·obtain ⟨o',ho'⟩:=C.al l' hl'
  exact hn (C.inv.ll l o l' o' r hl ho' hr h▸hl')
theorem vF.LOut (C : vF m c kp bs ls kl n k n' k' S) {r : Nat} (hr : m.L r) : ¬ aGm m bs ls r:=by
 rintro (⟨b,hb,rfl⟩ | ⟨l,hl,h⟩)
 ·obtain ⟨cs',hcs'⟩:=C.ab b hb
  exact C.inv.Lb b cs' hcs' hr
 ·obtain ⟨o,ho⟩:=C.al l hl
  exact C.inv.Ll l o r ho h hr
theorem vF.rd (C : vF m c kp bs ls kl n k n' k' S) {d : DV} {v : Value} (h : m.rd d v) : (m.back c bs kl n k n' k' S).rd (scrubKeptD kp kl d) v:=by
 have Cr : zP m.w c.w m.Z c.Z m.ρ (m.back c bs kl n k n' k' S).ρ m.s.live S.live (λl=>l∈kl):={
  z:=C.zz
  hw:=λr hr=>C.keep r (C.inv.zlt r hr) (by
   rintro (⟨b,hb,rfl⟩ | ⟨l,hl,h⟩)
   ·obtain ⟨cs',hcs'⟩:=C.ab b hb
    exact C.inv.bz b cs' hcs' hr
   ·obtain ⟨o,ho⟩:=C.al l hl
    exact (C.inv.row l o ho).2.2.notZ r h hr)
  b:=λb hb=>by
   refine ⟨.inl hb,?_⟩
   show (match eI bs n k b with | some i=>c.ρ.box i | none=>m.ρ.box b)=_
   rcases fG bs n k b with ⟨i,h1,h2⟩ | ⟨i,h1,h2,h3,h4⟩ | ⟨h1,_⟩
   ·rw [h1];exact C.box i b h2
   ·exact absurd hb (C.freshB b (by omega) (by omega))
   ·rw [h1]
  u:=λl hl=>.inl hl
  l:=λl hu hv=>by
   show _∧(match eI kl n' k' l with | some i=>c.ρ.hdr i | none=>m.ρ.hdr l)=_∧(match eI kl n' k' l with | some i=>c.ρ.ty i | none=>m.ρ.ty l)=_∧
    (l∈kl∨_∨∀ r,m.ρ.fp l r→(match eI kl n' k' l with | some i=>c.ρ.fp i | none=>m.ρ.fp l) r∧_)
   rcases fG kl n' k' l with ⟨i,h1,h2⟩ | ⟨i,h1,h2,h3,_⟩ | ⟨h1,_⟩
   ·rw [h1]
    have hm:=List.mem_of_getElem? h2
    obtain ⟨o,ho⟩:=C.al l (C.ks l hm)
    cases hs : S.list l with
    | none=>exact absurd hs hv
    | some o'=>
      rcases C.sl l o' hs with ⟨i',g1,g2⟩ | ⟨g1,_⟩
      ·rw [h1] at g1
       cases g1
       obtain ⟨q1,q2⟩:=C.row i l h2 (bA.live_of g2)
       exact ⟨bA.live_of ho,q1,q2,.inl hm⟩
      ·rw [h1] at g1;cases g1
   ·exact absurd hu (C.freshL l (by omega) (by omega))
   ·rw [h1]
    cases hs : S.list l with
    | none=>exact absurd hs hv
    | some o=>
      rcases C.sl l o hs with ⟨i,g1,_⟩ | ⟨_,g2,g3⟩
      ·rw [h1] at g1;cases g1
      ·exact ⟨bA.live_of g3,rfl,rfl,.inr (.inr λr hr=>⟨hr,(C.mine (.inr (.inl ⟨l,o,g3,hr⟩)) (C.rowOut g3 g2 hr)).1⟩)⟩}
 exact dJ.kept C.kk Cr h
theorem vF.boxOf (C : vF m c kp bs ls kl n k n' k' S) {x : Nat} {cs : List DV} (h : S.box x=some cs) :
 (∃ i cs0,eI bs n k x=some i∧c.s.box i=some cs0∧(m.back c bs kl n k n' k' S).ρ.box x=c.ρ.box i)∨(eI bs n k x=none∧(∃ cs0,m.s.box x=some cs0∧cs=cs0.map (scrubKeptD kp kl))∧x∉bs∧(m.back c bs kl n k n' k' S).ρ.box x=m.ρ.box x):=by
 rcases C.sb x cs h with ⟨i,cs0,h1,h2,_⟩ | ⟨h1,h2⟩
 ·refine .inl ⟨i,cs0,h1,h2,?_⟩
  show (match eI bs n k x with | some i=>c.ρ.box i | none=>m.ρ.box x)=_
  rw [h1]
 ·refine .inr ⟨h1,h2,?_,?_⟩
  ·rcases fG bs n k x with ⟨i,g1,_⟩ | ⟨i,g1,_⟩ | ⟨_,g2,_⟩
   ·rw [h1] at g1;cases g1
   ·rw [h1] at g1;cases g1
   ·exact g2
  ·show (match eI bs n k x with | some i=>c.ρ.box i | none=>m.ρ.box x)=_
   rw [h1]
theorem vF.rowOf (C : vF m c kp bs ls kl n k n' k' S) {x : Nat} {o : Own} (h : S.list x=some o) :
 (∃ i,eI kl n' k' x=some i∧c.s.list i=some o∧(m.back c bs kl n k n' k' S).ρ.fp x=c.ρ.fp i∧(m.back c bs kl n k n' k' S).ρ.hdr x=c.ρ.hdr i∧(m.back c bs kl n k n' k' S).ρ.ty x=c.ρ.ty i)∨
 (eI kl n' k' x=none∧m.s.list x=some o∧x∉ls∧(m.back c bs kl n k n' k' S).ρ.fp x=m.ρ.fp x∧(m.back c bs kl n k n' k' S).ρ.hdr x=m.ρ.hdr x∧(m.back c bs kl n k n' k' S).ρ.ty x=m.ρ.ty x):=by
 rcases C.sl x o h with ⟨i,h1,h2⟩ | ⟨h1,h2,h3⟩
 ·refine .inl ⟨i,h1,h2,?_,?_,?_⟩
  ·show (match eI kl n' k' x with | some i=>c.ρ.fp i | none=>m.ρ.fp x)=_
   rw [h1]
  ·show (match eI kl n' k' x with | some i=>c.ρ.hdr i | none=>m.ρ.hdr x)=_
   rw [h1]
  ·show (match eI kl n' k' x with | some i=>c.ρ.ty i | none=>m.ρ.ty x)=_
   rw [h1]
 ·refine .inr ⟨h1,h3,h2,?_,?_,?_⟩
  ·show (match eI kl n' k' x with | some i=>c.ρ.fp i | none=>m.ρ.fp x)=_
   rw [h1]
  ·show (match eI kl n' k' x with | some i=>c.ρ.hdr i | none=>m.ρ.hdr x)=_
   rw [h1]
  ·show (match eI kl n' k' x with | some i=>c.ρ.ty i | none=>m.ρ.ty x)=_
   rw [h1]
theorem aJ6 (hn : bs.Nodup) {x y i : Nat} (hx : eI bs n k x=some i) (hy : eI bs n k y=some i) : x=y:=by
 have hlt : ∀ {z i},bs[i]? = some z→i<bs.length:=λh=>(List.getElem?_eq_some_iff.1 h).1
 rcases fG bs n k x with ⟨i1,a1,a2⟩ | ⟨i1,a1,a2,_,_⟩ | ⟨a1,_⟩<;>rw [hx] at a1<;>first | (cases a1;done) | skip
 ·cases a1
  rcases fG bs n k y with ⟨i2,b1,b2⟩ | ⟨i2,b1,b2,_,_⟩ | ⟨b1,_⟩<;>rw [hy] at b1<;>first | (cases b1;done) | skip
  ·cases b1;rw [a2] at b2;cases b2;rfl
  ·have:=hlt a2;simp at b1;omega
 ·rcases fG bs n k y with ⟨i2,b1,b2⟩ | ⟨i2,b1,b2,_,_⟩ | ⟨b1,_⟩<;>rw [hy] at b1<;>first | (cases b1;done) | skip
  ·have:=hlt b2;simp at a1 b1;omega
  ·simp at a1 b1;omega
theorem vF.invB (C : vF m c kp bs ls kl n k n' k' S) : oG (m.back c bs kl n k n' k' S):=by
 have oldB : ∀ {x cs},m.s.box x=some cs→x∉bs→c.w.heap[m.ρ.box x]? = m.w.heap[m.ρ.box x]?∧¬ c.Z (m.ρ.box x)∧¬ c.owned (m.ρ.box x)∧m.ρ.box x<m.w.heap.size:=λhx hn=>C.mine (.inl ⟨_,_,hx,rfl⟩) (C.boxOut hx hn)
 have oldL : ∀ {l o r},m.s.list l=some o→l∉ls→m.ρ.fp l r→c.w.heap[r]? = m.w.heap[r]?∧¬ c.Z r∧¬ c.owned r∧r<m.w.heap.size:=λhl hn hr=>C.mine (.inr (.inl ⟨_,_,hl,hr⟩)) (C.rowOut hl hn hr)
 have hZw : ∀ r,m.Z r→c.w.heap[r]? = m.w.heap[r]?:=λr hr=>C.keep r (C.inv.zlt r hr) (by
  rintro (⟨b,hb,rfl⟩ | ⟨l,hl,h⟩)
  ·obtain ⟨cs',hcs'⟩:=C.ab b hb
   exact C.inv.bz b cs' hcs' hr
  ·obtain ⟨o,ho⟩:=C.al l hl
   exact (C.inv.row l o ho).2.2.notZ r h hr)
 refine ⟨?_,?_,C.cinv.zlt,?_,?_,?_,?_,?_,?_,?_,?_,?_⟩
 ·intro x cs h
  have h : S.box x=some cs:=h
  rcases C.sb x cs h with ⟨i,cs0,h1,_⟩ | ⟨h1,cs0,h2,_⟩
  ·rcases fG bs n k x with ⟨i1,a1,a2⟩ | ⟨i1,a1,a2,a3,_⟩ | ⟨a1,_⟩
   ·obtain ⟨cs',hcs'⟩:=C.ab x (List.mem_of_getElem? a2)
    exact .inl (C.inv.ub x cs' hcs')
   ·exact .inr (by omega)
   ·rw [h1] at a1;cases a1
  ·exact .inl (C.inv.ub x cs0 h2)
 ·intro l o h
  have h : S.list l=some o:=h
  rcases C.sl l o h with ⟨i,h1,_⟩ | ⟨h1,_,h2⟩
  ·rcases fG kl n' k' l with ⟨i1,a1,a2⟩ | ⟨i1,a1,a2,a3,_⟩ | ⟨a1,_⟩
   ·obtain ⟨o',ho'⟩:=C.al l (C.ks l (List.mem_of_getElem? a2))
    exact .inl (C.inv.ul l o' ho')
   ·exact .inr (by omega)
   ·rw [h1] at a1;cases a1
  ·exact .inl (C.inv.ul l o h2)
 ·intro x cs h
  have h : S.box x=some cs:=h
  rcases C.sb x cs h with ⟨i,cs0,h1,h2,h3,h4⟩ | ⟨h1,cs0,h2,he⟩
  ·obtain ⟨vs,ety,g1,g2,g3,g4⟩:=C.cinv.box i cs0 h2
   refine ⟨vs,ety,?_,by omega,g3,λj d v hd hv=>?_⟩
   ·show c.w.heap[(match eI bs n k x with | some i=>c.ρ.box i | none=>m.ρ.box x)]? = _
    rw [h1];exact g1
   ·have hj : j<cs0.length:=by have:=(List.getElem?_eq_some_iff.1 hd).1;omega
    have hd0 : cs0[j]? = some cs0[j]:=List.getElem?_eq_getElem hj
    exact h4 j _ d v hd0 hd (g4 j _ v hd0 hv)
  ·obtain ⟨vs,ety,g1,g2,g3,g4⟩:=C.inv.box x cs0 h2
   obtain ⟨_,_,q3,q4⟩:=(C.boxOf h).resolve_left (by rintro ⟨i,cs0,e,_⟩;rw [h1] at e;cases e)
   subst he
   refine ⟨vs,ety,by rw [q4];exact (oldB h2 q3).1.trans g1,by rw [List.length_map];exact g2,g3,λj d v hd hv=>?_⟩
   rw [List.getElem?_map] at hd
   cases hj : cs0[j]? with
   | none=>rw [hj] at hd;cases hd
   | some d0=>rw [hj] at hd;cases hd;exact C.rd (g4 j d0 v hj hv)
 ·intro l o h
  have h : S.list l=some o:=h
  rcases C.rowOf h with ⟨i,h1,h2,e1,e2,e3⟩ | ⟨h1,h2,h3,e1,e2,e3⟩
  ·obtain ⟨g1,g2,g3⟩:=C.cinv.row i o h2
   rw [e1,e2,e3]
   exact ⟨g1,g2,g3⟩
  ·obtain ⟨g1,g2,g3⟩:=C.inv.row l o h2
   rw [e1,e2,e3]
   exact ⟨g1,g2,g3.frame C.zz hZw (λr hr=>(oldL h2 h3 hr).1) (λr hr=>(oldL h2 h3 hr).2.1)⟩
 ·intro x cs h
  have h : S.box x=some cs:=h
  rcases C.boxOf h with ⟨i,cs0,h1,h2,e⟩ | ⟨h1,⟨_,h2,_⟩,h3,e⟩
  ·rw [e];exact C.cinv.bz i cs0 h2
  ·rw [e];exact (oldB h2 h3).2.1
 ·intro x cs x' cs' h h' he
  have h : S.box x=some cs:=h
  have h' : S.box x'=some cs':=h'
  rcases C.boxOf h with ⟨i,cs0,h1,h2,e⟩ | ⟨h1,⟨_,h2,_⟩,h3,e⟩<;>rcases C.boxOf h' with ⟨i',cs0',h1',h2',e'⟩ | ⟨h1',⟨_,h2',_⟩,h3',e'⟩<;>rw [e,e'] at he
  ·have:=C.cinv.bb i cs0 i' cs0' h2 h2' he
   subst this
   exact aJ6 C.nb h1 h1'
  ·exact ((oldB h2' h3').2.2.1 (by rw [← he];exact .inl ⟨i,cs0,h2,rfl⟩)).elim
  ·exact ((oldB h2 h3).2.2.1 (by rw [he];exact .inl ⟨i',cs0',h2',rfl⟩)).elim
  ·exact C.inv.bb x _ x' _ h2 h2' he
 ·intro x cs l o h h'
  have h : S.box x=some cs:=h
  have h' : S.list l=some o:=h'
  rcases C.boxOf h with ⟨i,cs0,h1,h2,e⟩ | ⟨h1,⟨_,h2,_⟩,h3,e⟩<;>rcases C.rowOf h' with ⟨i',h1',h2',e1,_⟩ | ⟨h1',h2',h3',e1,_⟩<;>rw [e,e1]
  ·exact C.cinv.bl i cs0 i' o h2 h2'
  ·exact λhr=>(oldL h2' h3' hr).2.2.1 (.inl ⟨i,cs0,h2,rfl⟩)
  ·exact λhr=>(oldB h2 h3).2.2.1 (.inr (.inl ⟨i',o,h2',hr⟩))
  ·exact C.inv.bl x _ l o h2 h2'
 ·intro l o l' o' r h h' hr hr'
  have h : S.list l=some o:=h
  have h' : S.list l'=some o':=h'
  rcases C.rowOf h with ⟨i,h1,h2,e1,_⟩ | ⟨h1,h2,h3,e1,_⟩<;>rcases C.rowOf h' with ⟨i',h1',h2',e1',_⟩ | ⟨h1',h2',h3',e1',_⟩<;>rw [e1] at hr<;>rw [e1'] at hr'
  ·have:=C.cinv.ll i o i' o' r h2 h2' hr hr'
   subst this
   exact aJ6 C.kn h1 h1'
  ·exact ((oldL h2' h3' hr').2.2.1 (.inr (.inl ⟨i,o,h2,hr⟩))).elim
  ·exact ((oldL h2 h3 hr).2.2.1 (.inr (.inl ⟨i',o',h2',hr'⟩))).elim
  ·exact C.inv.ll l o l' o' r h2 h2' hr hr'
 ·intro r hr
  obtain ⟨_,q2,_,q4⟩:=C.mine (.inr (.inr hr)) (C.LOut hr)
  exact ⟨q2,Nat.lt_of_lt_of_le q4 C.size⟩
 ·intro x cs h hL
  have h : S.box x=some cs:=h
  have hL : m.L _:=hL
  rcases C.boxOf h with ⟨i,cs0,h1,h2,e⟩ | ⟨h1,⟨_,h2,_⟩,h3,e⟩<;>rw [e] at hL
  ·exact (C.mine (.inr (.inr hL)) (C.LOut hL)).2.2.1 (.inl ⟨i,cs0,h2,rfl⟩)
  ·exact C.inv.Lb x _ h2 hL
 ·intro l o r h hr hL
  have h : S.list l=some o:=h
  have hL : m.L r:=hL
  rcases C.rowOf h with ⟨i,h1,h2,e1,_⟩ | ⟨h1,h2,h3,e1,_⟩<;>rw [e1] at hr
  ·exact (C.mine (.inr (.inr hL)) (C.LOut hL)).2.2.1 (.inr (.inl ⟨i,o,h2,hr⟩))
  ·exact C.inv.Ll l o r h2 hr hL
theorem vF.inCall (C : vF m c kp bs ls kl n k n' k' S) {r : Nat} (h : (∃ b∈bs,r=m.ρ.box b)∨(∃ l∈ls,m.ρ.fp l r)) : m.owned r:=by
 rcases h with ⟨b,hb,rfl⟩ | ⟨l,hl,h⟩
 ·obtain ⟨cs',hcs'⟩:=C.ab b hb
  exact .inl ⟨b,cs',hcs',rfl⟩
 ·obtain ⟨o,ho⟩:=C.al l hl
  exact .inr (.inl ⟨l,o,ho,h⟩)
theorem vF.step (C : vF m c kp bs ls kl n k n' k' S) {N : Nat} (h1 : N≤n) (h2 : n+k≤N+16) (h3 : N≤n') (h4 : n'+k'≤N+16) : gD m (m.back c bs kl n k n' k' S) (scrubKeptD kp kl) N where
 inv:=C.invB
 rd:=λd v h=>C.rd h
 size:=C.size
 os:=C.os
 tape:=C.tape
 output:=C.output
 keep:=λr hr ho=>C.keep r hr (λh=>ho (C.inCall h))
 own:=λr hr=>by
  rcases hr with ⟨x,cs,hx,rfl⟩ | ⟨l,o,hl,hf⟩ | hL
  ·rcases C.boxOf hx with ⟨i,cs0,g1,g2,e⟩ | ⟨g1,⟨_,g2,_⟩,g3,e⟩<;>rw [e]
   ·rcases C.own _ (.inl ⟨i,cs0,g2,rfl⟩) with h | h
    ·exact .inl (C.inCall h)
    ·exact .inr h
   ·exact .inl (.inl ⟨x,_,g2,rfl⟩)
  ·rcases C.rowOf hl with ⟨i,g1,g2,e,_⟩ | ⟨g1,g2,g3,e,_⟩<;>rw [e] at hf
   ·rcases C.own _ (.inr (.inl ⟨i,o,g2,hf⟩)) with h | h
    ·exact .inl (C.inCall h)
    ·exact .inr h
   ·exact .inl (.inr (.inl ⟨l,o,g2,hf⟩))
  ·exact .inl (.inr (.inr hL))
 z:=λr hr=>by
  rcases C.z r hr with h | h | h
  ·exact .inl h
  ·exact .inr (.inl (C.inCall h))
  ·exact .inr (.inr h)
 zz:=C.zz
 ub:=λb hb=>hb.imp id (λh=>by omega)
 ul:=λl hl=>hl.imp id (λh=>by omega)
 mub:=λb hb=>by
  refine ⟨.inl hb,?_⟩
  show (match eI bs n k b with | some i=>c.ρ.box i | none=>m.ρ.box b)=_
  rcases fG bs n k b with ⟨i,h1,h2⟩ | ⟨i,h1,h2,h3,h4⟩ | ⟨h1,_⟩
  ·rw [h1];exact C.box i b h2
  ·exact absurd hb (C.freshB b (by omega) (by omega))
  ·rw [h1]
 mul:=λl hl=>.inl hl
 bx:=λb cs hb=>C.sbx b ⟨cs,hb⟩
 hd:=λl hu hv=>by
  cases hs : S.list l with
  | none=>exact absurd hs hv
  | some o=>
    rcases C.rowOf hs with ⟨i,g1,g2,_⟩ | ⟨g1,g2,g3,e1,e2,e3⟩
    ·rcases fG kl n' k' l with ⟨i1,a1,a2⟩ | ⟨i1,a1,a2,a3,_⟩ | ⟨a1,_⟩
     ·rw [g1] at a1
      cases a1
      rename_i e1
      obtain ⟨o',ho'⟩:=C.al l (C.ks l (List.mem_of_getElem? a2))
      obtain ⟨q1,q2⟩:=C.row i l a2 (bA.live_of g2)
      exact ⟨bA.live_of ho',e1.2.1.trans q1,e1.2.2.trans q2⟩
     ·exact absurd hu (C.freshL l (by omega) (by omega))
     ·rw [g1] at a1;cases a1
    ·exact ⟨bA.live_of g2,e2,e3⟩
end
def aGn (P : Program) (mode : Nat→Option Tmpl) (S : Nat→List DV→St→Option R) : Prop:=∀ g t args s l,mode g=some t→S g args s=some l→lW P g∧∀ (m : bA) (aS : Array Value),iC m s s.base→args.length=aS.size→
 (∀ (i : Nat) d v,args[i]? = some d→aS[i]? = some v→m.rd d v)→Calls P g aS m.w (λe w'=>∃ v,e = .returned v∧uC m s.boxes.length (if t.keep then s.lists.length else 0) (some (t.fit s)) l v w')
theorem aDk : ∀ (ts : List (Option Own)) (ks : List (Option OTy)) (n : Nat),numO (fitO ts ks) n=numO ts n
 | [],[],_=>rfl
 | [],_::_,_=>rfl
 | some w::r,some o::q,n=>by
   simp only [fitO,numO]
   cases w.c<;>simp only [aDk r q]
 | some w::r,none::q,n=>by
   simp only [fitO,numO]
   cases w.c<;>simp only [aDk r q]
 | none::r,_::q,n=>by simp only [fitO,numO,aDk r q]
 | some _::_,[],_=>rfl
 | none::_,[],_=>rfl
theorem Tmpl.fit_keep {t : Tmpl} {s : St} : (t.fit s).keep=t.keep:=by
 unfold Tmpl.fit Tmpl.fitK
 split
 ·rfl
 ·rfl
theorem Tmpl.fit_wf {t : Tmpl} {s : St} (h : t.wf=true) : (t.fit s).wf=true:=by
 unfold Tmpl.fit Tmpl.fitK
 split
 ·unfold Tmpl.wf at h ⊢
  simp only [aDk]
  exact h
 ·exact h
theorem Tmpl.fit_nil {t : Tmpl} {s : St} (h : s.lists = []) : t.fit s=t:=by
 unfold Tmpl.fit Tmpl.fitK
 split
 ·rw [h]
  show ({ t with lists:=fitO t.lists []} : Tmpl)=t
  have : fitO t.lists []=t.lists:=by
   cases t.lists with
   | nil=>rfl
   | cons a r=>cases a<;>rfl
  rw [this]
 ·rfl
theorem aEf (l : R) : ∀ (bs : List (Option (List DV))),(fillB l bs).length=bs.length
 | []=>rfl
 | some _::r=>by simp [fillB,aEf l r]
 | none::r=>by simp [fillB,aEf l r]
theorem tS (l : R) : ∀ (bs : List (Option Own)),(fillO l bs).length=bs.length
 | []=>rfl
 | some _::r=>by simp [fillO,tS l r]
 | none::r=>by simp [fillO,tS l r]
theorem aCo (l : R) : ∀ {bs : List (Option (List DV))} {i : Nat} {fs : List DV},(fillB l bs)[i]? = some (some fs)→∃ ts,bs[i]? = some (some ts)
 | [],i,fs,h=>by simp [fillB] at h
 | some t::r,i,fs,h=>by
   cases i with
   | zero=>exact ⟨t,rfl⟩
   | succ i=>simpa using aCo l (bs:=r) (i:=i) (by simpa [fillB] using h)
 | none::r,i,fs,h=>by
   cases i with
   | zero=>simp [fillB] at h
   | succ i=>simpa using aCo l (bs:=r) (i:=i) (by simpa [fillB] using h)
theorem uD (l : R) : ∀ {bs : List (Option Own)} {i : Nat} {w : Own},(fillO l bs)[i]? = some (some w)→∃ ts,bs[i]? = some (some ts)
 | [],i,fs,h=>by simp [fillO] at h
 | some t::r,i,fs,h=>by
   cases i with
   | zero=>exact ⟨t,rfl⟩
   | succ i=>simpa using uD l (bs:=r) (i:=i) (by simpa [fillO] using h)
 | none::r,i,fs,h=>by
   cases i with
   | zero=>simp [fillO] at h
   | succ i=>simpa using uD l (bs:=r) (i:=i) (by simpa [fillO] using h)
theorem aE3 {α : Type} : ∀ {l : List (Option α)},allSome l=true→∀ (i : Nat) o,l[i]? = some o→∃ a,o=some a
 | [],_,i,o,h=>by simp at h
 | some a::r,h,i,o,hi=>by
   cases i with
   | zero=>simp at hi;exact ⟨a,hi.symm⟩
   | succ i=>exact aE3 (l:=r) h i o (by simpa using hi)
 | none::r,h,_,_,_=>by simp [allSome] at h
theorem getD_some {α : Type} {l : List (Option α)} {i : Nat} {x : α} (h : l.getD i none=some x) : l[i]? = some (some x):=by
 rw [List.getD] at h
 cases hi : l[i]? with
 | none=>rw [hi] at h;cases h
 | some o=>rw [hi] at h;simp at h;rw [h]
theorem aAF {m : bA} {s : St} {a : Seen} {r : Nat} (h : (m.pick a.bs a.ls (s.pick a)).owned r) : aGm m a.bs a.ls r:=by
 rcases h with ⟨i,cs,h,rfl⟩ | ⟨l,o,h,hr⟩ | h
 ·have h : (s.pick a).box i=some cs:=h
  rw [aAA] at h
  cases hbi : a.bs[i]? with
  | none=>rw [hbi] at h;cases h
  | some b=>
    refine .inl ⟨b,List.mem_of_getElem? hbi,?_⟩
    show m.ρ.box (a.bs.getD i 0)=_
    rw [dX hbi]
 ·have h : (s.pick a).list l=some o:=h
  rw [xW] at h
  cases hbi : a.ls[l]? with
  | none=>rw [hbi] at h;cases h
  | some l0=>
    refine .inr ⟨l0,List.mem_of_getElem? hbi,?_⟩
    have hr : m.ρ.fp (a.ls.getD l 0) r:=hr
    rw [dX hbi] at hr
    exact hr
 ·exact h.elim
section
variable {P : Program} {X : Cx} {O : Orc}
theorem aE4 (hS : aGn P X.mode O.S) {ft : Foot} {n0 : Nat} {t : Tmpl} {f : Nat} (hm : X.mode f=some t) (hwf : t.wf=true) {args : List DV} {s : St} {k : DV→St→List Nat→Option R} {r : R} (h : liveK O ft n0 t f args s k=some r) :
 lW P f∧∃ d' s' kl,k d' s' kl=some r∧s.nl≤s'.nl∧∀ (n : Nat) (m : bA) (B L WB WL : Nat→Prop),pD m s B L n→s'.nb≤n+16→s'.nl≤n+16→n≤n0→(∀ b∈ft.rb,B b∧WB b)→(∀ l∈ft.rl,L l∧WL l)→(t.keep=true→∀ x,(B x∧WB x)∧(L x∧WL x))→
  ∀ vs : Array Value,args.length=vs.size→(∀ (i : Nat) d v,args[i]? = some d→vs[i]? = some v→m.rd d v)→
    Calls P f vs m.w (λe w'=>∃ v,e = .returned v∧∃ m',m'.w=w'∧bT m m' s s' B L WB WL n (scrubKeptD t.keep kl)∧m'.rd d' v):=by
 unfold liveK at h
 generalize ha : reach s fuelR args ⟨[],[]⟩=a at h
 simp only at h
 have hkp : (t.fit (s.pick a)).keep=t.keep:=Tmpl.fit_keep
 have hwf : (t.fit (s.pick a)).wf=true:=Tmpl.fit_wf hwf
 have hS':=λl=>hS f t (args.map (ren (idx · a.bs 0) (idx · a.ls 0) deep)) (s.pick a) l hm
 rw [← hkp] at hS' ⊢
 generalize t.fit (s.pick a)=t at h hwf hS' ⊢
 generalize hkd : (if t.keep=true then a.ls else [])=kl at h
 split at h
 rotate_left
 ·cases h
 rename_i hc
 simp only [Bool.and_eq_true,List.all_eq_true,Bool.or_eq_true,Nat.blt_eq] at hc
 obtain ⟨⟨⟨⟨hlen,hsome⟩,hbs⟩,hls⟩,hkl⟩:=hc
 have hkl:=pE hkl
 have hlen:=pE hlen
 obtain ⟨l,hl,hk⟩:=aU h
 obtain ⟨hcb,HS⟩:=hS' l hl
 have nod:=iX (s:=s) fuelR args ⟨[],[]⟩ List.nodup_nil List.nodup_nil
 have liv:=fT (s:=s) fuelR args ⟨[],[]⟩ (by simp) (by simp)
 rw [ha] at nod liv
 refine ⟨hcb,_,_,_,hk,Nat.le_add_right _ _,λn m B L WB WL sit hnb hnl hn0 hB hL hall vs hvl hrd=>?_⟩
 have hnl : s.nl+(t.lists.length - kl.length)≤n+16:=hnl
 have hks : ∀ l∈kl,l∈a.ls:=λl hl=>by rw [← hkd] at hl;split at hl;exact hl;cases hl
 have hkn : kl.Nodup:=by rw [← hkd];split;exact nod.2.1;exact List.nodup_nil
 have hkk : t.keep=false→kl = []:=λhf=>by rw [← hkd,hf];rfl
 have hlists : (s.pick a).lists.length=a.ls.length:=rV
 have hnb : s.nb+(t.boxes.length - a.bs.length)≤n+16:=hnb
 have sn1:=sit.nb
 have sn2:=sit.nl
 have lin : ∀ l∈a.ls,l∈ft.rl∨(n≤l∧l<n+16):=λl hl=>by
  rcases hls l hl with h | ⟨h1,h2⟩
  ·exact .inl (rT.1 h)
  ·have:=pE h1;exact .inr (by omega)
 have hb : ∀ b∈a.bs,m.s.box b=s.box b:=λb hb=>sit.ab b (.inl (hB b (rT.1 (hbs b hb))).1)
 have hl' : ∀ l∈a.ls,m.s.list l=s.list l:=λl hl=>sit.al l ((lin l hl).imp (λh=>(hL l h).1) id)
 have pf:=aBv (a:=a) sit.inv hb hl' nod.1 nod.2.1
 have hboxes : (s.pick a).boxes.length=a.bs.length:=wR
 refine (HS (m.pick a.bs a.ls (s.pick a)) vs pf (by simpa using hvl) (λi d v hd hv=>?_)).mono ?_
 ·rw [List.getElem?_map] at hd
  cases hdi : args[i]? with
  | none=>rw [hdi] at hd;cases hd
  | some d0=>rw [hdi] at hd;cases hd;exact aGg hl' deep (hrd i d0 v hdi hv)
 ·rintro e w' ⟨v,rfl,c,hw,cinv,fw,d,s0,a0,hread,hdv,hfull,hub,hul⟩
  rw [hboxes,hlists] at fw
  obtain ⟨hless,lenB,lenL,HB,HO⟩:=Tmpl.read_sound hread hwf
  have lenB : t.boxes.length=a0.bs.length:=lenB.trans wR
  have lenL : t.lists.length=a0.ls.length:=lenL.trans rV
  refine ⟨v,rfl,?_⟩
  generalize hcsB : ((fillB l t.boxes).map λo=>o.map λcs=>cs.map (ren (backFb a.bs s.nb) (backFb kl s.nl) deep))=csB
  have hcsBl : csB.length=t.boxes.length:=by rw [← hcsB,List.length_map,aEf]
  have hab : ∀ b∈a.bs,∃ cs,m.s.box b=some cs:=λb hbm=>by
   rw [hb b hbm]
   exact Option.ne_none_iff_exists'.1 (liv.1 b hbm)
  have hal : ∀ l∈a.ls,∃ o,m.s.list l=some o:=λl hlm=>by
   rw [hl' l hlm]
   exact Option.ne_none_iff_exists'.1 (liv.2 l hlm)
  have freshB : ∀ x,s.nb≤x→x<s.nb+(t.boxes.length - a.bs.length)→¬ m.ρ.ub x:=λx h1 h2=>sit.fb x h1 (by omega)
  have freshL : ∀ x,s.nl≤x→x<s.nl+(t.lists.length - kl.length)→¬ m.ρ.ul x:=λx h1 h2=>sit.fl x h1 (by omega)
  have hout : ∀ b∈a.bs,¬ (s.nb≤b∧b<s.nb+(csB.length - a.bs.length)):=λb hbm hr=>by
   obtain ⟨cs,hcs⟩:=hab b hbm
   rw [hcsBl] at hr
   exact freshB b hr.1 hr.2 (sit.inv.ub b cs hcs)
  have scrL : ∀ x,look x (scrubKept t.keep kl s.boxes)=(s.box x).map (·.map (scrubKeptD t.keep kl)):=λx=>by
   unfold scrubKept scrubKeptD
   cases t.keep with
   | true=>exact aBs kl x s.boxes
   | false=>
     rw [if_neg (by simp),if_neg (by simp)]
     exact lN _
  have boxL : ∀ x,look x (backB a.bs s.nb csB (scrubKept t.keep kl s.boxes))=match eI a.bs s.nb (t.boxes.length - a.bs.length) x with | some i=>csB.getD i none | none=>(s.box x).map (·.map (scrubKeptD t.keep kl)):=λx=>by
   have:=aCn (x:=x) (cs:=csB) (bs:=a.bs) (n:=s.nb) (old:=scrubKept t.keep kl s.boxes) nod.1 (by rw [hcsBl];exact hlen) hout
   rw [hcsBl,scrL] at this
   exact this
  have houtL : ∀ l0∈kl,¬ (s.nl≤l0∧l0<s.nl+((fillO l t.lists).length - kl.length)):=λl0 hlm hr=>by
   obtain ⟨o,ho⟩:=hal l0 (hks l0 hlm)
   rw [tS] at hr
   exact freshL l0 hr.1 hr.2 (sit.inv.ul l0 o ho)
  have listL : ∀ x,look x (backB kl s.nl (fillO l t.lists) (s.killL a.ls).lists)=match eI kl s.nl (t.lists.length - kl.length) x with | some i=>(fillO l t.lists).getD i none | none=>(s.killL a.ls).list x:=λx=>by
   have:=aCn (x:=x) (cs:=fillO l t.lists) (bs:=kl) (n:=s.nl) (old:=(s.killL a.ls).lists) hkn (by rw [tS];exact hkl) houtL
   rw [tS] at this
   exact this
  let S : Sx:={ box:=λx=>match eI a.bs s.nb (t.boxes.length - a.bs.length) x with | some i=>csB.getD i none | none=>(m.s.box x).map (·.map (scrubKeptD t.keep kl))
                list:=λx=>match eI kl s.nl (t.lists.length - kl.length) x with | some i=>(fillO l t.lists).getD i none | none=>if x∈a.ls then none else m.s.list x}
  have hbn : ∀ x,(∃ cs,m.s.box x=some cs)→¬ (s.nb≤x∧x<s.nb+(t.boxes.length - a.bs.length)):=λx ⟨cs,hcs⟩ hr=>freshB x hr.1 hr.2 (sit.inv.ub x cs hcs)
  have cb_fb : ∀ b b',b<t.boxes.length→backFb a.bs s.nb b=some b'→eI a.bs s.nb (t.boxes.length - a.bs.length) b'=some b∧(m.ρ.ub b'∨(s.nb≤b'∧b'<s.nb+(t.boxes.length - a.bs.length))):=by
   intro b b' hlt hbb
   unfold backFb at hbb
   split at hbb
   ·rename_i x hx
    cases hbb
    obtain ⟨cs,hcs⟩:=hab b' (List.mem_of_getElem? hx)
    refine ⟨?_,.inl (sit.inv.ub b' cs hcs)⟩
    unfold eI
    rw [aI2 (n:=0) nod.1 hx,Nat.zero_add]
   ·rename_i hx
    cases hbb
    have hge : a.bs.length≤b:=by
     rcases Nat.lt_or_ge b a.bs.length with h | h
     ·rw [List.getElem?_eq_getElem h] at hx;cases hx
     ·exact h
    have hnot : s.nb+(b - a.bs.length)∉a.bs:=λhm'=>hbn _ (hab _ hm') ⟨by omega,by omega⟩
    refine ⟨?_,.inr ⟨by omega,by omega⟩⟩
    unfold eI
    rw [aDi hnot]
    simp only
    rw [if_pos ⟨by omega,by omega⟩]
    congr 1
    omega
  have cl_fl : ∀ b b',b<t.lists.length→backFb kl s.nl b=some b'→eI kl s.nl (t.lists.length - kl.length) b'=some b∧(m.ρ.ul b'∨(s.nl≤b'∧b'<s.nl+(t.lists.length - kl.length))):=by
   intro b b' hlt hbb
   unfold backFb at hbb
   split at hbb
   ·rename_i x hx
    cases hbb
    obtain ⟨o,ho⟩:=hal b' (hks b' (List.mem_of_getElem? hx))
    refine ⟨?_,.inl (sit.inv.ul b' o ho)⟩
    unfold eI
    rw [aI2 (n:=0) hkn hx,Nat.zero_add]
   ·rename_i hx
    cases hbb
    have hge : kl.length≤b:=by
     rcases Nat.lt_or_ge b kl.length with h | h
     ·rw [List.getElem?_eq_getElem h] at hx;cases hx
     ·exact h
    have hnot : s.nl+(b - kl.length)∉kl:=λhm'=>by
     obtain ⟨o,ho⟩:=hal _ (hks _ hm')
     exact freshL _ (by omega) (by omega) (sit.inv.ul _ o ho)
    refine ⟨?_,.inr ⟨by omega,by omega⟩⟩
    unfold eI
    rw [aDi hnot]
    simp only
    rw [if_pos ⟨by omega,by omega⟩]
    congr 1
    omega
  have ren_ok : ∀ {d : DV} {v : Value},c.rd d v→(m.back c a.bs kl s.nb (t.boxes.length - a.bs.length) s.nl (t.lists.length - kl.length) S).rd (ren (backFb a.bs s.nb) (backFb kl s.nl) deep d) v:=by
   intro d v hd
   refine dJ.renum (λb b' hu hbb=>?_) (λl0 l' hu hll=>?_) deep hd
   ·obtain ⟨h1,h2⟩:=cb_fb b b' (by rw [lenB];exact hub b hu) hbb
    refine ⟨h2,?_⟩
    show (match eI a.bs s.nb (t.boxes.length - a.bs.length) b' with | some i=>c.ρ.box i | none=>m.ρ.box b')=_
    rw [h1]
   ·have hlt:=hul l0 hu
    rw [← lenL] at hlt
    obtain ⟨hcl,hcu⟩:=cl_fl l0 l' hlt hll
    refine ⟨hcu,λhv=>⟨?_,?_,?_,?_⟩⟩
    ·have hv : (match eI kl s.nl (t.lists.length - kl.length) l' with | some i=>(fillO l t.lists).getD i none | none=>if l'∈a.ls then none else m.s.list l')≠none:=hv
     rw [hcl] at hv
     obtain ⟨w1,hw1⟩:=Option.ne_none_iff_exists'.1 hv
     have hg:=getD_some hw1
     obtain ⟨ts,hts⟩:=uD l hg
     obtain ⟨x,w2,g1,_⟩:=HO l0 ts hts
     have g1 : (s0.pick a0).list l0=some w2:=by
      have:=oK (n:=0) g1
      rw [Nat.zero_add] at this
      exact this
     rw [← hfull.list l0] at g1
     exact bA.live_of g1
    ·show (match eI kl s.nl (t.lists.length - kl.length) l' with | some i=>c.ρ.hdr i | none=>_)=_
     rw [hcl]
    ·show (match eI kl s.nl (t.lists.length - kl.length) l' with | some i=>c.ρ.ty i | none=>_)=_
     rw [hcl]
    ·show (match eI kl s.nl (t.lists.length - kl.length) l' with | some i=>c.ρ.fp i | none=>_)=_
     rw [hcl]
  have came : vF m c t.keep a.bs a.ls kl s.nb (t.boxes.length - a.bs.length) s.nl (t.lists.length - kl.length) S:={
   kk:=hkk
   kn:=hkn
   ks:=hks
   row:=λi l0 hi hlv=>by
    have hkt : t.keep=true:=by
     cases hk2 : t.keep with
     | true=>rfl
     | false=>rw [hkk hk2] at hi;simp at hi
    have hkl2 : kl=a.ls:=by rw [← hkd,hkt];rfl
    rw [hkl2] at hi
    obtain ⟨o,ho⟩:=hal l0 (List.mem_of_getElem? hi)
    have hlt : i<a.ls.length:=(List.getElem?_eq_some_iff.1 hi).1
    rw [hkt] at fw
    have hu : (m.pick a.bs a.ls (s.pick a)).ρ.ul i:=⟨hlt,by rw [dX hi];exact sit.inv.ul l0 o ho⟩
    obtain ⟨_,q⟩:=fw.row i (by simpa using hlt) hu
    obtain ⟨_,q1,q2⟩:=q hlv
    rw [q1,q2]
    show m.ρ.hdr (a.ls.getD i 0)=_∧m.ρ.ty (a.ls.getD i 0)=_
    rw [dX hi]
    exact ⟨rfl,rfl⟩
   inv:=sit.inv
   cinv:=cinv
   nb:=nod.1
   ab:=hab
   al:=hal
   size:=fw.size
   os:=fw.os
   tape:=fw.tape
   output:=fw.output
   keep:=λr hr hn=>fw.keep r hr (λho=>hn (aAF ho))
   own:=λr hr=>(fw.own r hr).imp (λh=>aAF h) id
   z:=λr hr=>(fw.z r hr).imp id (λh=>h.imp (λh=>aAF h) id)
   zz:=fw.zz
   box:=λi b hbi=>by
    obtain ⟨cs,hcs⟩:=hab b (List.mem_of_getElem? hbi)
    have:=fw.box i (List.getElem?_eq_some_iff.1 hbi).1 (cs.map (ren (idx · a.bs 0) (idx · a.ls 0) deep)) (by
     show (s.pick a).box i=_
     rw [aAA,hbi,Option.bind_some,← hb b (List.mem_of_getElem? hbi),hcs];rfl)
    rw [this.1]
    show m.ρ.box (a.bs.getD i 0)=_
    rw [dX hbi]
   freshB:=freshB
   freshL:=freshL
   sb:=λx cs hx=>by
    have hx : (match eI a.bs s.nb (t.boxes.length - a.bs.length) x with | some i=>csB.getD i none | none=>(m.s.box x).map (·.map (scrubKeptD t.keep kl)))=some cs:=hx
    cases hcb : eI a.bs s.nb (t.boxes.length - a.bs.length) x with
    | none=>
      rw [hcb] at hx
      simp only at hx
      cases hmx : m.s.box x with
      | none=>rw [hmx] at hx;cases hx
      | some cs0=>rw [hmx] at hx;cases hx;exact .inr ⟨rfl,cs0,rfl,rfl⟩
    | some i=>
      rw [hcb] at hx
      have hg:=getD_some hx
      rw [← hcsB,List.getElem?_map] at hg
      cases hfi : (fillB l t.boxes)[i]? with
      | none=>rw [hfi] at hg;cases hg
      | some o=>
        rw [hfi] at hg
        simp only [Option.map_some,Option.some.injEq] at hg
        cases o with
        | none=>cases hg
        | some fs=>
          simp only [Option.map_some,Option.some.injEq] at hg
          obtain ⟨ts,hts⟩:=aCo l hfi
          obtain ⟨g1,x',cs0,g2,g3⟩:=HB i ts hts
          rw [hfi] at g1
          cases g1
          have g2 : (s0.pick a0).box i=some cs0:=by
           have:=aB7 (n:=0) g2
           rw [Nat.zero_add] at this
           exact this
          rw [← hfull.box i] at g2
          refine .inl ⟨i,cs0,rfl,g2,by rw [← hg,List.length_map];exact g3.1,λj d0 d1 v0 h1 h2 h3=>?_⟩
          rw [← hg,List.getElem?_map] at h2
          cases hj : (fillDs l ts)[j]? with
          | none=>rw [hj] at h2;cases h2
          | some d2=>
            rw [hj] at h2
            cases h2
            exact ren_ok (g3.2 j d0 d2 h1 hj c v0 h3)
   sbx:=λx hx=>by
    show ∃ cs,(match eI a.bs s.nb (t.boxes.length - a.bs.length) x with | some i=>csB.getD i none | none=>(m.s.box x).map (·.map (scrubKeptD t.keep kl)))=some cs
    rcases fG a.bs s.nb (t.boxes.length - a.bs.length) x with ⟨i,h1,h2⟩ | ⟨i,h1,h2,h3,h4⟩ | ⟨h1,_⟩
    ·rw [h1]
     have hlt : i<a.bs.length:=(List.getElem?_eq_some_iff.1 h2).1
     have hti : (t.boxes.take a.bs.length)[i]? = some (t.boxes[i]'(by omega)):=by rw [List.getElem?_take,if_pos hlt,List.getElem?_eq_getElem]
     obtain ⟨ts,hts⟩:=aE3 hsome i _ hti
     obtain ⟨g1,_⟩:=HB i ts (by rw [List.getElem?_eq_getElem (by omega),hts])
     refine ⟨(fillDs l ts).map (ren (backFb a.bs s.nb) (backFb kl s.nl) deep),?_⟩
     simp only
     rw [List.getD,← hcsB,List.getElem?_map,g1]
     rfl
    ·exact absurd ⟨by omega,by omega⟩ (hbn x hx)
    ·rw [h1]
     obtain ⟨cs,hcs⟩:=hx
     exact ⟨_,by simp only [hcs,Option.map_some];rfl⟩
   sl:=λx o hx=>by
    have hx : (match eI kl s.nl (t.lists.length - kl.length) x with | some i=>(fillO l t.lists).getD i none | none=>if x∈a.ls then none else m.s.list x)=some o:=hx
    cases hcl : eI kl s.nl (t.lists.length - kl.length) x with
    | none=>
      rw [hcl] at hx
      simp only at hx
      split at hx
      ·cases hx
      ·rename_i hn;exact .inr ⟨rfl,hn,hx⟩
    | some i=>
      rw [hcl] at hx
      have hg:=getD_some hx
      obtain ⟨ts,hts⟩:=uD l hg
      obtain ⟨x',w2,g1,g2,_⟩:=HO i ts hts
      rw [hg] at g2
      cases g2
      have g1 : (s0.pick a0).list i=some o:=by
       have:=oK (n:=0) g1
       rw [Nat.zero_add] at this
       exact this
      rw [← hfull.list i] at g1
      exact .inl ⟨i,rfl,g1⟩}
  have wbs : ∀ b∈a.bs,B b∧WB b:=λb hbm=>hB b (rT.1 (hbs b hbm))
  refine ⟨m.back c a.bs kl s.nb (t.boxes.length - a.bs.length) s.nl (t.lists.length - kl.length) S,hw,?_,ren_ok (hless c v hdv)⟩
  refine {
   step:=came.step sn1 hnb sn2 hnl
   after:=⟨λx hx=>?_,λx hx=>?_,λx h1 h2=>?_,λx h1 h2=>?_,λx h1 h2=>?_,λx h1 h2=>?_⟩
   nb:=Nat.le_add_right _ _
   nl:=Nat.le_add_right _ _
   ub:=λx hx hu=>hu.elim id (λh=>by have hx : s.nb+(t.boxes.length - a.bs.length)≤x:=hx;omega)
   ul:=λx hx hu=>hu.elim id (λh=>by have hx : s.nl+(t.lists.length - kl.length)≤x:=hx;omega)}
  ·show (match eI a.bs s.nb (t.boxes.length - a.bs.length) x with | some i=>csB.getD i none | none=>(m.s.box x).map (·.map (scrubKeptD t.keep kl)))=look x (backB a.bs s.nb _ (scrubKept t.keep kl s.boxes))
   rw [boxL x]
   cases eI a.bs s.nb (t.boxes.length - a.bs.length) x with
   | some i=>rfl
   | none=>simp only;rw [sit.ab x hx]
  ·show (match eI kl s.nl (t.lists.length - kl.length) x with | some i=>(fillO l t.lists).getD i none | none=>if x∈a.ls then none else m.s.list x)=look x (backB kl s.nl (fillO l t.lists) (s.killL a.ls).lists)
   rw [listL x]
   cases eI kl s.nl (t.lists.length - kl.length) x with
   | some i=>rfl
   | none=>
     simp only
     rw [fS,sit.al x hx]
  ·by_cases hkt : t.keep=true
   ·exact absurd ((hall hkt x).1.1) h1
   ·have hkt : t.keep=false:=by simpa using hkt
    show (match eI a.bs s.nb (t.boxes.length - a.bs.length) x with | some i=>csB.getD i none | none=>(m.s.box x).map (λcs : List DV=>cs.map (scrubKeptD t.keep kl)))=_
    rcases fG a.bs s.nb (t.boxes.length - a.bs.length) x with ⟨i,g1,g2⟩ | ⟨i,g1,g2,g3,g4⟩ | ⟨g1,_⟩
    ·exact absurd (wbs x (List.mem_of_getElem? g2)).1 h1
    ·exact absurd ⟨by omega,by omega⟩ h2
    ·rw [g1,hkt]
     exact (lN _).symm
  ·by_cases hkt : t.keep=true
   ·exact absurd ((hall hkt x).2.1) h1
   ·have hkt : t.keep=false:=by simpa using hkt
    show (match eI kl s.nl (t.lists.length - kl.length) x with | some i=>(fillO l t.lists).getD i none | none=>if x∈a.ls then none else m.s.list x)=_
    rw [hkk hkt]
    rcases fG [] s.nl (t.lists.length - ([] : List Nat).length) x with ⟨i,g1,g2⟩ | ⟨i,g1,g2,g3,_⟩ | ⟨g1,_⟩
    ·simp at g2
    ·exact absurd ⟨by omega,by rw [hkk hkt] at hnl;omega⟩ h2
    ·rw [g1]
     simp only
     rw [if_neg]
     intro hxm
     rcases lin x hxm with h | h
     ·exact h1 (hL x h).1
     ·exact h2 h
  ·by_cases hkt : t.keep=true
   ·exact absurd ((hall hkt x).1.2) h1
   ·have hkt : t.keep=false:=by simpa using hkt
    show look x (backB a.bs s.nb _ (scrubKept t.keep kl s.boxes))=_
    rw [boxL x]
    rcases fG a.bs s.nb (t.boxes.length - a.bs.length) x with ⟨i,g1,g2⟩ | ⟨i,g1,g2,g3,g4⟩ | ⟨g1,_⟩
    ·exact absurd (wbs x (List.mem_of_getElem? g2)).2 h1
    ·exact absurd ⟨by omega,by omega⟩ h2
    ·rw [g1,hkt]
     exact (lN _).symm
  ·by_cases hkt : t.keep=true
   ·exact absurd ((hall hkt x).2.2) h1
   ·have hkt : t.keep=false:=by simpa using hkt
    show look x (backB kl s.nl (fillO l t.lists) (s.killL a.ls).lists)=_
    rw [listL x,hkk hkt]
    rcases fG [] s.nl (t.lists.length - ([] : List Nat).length) x with ⟨i,g1,g2⟩ | ⟨i,g1,g2,g3,_⟩ | ⟨g1,_⟩
    ·simp at g2
    ·exact absurd ⟨by omega,by rw [hkk hkt] at hnl;omega⟩ h2
    ·rw [g1]
     simp only
     rw [fS,if_neg]
     intro hxm
     rcases lin x hxm with h | h
     ·exact h1 (hL x h).2
     ·exact h2 h
end
theorem aGo : ∀ {cs : List PV} {cts : List OTy},PV.flatCs cts cs=true→∀ (j : Nat) c,cs[j]? = some c→PV.flatO (cts.getD j .leaf) c=true∨c.flat=true
 | [],_,_,j,c,h=>by simp at h
 | x::r,cts,h,j,c,hj=>by
   have tail : ∀ {b : Bool},(b&&PV.flatCs cts.tail r)=true→j≠0→PV.flatO (cts.getD j .leaf) c=true∨c.flat=true:=by
    intro b hb hj0
    simp only [Bool.and_eq_true] at hb
    obtain ⟨q,rfl⟩ : ∃ q,j=q+1:=⟨j - 1,by omega⟩
    have:=aGo hb.2 q c (by simpa using hj)
    cases cts with
    | nil=>simpa [List.getD] using this
    | cons o os=>simpa [List.getD] using this
   by_cases hj0 : j=0
   ·subst hj0
    simp at hj
    subst hj
    cases x with
    | lst xs=>
      unfold PV.flatCs at h
      simp only [Bool.and_eq_true] at h
      cases cts with
      | nil=>simp at h
      | cons o os=>
        cases o with
        | leaf=>simp at h
        | own s e g cts'=>exact .inl (by simpa [List.getD,PV.flatO] using h.1)
    | _=>unfold PV.flatCs at h;simp only [Bool.and_eq_true] at h;exact .inr h.1
   ·cases x<;>(unfold PV.flatCs at h;exact tail h hj0)
theorem aGp : ∀ {xs : List PV} {g : Bool} {cts : List OTy},PV.flatEs g cts xs=true→∀ (i : Nat) x,xs[i]? = some x→PV.flatE g cts x=true
 | [],_,_,_,i,x,h=>by simp at h
 | y::r,g,cts,h,i,x,hi=>by
   unfold PV.flatEs at h
   simp only [Bool.and_eq_true] at h
   cases i with
   | zero=>simp at hi;subst hi;exact h.1
   | succ i=>exact aGp h.2 i x (by simpa using hi)
theorem cP.flat {w : World} {Z Z' : Nat→Prop} {o : OTy} {x : PV} {v : Value} {F : Nat→Prop} (h : cP w Z o x v F) (hf : PV.flatO o x=true∨x.flat=true) (hn : ∀ r,F r→¬ Z' r) : cP w Z' o x v F:=by
 induction h with
 | leaf x v F h hF=>
   rcases hf with hf | hf
   ·simp [PV.flatO] at hf
   ·exact .leaf x v F (h.flat hf) hF
 | hole s e g cts v F h hF=>exact .hole s e g cts v F h hF
 | nil s e g cts F a hF=>exact .nil s e g cts F a hF
 | own s e g cts xs b o cap cells ety cv fp F hh hs ho hl hz he hc hv hr hF hb hd ih=>
   have hf : PV.flatEs g cts xs=true:=by
    rcases hf with hf | hf
    ·simpa [PV.flatO] using hf
    ·simp [PV.flat] at hf
   refine .own s e g cts xs b o cap cells ety cv fp F hh hs ho hl (hn b ((hF b).2 (.inl rfl))) he hc hv (λi j x hx hj=>?_) hF hb hd
   have hi : i<xs.length:=(List.getElem?_eq_some_iff.1 hx).1
   refine ih i j x hx hj ?_ (λr hr=>hn r ((hF r).2 (.inr ⟨i,j,hi,hj,hr⟩)))
   have hfe:=aGp hf i x hx
   have hel:=he i x hx
   cases g with
   | true=>
     obtain ⟨cs,rfl,hlen⟩:=aAs hel
     rw [gJ]
     unfold PV.flatE at hfe
     simp only [Bool.true_and] at hfe
     have hj' : cs[j]? = some (cs[j]'(by omega)):=List.getElem?_eq_getElem (by omega)
     have hg : cs.getD j .hole=cs[j]'(by omega):=by rw [List.getD,hj'];rfl
     rw [hg]
     exact aGo hfe j _ hj'
   | false=>
     have hs1:=aC2 hel
     have hj0 : j=0:=by omega
     subst hj0
     show PV.flatO (cts.getD 0 .leaf) x=true∨x.flat=true
     cases x with
     | lst ys=>
       unfold PV.flatE at hfe
       cases cts with
       | nil=>simp at hfe
       | cons o os=>
         cases o with
         | leaf=>simp at hfe
         | own s' e' g' cts'=>exact .inl (by simpa [List.getD,PV.flatO] using hfe)
     | agg cs=>unfold PV.flatE at hfe;simp at hfe
     | _=>unfold PV.flatE at hfe;simp only [Bool.not_false,Bool.true_and] at hfe;exact .inr hfe
inductive zU (l : R) : DV→Prop
 | p (k : IntKind) (i : Int) : (gd l i.toNat).flat=true→zU l (.p (.int k i))
 | ref (n : Nat) (path : eD) : zU l (.ref n path)
 | agg (cs : List DV) : (∀ c∈cs,zU l c)→zU l (.agg cs)
 | tup (cs : List DV) : (∀ c∈cs,zU l c)→zU l (.tup cs)
theorem pY {l : R} : ∀ {cs : List DV} {k : Option R} {r : R},guardCells l cs k=some r→(∀ c∈cs,zU l c)∧k=some r
 | [],k,r,h=>⟨by simp,h⟩
 | .p (.int kk i)::cs,k,r,h=>by
  unfold guardCells at h
  obtain ⟨hf,h'⟩:=aAE h
  obtain ⟨h1,h2⟩:=pY h'
  refine ⟨λc hc=>?_,h2⟩
  rcases List.mem_cons.1 hc with rfl | hc
  ·exact .p _ _ hf
  ·exact h1 c hc
 | .ref n path::cs,k,r,h=>by
  unfold guardCells at h
  obtain ⟨h1,h2⟩:=pY h
  refine ⟨λc hc=>?_,h2⟩
  rcases List.mem_cons.1 hc with rfl | hc
  ·exact .ref _ _
  ·exact h1 c hc
 | .p (.bool _)::_,_,_,h=>by simp [guardCells] at h
 | .p (.str _)::_,_,_,h=>by simp [guardCells] at h
 | .p .nil::_,_,_,h=>by simp [guardCells] at h
 | .p .nilf::_,_,_,h=>by simp [guardCells] at h
 | .p (.agg _)::_,_,_,h=>by simp [guardCells] at h
 | .p (.lst _)::_,_,_,h=>by simp [guardCells] at h
 | .p (.bx _)::_,_,_,h=>by simp [guardCells] at h
 | .p (.fn _ _)::_,_,_,h=>by simp [guardCells] at h
 | .p (.tup _)::_,_,_,h=>by simp [guardCells] at h
 | .p .hole::_,_,_,h=>by simp [guardCells] at h
 | .nils::_,_,_,h=>by simp [guardCells] at h
 | .agg _::_,_,_,h=>by simp [guardCells] at h
 | .tup _::_,_,_,h=>by simp [guardCells] at h
 | .fn _ _::_,_,_,h=>by simp [guardCells] at h
 | .ptr _ _::_,_,_,h=>by simp [guardCells] at h
 | .sref _ _ _ _::_,_,_,h=>by simp [guardCells] at h
 | .eptr _ _ _ _::_,_,_,h=>by simp [guardCells] at h
 | .fptr _ _ _ _::_,_,_,h=>by simp [guardCells] at h
 | .bptr _ _::_,_,_,h=>by simp [guardCells] at h
 | .gptr _ _ _ _::_,_,_,h=>by simp [guardCells] at h
 | .nilq _ _::_,_,_,h=>by simp [guardCells] at h
 | .bsl _ _::_,_,_,h=>by simp [guardCells] at h
 | .dead::_,_,_,h=>by simp [guardCells] at h
theorem rW {l : R} : ∀ {cs : List DV} {k : Option R} {r : R},guardAggs l cs k=some r→(∀ c∈cs,zU l c)∧k=some r
 | [],k,r,h=>⟨by simp,h⟩
 | d::cs,k,r,h=>by
   have one : ∀ {d : DV},guardCells l [d] (guardAggs l cs k)=some r→(∀ c∈d::cs,zU l c)∧k=some r:=by
    intro d h
    obtain ⟨h1,h2⟩:=pY h
    obtain ⟨h3,h4⟩:=rW h2
    refine ⟨λc hc=>?_,h4⟩
    rcases List.mem_cons.1 hc with rfl | hc
    ·exact h1 _ List.mem_cons_self
    ·exact h3 c hc
   cases d with
   | agg ds=>
     unfold guardAggs at h
     obtain ⟨h1,h2⟩:=pY h
     obtain ⟨h3,h4⟩:=rW h2
     refine ⟨λc hc=>?_,h4⟩
     rcases List.mem_cons.1 hc with rfl | hc
     ·exact .agg _ h1
     ·exact h3 c hc
   | _=>exact one (by simpa only [guardAggs] using h)
theorem aI3 {l : R} {d : DV} {k : Option R} {r : R} (h : guardRes l d k=some r) : zU l d∧k=some r:=by
 unfold guardRes at h
 split at h
 ·obtain ⟨h1,h2⟩:=rW h
  exact ⟨.tup _ h1,h2⟩
 ·obtain ⟨h1,h2⟩:=rW h
  exact ⟨h1 _ List.mem_cons_self,h2⟩
theorem aB8 {l : R} : ∀ {cs : List (Option Own)} {k : Option R} {r : R},guardRows l cs k=some r→(∀ (i : Nat) w kk j,cs[i]? = some (some w)→w.c = .int kk j→PV.flatO w.o (gd l j.toNat)=true)∧k=some r
 | [],k,r,h=>⟨λi w kk j hi=>by simp at hi,h⟩
 | none::_,_,_,h=>by simp [guardRows] at h
 | some w::cs,k,r,h=>by
   unfold guardRows at h
   split at h
   ·rename_i kk j hc
    unfold PV.guardOwn at h
    split at h
    ·rename_i hf
     obtain ⟨h1,h2⟩:=aB8 h
     refine ⟨λi w' kk' j' hi hc'=>?_,h2⟩
     cases i with
     | zero=>
       simp at hi
       subst hi
       rw [hc] at hc'
       cases hc'
       exact hf
     | succ i=>exact h1 i w' kk' j' (by simpa using hi) hc'
    ·cases h
   ·cases h
mutual
theorem aCp (l : R) : ∀ (ds : List DV),fillDs l ds=ds.map (fillD l)
 | []=>rfl
 | d::r=>by simp only [fillDs,List.map_cons,aCp l r]
end
theorem zU.rd {l : R} {w : World} {Z Z' : Nat→Prop} {ρ : Loc} {live live' : Nat→Prop} (hl : ∀ x,live' x→live x) {d : DV} (hf : zU l d) : ∀ {v : Value},dJ w Z ρ live (fillD l d) v→dJ w Z' ρ live' (fillD l d) v:=by
 induction hf with
 | p k i hfl=>
   intro v h
   simp only [fillD] at h ⊢
   cases h with
   | p _ _ h=>exact .p _ _ (h.flat hfl)
 | ref n path=>
   intro v h
   simp only [fillD] at h ⊢
   cases h with
   | ref _ _ _ h1 h2 h3=>exact .ref _ _ _ h1 h2 (λhv=>h3 (hl _ hv))
 | agg cs _ ih=>
   intro v h
   simp only [fillD,aCp] at h ⊢
   cases h with
   | agg _ vs h1 h2 h3=>
     refine .agg _ vs h1 h2 (λi d v hd hv=>?_)
     rw [List.getElem?_map] at hd
     cases hc : cs[i]? with
     | none=>rw [hc] at hd;cases hd
     | some c=>
       rw [hc] at hd
       cases hd
       exact ih c (List.mem_of_getElem? hc) (h3 i _ v (by rw [List.getElem?_map,hc];rfl) hv)
 | tup cs _ ih=>
   intro v h
   simp only [fillD,aCp] at h ⊢
   cases h with
   | tup _ vs h1 h3=>
     refine .tup _ vs h1 (λi d v hd hv=>?_)
     rw [List.getElem?_map] at hd
     cases hc : cs[i]? with
     | none=>rw [hc] at hd;cases hd
     | some c=>
       rw [hc] at hd
       cases hd
       exact ih c (List.mem_of_getElem? hc) (h3 i _ v (by rw [List.getElem?_map,hc];rfl) hv)
section
variable {P : Program} {X : Cx} {O : Orc}
theorem lentK_sound (hS : aGn P X.mode O.S) {t : Tmpl} {f : Nat} (hm : X.mode f=some t) (hwf : t.wf=true) {args : List DV} {s : St} {k : DV→St→Option R} {r : R} (h : lentK O t f args s k=some r) :
 lW P f∧∃ d' s',k d' s'=some r∧∀ (n : Nat) (m : bA) (B L WB WL : Nat→Prop),pD m s B L n→s'.nb≤n+16→s'.nl≤n+16→aFF m s args→
  ∀ vs : Array Value,args.length=vs.size→(∀ (i : Nat) d v,args[i]? = some d→vs[i]? = some v→m.rd d v)→
    Calls P f vs m.w (λe w'=>∃ v,e = .returned v∧∃ m',m'.w=w'∧bT m m' s s' B L WB WL n id∧m'.rd d' v):=by
 unfold lentK at h
 obtain ⟨ps,h1,hpl,H⟩:=vO h
 obtain ⟨l,hl,h2⟩:=aU h1
 obtain ⟨hflat,h3⟩:=aI3 h2
 obtain ⟨hrows,hk⟩:=aB8 h3
 obtain ⟨hcb,HS⟩:=hS f t _ _ l hm hl
 rw [Tmpl.fit_nil rfl] at HS
 refine ⟨hcb,_,_,hk,λn m B L WB WL sit hnb hnl hM vs hvl hrd=>?_⟩
 have hnl : s.nl+t.lists.length≤n+16:=hnl
 have sn1:=sit.nb
 have sn2:=sit.nl
 let m0 : bA:={ w:=m.w,Z:=λx=>m.Z x∨m.owned x,s:={ box:=λ_=>none,list:=λ_=>none},L:=λ_=>False,
                ρ:={ box:=λ_=>0,hdr:=λ_=>.nilFunc,fp:=λ_ _=>False,ty:=λ_=>.leaf,ub:=λ_=>False,ul:=λ_=>False}}
 have full0 : iC m0 ⟨[],[],0,0,0⟩ 0:={
  inv:={
   ub:=λ_ _ h=>by cases h
   ul:=λ_ _ h=>by cases h
   zlt:=sit.inv.zlt.next (λ_ h=>.inl h) (λ_ _=>rfl) λr hr=>hr.elim (sit.inv.zlt r) (λh=>sit.inv.owned_lt h)
   box:=λ_ _ h=>by cases h
   row:=λ_ _ h=>by cases h
   bz:=λ_ _ h=>by cases h
   bb:=λ_ _ _ _ h=>by cases h
   bl:=λ_ _ _ _ h=>by cases h
   ll:=λ_ _ _ _ _ h=>by cases h
   Lz:=λ_ h=>h.elim
   Lb:=λ_ _ _ h=>h
   Ll:=λ_ _ _ _ _ h=>h}
  box:=λ_=>rfl
  list:=λ_=>rfl
  ub:=λ_ h=>h.elim
  ul:=λ_ h=>h.elim}
 have own0 : ∀ r,¬ m0.owned r:=by
  rintro r (⟨_,_,h,_⟩ | ⟨_,_,h,_⟩ | h)
  ·cases h
  ·cases h
  ·exact h
 have hreps:=H m (λx=>m.Z x∨m.owned x) sit.inv hM (.inl λr hr=>.inr hr) (λr hr=>.inl hr) vs hvl hrd
 refine (HS m0 vs full0 (by rw [List.length_map];omega) (λi d v hd hv=>?_)).mono ?_
 ·rw [List.getElem?_map] at hd
  cases hp : ps[i]? with
  | none=>rw [hp] at hd;cases hd
  | some p=>rw [hp] at hd;cases hd;exact .p _ _ (hreps i p v hp hv)
 ·rintro e w' ⟨v,rfl,c,hw,cinv,fw,d,s0,a0,hread,hdv,hfull,hub,hul⟩
  obtain ⟨hless,lenB,lenL,HB,HO⟩:=Tmpl.read_sound hread hwf
  have lenL : t.lists.length=a0.ls.length:=lenL.trans rV
  refine ⟨v,rfl,?_⟩
  have rowC : ∀ i w,c.s.list i=some w→∃ w0,t.lists[i]? = some (some w0)∧(fillO l t.lists)[i]? = some (some w)∧PV.flatO w.o w.c=true:=by
   intro i w hi
   have hlt : i<t.lists.length:=by rw [lenL];exact hul i (cinv.ul i w hi)
   have hi':=hi
   rw [hfull.list i] at hi'
   cases hti : t.lists[i]'hlt with
   | none=>
     exfalso
     have : ∀ {cs : List (Option Own)} {k : Option R} {r : R},guardRows l cs k=some r→∀ (j : Nat),cs[j]?≠some none:=by
      intro cs
      induction cs with
      | nil=>intro k r _ j;simp
      | cons x xs ih=>
        intro k r h j
        cases x with
        | none=>simp [guardRows] at h
        | some w=>
          unfold guardRows at h
          split at h
          ·unfold PV.guardOwn at h
           split at h
           ·cases j with
            | zero=>simp
            | succ j=>simpa using ih h j
           ·cases h
          ·cases h
     exact this h3 i (by rw [List.getElem?_eq_getElem hlt,hti])
   | some w0=>
     have ht : t.lists[i]? = some (some w0):=by rw [List.getElem?_eq_getElem hlt,hti]
     obtain ⟨x,w1,g1,g2,⟨kk,j,g3,g4⟩,g5⟩:=HO i w0 ht
     have g1 : (s0.pick a0).list i=some w1:=by
      have:=oK (n:=0) g1
      rw [Nat.zero_add] at this
      exact this
     rw [g1] at hi'
     cases hi'
     refine ⟨w0,ht,g2,?_⟩
     have:=hrows i w0 kk j ht g3
     rw [g4,g5] at this
     exact this
  let c1 : bA:={ w:=c.w,Z:=λx=>c.Z x∧(m.Z x∨m.w.heap.size≤x),s:={ box:=λ_=>none,list:=c.s.list},L:=λ_=>False,ρ:=c.ρ}
  have c1inv : oG c1:={
   ub:=λ_ _ h=>by cases h
   ul:=λl o h=>cinv.ul l o h
   zlt:=⟨λr hr=>cinv.zlt r hr.1,sit.inv.zlt.glob.mono (λr h=>⟨fw.zz r (.inl h),.inl h⟩) (λr h=>fw.keep r (Nat.lt_of_lt_of_le (sit.inv.zlt r h) (Nat.le_refl _)) (own0 r))⟩
   box:=λ_ _ h=>by cases h
   row:=λi o hi=>by
    have hi : c.s.list i=some o:=hi
    obtain ⟨g1,g2,g3⟩:=cinv.row i o hi
    obtain ⟨w0,_,_,hf⟩:=rowC i o hi
    exact ⟨g1,g2,g3.flat (.inl hf) (λr hr hz=>g3.notZ r hr hz.1)⟩
   bz:=λ_ _ h=>by cases h
   bb:=λ_ _ _ _ h=>by cases h
   bl:=λ_ _ _ _ h=>by cases h
   ll:=λl o l' o' r h h'=>cinv.ll l o l' o' r h h'
   Lz:=λ_ h=>h.elim
   Lb:=λ_ _ _ h=>h
   Ll:=λ_ _ _ _ _ h=>h}
  have c1own : ∀ r,c1.owned r→c.owned r:=by
   rintro r (⟨_,_,h,_⟩ | ⟨l,o,h,hr⟩ | h)
   ·cases h
   ·exact .inr (.inl ⟨l,o,h,hr⟩)
   ·exact h.elim
  let S : Sx:={ box:=m.s.box
                list:=λx=>match yT s.nl t.lists.length x with | some i=>(fillO l t.lists).getD i none | none=>m.s.list x}
  have freshL : ∀ x,s.nl≤x→x<s.nl+t.lists.length→¬ m.ρ.ul x:=λx h1 h2=>sit.fl x h1 (by omega)
  have cb0 : ∀ x,eI [] s.nb 0 x=none:=λx=>by
   unfold eI
   simp only [idx]
   rw [if_neg (by omega)]
  have listC : ∀ i w,(fillO l t.lists)[i]? = some (some w)→c.s.list i=some w:=by
   intro i w hi
   obtain ⟨ts,hts⟩:=uD l hi
   obtain ⟨x',w2,g1,g2,_⟩:=HO i ts hts
   rw [hi] at g2
   cases g2
   have g1 : (s0.pick a0).list i=some w:=by
    have:=oK (n:=0) g1
    rw [Nat.zero_add] at this
    exact this
   rw [← hfull.list i] at g1
   exact g1
  have came : vF m c1 false [] [] [] s.nb 0 s.nl t.lists.length S:={
   kk:=λ_=>rfl
   kn:=List.nodup_nil
   ks:=by simp
   row:=λi l0 h=>by simp at h
   inv:=sit.inv
   cinv:=c1inv
   nb:=List.nodup_nil
   ab:=by simp
   al:=by simp
   size:=fw.size
   os:=fw.os
   tape:=fw.tape
   output:=fw.output
   keep:=λr hr _=>fw.keep r hr (own0 r)
   own:=λr hr=>.inr ((fw.own r (c1own r hr)).resolve_left (own0 r))
   z:=λr hr=>hr.2.imp id (λh=>.inr h)
   zz:=λr hr=>⟨fw.zz r (.inl hr),.inl hr⟩
   box:=λi b h=>by simp at h
   freshB:=λx h1 h2=>by omega
   freshL:=freshL
   sb:=λx cs hx=>.inr ⟨cb0 x,cs,hx,(List.map_id _).symm⟩
   sbx:=λx hx=>hx
   sl:=λx o hx=>by
    have hx : (match yT s.nl t.lists.length x with | some i=>(fillO l t.lists).getD i none | none=>m.s.list x)=some o:=hx
    rw [aDj]
    cases hcl : yT s.nl t.lists.length x with
    | none=>rw [hcl] at hx;exact .inr ⟨rfl,by simp,hx⟩
    | some i=>
      rw [hcl] at hx
      exact .inl ⟨i,rfl,listC i o (getD_some hx)⟩}
  have listL : ∀ x,look x (backO s.nl (fillO l t.lists) s.lists)=match yT s.nl t.lists.length x with | some i=>(fillO l t.lists).getD i none | none=>s.list x:=λx=>by
   have:=aGk (x:=x) (cs:=fillO l t.lists) (n:=s.nl) (old:=s.lists)
   rw [tS] at this
   exact this
  have hres : c1.rd (fillD l t.res) v:=hflat.rd (λ_ h=>h) (hless c v hdv)
  refine ⟨m.back c1 [] [] s.nb 0 s.nl t.lists.length S,hw,?_,?_⟩
  ·refine {
    step:=by have:=came.step sn1 (by omega) sn2 hnl;exact this
    after:=⟨λx hx=>sit.ab x hx,λx hx=>?_,λ_ _ _=>rfl,λx h1 h2=>?_,λ_ _ _=>rfl,λx h1 h2=>?_⟩
    nb:=Nat.le_refl _
    nl:=Nat.le_add_right _ _
    ub:=λx hx hu=>hu.elim id (λh=>by omega)
    ul:=λx hx hu=>hu.elim id (λh=>by have hx : s.nl+t.lists.length≤x:=hx;omega)}
   ·show (match yT s.nl t.lists.length x with | some i=>(fillO l t.lists).getD i none | none=>m.s.list x)=look x (backO s.nl (fillO l t.lists) s.lists)
    rw [listL x]
    cases yT s.nl t.lists.length x with
    | some i=>rfl
    | none=>exact sit.al x hx
   ·show (match yT s.nl t.lists.length x with | some i=>(fillO l t.lists).getD i none | none=>m.s.list x)=_
    rcases aGl s.nl t.lists.length x with ⟨i,g1,g2,g3⟩ | ⟨g1,_⟩
    ·exact absurd ⟨by omega,by omega⟩ h2
    ·rw [g1]
   ·show look x (backO s.nl (fillO l t.lists) s.lists)=_
    rw [listL x]
    rcases aGl s.nl t.lists.length x with ⟨i,g1,g2,g3⟩ | ⟨g1,_⟩
    ·exact absurd ⟨by omega,by omega⟩ h2
    ·rw [g1]
  ·refine dJ.renum (ρ:=c1.ρ) (live:=c1.s.live) (λb b' hu hbb=>by cases hbb) (λl0 l' hu hll=>?_) deep hres
   unfold backFl at hll
   cases hll
   have hlt:=hul l0 hu
   rw [← lenL] at hlt
   have hcl : yT s.nl t.lists.length (s.nl+l0)=some l0:=by
    unfold yT
    rw [if_pos ⟨by omega,by omega⟩]
    congr 1
    omega
   refine ⟨.inr ⟨by omega,by omega⟩,λhv=>⟨?_,?_,?_,?_⟩⟩
   ·have hv : (match yT s.nl t.lists.length (s.nl+l0) with | some i=>(fillO l t.lists).getD i none | none=>m.s.list (s.nl+l0))≠none:=hv
    rw [hcl] at hv
    obtain ⟨w1,hw1⟩:=Option.ne_none_iff_exists'.1 hv
    have:=listC l0 w1 (getD_some hw1)
    show c.s.list l0≠none
    rw [this];simp
   ·show (match eI [] s.nl t.lists.length (s.nl+l0) with | some i=>c.ρ.hdr i | none=>_)=_
    rw [aDj,hcl]
   ·show (match eI [] s.nl t.lists.length (s.nl+l0) with | some i=>c.ρ.ty i | none=>_)=_
    rw [aDj,hcl]
   ·show (match eI [] s.nl t.lists.length (s.nl+l0) with | some i=>c.ρ.fp i | none=>_)=_
    rw [aDj,hcl]
end
section
variable {P : Program} {X : Cx} {O : Orc}
theorem aCq : ∀ (ds : List DV) (ts : List Nat) (s : St) (k : List DV→St→Option R),ownArgs X ds ts s k=ownCells X ds (ts.map (elemOf X)) s k
 | [],ts,s,k=>by cases ts<;>rfl
 | d::ds,[],s,k=>rfl
 | d::ds,t::ts,s,k=>by
   unfold ownArgs ownCells
   simp only [List.map_cons]
   cases d<;>cases elemOf X t<;>simp only [aCq ds ts]
theorem aHu {f : Nat} (hP : aEe P O.C) : ∀ ps r,O.C f ps=some r→lW P f∧∀ (w : World) (Z : Nat→Prop) (aS us : Array Value),ZOk w Z→ps.length=aS.size→
 (∀ (i : Nat) x v,ps[i]? = some x→aS[i]? = some v→iV w Z x v)→([] : List PV).length=us.size→(∀ (i : Nat) x v,([] : List PV)[i]? = some x→us[i]? = some v→iV w Z x v)→
 Calls P f (aS++us) w (λe w'=>∃ v,e = .returned v∧∃ Z',aFE w w' Z Z'∧iV w' Z' (hd r) v):=by
 intro ps r h
 obtain ⟨h1,h2⟩:=hP f ps r h
 refine ⟨h1,λw Z aS us hz hl hr hu _=>?_⟩
 have : us = #[]:=Array.eq_empty_of_size_eq_zero hu.symm
 subst this
 rw [Array.append_empty]
 exact h2 w Z aS hz hl hr
theorem aAG (kp : Bool) (kl : List Nat) (t : Nat) (e : Env) : (scrubKeptE kp kl e).get t=scrubKeptD kp kl (e.get t):=by
 unfold scrubKeptE scrubKeptD
 cases kp with
 | true=>exact yM kl t e
 | false=>rfl
theorem aGq {t : Tmpl} {args : List DV} {l : Nat} {path : eD} {rest : List DV} (h : nestedArg t args=some (l,path,rest)) : args = .ref l path::rest∧path≠[]∧t.keep=true:=by
 unfold nestedArg at h
 split at h
 ·split at h
  ·rename_i hc
   cases h
   simp only [Bool.and_eq_true] at hc
   exact ⟨rfl,by simp,hc.1⟩
  ·cases h
 ·cases h
theorem aHv {b : Bool} {kl : List Nat} {l : Nat} {path : eD} (h : mem l kl=false) : scrubKeptD b kl (.ref l path) = .ref l path:=by
 unfold scrubKeptD
 cases b<;>simp [deep,scrub,scrub1,h]
theorem aHw {b : Bool} {kl : List Nat} {l : Nat} : scrubKeptD b kl (.ref l []) = .ref l []:=by
 unfold scrubKeptD
 cases b<;>simp [deep,scrub,scrub1]
theorem aJ7 (hP : aEe P O.C) (hS : aGn P X.mode O.S) (hwf : ∀ g t,X.mode g=some t→t.wf=true) {f : Nat} {args : List DV} {ts : List Nat} {e : Env} {s : St} {k : DV→Env→St→Option R} {r : R} (h : callK X O f args ts e s k=some r) :
 lW P f∧∃ d' e' s' scr,k d' e' s'=some r∧(∀ t,e'.get t=scr (e.get t))∧((match X.mode f with | some t=>{ deepFoot s args (!t.lent) with last:=!t.lent&&t.keep} | none=>deepFoot s args false).last=false→scr=_root_.id)∧∀ (n : Nat) (m : bA) (B L WB WL : Nat→Prop),pD m s B L n→s'.nb≤n+16→s'.nl≤n+16→
  (∀ ft,ft=(match X.mode f with | some t=>{ deepFoot s args (!t.lent) with last:=!t.lent&&t.keep} | none=>deepFoot s args false)→ft.Cov B L WB WL∧(ft.ok=true∨∀ x,B x∧L x))→
  ∀ vs : Array Value,args.length=vs.size→(∀ (i : Nat) d v,args[i]? = some d→vs[i]? = some v→m.rd d v)→
    Calls P f vs m.w (λe w'=>∃ v,e = .returned v∧∃ m',m'.w=w'∧bT m m' s s' B L WB WL n scr∧m'.rd d' v):=by
 unfold callK at h
 split at h
 ·rename_i hmode
  unfold pureK at h
  obtain ⟨hcb,d',hk,H⟩:=aJ4 (caps:=[]) (k:=λd s=>k d e s) (aHu hP) h
  refine ⟨hcb,d',e,s,_root_.id,hk,λ_=>rfl,λ_=>rfl,λn m B L WB WL sit _ _ hft vs hl hr=>?_⟩
  obtain ⟨C,hok⟩:=hft _ rfl
  rw [hmode] at C hok
  have:=H n m B L WB WL sit (aI1 sit C hok) vs #[] hl hr rfl (λi x v h=>by simp at h)
  rwa [Array.append_empty] at this
 ·rename_i t hmode
  split at h
  ·rename_i hlent
   obtain ⟨hcb,d',s',hk,H⟩:=lentK_sound hS hmode (hwf f t hmode) h
   refine ⟨hcb,d',e,s',_root_.id,hk,λ_=>rfl,λ_=>rfl,λn m B L WB WL sit hnb hnl hft vs hl hr=>?_⟩
   obtain ⟨C,hok⟩:=hft _ rfl
   rw [hmode] at C hok
   simp only [hlent,Bool.not_true,Bool.false_and] at C hok
   exact H n m B L WB WL sit hnb hnl (aI1 sit C hok) vs hl hr
  ·rename_i hlent
   have hlent : t.lent=false:=by simpa using hlent
   split at h
   ·rename_i l path rest hna
    obtain ⟨hargs,hpath,hkeep⟩:=aGq hna
    subst hargs
    obtain ⟨s1,h1,hs1,_,HLV⟩:=zT hpath h
    obtain ⟨hcb,d',s2,kl,hk2,hs2,H⟩:=aE4 hS hmode (hwf f t hmode) h1
    split at hk2
    ·cases hk2
    rename_i hnk
    obtain ⟨s3,hk3,hnl3,hnb3,HB⟩:=aF8 hpath hk2
    refine ⟨hcb,d',scrubKeptE t.keep kl e,s3,scrubKeptD t.keep kl,hk3,λt'=>aAG t.keep kl t' e,λhla=>?_,λn m B L WB WL sit hnb hnl hft vs hl hr=>?_⟩
    ·rw [hmode] at hla
     simp only [hlent,Bool.not_false,Bool.true_and] at hla
     rw [hkeep] at hla;cases hla
    obtain ⟨C,hok⟩:=hft _ rfl
    rw [hmode] at C hok
    simp only [hlent,Bool.not_false,Bool.true_and] at C hok
    have hall:=C.all hkeep
    have hsz : 0<vs.size:=by rw [← hl];simp
    have hv0:=hr 0 _ vs[0] rfl (Array.getElem?_eq_getElem hsz)
    obtain ⟨m1,hw1,G1,hd1⟩:=HLV n m B L WB WL sit (by omega) ⟨(hall l).2.1,(hall l).2.2.2⟩ _ hv0
    have sit1:=G1.sit sit
    have:=H n m1 B L WB WL sit1 (by omega) (by omega) sit.nl (λb _=>⟨(hall b).1,(hall b).2.2.1⟩) (λl _=>⟨(hall l).2.1,(hall l).2.2.2⟩) (λ_ x=>⟨⟨(hall x).1,(hall x).2.2.1⟩,⟨(hall x).2.1,(hall x).2.2.2⟩⟩) vs (by simpa using hl) (λi d v h1 h2=>by
     cases i with
     | zero=>
       rw [Array.getElem?_eq_getElem hsz] at h2
       cases h1;cases h2;exact hd1
     | succ i=>exact G1.step.rd _ _ (hr (i+1) d v h1 h2))
    rw [hw1] at this
    refine this.mono ?_
    rintro e w' ⟨v,rfl,m',hw,G,hd⟩
    have sit2:=G.sit sit1
    have g1 : m'.rd (.ref l path) vs[0]:=by
     have : m'.rd (scrubKeptD t.keep kl (.ref l path)) vs[0]:=G.step.rd _ _ (G1.step.rd _ _ hv0)
     rwa [aHv (by simpa using hnk)] at this
    have g2 : m'.rd (.ref s.nl []) vs[0]:=by
     have : m'.rd (scrubKeptD t.keep kl (.ref s.nl [])) vs[0]:=G.step.rd _ _ hd1
     rwa [aHw] at this
    obtain ⟨m3,hw3,G3⟩:=HB n m' B L WB WL sit2 ⟨(hall l).2.1,(hall l).2.2.2⟩ ⟨(hall _).2.1,(hall _).2.2.2⟩ _ g1 g2
    exact ⟨v,rfl,m3,hw3.trans hw,(G1.trans G).trans G3,G3.step.rd _ _ hd⟩
   rw [aCq] at h
   obtain ⟨ds',s1,h1,hlen,hms,HM⟩:=mW h
   obtain ⟨hcb,d',s',kl,hk,hs1,H⟩:=aE4 hS hmode (hwf f t hmode) h1
   refine ⟨hcb,d',scrubKeptE t.keep kl e,s',scrubKeptD t.keep kl,hk,λt'=>aAG t.keep kl t' e,λhla=>?_,λn m B L WB WL sit hnb hnl hft vs hl hr=>?_⟩
   ·rw [hmode] at hla
    simp only [hlent,Bool.not_false,Bool.true_and] at hla
    unfold scrubKeptD
    rw [hla];rfl
   obtain ⟨C,hok⟩:=hft _ rfl
   rw [hmode] at C hok
   simp only [hlent,Bool.not_false,Bool.true_and] at C hok
   obtain ⟨m1,M1,hr1⟩:=HM n m sit.inv sit.nl (by omega) sit.fl vs.toList (λi d u h1 h2=>hr i d u h1 (by simpa using h2))
   have G1:=M1.goes WB WL sit hms (by omega)
   have sit1:=G1.sit sit
   have hwb : (deepFoot s args true).wb=(deepFoot s args true).rb:=rfl
   have hwl : (deepFoot s args true).wl=(deepFoot s args true).rl:=rfl
   have:=H n m1 B L WB WL sit1 hnb hnl sit.nl (λb hb=>⟨C.rb b hb,C.wb b (by show b∈(deepFoot s args true).wb;rw [hwb];exact hb)⟩) (λl hl=>⟨C.rl l hl,C.wl l (by show l∈(deepFoot s args true).wl;rw [hwl];exact hl)⟩) (λhkp x=>⟨⟨(C.all hkp x).1,(C.all hkp x).2.2.1⟩,⟨(C.all hkp x).2.1,(C.all hkp x).2.2.2⟩⟩) vs (by omega) (λi d v h1 h2=>hr1 i d v h1 (by simpa using h2))
   rw [M1.w] at this
   refine this.mono ?_
   rintro e w' ⟨v,rfl,m',hw,G,hd⟩
   exact ⟨v,rfl,m',hw,G1.trans G,hd⟩
theorem aLv (hP : aEe P O.C) (hS : aGn P X.mode O.S) (hwf : ∀ g t,X.mode g=some t→t.wf=true) : aDe P X O:=by
 intro d args ts e s k r h
 unfold applyK at h
 split at h
 ·rename_i f caps
  obtain ⟨hcb,d',e',s',scr,hk,he,hid,H⟩:=aJ7 hP hS hwf h
  have hfeq : callFoot X (.fn f caps) args s=(match X.mode f with | some t=>{ deepFoot s (args++caps) (!t.lent) with last:=!t.lent&&t.keep} | none=>deepFoot s (args++caps) false):=by
   unfold callFoot
   simp only
   cases X.mode f<;>rfl
  refine ⟨d',e',s',scr,hk,he,λhla=>hid (by rw [← hfeq];exact hla),λn m B L WB WL sit hnb hnl C hok vf vs hvf hl hr=>?_⟩
  cases hvf with
  | fn _ _ us hul hur=>
    have e1 : (do let df ← Deferred.ofValue (.func (.func f) #[] us.toArray) vs;invoke df.target df.args : Sem Next).run P m.w = .ok (.enter f (vs++us.toArray)) m.w:=by
     simp [Deferred.ofValue,invoke,aDh hcb]
    rw [e1]
    refine (H n m B L WB WL sit hnb hnl (λft hft=>?_) (vs++us.toArray) (by simp;omega) (λi d v hd hv=>?_))
    ·rw [hfeq,← hft] at C hok
     exact ⟨C,hok⟩
    ·rw [Array.getElem?_append] at hv
     split at hv
     ·rename_i hi
      rw [List.getElem?_append_left (by omega)] at hd
      exact hr i d v hd hv
     ·rename_i hi
      rw [List.getElem?_append_right (by omega)] at hd
      refine hur (i - args.length) d v hd ?_
      rw [hl]
      simpa using hv
 ·rename_i v
  cases v with
  | fn f caps=>
    obtain ⟨hcb,d',hk,H⟩:=aJ4 (P:=P) (f:=f) (C:=λvs=>PV.apply O.C (.fn f caps) vs) (caps:=caps) (k:=λd s=>k d e s) (λps r0 h0=>by
     have h0 : O.C f (ps++caps)=some r0:=h0
     obtain ⟨h1,h2⟩:=hP f _ _ h0
     refine ⟨h1,λw Z aS us hz hl hr hul hur=>h2 w Z (aS++us) hz (by simp;omega) (λi x v hx hv=>?_)⟩
     rw [Array.getElem?_append] at hv
     split at hv
     ·rw [List.getElem?_append_left (by omega)] at hx
      exact hr i x v hx hv
     ·rw [List.getElem?_append_right (by omega)] at hx
      exact hur (i - ps.length) x v hx (by rw [hl];exact hv)) h
    refine ⟨d',e,s,id,hk,λ_=>rfl,λ_=>rfl,λn m B L WB WL sit hnb hnl C hok vf vs hvf hl hr=>?_⟩
    cases hvf with
    | p _ _ hvf=>cases hvf with
      | fn _ _ us hul hur=>
        have e1 : (do let df ← Deferred.ofValue (.func (.func f) #[] us.toArray) vs;invoke df.target df.args : Sem Next).run P m.w = .ok (.enter f (vs++us.toArray)) m.w:=by
         simp [Deferred.ofValue,invoke,aDh hcb]
        rw [e1]
        exact H n m B L WB WL sit (aI1 (ds:=args) (wr:=false) sit C hok) vs us.toArray hl hr (by simpa using hul) (λi x v hx hv=>hur i x v hx (by simpa using hv))
  | _=>
    exfalso
    split at h<;>
    ·obtain ⟨ps,h1,_⟩:=vO (s:=s) h
     obtain ⟨r0,hr0,_⟩:=aU h1
     simp [PV.apply] at hr0
 ·cases h
end
structure Hyp (P : Program) (T : Tab) (H : Hints) : Prop where
 tab : T=tabOf P
 zero : mC P H.zok
 mixed : P.follows .mixedOrders=true
 code : ∀ (f : Nat) (fn : Func) (c : Code),P.funcs[f]? = some fn→fn.body=some c→codeOk fn.ntmps c=true∧fn.name≠ "runtime.NumGoroutine"
 prim : aEe P λg args=>(H.prim g).bind λp=>p args
 primS : ∀ g h,H.primS g=some h→∀ t args s l,H.mode g=some t→h args s=some l→lW P g∧∀ (m : bA) (aS : Array Value),iC m s s.base→args.length=aS.size→
  (∀ (i : Nat) d v,args[i]? = some d→aS[i]? = some v→m.rd d v)→Calls P g aS m.w (λe w'=>∃ v,e = .returned v∧uC m s.boxes.length (if t.keep then s.lists.length else 0) (some (t.fit s)) l v w')
 glob : ∀ g,H.glob g=none
 wf : ∀ g t,H.mode g=some t→t.wf=true
section
variable {P : Program} {T : Tab} {H : Hints}
theorem aGr : ∀ (ds : List DV) (n t : Nat),(argEnv n ds).get t=if n≤t then ds.getD (t - n) .dead else .dead
 | [],n,t=>by simp [argEnv,Env.get]
 | d::r,n,t=>by
   unfold argEnv
   simp only [Env.get]
   by_cases h : t=n
   ·subst h;simp
   ·have hb : Nat.beq t n=false:=by
     cases hb : Nat.beq t n with
     | false=>rfl
     | true=>exact absurd (bS hb) h
    rw [hb]
    simp only [Bool.false_eq_true,if_false]
    rw [aGr]
    by_cases h2 : n≤t
    ·rw [if_pos h2,if_pos (by omega),show t - n=t - (n+1)+1 by omega]
     simp [List.getD]
    ·rw [if_neg h2,if_neg (by omega)]
theorem aJ8 {m : bA} {args : List DV} {vs : Array Value} {n : Nat} (hl : args.length=vs.size) (hr : ∀ (i : Nat) d v,args[i]? = some d→vs[i]? = some v→m.rd d v) :
 iR m (argEnv 0 args).get ⟨vs++Array.replicate n undef,[]⟩:=by
 intro t
 rw [aGr,if_pos (Nat.zero_le _),Nat.sub_zero]
 by_cases h : t<args.length
 ·have hd : args[t]? = some args[t]:=List.getElem?_eq_getElem h
  have hv : vs[t]? = some (vs[t]'(by omega)):=Array.getElem?_eq_getElem (by omega)
  have e1 : args.getD t .dead=args[t]:=by rw [List.getD,hd];rfl
  have e2 : Act.eval ⟨vs++Array.replicate n undef,[]⟩ (.tmp t)=vs[t]'(by omega):=by
   show (vs++Array.replicate n undef).getD t undef=_
   rw [Array.getD_eq_getD_getElem?,Array.getElem?_append_left (by omega),hv];rfl
  rw [e1,e2]
  exact hr t _ _ hd hv
 ·have e1 : args.getD t .dead = .dead:=by rw [List.getD,List.getElem?_eq_none (by omega)];rfl
  rw [e1]
  exact .dead _
theorem aB9 {f : Nat} {fn : Func} {c : Code} (hfn : P.funcs[f]? = some fn) (hc : fn.body=some c) {nb nl : Nat} {out : Option Tmpl} {args : List DV} {s : St} {r : R} (hg : aO3 P f nb nl out [.code c] (argEnv 0 args) s r)
 {m : bA} {vs : Array Value} (hf : iC m s s.base) (hl : args.length=vs.size) (hr : ∀ (i : Nat) d v,args[i]? = some d→vs[i]? = some v→m.rd d v) :
 Calls P f vs m.w (λe w'=>∃ v,e = .returned v∧uC m nb nl out r v w'):=by
 intro cs
 let b : Frame:={ (default : Frame) with fn:=f,kind:=.normal}
 have henter : Frame.enter P f vs .normal=b.at ⟨vs++Array.replicate (fn.ntmps - vs.size) undef,[]⟩ [.code c]:=by
  simp [Frame.enter,Frame.at,hfn,hc,b]
 obtain ⟨v,w',fr,h1,h2,h3,h4⟩:=hg m ⟨vs++Array.replicate (fn.ntmps - vs.size) undef,[]⟩ fn hfn hf (aJ8 hl hr) (by simp;omega) rfl b cs rfl rfl
 rw [← henter] at h2
 exact ⟨.returned v,w',fr,⟨v,rfl,h1⟩,h2,h3,h4⟩
theorem aCr {f : Nat} {n nb nl : Nat} {out : Option Tmpl} {e : Env} {s : St} {r : R} (h : runN P T H n f nb nl out (startOf P f) e s=some r) : ∃ fn c,P.funcs[f]? = some fn∧fn.body=some c∧startOf P f = [.code c]:=by
 cases hb : bodyOf P f with
 | none=>
   exfalso
   cases n with
   | zero=>simp [runN] at h
   | succ n=>
     unfold runN at h
     have hs : startOf P f = [.code (.refuse "")]:=by unfold startOf;rw [hb]
     rw [hs] at h
     unfold evalFuel eval at h
     simp at h
 | some c=>
   have hs : startOf P f = [.code c]:=by unfold startOf;rw [hb]
   unfold bodyOf at hb
   cases hf : P.funcs[f]? with
   | none=>rw [hf] at hb;cases hb
   | some fn=>rw [hf] at hb;exact ⟨fn,c,rfl,hb,hs⟩
theorem aPN (hy : Hyp P T H) {g : Nat} {fn : Func} {c : Code} (hg : P.funcs[g]? = some fn) (hc : fn.body=some c) : oC fn.ntmps [.code c]:=λx hx=>by
 simp at hx;subst hx;exact (hy.code _ _ _ hg hc).1
def aMk (P : Program) (run : Nat→Nat→Nat→Option Tmpl→List Item→Env→St→Option R) : Prop:=∀ (f nb nl : Nat) (out : Option Tmpl) (todo : List Item) (e : Env) (s : St) (r : R) (fn : Func),run f nb nl out todo e s=some r→P.funcs[f]? = some fn→oC fn.ntmps todo→aO3 P f nb nl out todo e s r
def aN3 (P : Program) (run : Nat→Nat→Nat→Option Tmpl→List Item→Env→St→Option R) : Prop:=∀ {f nb nl : Nat} {out : Option Tmpl} {e : Env} {s : St} {r : R},run f nb nl out (startOf P f) e s=some r→∃ fn c,P.funcs[f]? = some fn∧fn.body=some c∧startOf P f = [.code c]
variable {run : Nat → Nat → Nat → Option Tmpl → List Item → Env → St → Option R}
theorem aJ9 (hy : Hyp P T H) (hrun : aMk P run) (hst : aN3 P run) (f nb nl : Nat) (out : Option Tmpl) : aEe P (orcOf P H run f nb nl out).C:=by
 intro g args r h
 have h : (match H.prim g with | some h=>h args | none=>run g 0 0 none (startOf P g) (argEnv 0 (args.map .p)) ⟨[],[],0,0,0⟩)=some r:=h
 cases hpr : H.prim g with
 | some p=>
   rw [hpr] at h
   exact hy.prim g args r (by simp only [hpr,Option.bind_some];exact h)
 | none=>
 rw [hpr] at h
 simp only at h
 obtain ⟨fg,c,hfg,hc,hst'⟩:=hst h
 rw [hst'] at h
 have good:=hrun g 0 0 none _ _ _ r fg h hfg (aPN hy hfg hc)
 refine ⟨⟨fg,c,hfg,hc,(hy.code _ _ _ hfg hc).2⟩,λw Z aS hz hl hr=>?_⟩
 let m0 : bA:={ w:=w,Z:=Z,s:={ box:=λ_=>none,list:=λ_=>none},L:=λ_=>False,
                ρ:={ box:=λ_=>0,hdr:=λ_=>.nilFunc,fp:=λ_ _=>False,ty:=λ_=>.leaf,ub:=λ_=>False,ul:=λ_=>False}}
 have full0 : iC m0 ⟨[],[],0,0,0⟩ 0:={
  inv:={
   ub:=λ_ _ h=>by cases h
   ul:=λ_ _ h=>by cases h
   zlt:=hz
   box:=λ_ _ h=>by cases h
   row:=λ_ _ h=>by cases h
   bz:=λ_ _ h=>by cases h
   bb:=λ_ _ _ _ h=>by cases h
   bl:=λ_ _ _ _ h=>by cases h
   ll:=λ_ _ _ _ _ h=>by cases h
   Lz:=λ_ h=>h.elim
   Lb:=λ_ _ _ h=>h
   Ll:=λ_ _ _ _ _ h=>h}
  box:=λ_=>rfl
  list:=λ_=>rfl
  ub:=λ_ h=>h.elim
  ul:=λ_ h=>h.elim}
 have own0 : ∀ r,¬ m0.owned r:=by
  rintro r (⟨_,_,h,_⟩ | ⟨_,_,h,_⟩ | h)
  ·cases h
  ·cases h
  ·exact h
 refine (aB9 hfg hc good (m:=m0) (vs:=aS) full0 (by simpa using hl) (λi d v hd hv=>?_)).mono ?_
 ·rw [List.getElem?_map] at hd
  cases hp : args[i]? with
  | none=>rw [hp] at hd;cases hd
  | some p=>rw [hp] at hd;cases hd;exact .p _ _ (hr i p v hp hv)
 ·rintro e w' ⟨v,rfl,m',rfl,inv',fw,pv,rfl,hrep⟩
  refine ⟨v,rfl,λx=>m'.Z x∨m'.owned x,⟨fw.size,fw.os,fw.tape,fw.output,λr hr=>fw.keep r hr (own0 r),λr hr=>.inl (fw.zz r hr),λr hr=>?_⟩,hrep⟩
  rcases hr with hr | hr
  ·rcases fw.z r hr with h | h | h
   ·exact .inl h
   ·exact (own0 r h).elim
   ·exact .inr ⟨h,inv'.zlt r hr⟩
  ·exact .inr ⟨(fw.own r hr).resolve_left (own0 r),inv'.owned_lt hr⟩
theorem aN4 (hy : Hyp P T H) (hrun : aMk P run) (hst : aN3 P run) (f nb nl : Nat) (out : Option Tmpl) : aGn P H.mode (orcOf P H run f nb nl out).S:=by
 intro g t args s l hmode h
 have h : (match H.mode g with | some t=>(match H.primS g with | some h=>h args s | none=>run g s.boxes.length (if t.keep then s.lists.length else 0) (some (t.fit s)) (startOf P g) (argEnv 0 args) s) | none=>none)=some l:=h
 rw [hmode] at h
 simp only at h
 cases hps : H.primS g with
 | some p=>
   rw [hps] at h
   exact hy.primS g p hps t args s l hmode h
 | none=>
 rw [hps] at h
 simp only at h
 obtain ⟨fg,c,hfg,hc,hst'⟩:=hst h
 rw [hst'] at h
 have good:=hrun g s.boxes.length (if t.keep then s.lists.length else 0) (some (t.fit s)) _ _ _ l fg h hfg (aPN hy hfg hc)
 exact ⟨⟨fg,c,hfg,hc,(hy.code _ _ _ hfg hc).2⟩,λm aS hf hl hr=>aB9 hfg hc good hf hl hr⟩
theorem aIb (hy : Hyp P T H) : ∀ (n : Nat),aMk P (runN P T H n)
 | 0,_,_,_,_,_,_,_,_,_,h,_,_=>by simp [runN] at h
 | n+1,f,nb,nl,out,todo,e,s,r,fn,h,hfn,hok=>by
   unfold runN at h
   have ih:=aIb hy n
   have hP:=aJ9 hy ih aCr f nb nl out
   have hS:=aN4 hy ih aCr f nb nl out
   refine aGi (X:=cxOf P T H f nb nl out) (O:=orcOf P H (runN P T H n) f nb nl out) hy.tab hy.zero hy.glob (aLv hP hS hy.wf) hy.mixed hfn ?_ (λtodo e s r h hk=>ih f nb nl out todo e s r fn h hfn hk) evalFuel true todo e s r h hok
   show ((P.funcs[f]?).map (·.results.toList)).getD []=_
   rw [hfn];rfl
end
def aN {β : Type} (a : Option β) (b : Nat→Option β) : Prop:=∀ r,a=some r→∃ N,∀ n,N≤n→b n=some r
section
variable {α β : Type}
theorem aN.none {b : Nat→Option β} : aN (Option.none : Option β) b:=λr h=>by cases h
theorem aN.rfl (a : Option β) : aN a (λ_=>a):=λr h=>⟨0,λ_ _=>h⟩
theorem aN.bd {o : Option α} {k : α→Option β} {k' : Nat→α→Option β} (h : ∀ a,aN (k a) (λn=>k' n a)) : aN (bd o k) (λn=>bd o (k' n)):=by
 cases o with
 | none=>exact aN.none
 | some a=>exact h a
theorem aN.bd2 {o : Option α} {o' : Nat→Option α} {k : α→Option β} {k' : Nat→α→Option β} (ho : aN o o') (h : ∀ a,aN (k a) (λn=>k' n a)) : aN (Go.Proofs.YtllmobkkbpdchaaGreat.bd o k) (λn=>Go.Proofs.YtllmobkkbpdchaaGreat.bd (o' n) (k' n)):=by
 intro r hr
 obtain ⟨a,ha,hk⟩:=aU hr
 obtain ⟨N,hN⟩:=ho a ha
 obtain ⟨M,hM⟩:=h a r hk
 refine ⟨max N M,λn hn=>?_⟩
 show Go.Proofs.YtllmobkkbpdchaaGreat.bd (o' n) (k' n)=some r
 rw [hN n (by omega)]
 exact hM n (by omega)
theorem aN.pvite {c : PV} {a b : Option β} {a' b' : Nat→Option β} (ha : aN a a') (hb : aN b b') : aN (PV.ite c a b) (λn=>PV.ite c (a' n) (b' n)):=by
 intro r hr
 rcases xS hr with ⟨rfl,h⟩ | ⟨rfl,h⟩
 ·obtain ⟨N,hN⟩:=ha r h
  exact ⟨N,λn hn=>hN n hn⟩
 ·obtain ⟨N,hN⟩:=hb r h
  exact ⟨N,λn hn=>hN n hn⟩
theorem aN.nilT {c : PV} {a b : Option β} {a' b' : Nat→Option β} (ha : aN a a') (hb : aN b b') : aN (PV.nilT c a b) (λn=>PV.nilT c (a' n) (b' n)):=by
 intro r hr
 obtain ⟨h1,h2⟩:=aH8 hr
 obtain ⟨M,hM⟩:=hb r h2
 cases c with
 | lst xs=>
   cases xs with
   | nil=>
     obtain ⟨N,hN⟩:=ha r (h1 (Eq.refl _))
     refine ⟨max N M,λn hn=>?_⟩
     show @_root_.ite _ (a' n=b' n) (Classical.propDecidable _) (a' n) Option.none=some r
     rw [hN n (by omega),hM n (by omega),if_pos (Eq.refl _)]
   | cons x xs=>exact ⟨M,λn hn=>hM n hn⟩
 | _=>cases hr
theorem aN.ite {c : Prop} [Decidable c] {a b : Option β} {a' b' : Nat→Option β} (ha : aN a a') (hb : aN b b') : aN (if c then a else b) (λn=>if c then a' n else b' n):=by
 by_cases h : c
 ·simp only [h,if_true];exact ha
 ·simp only [h,if_false];exact hb
theorem aN.flat {r : PV} {a : Option β} {a' : Nat→Option β} (ha : aN a a') : aN (PV.guardFlat r a) (λn=>PV.guardFlat r (a' n)):=by
 unfold PV.guardFlat;exact aN.ite ha aN.none
theorem aN.own {o : OTy} {r : PV} {a : Option β} {a' : Nat→Option β} (ha : aN a a') : aN (PV.guardOwn o r a) (λn=>PV.guardOwn o r (a' n)):=by
 unfold PV.guardOwn;exact aN.ite ha aN.none
end
section
variable {X : Cx}
theorem aDl {v : PV} : ∀ {m : Nat} {k : List PV→Option R} {k' : Nat→List PV→Option R},(∀ l,aN (k l) (λn=>k' n l))→aN (cellsK.go v m k) (λn=>cellsK.go v m (k' n))
 | 0,_,_,h=>h []
 | _+1,_,_,h=>by
   unfold cellsK.go
   exact aDl λl=>aN.bd λc=>h _
theorem pL {m : Nat} {d : DV} {k : List DV→Option R} {k' : Nat→List DV→Option R} (h : ∀ l,aN (k l) (λn=>k' n l)) : aN (cellsK m d k) (λn=>cellsK m d (k' n)):=by
 cases d<;>simp only [cellsK]<;>first
  | exact aN.none
  | exact aN.ite (h _) aN.none
  | exact aN.bd λv=>aDl λl=>h _
theorem lA : ∀ {path : eD} {o : OTy} {c : PV} {k : OTy→PV→Option R} {k' : Nat→OTy→PV→Option R},(∀ o c,aN (k o c) (λn=>k' n o c))→aN (getK o c path k) (λn=>getK o c path (k' n))
 | [],_,_,_,_,h=>h _ _
 | (i,j)::r,o,c,k,k',h=>by
   unfold getK
   exact aN.bd λx=>aN.ite (aN.bd λy=>lA h) (aN.ite (lA h) aN.none)
theorem rF : ∀ {path : eD} {o : OTy} {c y : PV} {k : PV→Option R} {k' : Nat→PV→Option R},(∀ c,aN (k c) (λn=>k' n c))→aN (setK o c path y k) (λn=>setK o c path y (k' n))
 | [],_,_,_,_,_,h=>h _
 | (i,j)::r,o,c,y,k,k',h=>by
   unfold setK
   exact aN.bd λx=>aN.ite (aN.bd λz=>rF λz'=>aN.bd h) (aN.ite (rF λz'=>aN.bd h) aN.none)
theorem tT {s : St} {d : DV} {k : OTy→PV→Option R} {k' : Nat→OTy→PV→Option R} (h : ∀ o c,aN (k o c) (λn=>k' n o c)) : aN (rowK s d k) (λn=>rowK s d (k' n)):=by
 cases d<;>simp only [rowK]<;>try exact aN.none
 ·rename_i l path
  cases s.list l with
  | none=>exact aN.none
  | some w=>exact lA h
 ·rename_i l path lo hi
  cases s.list l with
  | none=>exact aN.none
  | some w=>exact lA λo c=>aN.bd λc=>h _ _
theorem aEg {α β : Type} {f : α→(β→Option R)→Option R} (hf : ∀ a k (k' : Nat→β→Option R),(∀ b,aN (k b) (λn=>k' n b))→aN (f a k) (λn=>f a (k' n))) :
 ∀ {l : List α} {k : List β→Option R} {k' : Nat→List β→Option R},(∀ b,aN (k b) (λn=>k' n b))→aN (mapK f l k) (λn=>mapK f l (k' n))
 | [],_,_,h=>h _
 | d::r,k,k',h=>by
   unfold mapK
   exact hf _ _ _ λv=>aEg hf λvs=>h _
theorem aCs {s : St} : ∀ {m : Nat} {d : DV} {k : PV→Option R} {k' : Nat→PV→Option R},(∀ v,aN (k v) (λn=>k' n v))→aN (snapK s m d k) (λn=>snapK s m d (k' n))
 | 0,_,_,_,_=>by simp only [snapK];exact aN.none
 | m+1,d,k,k',h=>by
   have mp:=λ{ds : List DV} {k : List PV→Option R} {k' : Nat→List PV→Option R} (h : ∀ v,aN (k v) (λn=>k' n v))=>aEg (f:=snapK s m) (λa k k' h=>aCs h) (l:=ds) h
   cases d<;>simp only [snapK]<;>first
    | exact aN.none
    | exact h _
    | exact mp λvs=>h _
    | exact tT λ_ c=>h _
    | skip
   ·rename_i b off
    cases off with
    | zero=>
      cases s.box b with
      | none=>exact aN.none
      | some cs=>exact mp λvs=>h _
    | succ n=>exact aN.none
   ·rename_i b n
    cases s.box b with
    | none=>exact aN.none
    | some cs=>exact aN.ite (mp λvs=>aN.bd λc=>h _) aN.none
theorem uE {s : St} {m : Nat} {ds : List DV} {k : List PV→Option R} {k' : Nat→List PV→Option R} (h : ∀ v,aN (k v) (λn=>k' n v)) : aN (snapL s m ds k) (λn=>snapL s m ds (k' n)):=by
 unfold snapL
 exact aEg (f:=snapK s m) (λa k k' h=>aCs h) h
theorem aLw {s : St} {d : DV} {k : PV→St→Option R} {k' : Nat→PV→St→Option R} (h : ∀ v s,aN (k v s) (λn=>k' n v s)) : aN (sinkK s d k) (λn=>sinkK s d (k' n)):=by
 unfold sinkK
 cases bsOf deep d with
 | nil=>exact aCs λv=>h _ _
 | cons=>exact aN.none
theorem rY {ct : OTy} {s : St} {d : DV} {k : PV→St→Option R} {k' : Nat→PV→St→Option R} (h : ∀ v s,aN (k v s) (λn=>k' n v s)) : aN (sinkAs ct s d k) (λn=>sinkAs ct s d (k' n)):=by
 cases ct with
 | leaf=>exact aLw h
 | own a b c e=>
   cases d<;>simp only [sinkAs]<;>first
    | exact aN.none
    | exact h _ _
    | skip
   ·rename_i l path
    cases path with
    | nil=>
      dsimp only
      cases s.list l with
      | none=>exact aN.none
      | some w=>exact aN.ite (h _ _) aN.none
    | cons=>exact aN.none
   ·rename_i l path lo hi
    cases path with
    | nil=>
      dsimp only
      cases s.list l with
      | none=>exact aN.none
      | some w=>exact aN.ite (aN.bd λc=>h _ _) aN.none
    | cons=>exact aN.none
theorem uF {o : OTy} : ∀ {ds : List DV} {s : St} {j : Nat} {k : List PV→St→Option R} {k' : Nat→List PV→St→Option R},(∀ v s,aN (k v s) (λn=>k' n v s))→aN (sinkCells o s j ds k) (λn=>sinkCells o s j ds (k' n))
 | [],_,_,_,_,h=>h _ _
 | d::r,s,j,k,k',h=>by
   unfold sinkCells
   exact rY λv s=>uF λvs s=>h _ _
theorem aGs {o : OTy} {s : St} {d : DV} {k : PV→St→Option R} {k' : Nat→PV→St→Option R} (h : ∀ v s,aN (k v s) (λn=>k' n v s)) : aN (elemK o s d k) (λn=>elemK o s d (k' n)):=by
 unfold elemK
 cases o.g with
 | true=>
   cases d<;>simp only [if_true]<;>first
    | exact aN.none
    | exact aN.ite (h _ _) aN.none
    | exact aN.ite (uF λvs s=>h _ _) aN.none
 | false=>
   cases d<;>simp only [Bool.false_eq_true,if_false]<;>first
    | exact aN.none
    | exact rY h
theorem mB : ∀ {ds : List DV} {ts : List (Option Nat)} {s : St} {k : List DV→St→Option R} {k' : Nat→List DV→St→Option R},(∀ v s,aN (k v s) (λn=>k' n v s))→aN (ownCells X ds ts s k) (λn=>ownCells X ds ts s (k' n))
 | [],ts,s,k,k',h=>by cases ts<;>exact h _ _
 | d::ds,[],s,k,k',h=>h _ _
 | d::ds,t::ts,s,k,k',h=>by
   unfold ownCells
   cases d<;>cases t<;>exact mB λvs s=>h _ _
theorem aAH {l : Nat} {path : eD} {i : PV} {o : OTy} {x : PV} : ∀ {m off : Nat} {k : List DV→Option R} {k' : Nat→List DV→Option R},(∀ v,aN (k v) (λn=>k' n v))→aN (cellsE l path i o x m off k) (λn=>cellsE l path i o x m off (k' n))
 | 0,_,_,_,h=>h _
 | m+1,off,k,k',h=>by
   unfold cellsE
   exact aN.ite (aN.bd λy=>aAH λds=>h _) (aAH λds=>h _)
theorem aGt {x : PV} {s : Nat} {g : Bool} {off : Nat} {r : TyR} {k : DV→Option R} {k' : Nat→DV→Option R} (h : ∀ v,aN (k v) (λn=>k' n v)) : aN (partK x s g off r k) (λn=>partK x s g off r (k' n)):=by
 unfold partK
 exact aN.ite (aN.ite (h _) (aN.bd λy=>h _)) (aN.ite (aN.bd λy=>h _) (aN.ite (h _) aN.none))
theorem aE5 {c : PV} : ∀ {m off : Nat} {k : List PV→Option R} {k' : Nat→List PV→Option R},(∀ v,aN (k v) (λn=>k' n v))→aN (loadK.cellsB c m off k) (λn=>loadK.cellsB c m off (k' n))
 | 0,_,_,_,h=>h _
 | m+1,off,k,k',h=>by
   unfold loadK.cellsB
   exact aN.bd λv=>aE5 λl=>h _
theorem aLx {t : Nat} {a : DV} {s : St} {k : DV→Option R} {k' : Nat→DV→Option R} (h : ∀ v,aN (k v) (λn=>k' n v)) : aN (loadK X t a s k) (λn=>loadK X t a s (k' n)):=by
 unfold loadK
 refine aN.ite aN.none ?_
 cases a<;>(try simp only)<;>first
  | exact aN.none
  | exact aN.ite (aE5 λl=>h _) (aN.bd λy=>h _)
  | exact aGt h
  | skip
 ·rename_i b off
  cases s.box b with
  | none=>exact aN.none
  | some cs=>
    refine aN.ite (aN.ite (h _) aN.none) ?_
    cases cs[off]? with
    | none=>exact aN.none
    | some d=>exact h _
 ·rename_i l path i off
  cases s.list l with
  | none=>exact aN.none
  | some w=>
    exact lA λo c=>aN.bd λx=>aN.ite (aGt h) (aN.ite (aN.ite (aAH λds=>h _) aN.none)
     (aN.ite (aN.ite (aN.bd λy=>h _) (aN.ite (h _) aN.none)) (aN.ite (h _) aN.none)))
theorem aBw {d : DV} {k : DV→Option R} {k' : Nat→DV→Option R} (h : ∀ v,aN (k v) (λn=>k' n v)) : aN (oneK d k) (λn=>oneK d (k' n)):=by
 cases d<;>simp only [oneK]<;>first
  | exact aN.none
  | exact h _
  | exact aN.bd λx=>h _
theorem aKa {t b off : Nat} {v : DV} {s : St} {k : St→Option R} {k' : Nat→St→Option R} (h : ∀ v,aN (k v) (λn=>k' n v)) : aN (storeB X t b off v s k) (λn=>storeB X t b off v s (k' n)):=by
 unfold storeB
 simp only
 cases s.box b with
 | none=>exact aN.none
 | some cs=>
   refine aN.ite (aN.ite (pL λvs=>mB λvs s=>h _) (aN.ite (aBw λv=>?_) aN.none)) aN.none
   cases v<;>(try simp only)<;>first
    | exact h _
    | skip
   ·cases elemOf X t with
    | none=>exact aN.none
    | some u=>exact h _
   ·rename_i l path lo hi
    cases path with
    | cons=>exact h _
    | nil=>
      cases cs[off]? with
      | none=>exact h _
      | some d=>
        cases d<;>(try simp only)<;>first
         | exact h _
         | skip
        rename_i l' path'
        cases path' with
        | cons=>exact h _
        | nil=>
          refine aN.ite ?_ (h _)
          cases s.list l with
          | none=>exact aN.none
          | some w=>exact aN.bd λc=>h _
theorem aE6 {m : Nat} {c i : PV} : ∀ {ys : List PV} {c : PV} {off : Nat} {k : PV→Option R} {k' : Nat→PV→Option R},(∀ v,aN (k v) (λn=>k' n v))→aN (storeK.setAll m c i off ys k) (λn=>storeK.setAll m c i off ys (k' n))
 | [],_,_,_,_,h=>h _
 | y::ys,c,off,k,k',h=>by
   unfold storeK.setAll
   exact aN.bd λc=>aE6 (c:=c) h
theorem aKb {e : Env} {l : Nat} {path : eD} {w : Own} {c : PV} {s : St} {k : Env→St→Option R} {k' : Nat→Env→St→Option R} (h : ∀ e s,aN (k e s) (λn=>k' n e s)) : aN (storeK.fin e k l path w c s) (λn=>storeK.fin e (k' n) l path w c s):=by
 unfold storeK.fin
 refine rF λc'=>?_
 unfold touchK
 exact aN.ite (h _ _) (h _ _)
theorem aGu {e : Env} {o : OTy} {ds : List DV} {off l : Nat} {path : eD} {i : PV} {s : St} {k : Env→St→Option R} {k' : Nat→Env→St→Option R} (h : ∀ e s,aN (k e s) (λn=>k' n e s)) : aN (storeK.setIn e k o ds off l path i s) (λn=>storeK.setIn e (k' n) o ds off l path i s):=by
 unfold storeK.setIn
 refine uF λys s=>?_
 cases s.list l with
 | none=>exact aN.none
 | some w=>exact lA λo c=>aE6 (c:=c) λc=>aKb h
theorem aAI {t : Nat} {a v : DV} {e : Env} {s : St} {k : Env→St→Option R} {k' : Nat→Env→St→Option R} (h : ∀ e s,aN (k e s) (λn=>k' n e s)) : aN (storeK X t a v e s k) (λn=>storeK X t a v e s (k' n)):=by
 unfold storeK
 refine aN.ite aN.none ?_
 cases a<;>(try simp only)<;>first
  | exact aN.none
  | exact aKa λs=>h _ _
  | skip
 rename_i l path i off
 cases s.list l with
 | none=>exact aN.none
 | some w=>
   refine lA λo c=>aN.ite (aGs λx s=>?_) (aN.ite (pL λds=>aGu h) (aN.ite (aBw λv=>aGu h) aN.none))
   cases s.list l with
   | none=>exact aN.none
   | some w=>exact lA λo c=>aN.bd λc=>aKb h
theorem aAJ {fs : List (Nat × Nat)} : ∀ {ps : List (Nat × DV)} {cs : List DV} {k : List DV→Option R} {k' : Nat→List DV→Option R},(∀ v,aN (k v) (λn=>k' n v))→aN (buildK X fs ps cs k) (λn=>buildK X fs ps cs (k' n))
 | [],_,_,_,h=>h _
 | (i,v)::r,cs,k,k',h=>by
   unfold buildK
   cases fs[i]? with
   | none=>exact aN.none
   | some p=>exact aN.ite (aN.ite (pL λvs=>aAJ h) (aN.ite (aBw λv=>aAJ h) aN.none)) aN.none
theorem aE7 {o : OTy} : ∀ {ds : List DV} {s : St} {k : List PV→St→Option R} {k' : Nat→List PV→St→Option R},(∀ v s,aN (k v s) (λn=>k' n v s))→aN (elemsK o s ds k) (λn=>elemsK o s ds (k' n))
 | [],_,_,_,h=>h _ _
 | d::r,s,k,k',h=>by
   unfold elemsK
   exact aGs λv s=>aE7 λvs s=>h _ _
theorem yU {dst : Option Nat} {t : Nat} {d : DV} {e : Env} {s : St} {k : DV→St→Option R} {k' : Nat→DV→St→Option R} (h : ∀ v s,aN (k v s) (λn=>k' n v s)) : aN (moveK X dst t d e s k) (λn=>moveK X dst t d e s (k' n)):=by
 cases d<;>simp only [moveK]<;>first
  | exact aN.none
  | exact h _ _
  | skip
 ·cases elemOf X t with
  | none=>exact h _ _
  | some u=>exact h _ _
 ·rename_i l path lo hi
  cases path with
  | cons=>exact h _ _
  | nil=>
    cases dst with
    | none=>exact h _ _
    | some t=>
      dsimp only
      generalize e.get t=d0
      cases d0<;>(try simp only)<;>first
       | exact h _ _
       | skip
      rename_i l' path'
      cases path' with
      | cons=>exact h _ _
      | nil=>
        refine aN.ite ?_ (h _ _)
        cases s.list l with
        | none=>exact aN.none
        | some w=>exact aN.bd λc=>h _ _
theorem aLy {c a b : DV} {e : Env} {s : St} {k : DV→St→Option R} {k' : Nat→DV→St→Option R} (h : ∀ v s,aN (k v s) (λn=>k' n v s)) : aN (pickK X c a b e s k) (λn=>pickK X c a b e s (k' n)):=by
 cases c<;>simp only [pickK]<;>first
  | exact aN.none
  | exact aN.pvite (yU h) (yU h)
theorem aKc {t : Nat} {s : St} {k : DV→St→Option R} {k' : Nat→DV→St→Option R} (h : ∀ v s,aN (k v s) (λn=>k' n v s)) : aN (allocK X t s k) (λn=>allocK X t s (k' n)):=by
 unfold allocK
 exact aN.ite (mB λcs s=>h _ _) aN.none
theorem aNc {t : Nat} {x : DV} {s : St} {k : DV→St→Option R} {k' : Nat→DV→St→Option R} (h : ∀ v s,aN (k v s) (λn=>k' n v s)) : aN (boxK X t x s k) (λn=>boxK X t x s (k' n)):=by
 unfold boxK
 exact aN.ite (pL λcs=>mB λcs s=>h _ _) (aBw λd=>mB λcs s=>h _ _)
theorem aI4 {t : Nat} {ps : List (Nat × DV)} {k : DV→Option R} {k' : Nat→DV→Option R} (h : ∀ v,aN (k v) (λn=>k' n v)) : aN (buildTK X t ps k) (λn=>buildTK X t ps (k' n)):=by
 unfold buildTK
 cases (X.T.at t).d<;>(try simp only)<;>first
  | exact aN.none
  | exact aN.ite (aAJ λcs=>h _) aN.none
theorem aEh {t m : Nat} {ps : List (Nat × DV)} {s : St} {k : DV→St→Option R} {k' : Nat→DV→St→Option R} (h : ∀ v s,aN (k v s) (λn=>k' n v s)) : aN (buildSliceK X t m ps s k) (λn=>buildSliceK X t m ps s (k' n)):=by
 unfold buildSliceK lendK
 cases elemOf X t with
 | none=>exact aN.none
 | some u=>exact aN.ite (aN.ite (h _ _) aN.none) (aN.ite (aE7 λvs s=>aN.bd λc=>h _ _) aN.none)
theorem aFh {t : Nat} {l c : DV} {s : St} {k : DV→St→Option R} {k' : Nat→DV→St→Option R} (h : ∀ v s,aN (k v s) (λn=>k' n v s)) : aN (makeSliceK X t l c s k) (λn=>makeSliceK X t l c s (k' n)):=by
 unfold makeSliceK
 cases elemOf X t with
 | none=>exact aN.none
 | some u=>
   cases l<;>cases c<;>(try simp only)<;>first
    | exact aN.none
    | exact aN.ite (aN.bd λ_=>aN.bd λy=>aN.pvite (aN.bd λc=>h _ _) aN.none) aN.none
theorem aGv {x : DV} {s : St} {k : DV→Option R} {k' : Nat→DV→Option R} (h : ∀ v,aN (k v) (λn=>k' n v)) : aN (nilCheckK x s k) (λn=>nilCheckK x s (k' n)):=by
 cases x<;>simp only [nilCheckK]<;>first
  | exact aN.none
  | exact h _
  | exact aN.bd λv=>h _
  | skip
 rename_i l path i off
 cases s.list l with
 | none=>exact aN.none
 | some w=>exact h _
theorem aLz {op : UnOp} {x : DV} {k : DV→Option R} {k' : Nat→DV→Option R} (h : ∀ v,aN (k v) (λn=>k' n v)) : aN (unOpK op x k) (λn=>unOpK op x (k' n)):=by
 cases op<;>cases x<;>simp only [unOpK]<;>first
  | exact aN.none
  | exact aN.bd λv=>h _
theorem aKd {t : Nat} {x i : DV} {k : DV→Option R} {k' : Nat→DV→Option R} (h : ∀ v,aN (k v) (λn=>k' n v)) : aN (indexK X t x i k) (λn=>indexK X t x i (k' n)):=by
 unfold indexK
 cases (X.T.at t).d<;>cases x<;>cases i<;>(try simp only)<;>first
  | exact aN.none
  | exact aN.bd λv=>h _
  | skip
 refine aN.ite ?_ aN.none
 split
 ·exact aN.bd λv=>h _
 ·exact aN.none
theorem aGw {d : DV} {k : DV→Option R} {k' : Nat→DV→Option R} (h : ∀ v,aN (k v) (λn=>k' n v)) : aN (soK d k) (λn=>soK d (k' n)):=by
 cases d<;>simp only [soK]<;>first
  | exact aN.bd λv=>h _
  | exact h _
theorem aHx {x : DV} {i : Nat} {k : DV→Option R} {k' : Nat→DV→Option R} (h : ∀ v,aN (k v) (λn=>k' n v)) : aN (extractK x i k) (λn=>extractK x i (k' n)):=by
 cases x<;>simp only [extractK]<;>first
  | exact aN.none
  | exact aN.bd λv=>h _
  | skip
 rename_i cs
 cases cs[i]? with
 | none=>exact aN.none
 | some d=>exact h _
theorem aKe {t f : Nat} {x : DV} {k : DV→Option R} {k' : Nat→DV→Option R} (h : ∀ v,aN (k v) (λn=>k' n v)) : aN (fieldK X t x f k) (λn=>fieldK X t x f (k' n)):=by
 unfold fieldK
 cases (X.T.at t).d<;>(try simp only)<;>first
  | exact aN.none
  | skip
 rename_i fs
 cases fs[f]? with
 | none=>exact aN.none
 | some p=>
   refine aN.ite aN.none ?_
   cases x<;>(try simp only)<;>first
    | exact aN.none
    | exact aN.ite (aN.bd λy=>h _) (aN.bd λy=>h _)
    | skip
   rename_i cs
   refine aN.ite (aN.ite (h _) aN.none) ?_
   cases cs[p.1]? with
   | none=>exact aN.none
   | some d=>exact h _
theorem aFi {t f : Nat} {x : DV} {s : St} {k : DV→Option R} {k' : Nat→DV→Option R} (h : ∀ v,aN (k v) (λn=>k' n v)) : aN (fieldAddrK X t x f s k) (λn=>fieldAddrK X t x f s (k' n)):=by
 unfold fieldAddrK
 cases (X.T.at t).d<;>(try simp only)<;>first
  | exact aN.none
  | skip
 rename_i fs
 cases fs[f]? with
 | none=>exact aN.none
 | some p=>
   refine aN.ite aN.none ?_
   cases x<;>(try simp only)<;>first
    | exact aN.none
    | exact h _
    | exact aN.bd λy=>h _
    | skip
   rename_i l path i off
   cases s.list l with
   | none=>exact aN.none
   | some w=>exact h _
theorem aFj {t : Nat} {x i : DV} {s : St} {k : DV→Option R} {k' : Nat→DV→Option R} (h : ∀ v,aN (k v) (λn=>k' n v)) : aN (indexAddrK X t x i s k) (λn=>indexAddrK X t x i s (k' n)):=by
 unfold indexAddrK
 cases (X.T.at t).d<;>cases i<;>(try simp only)<;>first
  | exact aN.none
  | skip
 ·refine aN.ite aN.none ?_
  cases x<;>(try simp only)<;>first
   | exact aN.none
   | exact aN.bd λy=>h _
   | exact tT λo c=>aN.ite (aN.bd λ_=>h _) aN.none
   | exact tT λo c=>aN.ite (aN.bd λ_=>aN.bd λj=>h _) aN.none
 ·rename_i i
  refine aN.ite aN.none ?_
  cases x<;>cases i<;>(try simp only)<;>first
   | exact aN.none
   | exact aN.ite (h _) aN.none
   | exact aN.ite (aN.bd λv=>h _) aN.none
theorem aI5 {t : Nat} {x : DV} {lo hi : Option DV} {mx : DV} {s : St} {k : DV→St→Option R} {k' : Nat→DV→St→Option R} (h : ∀ v s,aN (k v s) (λn=>k' n v s)) : aN (noRoomK X t x lo hi mx s k) (λn=>noRoomK X t x lo hi mx s (k' n)):=by
 unfold noRoomK
 cases elemOf X t with
 | none=>exact aN.none
 | some u=>
   cases x<;>cases lo<;>(try exact aN.none)
   cases hi with
   | none=>exact aN.none
   | some d=>
     cases d<;>cases mx<;>first
      | exact aN.none
      | exact aN.ite (aN.bd λ_=>h _ _) aN.none
theorem aKf {t : Nat} {x : DV} {lo hi : Option DV} {s : St} {k : DV→Option R} {k' : Nat→DV→Option R} (h : ∀ v,aN (k v) (λn=>k' n v)) : aN (sliceK X t x lo hi s k) (λn=>sliceK X t x lo hi s (k' n)):=by
 unfold sliceK
 cases sliceK.lowOf lo with
 | none=>exact aN.none
 | some l=>
   cases (X.T.at t).d<;>(try simp only)<;>first
    | exact aN.none
    | skip
   ·cases x<;>(try simp only)<;>first
     | exact aN.none
     | skip
    cases hi with
    | none=>exact aN.bd λ_=>aN.bd λy=>h _
    | some d=>
      cases d<;>(try simp only)<;>first
       | exact aN.none
       | exact aN.bd λy=>h _
   ·refine aN.ite aN.none ?_
    cases x<;>(try simp only)<;>first
     | exact aN.none
     | skip
    ·cases hi with
     | none=>exact aN.bd λ_=>aN.bd λy=>h _
     | some d=>
       cases d<;>(try simp only)<;>first
        | exact aN.none
        | exact aN.bd λy=>h _
    ·refine tT λo c=>aN.ite ?_ aN.none
     cases hi with
     | none=>exact aN.bd λ_=>aN.bd λy=>h _
     | some d=>
       cases d<;>(try simp only)<;>first
        | exact aN.none
        | exact aN.bd λy=>h _
theorem aNd {t : Nat} {d : DV} {s : St} {k : DV→Option R} {k' : Nat→DV→Option R} (h : ∀ v,aN (k v) (λn=>k' n v)) : aN (lenK X t d s k) (λn=>lenK X t d s (k' n)):=by
 unfold lenK
 cases (X.T.at t).d<;>cases d<;>(try simp only)<;>first
  | exact aN.none
  | exact h _
  | exact aN.bd λy=>h _
  | exact tT λ_ c=>aN.bd λy=>h _
theorem aCt : ∀ {ds : List DV} {k : List PV→Option R} {k' : Nat→List PV→Option R},(∀ v,aN (k v) (λn=>k' n v))→aN (eqK.trees ds k) (λn=>eqK.trees ds (k' n))
 | [],_,_,h=>h _
 | d::ds,k,k',h=>by
   cases d<;>simp only [eqK.trees]<;>first
    | exact aN.none
    | exact aCt λvs=>h _
theorem aNe {op : BinOp} {x : DV} {k : DV→Option R} {k' : Nat→DV→Option R} (h : ∀ v,aN (k v) (λn=>k' n v)) : aN (nilK op x k) (λn=>nilK op x (k' n)):=by
 unfold nilK
 cases op<;>cases x<;>(try simp only)<;>first
  | exact aN.none
  | exact aN.bd λv=>h _
theorem aNf {op : BinOp} {t : Nat} {x y : DV} {k : DV→Option R} {k' : Nat→DV→Option R} (h : ∀ v,aN (k v) (λn=>k' n v)) : aN (binK X op t x y k) (λn=>binK X op t x y (k' n)):=by
 unfold binK
 cases (X.T.at t).d<;>(try simp only)<;>first
  | exact aN.none
  | skip
 ·cases x<;>cases y<;>(try simp only)<;>first
  | exact aN.none
  | exact aN.bd λv=>h _
 ·cases x<;>cases y<;>(try simp only)<;>first
  | exact aN.none
  | exact aN.bd λv=>h _
 ·cases x<;>cases y<;>(try simp only)<;>first
  | exact aN.none
  | exact aN.bd λv=>h _
 ·cases x<;>cases y<;>(try simp only)<;>first
   | exact aN.none
   | exact aN.bd λv=>h _
   | skip
  rename_i v
  cases v<;>cases op<;>(try simp only)<;>first
   | exact aN.none
   | exact h _
 ·cases y<;>(try simp only)<;>first
  | exact aN.none
  | exact aNe h
 ·unfold eqK
  cases eqKinds X 10 t with
  | none=>exact aN.none
  | some qs=>exact pL λas_=>pL λbs=>aCt λas_=>aCt λbs=>aN.bd λv=>h _
theorem aBx {d : DV} {s : St} {k : PV→Option R} {k' : Nat→PV→Option R} (h : ∀ v,aN (k v) (λn=>k' n v)) : aN (srcK d s k) (λn=>srcK d s (k' n)):=by
 cases d<;>simp only [srcK]<;>first
  | exact aN.none
  | exact h _
  | exact tT λo c=>aN.ite (h _) aN.none
theorem aLA {a b : Nat} {x : DV} {s : St} {k : DV→Option R} {k' : Nat→DV→Option R} (h : ∀ v,aN (k v) (λn=>k' n v)) : aN (convK X a b x s k) (λn=>convK X a b x s (k' n)):=by
 unfold convK
 cases (X.T.at a).d<;>cases (X.T.at b).d<;>(try simp only)<;>first
  | exact aN.none
  | skip
 ·cases x<;>(try simp only)<;>first
  | exact aN.none
  | exact aN.bd λv=>h _
 ·cases x<;>(try simp only)<;>first
  | exact aN.none
  | exact aN.bd λv=>h _
 ·rename_i e
  cases x<;>(try simp only)<;>first
   | exact aN.none
   | skip
  cases (X.T.at e).d<;>(try simp only)<;>first
   | exact aN.none
   | skip
  rename_i kk
  cases kk<;>(try simp only)<;>first
   | exact aN.none
   | exact aN.bd λv=>h _
 ·rename_i e
  cases (X.T.at e).d<;>(try simp only)<;>first
   | exact aN.none
   | skip
  rename_i kk
  cases kk<;>(try simp only)<;>first
   | exact aN.none
   | exact aBx λc=>aN.bd λy=>h _
theorem aGx {o : OTy} {d : DV} {s : St} {k : PV→St→Option R} {k' : Nat→PV→St→Option R} (h : ∀ v s,aN (k v s) (λn=>k' n v s)) : aN (appendedK o d s k) (λn=>appendedK o d s (k' n)):=by
 unfold appendedK
 exact aN.ite (aBx λy=>h _ _) (rY h)
theorem aE8 {o : OTy} {c : PV} {q : Option (PV × PV)} {k : PV→Option R} {k' : Nat→PV→Option R} (h : ∀ v,aN (k v) (λn=>k' n v)) : aN (pieceK o c q k) (λn=>pieceK o c q (k' n)):=by
 cases q with
 | none=>exact h _
 | some p=>exact aN.bd h
theorem aKg {l : Nat} {path : eD} {q : Option (PV × PV)} {s : St} {k : DV→St→Option R} {k' : Nat→DV→St→Option R} (h : ∀ d s,aN (k d s) (λn=>k' n d s)) : aN (leaveK l path q s k) (λn=>leaveK l path q s (k' n)):=by
 unfold leaveK
 cases s.list l with
 | none=>exact aN.none
 | some w=>exact lA λo c=>aN.ite (aE8 λc1=>rF λc'=>h _ _) aN.none
theorem aAK {l : Nat} {path : eD} {s : St} {k : Nat→St→Option R} {k' : Nat→Nat→St→Option R} (h : ∀ x s,aN (k x s) (λn=>k' n x s)) : aN (leaveRowK l path s k) (λn=>leaveRowK l path s (k' n)):=by
 unfold leaveRowK
 cases s.list l with
 | none=>exact aN.none
 | some w=>exact lA λ_ _=>aN.ite (rF λ_=>h _ _) aN.none
theorem oU {l : Nat} : ∀ {ds : List DV} {s : St} {k : List DV→St→Option R} {k' : Nat→List DV→St→Option R},(∀ ds s,aN (k ds s) (λn=>k' n ds s))→aN (leaveCells l ds s k) (λn=>leaveCells l ds s (k' n))
 | [],s,k,k',h=>h _ _
 | d::r,s,k,k',h=>by
   unfold leaveCells
   split
   ·exact aN.ite (aAK λx s1=>oU λ_ _=>h _ _) (oU λ_ _=>h _ _)
   ·exact oU λ_ _=>h _ _
theorem aI6 {t : Nat} {a v : DV} {e : Env} {s : St} {k : Env→St→Option R} {k' : Nat→Env→St→Option R} (h : ∀ e s,aN (k e s) (λn=>k' n e s)) : aN (storeLK X t a v e s k) (λn=>storeLK X t a v e s (k' n)):=by
 unfold storeLK
 split
 ·exact oU λ_ _=>aAI λ_ _=>aN.ite (h _ _) aN.none
 ·exact aKg λ_ _=>aAI λ_ _=>aN.ite (h _ _) aN.none
 ·exact aAI h
theorem aIc {d : DV} {te : Nat} {e : Env} {s : St} {l : Nat} {path : eD} {q : Option (PV × PV)} {k : DV→Env→St→Option R} {k' : Nat→DV→Env→St→Option R} (h : ∀ v e s,aN (k v e s) (λn=>k' n v e s)) : aN (appendK.nest X d te e s k l path q) (λn=>appendK.nest X d te e s (k' n) l path q):=by
 unfold appendK.nest
 cases s.list l with
 | none=>exact aN.none
 | some w=>
   exact lA λo c=>aN.ite (aBx λy=>aE8 λc=>rF λc'=>aN.bd λc2=>h _ _ _) aN.none
theorem aI7 {base d : DV} {te : Nat} {e : Env} {s : St} {k : DV→Env→St→Option R} {k' : Nat→DV→Env→St→Option R} (h : ∀ v e s,aN (k v e s) (λn=>k' n v e s)) : aN (appendK X base d te e s k) (λn=>appendK X base d te e s (k' n)):=by
 have plain : ∀ (q : Option OTy) (base : DV),aN (match q with
  | some o=>if fits X o te then appendedK o d s λy s=>sinkAs o s base λc s=>bd (PV.cat o.s o.e o.g c y) λc'=>k (.ref s.nl []) e (s.addList ⟨o,c'⟩) else none
  | none=>none) (λn=>match q with
  | some o=>if fits X o te then appendedK o d s λy s=>sinkAs o s base λc s=>bd (PV.cat o.s o.e o.g c y) λc'=>k' n (.ref s.nl []) e (s.addList ⟨o,c'⟩) else none
  | none=>none):=by
  intro q base
  cases q with
  | none=>exact aN.none
  | some o=>exact aN.ite (aGx λy s=>rY λc s=>aN.bd λc'=>h _ _ _) aN.none
 cases base with
 | ref l path=>
   cases path with
   | nil=>exact plain (baseTy X te s (.ref l [])) (.ref l [])
   | cons p r=>exact aIc h
 | sref l path lo hi=>
   cases path with
   | nil=>exact plain (baseTy X te s (.sref l [] lo hi)) (.sref l [] lo hi)
   | cons p r=>exact aIc h
 | p v=>exact plain (baseTy X te s (.p v)) (.p v)
 | nils=>exact plain (baseTy X te s .nils) .nils
 | agg cs=>exact plain (baseTy X te s (.agg cs)) (.agg cs)
 | tup cs=>exact plain (baseTy X te s (.tup cs)) (.tup cs)
 | fn f cs=>exact plain (baseTy X te s (.fn f cs)) (.fn f cs)
 | ptr b off=>exact plain (baseTy X te s (.ptr b off)) (.ptr b off)
 | bsl b n=>exact plain (baseTy X te s (.bsl b n)) (.bsl b n)
 | eptr l path i off=>exact plain (baseTy X te s (.eptr l path i off)) (.eptr l path i off)
 | fptr x s' g off=>exact plain (baseTy X te s (.fptr x s' g off)) (.fptr x s' g off)
 | bptr c off=>exact plain (baseTy X te s (.bptr c off)) (.bptr c off)
 | gptr l path i off=>exact plain (baseTy X te s (.gptr l path i off)) (.gptr l path i off)
 | nilq c neg=>exact plain (baseTy X te s (.nilq c neg)) (.nilq c neg)
 | dead=>exact plain (baseTy X te s .dead) .dead
theorem aId {d : DV} {e : Env} {s : St} {k : Env→St→Option R} {k' : Nat→Env→St→Option R} (h : ∀ e s,aN (k e s) (λn=>k' n e s)) : aN (frz1 d e s k) (λn=>frz1 d e s (k' n)):=by
 unfold frz1
 split
 ·split
  ·exact h _ _
  ·exact h _ _
 ·exact h _ _
theorem xX : ∀ {fs : List (Nat × Option Nat)} {e : Env} {s : St} {k : Env→St→Option R} {k' : Nat→Env→St→Option R},(∀ e s,aN (k e s) (λn=>k' n e s))→aN (frzK fs e s k) (λn=>frzK fs e s (k' n))
 | [],_,_,_,_,h=>h _ _
 | (t,none)::r,e,s,k,k',h=>aId λe s=>xX h
 | (t,some j)::r,e,s,k,k',h=>by
   unfold frzK
   generalize e.get t=d0
   cases d0<;>(try simp only)<;>first
    | exact xX h
    | skip
   rename_i b off
   cases s.box b with
   | none=>exact xX h
   | some cs=>exact aId λe s=>xX h
theorem aE9 {te : Nat} {src : DV} {s : St} {l : Nat} {w : Own} {lo hi : PV} {k : DV→St→Option R} {k' : Nat→DV→St→Option R} (h : ∀ v s,aN (k v s) (λn=>k' n v s)) : aN (copyK.go X te src s k l w lo hi) (λn=>copyK.go X te src s (k' n) l w lo hi):=by
 unfold copyK.go
 exact aN.ite (aBx λy=>aN.bd λn=>aN.bd λc=>h _ _) aN.none
theorem aLB {te : Nat} {dst src : DV} {s : St} {k : DV→St→Option R} {k' : Nat→DV→St→Option R} (h : ∀ v s,aN (k v s) (λn=>k' n v s)) : aN (copyK X te dst src s k) (λn=>copyK X te dst src s (k' n)):=by
 unfold copyK
 cases dst<;>(try simp only)<;>first
  | exact aN.none
  | skip
 ·rename_i l path
  cases path with
  | cons=>exact aN.none
  | nil=>
    dsimp only
    cases s.list l with
    | none=>exact aN.none
    | some w=>exact aN.bd λn=>aE9 h
 ·rename_i l path lo hi
  cases path with
  | cons=>exact aN.none
  | nil=>
    dsimp only
    cases s.list l with
    | none=>exact aN.none
    | some w=>exact aE9 h
end
structure EvO (O : Orc) (O' : Nat→Orc) : Prop where
 L : ∀ todo e s,aN (O.L todo e s) (λn=>(O' n).L todo e s)
 C : ∀ g args,aN (O.C g args) (λn=>(O' n).C g args)
 S : ∀ g args s,aN (O.S g args s) (λn=>(O' n).S g args s)
section
variable {X : Cx} {O : Orc} {O' : Nat → Orc}
theorem zV {l : R} : ∀ {cs : List DV} {a : Option R} {a' : Nat→Option R},aN a a'→aN (guardCells l cs a) (λn=>guardCells l cs (a' n))
 | [],_,_,h=>h
 | d::cs,a,a',h=>by
   have ih:=zV (l:=l) (cs:=cs) h
   cases d with
   | ref=>simp only [guardCells];exact ih
   | p v=>
     cases v with
     | int=>simp only [guardCells];exact aN.flat ih
     | _=>simp only [guardCells];exact aN.none
   | _=>simp only [guardCells];exact aN.none
theorem aAL {l : R} : ∀ {cs : List DV} {a : Option R} {a' : Nat→Option R},aN a a'→aN (guardAggs l cs a) (λn=>guardAggs l cs (a' n))
 | [],_,_,h=>h
 | d::cs,a,a',h=>by
   have ih:=aAL (l:=l) (cs:=cs) h
   cases d<;>(try simp only [guardAggs])<;>exact zV ih
theorem aHy {l : R} {d : DV} {a : Option R} {a' : Nat→Option R} (h : aN a a') : aN (guardRes l d a) (λn=>guardRes l d (a' n)):=by
 cases d<;>(try simp only [guardRes])<;>exact aAL h
theorem aAM {l : R} : ∀ {cs : List (Option Own)} {a : Option R} {a' : Nat→Option R},aN a a'→aN (guardRows l cs a) (λn=>guardRows l cs (a' n))
 | [],_,_,h=>h
 | none::_,_,_,_=>by simp only [guardRows];exact aN.none
 | some w::cs,a,a',h=>by
   simp only [guardRows]
   cases w.c<;>(try simp only)<;>first
    | exact aN.none
    | exact aN.own (aAM h)
theorem aLC (hO : EvO O O') {f : Nat} {args : List DV} {s : St} {k : DV→St→Option R} {k' : Nat→DV→St→Option R} (h : ∀ v s,aN (k v s) (λn=>k' n v s)) : aN (pureK O f args s k) (λn=>pureK (O' n) f args s (k' n)):=by
 unfold pureK
 exact aN.ite (uE λvs=>aN.bd2 (hO.C _ _) λr=>aN.flat (h _ _)) (uE λvs=>aN.bd2 (hO.C _ _) λr=>h _ _)
theorem aLD (hO : EvO O O') {t : Tmpl} {f : Nat} {args : List DV} {s : St} {k : DV→St→Option R} {k' : Nat→DV→St→Option R} (h : ∀ v s,aN (k v s) (λn=>k' n v s)) : aN (lentK O t f args s k) (λn=>lentK (O' n) t f args s (k' n)):=by
 unfold lentK
 exact uE λvs=>aN.bd2 (hO.S _ _ _) λl=>aHy (aAM (h _ _))
theorem aGy (hO : EvO O O') {ft : Foot} {n0 : Nat} {t : Tmpl} {f : Nat} {args : List DV} {s : St} {k : DV→St→List Nat→Option R} {k' : Nat→DV→St→List Nat→Option R} (h : ∀ v s l,aN (k v s l) (λn=>k' n v s l)) : aN (liveK O ft n0 t f args s k) (λn=>liveK (O' n) ft n0 t f args s (k' n)):=by
 unfold liveK
 exact aN.ite (aN.bd2 (hO.S _ _ _) λl=>h _ _ _) aN.none
theorem aHz {l : Nat} {path : eD} {x : Nat} {s : St} {k : St→Option R} {k' : Nat→St→Option R} (h : ∀ s,aN (k s) (λn=>k' n s)) : aN (backRowK l path x s k) (λn=>backRowK l path x s (k' n)):=by
 unfold backRowK
 cases s.list l with
 | none=>exact aN.none
 | some w=>
   refine aN.ite (rY λy s1=>?_) aN.none
   cases s1.list l with
   | none=>exact aN.none
   | some w1=>exact rF λ_=>h _
theorem aLE (hO : EvO O O') {f : Nat} {args : List DV} {ts : List Nat} {e : Env} {s : St} {k : DV→Env→St→Option R} {k' : Nat→DV→Env→St→Option R} (h : ∀ v e s,aN (k v e s) (λn=>k' n v e s)) : aN (callK X O f args ts e s k) (λn=>callK X (O' n) f args ts e s (k' n)):=by
 unfold callK
 cases X.mode f with
 | none=>exact aLC hO λ_ _=>h _ _ _
 | some t=>
   refine aN.ite (aLD hO λ_ _=>h _ _ _) ?_
   cases nestedArg t args with
   | none=>
     simp only [aCq]
     exact mB λargs s=>aGy hO λ_ _ _=>h _ _ _
   | some q=>
     obtain ⟨l,path,rest⟩:=q
     exact aAK λx s1=>aGy hO λ_ _ _=>aN.ite aN.none (aHz λ_=>h _ _ _)
theorem aGz (hO : EvO O O') {v : PV} {vs : List PV} : aN (PV.apply O.C v vs) (λn=>PV.apply (O' n).C v vs):=by
 unfold PV.apply
 cases v<;>(try simp only)<;>first
  | exact aN.none
  | exact hO.C _ _
theorem aKh (hO : EvO O O') {d : DV} {args : List DV} {ts : List Nat} {e : Env} {s : St} {k : DV→Env→St→Option R} {k' : Nat→DV→Env→St→Option R} (h : ∀ v e s,aN (k v e s) (λn=>k' n v e s)) : aN (applyK X O d args ts e s k) (λn=>applyK X (O' n) d args ts e s (k' n)):=by
 cases d<;>(try simp only [applyK])<;>first
  | exact aN.none
  | exact aLE hO h
  | exact aN.ite (uE λvs=>aN.bd2 (aGz hO) λr=>aN.flat (h _ _ _)) (uE λvs=>aN.bd2 (aGz hO) λr=>h _ _ _)
theorem aHA {b : Builtin} {ts : List Nat} {args : List DV} {e : Env} {s : St} {k : DV→Env→St→Option R} {k' : Nat→DV→Env→St→Option R} (h : ∀ v e s,aN (k v e s) (λn=>k' n v e s)) : aN (builtinK X b ts args e s k) (λn=>builtinK X b ts args e s (k' n)):=by
 unfold builtinK
 split
 ·exact aNd λn=>h _ _ _
 ·rename_i t u a d
  cases elemOf X t with
  | none=>exact aN.none
  | some te=>exact aN.ite (aI7 h) aN.none
 ·rename_i t u a d
  cases elemOf X t with
  | none=>exact aN.none
  | some te=>exact aLB λd s=>h _ _ _
 ·exact aN.bd λc=>h _ _ _
 ·exact aN.bd λc=>h _ _ _
 ·exact aN.none
theorem aEi (hO : EvO O O') {o : Oper} {e : Env} {s : St} {k : Kont} {k' : Nat→Kont} (h : ∀ e s,aN (k e s) (λn=>k' n e s)) : aN (exec X O o e s k) (λn=>exec X (O' n) o e s (k' n)):=by
 obtain ⟨dst,op,type,pos,after,guard⟩:=o
 cases op<;>simp only [exec]<;>try exact aN.none
 case move=>exact yU λ_ _=>h _ _
 case assign=>exact yU λ_ _=>h _ _
 case pick=>exact aLy λ_ _=>h _ _
 case alloc=>exact aKc λ_ _=>h _ _
 case box=>exact aNc λ_ _=>h _ _
 case build=>exact aI4 λ_=>h _ _
 case buildSlice=>exact aEh λ_ _=>h _ _
 case makeSlice=>exact aFh λ_ _=>h _ _
 case load=>exact aGw λ_=>aLx λ_=>h _ _
 case store=>exact aGw λ_=>aI6 λ_ _=>h _ _
 case nilCheck=>exact aGw λ_=>aGv λ_=>h _ _
 case binOp=>exact aNf λ_=>h _ _
 case unOp=>exact aLz λ_=>h _ _
 case convert=>exact aLA λ_=>h _ _
 case makeFunc fn first caps=>
  cases fn<;>(try simp only)<;>first
   | exact aN.none
   | exact aN.ite (h _ _) aN.none
 case slice t x lo hi mx=>
  cases mx with
  | none=>exact aKf λ_=>h _ _
  | some _=>exact aI5 λ_ _=>h _ _
 case fieldAddr=>exact aFi λ_=>h _ _
 case field=>exact aKe λ_=>h _ _
 case indexAddr=>exact aFj λ_=>h _ _
 case index=>exact aKd λ_=>h _ _
 case extract=>exact aHx λ_=>h _ _
 case call c=>
  cases c.callee with
  | value f=>exact aKh hO λ_ _ _=>h _ _
  | builtin b=>exact aHA λ_ _ _=>h _ _
  | invoke _ _=>exact aN.none
theorem jU (hO : EvO O O') {ops : Array Oper} {draw : Bool} : ∀ {r : List Oper} {i : Nat} {acc : List (Nat × Foot)} {e : Env} {s : St} {k : Kont} {k' : Nat→Kont},(∀ e s,aN (k e s) (λn=>k' n e s))→aN (execOps X O ops draw i acc r e s k) (λn=>execOps X (O' n) ops draw i acc r e s (k' n))
 | [],i,acc,e,s,k,k',h=>by
  unfold execOps
  exact aN.ite aN.none (h _ _)
 | o::r,i,acc,e,s,k,k',h=>by
   unfold execOps
   simp only [stf,stp]
   cases o.guard with
   | none=>exact aEi hO λe s'=>aN.ite (jU hO h) aN.none
   | some p=>
     obtain ⟨j,want⟩:=p
     simp only
     cases guardDst ops.toList j with
     | none=>exact aN.none
     | some t=>
       simp only
       generalize e.get t=d0
       have hskip:=jU (ops:=ops) (draw:=draw) (r:=r) (i:=i+1) (acc:=if draw then (i,Foot.none)::acc else []) (e:=put o.dst (.tup []) e) (s:={ s with nb:=s.base+16*i,nl:=s.base+16*i}) hO h
       cases d0<;>(try simp only)<;>first
        | exact aN.none
        | (rename_i cs;cases cs with
           | nil=>exact hskip
           | cons=>exact aN.none)
        | exact aN.pvite (aN.ite (aEi hO λe s'=>aN.ite (jU hO h) aN.none) (jU hO h)) (aN.ite (jU hO h) (aEi hO λe s'=>aN.ite (jU hO h) aN.none))
theorem aBy (hO : EvO O O') : ∀ (m : Nat) (first : Bool) (todo : List Item) (e : Env) (s : St),aN (eval X O m first todo e s) (λn=>eval X (O' n) m first todo e s)
 | 0,_,_,_,_=>by simp only [eval];exact aN.none
 | m+1,first,todo,e,s=>by
   have ih:=aBy hO m
   cases todo with
   | nil=>simp only [eval];exact aN.rfl _
   | cons x k=>
   cases x with
   | inBlock id=>simp only [eval];exact ih _ _ _ _
   | inScope c=>simp only [eval];exact ih _ _ _ _
   | inLoop c=>simp only [eval];exact ih _ _ _ _
   | code c=>
     cases c<;>simp only [eval]<;>first
      | exact aN.none
      | exact aN.rfl _
      | exact ih _ _ _ _
      | skip
     case exit id=>
      cases exitTo id k with
      | none=>exact aN.none
      | some k'=>exact ih _ _ _ _
     case goto l=>
      cases gotoIn l k with
      | none=>exact aN.none
      | some k'=>exact ih _ _ _ _
     case cond c a b=>
      generalize ev X e c=d0
      cases d0<;>(try simp only)<;>first
       | exact aN.none
       | exact aN.nilT (ih _ _ _ _) (ih _ _ _ _)
       | skip
      cases c<;>(try simp only)<;>exact aN.pvite (ih _ _ _ _) (ih _ _ _ _)
     case region id ops draw=>
      refine xX λe s=>?_
      cases first with
      | true=>exact jU hO λe s=>ih _ _ _ _
      | false=>
        cases X.cut id with
        | none=>exact jU hO λe s=>ih _ _ _ _
        | some keep=>exact hO.L _ _ _
   | _=>simp only [eval];exact aN.none
end
section
variable (P : Program) (T : Tab) (H : Hints)
def vG (f nb nl : Nat) (out : Option Tmpl) (todo : List Item) (e : Env) (s : St) : Option R:=
 open Classical in if h : ∃ r,∃ n,runN P T H n f nb nl out todo e s=some r then some h.choose else none
end
section
variable {P : Program} {T : Tab} {H : Hints}
theorem aN.le {β : Type} {a b : Option β} (h : ∀ r,a=some r→b=some r) : aN a (λ_=>b):=λr hr=>⟨0,λ_ _=>h r hr⟩
theorem aN.of {β : Type} {a b : Option β} (h : aN a (λ_=>b)) : ∀ r,a=some r→b=some r:=λr hr=>let ⟨N,hN⟩:=h r hr;hN N (Nat.le_refl _)
theorem aGA {run : Nat→Nat→Nat→Option Tmpl→List Item→Env→St→Option R} {run' : Nat→Nat→Nat→Nat→Option Tmpl→List Item→Env→St→Option R}
 (h : ∀ f nb nl out todo e s,aN (run f nb nl out todo e s) (λn=>run' n f nb nl out todo e s)) (f nb nl : Nat) (out : Option Tmpl) : EvO (orcOf P H run f nb nl out) (λn=>orcOf P H (run' n) f nb nl out) where
 L:=λtodo e s=>h _ _ _ _ _ _ _
 C:=λg args=>by
  simp only [orcOf]
  cases H.prim g with
  | none=>exact h _ _ _ _ _ _ _
  | some p=>exact aN.rfl _
 S:=λg args s=>by
  simp only [orcOf]
  cases H.mode g with
  | none=>exact aN.none
  | some t=>cases H.primS g with
    | none=>exact h _ _ _ _ _ _ _
    | some p=>exact aN.rfl _
theorem aIe : ∀ (n f nb nl : Nat) (out : Option Tmpl) (todo : List Item) (e : Env) (s : St) (r : R),runN P T H n f nb nl out todo e s=some r→runN P T H (n+1) f nb nl out todo e s=some r
 | 0,_,_,_,_,_,_,_,_,h=>by simp [runN] at h
 | n+1,f,nb,nl,out,todo,e,s,r,h=>by
   have ih:=aIe n
   unfold runN at h ⊢
   exact (aBy (aGA (run':=λ_=>runN P T H (n+1)) (λf nb nl out todo e s=>aN.le (ih f nb nl out todo e s)) f nb nl out) evalFuel true todo e s).of r h
theorem aI8 {n n' f nb nl : Nat} {out : Option Tmpl} {todo : List Item} {e : Env} {s : St} {r : R} (h : runN P T H n f nb nl out todo e s=some r) (hn : n≤n') : runN P T H n' f nb nl out todo e s=some r:=by
 induction hn with
 | refl=>exact h
 | step _ ih=>exact aIe _ _ _ _ _ _ _ _ _ ih
theorem aMl {n f nb nl : Nat} {out : Option Tmpl} {todo : List Item} {e : Env} {s : St} {r : R} (h : runN P T H n f nb nl out todo e s=some r) : vG P T H f nb nl out todo e s=some r:=by
 unfold vG
 have hex : ∃ r,∃ n,runN P T H n f nb nl out todo e s=some r:=⟨r,n,h⟩
 rw [dif_pos hex]
 obtain ⟨n',h'⟩:=hex.choose_spec
 have h1:=aI8 h (Nat.le_max_left n n')
 have h2:=aI8 h' (Nat.le_max_right n n')
 rw [h1] at h2
 exact h2.symm
theorem aBz {f nb nl : Nat} {out : Option Tmpl} {todo : List Item} {e : Env} {s : St} {r : R} (h : vG P T H f nb nl out todo e s=some r) : ∃ n,runN P T H n f nb nl out todo e s=some r:=by
 unfold vG at h
 split at h
 ·rename_i hex
  cases h
  exact hex.choose_spec
 ·cases h
theorem aNg (f nb nl : Nat) (out : Option Tmpl) (todo : List Item) (e : Env) (s : St) : aN (vG P T H f nb nl out todo e s) (λn=>runN P T H n f nb nl out todo e s):=by
 intro r hr
 obtain ⟨n,hn⟩:=aBz hr
 exact ⟨n,λn' h'=>aI8 hn h'⟩
theorem aMm (f nb nl : Nat) (out : Option Tmpl) (todo : List Item) (e : Env) (s : St) :
 vG P T H f nb nl out todo e s=eval (cxOf P T H f nb nl out) (orcOf P H (vG P T H) f nb nl out) evalFuel true todo e s:=by
 cases h : eval (cxOf P T H f nb nl out) (orcOf P H (vG P T H) f nb nl out) evalFuel true todo e s with
 | some r=>
   obtain ⟨N,hN⟩:=aBy (aGA (run':=λn=>runN P T H n) aNg f nb nl out) evalFuel true todo e s r h
   refine aMl (n:=N+1) ?_
   unfold runN
   exact hN N (Nat.le_refl _)
 | none=>
   cases h' : vG P T H f nb nl out todo e s with
   | none=>rfl
   | some r=>
     exfalso
     obtain ⟨n,hn⟩:=aBz h'
     cases n with
     | zero=>simp [runN] at hn
     | succ n=>
       unfold runN at hn
       have:=(aBy (aGA (run':=λ_=>vG P T H) (λf nb nl out todo e s=>aN.le (λr h=>aMl h)) f nb nl out) evalFuel true todo e s).of r hn
       rw [h] at this
       cases this
def aN5 (P : Program) (T : Tab) (H : Hints) (f : Nat) (args : List PV) : Option R:=(orcOf P H (vG P T H) 0 0 0 none).C f args
def aPO (P : Program) (T : Tab) (H : Hints) (f : Nat) (args : List DV) (s : St) : Option R:=(orcOf P H (vG P T H) 0 0 0 none).S f args s
theorem aO5 (hy : Hyp P T H) : aMk P (vG P T H):=by
 intro f nb nl out todo e s r fn h hfn hok
 obtain ⟨n,hn⟩:=aBz h
 exact aIb hy n f nb nl out todo e s r fn hn hfn hok
theorem aO6 : aN3 P (vG P T H):=by
 intro f nb nl out e s r h
 obtain ⟨n,hn⟩:=aBz h
 exact aCr hn
theorem aKi (hy : Hyp P T H) {f : Nat} {args : List PV} {r : R} (h : aN5 P T H f args=some r) {w : World} {aS : Array Value} {Z : Nat→Prop} (hz : ZOk w Z) (hl : args.length=aS.size)
 (hr : ∀ (i : Nat) x v,args[i]? = some x→aS[i]? = some v→iV w Z x v) : Calls P f aS w (λe w'=>∃ v,e = .returned v∧∃ Z',aFE w w' Z Z'∧iV w' Z' (hd r) v):=
 (aJ9 hy (aO5 hy) aO6 0 0 0 none f args r h).2 w Z aS hz hl hr
theorem aMn (f nb nl : Nat) (out : Option Tmpl) (todo : List Item) (e : Env) (s : St) (r : Option R) (h : eval (cxOf P T H f nb nl out) (orcOf P H (vG P T H) f nb nl out) evalFuel true todo e s=r) : vG P T H f nb nl out todo e s=r:=
 (aMm f nb nl out todo e s).trans h
theorem aN6 (f : Nat) (hp : H.prim f=none) (args : List PV) (r : Option R) (h : eval (cxOf P T H f 0 0 none) (orcOf P H (vG P T H) f 0 0 none) evalFuel true (startOf P f) (argEnv 0 (args.map .p)) ⟨[],[],0,0,0⟩=r) : aN5 P T H f args=r:=by
 show (match H.prim f with | some h=>h args | none=>vG P T H f 0 0 none (startOf P f) (argEnv 0 (args.map .p)) ⟨[],[],0,0,0⟩)=r
 rw [hp]
 exact aMn _ _ _ _ _ _ _ _ h
theorem aN7 (f : Nat) (hp : H.primS f=none) (args : List DV) (s : St) (r : Option R) (h : (match H.mode f with | some t=>eval (cxOf P T H f s.boxes.length (if t.keep then s.lists.length else 0) (some (t.fit s))) (orcOf P H (vG P T H) f s.boxes.length (if t.keep then s.lists.length else 0) (some (t.fit s))) evalFuel true (startOf P f) (argEnv 0 args) s | none=>none)=r) : aPO P T H f args s=r:=by
 show (match H.mode f with | some t=>(match H.primS f with | some h=>h args s | none=>vG P T H f s.boxes.length (if t.keep then s.lists.length else 0) (some (t.fit s)) (startOf P f) (argEnv 0 args) s) | none=>none)=r
 rw [← h,hp]
 cases H.mode f with
 | none=>rfl
 | some t=>exact aMm _ _ _ _ _ _ _
end
def aP6 (f nb nl : Nat) (out : Option Tmpl) (todo : List Item) (e : Env) (s : St) : Option R:=vG Tryz.prog T mU f nb nl out todo e s
def aZ (f : Nat) (args : List PV) : Option R:=aN5 Tryz.prog T mU f args
def bZ (f : Nat) (args : List DV) (s : St) : Option R:=aPO Tryz.prog T mU f args s
def orc (f nb nl : Nat) (out : Option Tmpl) : Orc:=orcOf Tryz.prog mU (vG Tryz.prog T mU) f nb nl out
theorem aW (f nb nl : Nat) (out : Option Tmpl) (todo : List Item) (e : Env) (s : St) (r : Option R) (h : eval (cxOf Tryz.prog T mU f nb nl out) (orc f nb nl out) evalFuel true todo e s=r) : aP6 f nb nl out todo e s=r:=aMn f nb nl out todo e s r h
theorem aY (f : Nat) (args : List PV) (r : Option R) (h : (match mU.prim f with | some p=>p args | none=>eval (cxOf Tryz.prog T mU f 0 0 none) (orc f 0 0 none) evalFuel true (startOf Tryz.prog f) (argEnv 0 (args.map .p)) ⟨[],[],0,0,0⟩)=r) : aZ f args=r:=by
 cases hp : mU.prim f with
 | none=>rw [hp] at h;exact aN6 f hp args r h
 | some p=>rw [hp] at h;rw [← h];show (match mU.prim f with | some h=>h args | none=>_)=_;rw [hp]
theorem bN (f : Nat) (args : List DV) (s : St) (r : Option R) (h : (match mU.mode f with | some t=>(match mU.primS f with | some p=>p args s | none=>eval (cxOf Tryz.prog T mU f s.boxes.length (if t.keep then s.lists.length else 0) (some (t.fit s))) (orc f s.boxes.length (if t.keep then s.lists.length else 0) (some (t.fit s))) evalFuel true (startOf Tryz.prog f) (argEnv 0 args) s) | none=>none)=r) : bZ f args s=r:=by
 cases hp : mU.primS f with
 | none=>simp only [hp] at h;exact aN7 f hp args s r h
 | some p=>
   simp only [hp] at h
   rw [← h]
   show (match mU.mode f with | some t=>(match mU.primS f with | some h=>h args s | none=>_) | none=>none)=_
   rw [hp]
set_option maxRecDepth 100000 in
theorem aMo : (Tryz.prog.funcs.toList.all λf=>match f.body with | some c=>codeOk f.ntmps c&&(f.name != "runtime.NumGoroutine") | none=>true)=true:=by kernel_rfl
theorem aO7 : Tryz.prog.follows .mixedOrders=true:=by kernel_rfl
theorem aQv : (aMc.all λp=>p.2.wf)=true:=by kernel_rfl
theorem aN8 {m m' : bA} {s s' : St} {l : Nat} {scr : DV→DV} {w : Own} {v : Value} {t : Tmpl} (hf : iC m s s.base)
 (G : bT m m' (s.at s.base) s' (λ_=>True) (λ_=>True) (λb=>b∈([] : List Nat)∨true=true) (λl=>l∈([] : List Nat)∨true=true) s.base scr) (hl : s'.list l=some w) (hv : m'.rd (.ref l []) v)
 (ht : t.res = .ref 0 []∧t.boxes = []∧t.lists = [some ⟨w.o,.int .i64 0⟩]) : uC m 0 0 (some t) [w.c] v m'.w:=by
 have hf':=(bT.full (f:=⟨[],[],[],[],true,true⟩) hf G).1
 have hb : ∀ b∈([] : List Nat),m'.s.box b=s'.box b:=λb _=>hf'.box b
 have hl' : ∀ x∈[l],m'.s.list x=s'.list x:=λx _=>hf'.list x
 have pf:=aBv (a:=⟨[],[l]⟩) hf'.inv hb hl' List.nodup_nil (by simp)
 have fw:=aGh (a:=⟨[],[l]⟩) hf' 0 0 (λb h=>by omega) (λb h=>by omega)
 refine ⟨m'.pick [] [l] (s'.pick ⟨[],[l]⟩),rfl,pf.inv,(G.step.fwd hf.inv 0 0).trans fw,?_⟩
 refine ⟨.ref 0 [],s',⟨[],[l]⟩,?_,?_,pf,λx hx=>hx.1,λx hx=>hx.1⟩
 ·unfold Tmpl.read
  rw [ht.1,ht.2.1,ht.2.2]
  have e1 : (s'.pick ⟨[],[l]⟩).boxes = []:=rfl
  have e2 : (s'.pick ⟨[],[l]⟩).lists = [(0,some w)]:=by
   show [(0,s'.list l)]=_
   rw [hl]
  rw [e1,e2]
  simp [readD,readB,readO,OTy.same_refl]
 ·have:=aGg (a:=⟨[],[l]⟩) hl' deep hv
  have e : ren (idx · [] 0) (idx · [l] 0) deep (.ref l []) = .ref 0 []:=by
   simp [deep,ren,ren1,idx]
  rw [e] at this
  exact this
theorem aKj {P : Program} {ρ : Go.Shelf.Ren} (L : Lays8.n4 P ρ) {i0 : TypeInfo} {z : Value} (hi0 : P.info? (ρ.t 25)=some i0) (hz0 : i0.zero=some z) (hzs : z.cells.size=i0.size) (hs0 : 0<i0.size) {e : Nat} (hby : i0.bytes=e)
 {args : List DV} {s : St} {r : R} (h : tX e args s=some r) {m : bA} {aS : Array Value} (hf : iC m s s.base) (hl : args.length=aS.size) (hr : ∀ (i : Nat) d v,args[i]? = some d→aS[i]? = some v→m.rd d v)
 {t : Tmpl} {eb : Nat} {g : Bool} (ht : t.res = .ref 0 []∧t.boxes = []∧t.lists = [some ⟨.own i0.size eb g [],.int .i64 0⟩]) :
 Calls P (ρ.f 4) aS m.w (λe w'=>∃ v,e = .returned v∧uC m 0 0 (some t) r v w'):=by
 unfold tX at h
 split at h
 rotate_left
 ·cases h
 rename_i n _
 split at h
 rotate_left
 ·cases h
 rename_i hc
 obtain ⟨hn,hbound,hlen⟩:=hc
 cases h
 obtain ⟨v0,v1,rfl⟩ : ∃ v0 v1,aS = #[v0,v1]:=by
  match aS,hl with
  | ⟨[a,b]⟩,_=>exact ⟨a,b,rfl⟩
  | ⟨[]⟩,h=>simp at h
  | ⟨[_]⟩,h=>simp at h
  | ⟨_::_::_::_⟩,h=>simp at h
 have h0:=hr 0 _ _ rfl rfl
 have h1:=hr 1 _ _ rfl rfl
 obtain rfl : v1 = .int .i64 n:=by
  cases h1 with
  | p _ _ h1=>cases h1;rfl
 obtain rfl : v0 = .slice none 0 0:=by cases h0;rfl
 obtain ⟨k,rfl⟩:=Int.eq_ofNat_of_zero_le hn
 simp only [Int.toNat_natCast] at hbound
 have sit:=hf.sit (Nat.le_refl s.base)
 have hlf : (OTy.own i0.size eb g []).isLeaf=false:=rfl
 have hmw : m.w.heap.size=m.w.heap.size:=rfl
 have fin : ∀ {w' : World} {v : Value} {F' : Nat→Prop},cP w' m.Z (.own i0.size eb g []) (.lst []) v F'→dN v→(∀ r,F' r→m.w.heap.size≤r)→(∀ r,r<m.w.heap.size→w'.heap[r]? = m.w.heap[r]?)→
  m.w.heap.size≤w'.heap.size→w'.os=m.w.os→w'.tape=m.w.tape→w'.output=m.w.output→uC m 0 0 (some t) [.lst []] v w':=by
  intro w' v F' hro' hcv hF' hw hsize hos htape hout
  have G2:=bT.addRow (B:=λ_=>True) (L:=λ_=>True) (λb=>b∈([] : List Nat)∨true=true) (λl=>l∈([] : List Nat)∨true=true) sit (show s.base<s.base+16 by omega) (own:=⟨.own i0.size eb g [],.lst []⟩) hlf hro' (λr hr=>.inr (hF' r hr)) (λr hr _=>hw r hr) hsize hos htape hout
  exact aN8 (l:=s.base) hf G2 (w:=⟨.own i0.size eb g [],.lst []⟩) (by simp [St.list,St.addList,St.at,look]) (bA.addRow_rd hcv) ht
 by_cases hroom : 0+k≤0
 ·refine (Any8.slices_Grow_room L none 0 0 k m.w (Nat.le_refl _) (by omega) (by omega) hroom).mono ?_
  rintro e w' ⟨rfl,rfl⟩
  exact ⟨_,rfl,fin (F':=λ_=>False) (.nil _ _ _ _ _ _ (λ_ h=>h)) trivial (λ_ h=>h.elim) (λ_ _=>rfl) (Nat.le_refl _) rfl rfl rfl⟩
 ·refine (Any8.slices_Grow_grow L i0 z hi0 hz0 hs0 none 0 0 k [] m.w (Nat.le_refl _) (by omega) (by rw [hby,Nat.zero_add];exact hbound) (by omega) (by simp) (λ_=>rfl) (λa h=>by cases h)).mono ?_
  rintro e w' ⟨rfl,rfl⟩
  refine ⟨_,rfl,?_⟩
  generalize hcp : grownCap m.w (0+k) 0 (ρ.t 25)=cp
  have hge : 0+k≤cp:=by rw [← hcp];exact grownCap_ge _ _ _ _
  generalize hcells : (([] : List Value).toArray++Builtin.zeroCells z.cells (0+k - 0)++Builtin.zeroCells z.cells (cp - (0+k)) : Array Value)=cells
  have hcsz : cp*i0.size≤cells.size:=by
   rw [← hcells]
   simp only [Array.size_append,List.size_toArray,List.length_nil,zS,hzs,← Nat.add_mul]
   rw [Nat.zero_add,← Nat.add_mul]
   exact Nat.mul_le_mul_right _ (by omega)
  have hnew : (m.w.drew.alloc (.cells cells (ρ.t 25))).heap[m.w.heap.size]? = some (.cells cells (ρ.t 25) (0,0)):=heap_alloc_new m.w.drew _
  have hro':=(Els.nil (w:=m.w.drew.alloc (.cells cells (ρ.t 25))) (Z:=m.Z) (.own i0.size eb g []) (λ_ _=>.nilFunc) (λ_ _ _=>False)).repO hlf hs0 (b:=m.w.heap.size) (off:=0) (cap:=cp) hnew (by rw [Nat.zero_add];exact hcsz) (by simp) (λhzr=>by have:=hf.inv.zlt _ hzr;omega)
   (λi j hi=>by simp at hi) (λi j hi=>by simp at hi)
  refine fin hro' trivial (λr hr=>?_) (λr hr=>heap_alloc_old m.w.drew _ hr) (by simp) rfl rfl rfl
  rcases hr with rfl | ⟨i,j,hi,_⟩
  ·exact Nat.le_refl _
  ·simp at hi
end
noncomputable section
open Go Go.Shelf
def Tryz.lays8n4_ren : Go.Shelf.Ren:=⟨λ| 4=>188 | n=>n,λ| 22=>79 | 25=>49 | 3=>3 | 4=>4 | 9=>9 | 20=>20 | 0=>0 | n=>n,λ| n=>n⟩
theorem Tryz.lays8n4 : Go.Proofs.Lays8.n4 Tryz.prog Tryz.lays8n4_ren:={
 mixed:=by kernel_rfl
 f4:=⟨Tryz.f188.name,by decide,Tryz.func188.trans (congrArg some (by kernel_rfl))⟩
 t0:=Tryz.underlying0
 a0:=Tryz.isAgg0
 z0:=Tryz.sizeOf0
 v0:=Tryz.zeroValue0
 t3:=Tryz.underlying3
 a3:=Tryz.isAgg3
 z3:=Tryz.sizeOf3
 v3:=Tryz.zeroValue3
 t4:=Tryz.underlying4
 a4:=Tryz.isAgg4
 z4:=Tryz.sizeOf4
 v4:=Tryz.zeroValue4
 t9:=Tryz.underlying9
 a9:=Tryz.isAgg9
 z9:=Tryz.sizeOf9
 v9:=Tryz.zeroValue9
 t20:=Tryz.underlying20
 a20:=Tryz.isAgg20
 z20:=Tryz.sizeOf20
 v20:=Tryz.zeroValue20
 t22:=Tryz.underlying79
 a22:=Tryz.isAgg79
 z22:=Tryz.sizeOf79
 v22:=Tryz.zeroValue79}
end
noncomputable section
open Go
theorem aN9 {α : Type} {n : Nat} : ∀ {l : List (Nat × α)} {a : α},lk n l=some a→∃ p∈l,p.2=a
 | [],a,h=>by simp [lk] at h
 | (m,b)::r,a,h=>by
   unfold lk at h
   split at h
   ·cases h;exact ⟨_,List.mem_cons_self,rfl⟩
   ·obtain ⟨p,h1,h2⟩:=aN9 h
    exact ⟨p,List.mem_cons_of_mem _ h1,h2⟩
theorem aOa {α : Type} {n : Nat} : ∀ {l : List (Nat × α)} {a : α},lk n l=some a→(n,a)∈l
 | [],a,h=>by simp [lk] at h
 | (m,b)::r,a,h=>by
   unfold lk at h
   split at h
   ·rename_i hb
    cases h
    rw [bS hb]
    exact List.mem_cons_self
   ·exact List.mem_cons_of_mem _ (aOa h)
theorem aKk {g : Nat} (h : ((Tryz.prog.funcs[g]?).bind (·.body)).isSome=true) : lW Tryz.prog g:=by
 cases hf : Tryz.prog.funcs[g]? with
 | none=>rw [hf] at h;cases h
 | some fn=>
   rw [hf] at h
   cases hb : fn.body with
   | none=>simp [hb] at h
   | some c=>
     have hc:=aMo
     rw [List.all_eq_true] at hc
     have:=hc fn (by rw [← Array.getElem?_toList] at hf;exact List.mem_of_getElem? hf)
     rw [hb] at this
     simp only [Bool.and_eq_true,bne_iff_ne,ne_eq] at this
     exact ⟨fn,c,hf,hb,this.2⟩
theorem aP7 : aEe Tryz.prog λg args=>(mU.prim g).bind λp=>p args:=by
 intro g args r h
 cases h
set_option maxRecDepth 100000 in
theorem aQw : (Tryz.prog.info? (Tryz.lays8n4_ren.t 25)).map (λi=>(i.size,i.bytes,i.zero.map (·.cells.size)))=some (3,32,some 3):=by kernel_rfl
set_option maxRecDepth 100000 in
theorem aO8 : ∀ g h,mU.primS g=some h→∀ t args s l,mU.mode g=some t→h args s=some l→lW Tryz.prog g∧∀ (m : bA) (aS : Array Value),iC m s s.base→args.length=aS.size→
 (∀ (i : Nat) d v,args[i]? = some d→aS[i]? = some v→m.rd d v)→Calls Tryz.prog g aS m.w (λe w'=>∃ v,e = .returned v∧uC m s.boxes.length (if t.keep then s.lists.length else 0) (some (t.fit s)) l v w'):=by
 intro g h hp t args s l ht h
 have hm:=aOa (show lk g aFR=some _ from hp)
 simp only [aFR,List.mem_cons,List.not_mem_nil,or_false,Prod.mk.injEq] at hm
 obtain ⟨rfl,rfl⟩:=hm
 refine ⟨aKk (by kernel_rfl),λm aS hf hl hr=>?_⟩
 have htt : mU.mode 188=some ⟨false,false,.ref 0 [],[],[some ⟨.own 3 32 true [],.int .i64 0⟩],true⟩:=by kernel_rfl
 rw [htt] at ht
 cases ht
 have tg:=aQw
 cases hi : Tryz.prog.info? (Tryz.lays8n4_ren.t 25) with
 | none=>rw [hi] at tg;cases tg
 | some i0=>
   rw [hi] at tg
   simp only [Option.map_some,Option.some.injEq,Prod.mk.injEq] at tg
   cases hz : i0.zero with
   | none=>rw [hz] at tg;cases tg.2.2
   | some z=>
     rw [hz] at tg
     simp only [Option.map_some,Option.some.injEq] at tg
     have hb : s.boxes.length=0:=by
      have : ∀ a,tX 32 args s=some a→s.boxes = []:=λa h=>by
       unfold tX at h
       split at h
       ·assumption
       ·cases h
      rw [this _ h];rfl
     rw [hb]
     exact aKj Tryz.lays8n4 hi hz (by omega) (by omega) tg.2.1 h hf hl hr (g:=true) (eb:=32) (t:=⟨false,false,.ref 0 [],[],[some ⟨.own 3 32 true [],.int .i64 0⟩],true⟩) ⟨rfl,rfl,by rw [tg.1]⟩
theorem aMp : ∀ (l : List Nat),(l.map λt=>(Tryz.prog.info? t).bind (·.zero))=(l.map λt=>some (zeroVal T t))→∀ t,mem t l=true→(Tryz.prog.info? t).bind (·.zero)=some (zeroVal T t)
 | [],_,t,h=>by simp [mem] at h
 | x::r,h,t,hm=>by
   simp only [List.map_cons,List.cons.injEq] at h
   unfold mem at hm
   split at hm
   ·rename_i hx
    rw [bS hx];exact h.1
   ·exact aMp r h.2 t hm
theorem hyp : Hyp Tryz.prog T mU where
 tab:=aPM.symm
 zero:=λt h=>by
  rw [aPM]
  exact aMp aO0 aQr t h
 mixed:=aO7
 code:=λf fn c hf hc=>by
  have h:=aMo
  rw [List.all_eq_true] at h
  have:=h fn (by rw [← Array.getElem?_toList] at hf;exact List.mem_of_getElem? hf)
  rw [hc] at this
  simp only [Bool.and_eq_true,bne_iff_ne,ne_eq] at this
  exact this
 prim:=aP7
 primS:=aO8
 glob:=λ_=>rfl
 wf:=λg t h=>by
  obtain ⟨p,hp,rfl⟩:=aN9 h
  have:=aQv
  rw [List.all_eq_true] at this
  exact this p hp
variable (a b c d e f g h i j k l m n o q r s t u v w x y z A B C D E F G H I J K L M N : PV)
def gX (f b l t : Nat) (e : Env) (s : St) : Option R:=aP6 f b l (mU.mode f) (todoOf Tryz.prog f t) e s
def aDm : Option R:=aZ 5 [a]
def aGB : Option R:=aZ 7 [a]
def uG : Option R:=aZ 25 [a]
def vP : Option R:=aZ 27 [a,b]
def pZ : Option R:=gX 27 0 0 4 [(2,.ptr 0 0),(3,.ptr 1 0),(5,.p a)] ⟨[(0,some [.p b,.p c,.p d,.p e,.p f,.p g,.p h,.p i,.p j,.p k]),(1,some [.p l,.p m,.p n,.p o,.p q,.p r,.p s,.p t,.p u,.p v])],[],0,0,2⟩
def mX : Option R:=gX 27 0 0 9 [(2,.ptr 0 0),(3,.ptr 1 0),(6,.p a)] ⟨[(0,some [.p b,.p c,.p d,.p e,.p f,.p g,.p h,.p i,.p j,.p k]),(1,some [.p l,.p m,.p n,.p o,.p q,.p r,.p s,.p t,.p u,.p v])],[],0,0,2⟩
def rG : Option R:=aZ 29 [a,b]
def pM : Option R:=aZ 30 [a,b]
def aCu : Option R:=aZ 31 [a,b,c]
def uH : Option R:=aZ 64 [a,b]
def mJ : Option R:=gX 64 0 0 4 [(0,.p a),(1,.p b),(5,.p c)] ⟨[],[],0,0,0⟩
def lX : Option R:=aZ 65 [a,b]
def lO : Option R:=gX 65 0 0 4 [(0,.p a),(1,.p b),(5,.p c)] ⟨[],[],0,0,0⟩
def qA : Option R:=aZ 67 [a]
def aDn : Option R:=aZ 68 [a,b]
def jO : Option R:=gX 68 0 0 5 [(2,.ptr 0 0),(3,.ptr 1 0),(5,.p a),(6,.p b)] ⟨[(0,some [.p c,.p d]),(1,some [.p e,.p f,.p g,.p h,.p i,.p j,.p k,.p l,.p m,.p n])],[],0,0,2⟩
def fK : Option R:=gX 68 0 0 10 [(2,.ptr 0 0),(3,.ptr 1 0),(5,.p a),(7,.p b)] ⟨[(0,some [.p c,.p d]),(1,some [.p e,.p f,.p g,.p h,.p i,.p j,.p k,.p l,.p m,.p n])],[],0,0,2⟩
def bO : Option R:=gX 68 0 0 21 [(2,.ptr 0 0),(3,.ptr 1 0),(5,.p a),(8,.p b)] ⟨[(0,some [.p c,.p d]),(1,some [.p e,.p f,.p g,.p h,.p i,.p j,.p k,.p l,.p m,.p n])],[],0,0,2⟩
def aAN : Option R:=aZ 60 [a]
def yV : Option R:=aZ 70 [a]
def lY : Option R:=gX 70 0 0 3 [(1,.ptr 0 0),(3,.ref 0 []),(8,.p a),(9,.p b)] ⟨[(0,some [.p c,.p d])],[(0,some ⟨(.own 1 24 false []),e⟩)],0,0,2⟩
def aIf : Option R:=aZ 69 [a,b,c]
def jV : Option R:=gX 69 0 0 8 [(1,.p a),(3,.ptr 0 0),(5,.ptr 1 0),(7,.ptr 2 0),(43,.p b),(44,.p c),(45,.p d)] ⟨[(0,some [.p e,.p f]),(1,some [.p g,.p h,.p i,.p j,.p k,.p l,.p m,.p n,.p o,.p q]),(2,some [.p r])],[],0,0,3⟩
def aAO : Option R:=aZ 71 [a,b]
def aAP : Option R:=aZ 113 [a]
def mY : Option R:=gX 113 0 0 4 [(1,.ptr 0 0),(2,.ptr 1 0),(3,.p a)] ⟨[(0,some [.p b,.p c]),(1,some [.p d,.p e,.p f])],[],0,0,2⟩
def lB : Option R:=gX 113 0 0 9 [(1,.ptr 0 0),(2,.ptr 1 0),(3,.p a),(4,.p b),(5,.p c),(6,.p d)] ⟨[(0,some [.p e,.p f]),(1,some [.p g,.p h,.p i])],[],0,0,2⟩
def lZ : Option R:=gX 113 0 0 18 [(1,.ptr 0 0),(2,.ptr 1 0),(3,.p a),(4,.p b),(5,.p c),(6,.p d),(9,.p e),(10,.p f),(11,.p g)] ⟨[(0,some [.p h,.p i]),(1,some [.p j,.p k,.p l])],[],0,0,2⟩
def jP : Option R:=gX 113 0 0 23 [(1,.ptr 0 0),(2,.ptr 1 0),(3,.p a),(4,.p b),(5,.p c),(6,.p d),(9,.p e),(10,.p f),(12,.p g)] ⟨[(0,some [.p h,.p i]),(1,some [.p j,.p k,.p l])],[],0,0,2⟩
def aM : Option R:=aZ 82 [a,b,c]
def uI : Option R:=aZ 114 [a,b,c]
def lC : Option R:=aZ 115 [a,b,c]
def jW : Option R:=gX 115 0 0 2 [(1,.p a),(2,.p b),(3,.ptr 0 0),(7,.p c)] ⟨[(0,some [.p d,.p e])],[],0,0,1⟩
def nM : Option R:=aZ 116 [a]
def oV : Option R:=gX 116 0 0 4 [(0,.p a),(3,.p b)] ⟨[],[],0,0,0⟩
def oW : Option R:=aZ 117 [a,b,c,d]
def aAQ : Option R:=aZ 109 [a]
def mZ : Option R:=gX 109 0 0 4 [(1,.ptr 0 0),(2,.ptr 1 0),(16,.p a),(17,.p b)] ⟨[(0,some [.p c,.p d]),(1,some [.p e,.p f,.p g])],[],0,0,2⟩
def nB : Option R:=gX 109 0 0 8 [(1,.ptr 0 0),(2,.ptr 1 0),(3,.p a),(4,.ptr 2 0),(16,.p b),(17,.p c),(28,.p d),(29,.p e),(30,.p f)] ⟨[(0,some [.p g,.p h]),(1,some [.p i,.p j,.p k]),(2,some [.p l])],[],0,0,3⟩
def vQ : Option R:=aZ 49 [a,b]
def nC : Option R:=gX 49 0 0 5 [(2,.ptr 0 0),(5,.p a),(6,.ref 0 []),(7,.p b)] ⟨[(0,some [.p c,.p d])],[(0,some ⟨(.own 1 8 false []),e⟩)],0,0,2⟩
def iY : Option R:=gX 49 0 0 8 [(2,.ptr 0 0),(5,.p a),(6,.ref 0 []),(7,.p b),(27,.p c),(28,.p d),(29,.p e)] ⟨[(0,some [.p f,.p g])],[(0,some ⟨(.own 1 8 false []),h⟩)],0,0,2⟩
def gB : Option R:=gX 49 0 0 13 [(2,.ptr 0 0),(5,.p a),(6,.ref 0 []),(7,.p b),(10,.p c),(11,.p d),(27,.p e),(28,.p f),(29,.p g),(51,.p h),(52,.p i),(53,.p j)] ⟨[(0,some [.p k,.p l])],[(0,some ⟨(.own 1 8 false []),m⟩)],0,0,2⟩
def zW : Option R:=gX 49 0 0 16 [(2,.ptr 0 0),(5,.p a),(6,.ref 0 []),(10,.p b),(11,.p c),(13,.p d),(27,.p e),(28,.p f),(29,.p g),(51,.p h),(52,.p i),(53,.p j)] ⟨[(0,some [.p k,.p l])],[(0,some ⟨(.own 1 8 false []),m⟩)],0,0,2⟩
def vR : Option R:=aZ 118 [a]
def cH : Option R:=aZ 85 [a,b,c]
def dU : Option R:=aZ 86 [a,b]
def aAR : Option R:=aZ 119 [a]
def tG : Option R:=aZ 123 [a,b,c,d,e,f,g]
def cB : Option R:=aZ 124 [a,b,c]
def bL : Option R:=gX 124 0 0 4 [(1,.p a),(2,.p b),(15,.p c),(16,.p d),(17,.p e)] ⟨[],[],0,0,0⟩
def aAS : Option R:=aZ 125 [a,b]
def cL : Option R:=aZ 126 [a,b,c]
def bR : Option R:=gX 126 0 0 4 [(1,.p a),(2,.p b),(15,.p c),(16,.p d),(17,.p e)] ⟨[],[],0,0,0⟩
def aDo : Option R:=aZ 127 [a,b]
def iZ : Option R:=aZ 128 [a,b]
def eS : Option R:=gX 128 0 0 4 [(0,.p a),(1,.p b),(12,.p c),(13,.p d)] ⟨[],[],0,0,0⟩
def wS : Option R:=aZ 161 [a]
def nN : Option R:=gX 161 0 0 4 [(1,.ptr 0 0),(3,.p a)] ⟨[(0,some [.p b,.p c])],[],0,0,1⟩
def lD : Option R:=gX 161 0 0 9 [(1,.ptr 0 0),(4,.p a)] ⟨[(0,some [.p b,.p c])],[],0,0,1⟩
def mK : Option R:=gX 161 0 0 15 [(1,.ptr 0 0),(4,.p a),(5,.ptr 1 0),(6,.p b)] ⟨[(0,some [.p c,.p d]),(1,some [.p e,.p f,.p g])],[],0,0,2⟩
def lE : Option R:=aZ 83 [a,b]
def mL : Option R:=gX 83 0 0 4 [(2,.ptr 0 0),(5,.p a),(6,.ref 0 []),(7,.p b)] ⟨[(0,some [.p c,.p d])],[(0,some ⟨(.own 1 8 false []),e⟩)],0,0,2⟩
def jX : Option R:=gX 83 0 0 9 [(2,.ptr 0 0),(5,.p a),(6,.ref 0 []),(8,.p b)] ⟨[(0,some [.p c,.p d])],[(0,some ⟨(.own 1 8 false []),e⟩)],0,0,2⟩
def eE : Option R:=gX 83 0 0 12 [(2,.ptr 0 0),(5,.p a),(6,.ref 0 []),(8,.p b),(9,.p c)] ⟨[(0,some [.p d,.p e])],[(0,some ⟨(.own 1 8 false []),f⟩)],0,0,2⟩
def fH : Option R:=gX 83 0 0 19 [(2,.ptr 0 0),(5,.p a),(6,.ref 0 []),(8,.p b),(9,.p c),(12,.p d),(13,.p e),(14,.p f)] ⟨[(0,some [.p g,.p h])],[(0,some ⟨(.own 1 8 false []),i⟩)],0,0,2⟩
def uJ : Option R:=gX 83 0 0 22 [(2,.ptr 0 0),(5,.p a),(6,.ref 0 []),(9,.p b),(12,.p c),(13,.p d),(14,.p e)] ⟨[(0,some [.p f,.p g])],[(0,some ⟨(.own 1 8 false []),h⟩)],0,0,2⟩
def vS : Option R:=aZ 141 [a,b]
def tH : Option R:=aZ 142 [a,b]
def zX : Option R:=gX 142 0 0 3 [(1,.p a),(2,.ptr 0 0),(5,.ref 0 [])] ⟨[(0,some [.p b,.p c])],[(0,some ⟨(.own 1 8 false []),d⟩)],0,0,2⟩
def oX : Option R:=gX 142 0 0 4 [(2,.ptr 0 0),(5,.ref 0 [])] ⟨[(0,some [.p a,.p b])],[(0,some ⟨(.own 1 8 false []),c⟩)],0,0,2⟩
def oY : Option R:=gX 142 0 0 5 [(2,.ptr 0 0),(5,.ref 0 [])] ⟨[(0,some [.p a,.p b])],[(0,some ⟨(.own 1 8 false []),c⟩)],0,0,2⟩
def iS : Option R:=aZ 162 [a]
def wU : Option R:=aZ 47 [a]
def nO : Option R:=gX 47 0 0 4 [(1,.ptr 0 0),(22,.p a),(23,.p b),(24,.p c)] ⟨[(0,some [.p d,.p e])],[],0,0,1⟩
def vT : Option R:=aZ 93 [a,b,c]
def tI : Option R:=aZ 94 [a,b]
def fL : Option R:=aZ 137 [a,b]
def iP : Option R:=aZ 159 [a,b]
def aCa : Option R:=aZ 160 [a,b,c]
def gY : Option R:=aZ 163 [a,b]
def wV : Option R:=aZ 164 [a]
def lF : Option R:=aZ 143 [a,b]
def dV : Option R:=gX 143 0 0 2 [(0,.p a),(1,.p b),(7,.p c),(8,.p d)] ⟨[],[],0,0,0⟩
def pN : Option R:=aZ 88 [a]
def qB : Option R:=gX 88 0 0 2 [(0,.p a),(5,.p b),(6,.p c)] ⟨[],[],0,0,0⟩
def cZ : Option R:=aZ 48 [a,b]
def cQ : Option R:=aZ 166 [a,b]
def dD : Option R:=gX 166 0 0 4 [(0,.p a),(1,.p b),(12,.p c),(13,.p d)] ⟨[],[],0,0,0⟩
def aCv : Option R:=aZ 186 [a,b,c]
def zY : Option R:=aZ 87 [a]
def eL : Option R:=aZ 89 [a,b]
def zZ : Option R:=aZ 90 [a,b,c]
def aAT : Option R:=aZ 147 [a,b]
def oZ : Option R:=gX 147 0 0 24 [(2,.ptr 0 0),(3,.ptr 1 0)] ⟨[(0,some [.p a,.p b]),(1,some [.p c,.p d])],[],0,0,2⟩
def aAa : Option R:=gX 147 0 0 25 [(2,.ptr 0 0),(3,.ptr 1 0)] ⟨[(0,some [.p a,.p b]),(1,some [.p c,.p d])],[],0,0,2⟩
def fM : Option R:=aZ 130 [a,b]
def fN : Option R:=gX 130 0 0 2 [(0,.p a),(1,.p b),(7,.p c),(8,.p d)] ⟨[],[],0,0,0⟩
def oL : Option R:=aZ 185 [a,b]
def fO : Option R:=gX 185 0 0 2 [(0,.p a),(1,.p b),(7,.p c),(8,.p d)] ⟨[],[],0,0,0⟩
def jA : Option R:=aZ 187 [a,b]
def bP : Option R:=gX 187 0 0 2 [(0,.p a),(1,.p b),(7,.p c),(8,.p d)] ⟨[],[],0,0,0⟩
def jB : Option R:=aZ 144 [a,b]
def dE : Option R:=gX 144 0 0 2 [(0,.p a),(1,.p b),(7,.p c),(8,.p d)] ⟨[],[],0,0,0⟩
def aCw : Option R:=aZ 91 [a,b,c]
def uK : Option R:=aZ 145 [a]
def yW : Option R:=bZ 26 [.p a,.p b] ⟨[],[],0,0,0⟩
def aCx : Option R:=bZ 28 [.p a,.p b] ⟨[],[],0,0,0⟩
def aO9 : Option R:=bZ 33 [.p a,.p b] ⟨[],[],0,0,0⟩
def rH : Option R:=aZ 75 [a]
def kO : Option R:=gX 75 0 0 4 [(1,.ptr 0 0),(3,.ptr 1 0),(4,.fn 136 [.ptr 1 0]),(11,.p a),(12,.p b),(13,.p c)] ⟨[(0,some [.p d,.p e,.p f,.p g,.p h,.p i,.p j,.p k,.p l,.p m]),(1,some [.ref 0 []])],[(0,some ⟨(.own 1 8 false []),n⟩)],0,0,3⟩
def jY : Option R:=gX 75 0 0 11 [(1,.ptr 0 0),(3,.ptr 1 0),(4,.fn 136 [.ptr 1 0]),(7,.p a)] ⟨[(0,some [.p b,.p c,.p d,.p e,.p f,.p g,.p h,.p i,.p j,.p k]),(1,some [.ref 0 []])],[(0,some ⟨(.own 1 8 false []),l⟩)],0,0,3⟩
def aPa : Option R:=bZ 34 [.p a,.p b] ⟨[],[],0,0,0⟩
def yX : Option R:=bZ 35 [.p a] ⟨[],[],0,0,0⟩
def rI : Option R:=bZ 50 [.ptr 0 0] ⟨[(0,some [.p a,.p b,.p c])],[],0,0,1⟩
def uL : Option R:=bZ 61 [.ptr 0 0,.agg [.p a,.p b],.p c] ⟨[(0,some [.p d,.p e,.p f])],[],0,0,1⟩
def vU : Option R:=gX 61 1 0 6 [(0,.ptr 0 0),(6,.ptr 1 0),(7,.ptr 2 0)] ⟨[(0,some [.p a,.p b,.p c]),(1,some [.ref 0 [],.ref 1 [],.p d,.ref 2 [],.p e,.p f,.p g,.p h,.p i,.p j]),(2,some [.ref 3 [],.ref 4 [],.p k,.ref 5 [],.p l,.p m,.p n,.p o,.p q,.p r])],[(0,some ⟨(.own 4 64 true [.leaf,.leaf,(.own 3 32 true []),(.own 3 32 true [])]),s⟩),(1,some ⟨(.own 1 24 true [(.own 3 32 true [])]),t⟩),(2,some ⟨(.own 1 16 false []),u⟩),(3,some ⟨(.own 4 64 true [.leaf,.leaf,(.own 3 32 true []),(.own 3 32 true [])]),v⟩),(4,some ⟨(.own 1 24 true [(.own 3 32 true [])]),w⟩),(5,some ⟨(.own 1 16 false []),x⟩)],0,0,9⟩
def sP : Option R:=bZ 62 [.ptr 0 0,.agg [.p a,.p b,.p c,.p d,.p e,.p f,.p g,.p h,.p i,.p j]] ⟨[(0,some [.p k,.p l,.p m])],[],0,0,1⟩
def gL : Option R:=gX 62 1 0 8 [(3,.ptr 1 0),(4,.ptr 2 0),(5,.p a),(6,.p b),(7,.ptr 3 0),(8,.ptr 4 0),(9,.p c)] ⟨[(0,some [.p d,.p e,.p f]),(1,some [.p g,.p h,.p i,.p j,.p k,.p l,.p m,.p n,.p o,.p q]),(2,some [.ref 0 [],.ref 1 [],.p r,.ref 2 [],.p s,.p t,.p u,.p v,.p w,.p x]),(3,some [.ref 3 [],.ref 4 [],.p y,.ref 5 [],.p z,.p A,.p B,.p C,.p D,.p E]),(4,some [.p F,.ref 6 [],.ref 7 []])],[(0,some ⟨(.own 4 64 true [.leaf,.leaf,(.own 3 32 true []),(.own 3 32 true [])]),G⟩),(1,some ⟨(.own 1 24 true [(.own 3 32 true [])]),H⟩),(2,some ⟨(.own 1 16 false []),I⟩),(3,some ⟨(.own 4 64 true [.leaf,.leaf,(.own 3 32 true []),(.own 3 32 true [])]),J⟩),(4,some ⟨(.own 1 24 true [(.own 3 32 true [])]),K⟩),(5,some ⟨(.own 1 16 false []),L⟩),(6,some ⟨(.own 1 8 false []),M⟩),(7,some ⟨(.own 1 8 false []),N⟩)],0,0,13⟩
def eQ : Option R:=gX 62 1 0 12 [(3,.ptr 1 0),(4,.ptr 2 0),(5,.p a),(6,.p b),(7,.ptr 3 0),(8,.ptr 4 0),(10,.p c)] ⟨[(0,some [.p d,.p e,.p f]),(1,some [.p g,.p h,.p i,.p j,.p k,.p l,.p m,.p n,.p o,.p q]),(2,some [.ref 0 [],.ref 1 [],.p r,.ref 2 [],.p s,.p t,.p u,.p v,.p w,.p x]),(3,some [.ref 3 [],.ref 4 [],.p y,.ref 5 [],.p z,.p A,.p B,.p C,.p D,.p E]),(4,some [.p F,.ref 6 [],.ref 7 []])],[(0,some ⟨(.own 4 64 true [.leaf,.leaf,(.own 3 32 true []),(.own 3 32 true [])]),G⟩),(1,some ⟨(.own 1 24 true [(.own 3 32 true [])]),H⟩),(2,some ⟨(.own 1 16 false []),I⟩),(3,some ⟨(.own 4 64 true [.leaf,.leaf,(.own 3 32 true []),(.own 3 32 true [])]),J⟩),(4,some ⟨(.own 1 24 true [(.own 3 32 true [])]),K⟩),(5,some ⟨(.own 1 16 false []),L⟩),(6,some ⟨(.own 1 8 false []),M⟩),(7,some ⟨(.own 1 8 false []),N⟩)],0,0,13⟩
def iH : Option R:=gX 62 1 0 16 [(3,.ptr 1 0),(4,.ptr 2 0),(7,.ptr 3 0),(8,.ptr 4 0),(11,.p a)] ⟨[(0,some [.p b,.p c,.p d]),(1,some [.p e,.p f,.p g,.p h,.p i,.p j,.p k,.p l,.p m,.p n]),(2,some [.ref 0 [],.ref 1 [],.p o,.ref 2 [],.p q,.p r,.p s,.p t,.p u,.p v]),(3,some [.ref 3 [],.ref 4 [],.p w,.ref 5 [],.p x,.p y,.p z,.p A,.p B,.p C]),(4,some [.p D,.ref 6 [],.ref 7 []])],[(0,some ⟨(.own 4 64 true [.leaf,.leaf,(.own 3 32 true []),(.own 3 32 true [])]),E⟩),(1,some ⟨(.own 1 24 true [(.own 3 32 true [])]),F⟩),(2,some ⟨(.own 1 16 false []),G⟩),(3,some ⟨(.own 4 64 true [.leaf,.leaf,(.own 3 32 true []),(.own 3 32 true [])]),H⟩),(4,some ⟨(.own 1 24 true [(.own 3 32 true [])]),I⟩),(5,some ⟨(.own 1 16 false []),J⟩),(6,some ⟨(.own 1 8 false []),K⟩),(7,some ⟨(.own 1 8 false []),L⟩)],0,0,13⟩
def uM : Option R:=bZ 63 [.p a] ⟨[],[],0,0,0⟩
def qC : Option R:=bZ 120 [.agg [.p a,.p b,.p c,.p d,.p e,.p f,.p g,.p h,.p i,.p j],.fn 121 [.ptr 0 0,.ptr 1 0,.ptr 2 0]] ⟨[(0,some [.p k]),(1,some [.p l,.p m]),(2,some [.p n,.p o,.p q,.p r,.p s,.p t,.p u,.p v,.p w,.p x])],[],0,0,3⟩
def fU : Option R:=gX 120 3 0 2 [(1,.fn 121 [.ptr 0 0,.ptr 1 0,.ptr 2 0]),(2,.ptr 3 0),(13,.p a),(14,.p b),(15,.p c)] ⟨[(0,some [.p d]),(1,some [.p e,.p f]),(2,some [.p g,.p h,.p i,.p j,.p k,.p l,.p m,.p n,.p o,.p q]),(3,some [.p r,.p s,.p t,.p u,.p v,.p w,.p x,.p y,.p z,.p A])],[],0,0,4⟩
def fV : Option R:=gX 120 3 0 5 [(1,.fn 121 [.ptr 0 0,.ptr 1 0,.ptr 2 0]),(2,.ptr 3 0),(13,.p a),(14,.p b),(15,.p c),(24,.ref 0 []),(25,.p d),(26,.p e)] ⟨[(0,some [.p f]),(1,some [.p g,.p h]),(2,some [.p i,.p j,.p k,.p l,.p m,.p n,.p o,.p q,.p r,.p s]),(3,some [.p t,.p u,.p v,.p w,.p x,.p y,.p z,.p A,.p B,.p C])],[(0,some ⟨(.own 3 32 true []),D⟩)],0,0,5⟩
def dP : Option R:=gX 120 3 0 11 [(1,.fn 121 [.ptr 0 0,.ptr 1 0,.ptr 2 0]),(2,.ptr 3 0),(36,.p a),(37,.p b),(38,.p c)] ⟨[(0,some [.p d]),(1,some [.p e,.p f]),(2,some [.p g,.p h,.p i,.p j,.p k,.p l,.p m,.p n,.p o,.p q]),(3,some [.p r,.p s,.p t,.p u,.p v,.p w,.p x,.p y,.p z,.p A])],[],0,0,4⟩
def fI : Option R:=gX 120 3 0 14 [(1,.fn 121 [.ptr 0 0,.ptr 1 0,.ptr 2 0]),(2,.ptr 3 0),(36,.p a),(37,.p b),(38,.p c),(43,.p d),(44,.p e),(45,.p f)] ⟨[(0,some [.p g]),(1,some [.p h,.p i]),(2,some [.p j,.p k,.p l,.p m,.p n,.p o,.p q,.p r,.p s,.p t]),(3,some [.p u,.p v,.p w,.p x,.p y,.p z,.p A,.p B,.p C,.p D])],[],0,0,4⟩
def mD : Option R:=bZ 92 [.p a,.p b] ⟨[],[],0,0,0⟩
def oM : Option R:=gX 92 0 0 3 [(0,.p a),(1,.p b)] ⟨[],[],0,0,0⟩
def oN : Option R:=gX 92 0 0 6 [(0,.p a),(6,.p b)] ⟨[],[],0,0,0⟩
def gP : Option R:=gX 92 0 0 8 [(7,.ref 0 []),(8,.p a)] ⟨[],[(0,some ⟨(.own 1 8 false []),b⟩)],0,0,1⟩
def aCb : Option R:=aZ 146 [a,b]
def aAb : Option R:=aZ 174 [a,b]
def wW : Option R:=bZ 66 [.p a] ⟨[],[],0,0,0⟩
def nP : Option R:=gX 66 0 0 3 [(1,.ptr 0 0),(2,.ptr 1 0),(3,.ptr 2 0),(4,.p a)] ⟨[(0,some [.p b,.p c,.p d,.p e,.p f,.p g,.p h,.p i,.p j,.p k]),(1,some [.ref 0 [],.ref 1 [],.p l,.ref 2 [],.p m,.p n,.p o,.p q,.p r,.p s]),(2,some [.p t,.ref 3 [],.ref 4 []])],[(0,some ⟨(.own 4 64 true [.leaf,.leaf,(.own 3 32 true []),(.own 3 32 true [])]),u⟩),(1,some ⟨(.own 1 24 true [(.own 3 32 true [])]),v⟩),(2,some ⟨(.own 1 16 false []),w⟩),(3,some ⟨(.own 1 8 false []),x⟩),(4,some ⟨(.own 1 8 false []),y⟩)],0,0,8⟩
def gM : Option R:=gX 66 0 0 8 [(1,.ptr 0 0),(2,.ptr 1 0),(3,.ptr 2 0),(5,.ptr 3 0),(6,.p a)] ⟨[(0,some [.p b,.p c,.p d,.p e,.p f,.p g,.p h,.p i,.p j,.p k]),(1,some [.ref 0 [],.ref 1 [],.p l,.ref 2 [],.p m,.p n,.p o,.p q,.p r,.p s]),(2,some [.p t,.ref 3 [],.ref 4 []]),(3,some [.ref 5 [],.ref 6 [],.p u,.ref 7 [],.p v,.p w,.p x,.p y,.p z,.p A])],[(0,some ⟨(.own 4 64 true [.leaf,.leaf,(.own 3 32 true []),(.own 3 32 true [])]),B⟩),(1,some ⟨(.own 1 24 true [(.own 3 32 true [])]),C⟩),(2,some ⟨(.own 1 16 false []),D⟩),(3,some ⟨(.own 1 8 false []),E⟩),(4,some ⟨(.own 1 8 false []),F⟩),(5,some ⟨(.own 4 64 true [.leaf,.leaf,(.own 3 32 true []),(.own 3 32 true [])]),G⟩),(6,some ⟨(.own 1 24 true [(.own 3 32 true [])]),H⟩),(7,some ⟨(.own 1 16 false []),I⟩)],0,0,12⟩
def mN : Option R:=gX 66 0 0 15 [(1,.ptr 0 0),(2,.ptr 1 0),(3,.ptr 2 0),(5,.ptr 3 0),(9,.p a)] ⟨[(0,some [.p b,.p c,.p d,.p e,.p f,.p g,.p h,.p i,.p j,.p k]),(1,some [.ref 0 [],.ref 1 [],.p l,.ref 2 [],.p m,.p n,.p o,.p q,.p r,.p s]),(2,some [.p t,.ref 3 [],.ref 4 []]),(3,some [.ref 5 [],.ref 6 [],.p u,.ref 7 [],.p v,.p w,.p x,.p y,.p z,.p A])],[(0,some ⟨(.own 4 64 true [.leaf,.leaf,(.own 3 32 true []),(.own 3 32 true [])]),B⟩),(1,some ⟨(.own 1 24 true [(.own 3 32 true [])]),C⟩),(2,some ⟨(.own 1 16 false []),D⟩),(3,some ⟨(.own 1 8 false []),E⟩),(4,some ⟨(.own 1 8 false []),F⟩),(5,some ⟨(.own 4 64 true [.leaf,.leaf,(.own 3 32 true []),(.own 3 32 true [])]),G⟩),(6,some ⟨(.own 1 24 true [(.own 3 32 true [])]),H⟩),(7,some ⟨(.own 1 16 false []),I⟩)],0,0,12⟩
def sQ : Option R:=bZ 72 [.p a,.p b] ⟨[],[],0,0,0⟩
def lP : Option R:=gX 72 0 0 5 [(2,.ptr 0 0),(4,.ptr 1 0),(5,.fn 129 [.ptr 2 0]),(6,.ptr 3 0),(18,.p a),(19,.p b),(20,.p c)] ⟨[(0,some [.p d,.p e,.p f,.p g,.p h,.p i,.p j,.p k,.p l,.p m]),(1,some [.ref 0 [],.ref 1 [],.p n,.ref 2 [],.p o,.p q,.p r,.p s,.p t,.p u]),(2,some [.p v]),(3,some [.ref 3 [],.ref 4 [],.p w,.ref 5 [],.p x,.p y,.p z,.p A,.p B,.p C])],[(0,some ⟨(.own 4 64 true [.leaf,.leaf,(.own 3 32 true []),(.own 3 32 true [])]),D⟩),(1,some ⟨(.own 1 24 true [(.own 3 32 true [])]),E⟩),(2,some ⟨(.own 1 16 false []),F⟩),(3,some ⟨(.own 4 64 true [.leaf,.leaf,(.own 3 32 true []),(.own 3 32 true [])]),G⟩),(4,some ⟨(.own 1 24 true [(.own 3 32 true [])]),H⟩),(5,some ⟨(.own 1 16 false []),I⟩)],0,0,10⟩
def iI : Option R:=gX 72 0 0 10 [(2,.ptr 0 0),(4,.ptr 1 0),(5,.fn 129 [.ptr 2 0]),(6,.ptr 3 0),(39,.ref 3 []),(40,.p a),(41,.p b)] ⟨[(0,some [.p c,.p d,.p e,.p f,.p g,.p h,.p i,.p j,.p k,.p l]),(1,some [.ref 0 [],.ref 1 [],.p m,.ref 2 [],.p n,.p o,.p q,.p r,.p s,.p t]),(2,some [.p u]),(3,some [.ref 3 [],.ref 4 [],.p v,.ref 5 [],.p w,.p x,.p y,.p z,.p A,.p B])],[(0,some ⟨(.own 4 64 true [.leaf,.leaf,(.own 3 32 true []),(.own 3 32 true [])]),C⟩),(1,some ⟨(.own 1 24 true [(.own 3 32 true [])]),D⟩),(2,some ⟨(.own 1 16 false []),E⟩),(3,some ⟨(.own 4 64 true [.leaf,.leaf,(.own 3 32 true []),(.own 3 32 true [])]),F⟩),(4,some ⟨(.own 1 24 true [(.own 3 32 true [])]),G⟩),(5,some ⟨(.own 1 16 false []),H⟩)],0,0,10⟩
def iJ : Option R:=gX 72 0 0 16 [(2,.ptr 0 0),(4,.ptr 1 0),(5,.fn 129 [.ptr 2 0]),(6,.ptr 3 0),(55,.ref 4 []),(56,.p a),(57,.p b)] ⟨[(0,some [.p c,.p d,.p e,.p f,.p g,.p h,.p i,.p j,.p k,.p l]),(1,some [.ref 0 [],.ref 1 [],.p m,.ref 2 [],.p n,.p o,.p q,.p r,.p s,.p t]),(2,some [.p u]),(3,some [.ref 3 [],.ref 4 [],.p v,.ref 5 [],.p w,.p x,.p y,.p z,.p A,.p B])],[(0,some ⟨(.own 4 64 true [.leaf,.leaf,(.own 3 32 true []),(.own 3 32 true [])]),C⟩),(1,some ⟨(.own 1 24 true [(.own 3 32 true [])]),D⟩),(2,some ⟨(.own 1 16 false []),E⟩),(3,some ⟨(.own 4 64 true [.leaf,.leaf,(.own 3 32 true []),(.own 3 32 true [])]),F⟩),(4,some ⟨(.own 1 24 true [(.own 3 32 true [])]),G⟩),(5,some ⟨(.own 1 16 false []),H⟩)],0,0,10⟩
def jC : Option R:=bZ 136 [.p a,.ptr 0 0] ⟨[(0,some [.ref 0 []])],[(0,some ⟨(.own 1 8 false []),b⟩)],0,0,2⟩
def eW : Option R:=gX 136 1 0 1 [(1,.ptr 0 0),(5,.p a),(6,.p b),(7,.p c)] ⟨[(0,some [.ref 0 []])],[(0,some ⟨(.own 1 8 false []),d⟩)],0,0,2⟩
def qS : Option R:=gX 136 1 0 4 [(1,.ptr 0 0),(4,.ptr 1 0),(5,.p a),(6,.p b),(7,.p c)] ⟨[(0,some [.ref 0 []]),(1,some [.p d,.p e,.p f])],[(0,some ⟨(.own 1 8 false []),g⟩)],0,0,3⟩
def mE : Option R:=bZ 136 [.ref 0 [],.ptr 0 0] ⟨[(0,some [.ref 1 []])],[(0,some ⟨(.own 3 32 true []),a⟩),(1,some ⟨(.own 1 8 false []),b⟩)],0,0,3⟩
def eA : Option R:=gX 136 1 0 1 [(1,.ptr 0 0),(5,.ref 1 []),(6,.p a),(7,.p b)] ⟨[(0,some [.ref 0 []])],[(0,some ⟨(.own 1 8 false []),c⟩),(1,some ⟨(.own 3 32 true []),d⟩)],0,0,3⟩
def pO : Option R:=gX 136 1 0 4 [(1,.ptr 0 0),(4,.ptr 1 0),(5,.ref 1 []),(6,.p a),(7,.p b)] ⟨[(0,some [.ref 0 []]),(1,some [.p c,.p d,.p e])],[(0,some ⟨(.own 1 8 false []),f⟩),(1,some ⟨(.own 3 32 true []),g⟩)],0,0,4⟩
def cV : Option R:=bZ 76 [.ptr 0 0,.p a] ⟨[(0,some [.p b,.ref 0 [],.ref 1 []])],[(0,some ⟨(.own 1 8 false []),c⟩),(1,some ⟨(.own 1 8 false []),d⟩)],0,0,3⟩
def dQ : Option R:=gX 76 1 0 3 [(0,.ptr 0 0),(1,.p a),(5,.ref 2 []),(6,.p b)] ⟨[(0,some [.p c,.ref 0 [],.ref 1 []])],[(0,some ⟨(.own 1 8 false []),d⟩),(1,some ⟨(.own 1 8 false []),e⟩),(2,some ⟨(.own 3 32 true []),f⟩)],0,0,4⟩
def jD : Option R:=bZ 77 [.ptr 0 0,.agg [.p a,.p b,.p c]] ⟨[(0,some [.p d,.ref 0 [],.ref 1 []])],[(0,some ⟨(.own 1 8 false []),e⟩),(1,some ⟨(.own 1 8 false []),f⟩)],0,0,3⟩
def dG : Option R:=gX 77 1 0 6 [(0,.ptr 0 0),(3,.ptr 1 0),(4,.ptr 2 0)] ⟨[(0,some [.p a,.ref 0 [],.ref 1 []]),(1,some [.p b,.p c,.p d]),(2,some [.p e,.p f,.p g])],[(0,some ⟨(.own 1 8 false []),h⟩),(1,some ⟨(.own 1 8 false []),i⟩)],0,0,5⟩
def jZ : Option R:=bZ 78 [.p a] ⟨[],[],0,0,0⟩
def pA : Option R:=gX 78 0 0 3 [(1,.ptr 0 0),(2,.ptr 1 0),(3,.ref 3 []),(4,.p a)] ⟨[(0,some [.p b,.p c,.p d,.p e,.p f,.p g,.p h,.p i,.p j,.p k]),(1,some [.ref 0 [],.ref 1 [],.p l,.ref 2 [],.p m,.p n,.p o,.p q,.p r,.p s])],[(0,some ⟨(.own 4 64 true [.leaf,.leaf,(.own 3 32 true []),(.own 3 32 true [])]),t⟩),(1,some ⟨(.own 1 24 true [(.own 3 32 true [])]),u⟩),(2,some ⟨(.own 1 16 false []),v⟩),(3,some ⟨(.own 4 64 true [.leaf,.leaf,(.own 3 32 true []),(.own 3 32 true [])]),w⟩)],0,0,6⟩
def cX : Option R:=bZ 95 [.ptr 0 0,.p a] ⟨[(0,some [.p b,.p c,.p d])],[],0,0,1⟩
def sR : Option R:=bZ 96 [.ptr 0 0,.p a] ⟨[(0,some [.p b,.p c,.p d])],[],0,0,1⟩
def rJ : Option R:=bZ 97 [.ptr 0 0] ⟨[(0,some [.p a,.p b,.p c])],[],0,0,1⟩
def rK : Option R:=bZ 99 [.ptr 0 0,.agg [.p a,.p b]] ⟨[(0,some [.p c,.p d,.p e])],[],0,0,1⟩
def kP : Option R:=gX 99 1 0 3 [(0,.ptr 0 0),(3,.ptr 1 0),(5,.ref 0 []),(6,.p a)] ⟨[(0,some [.p b,.p c,.p d]),(1,some [.p e,.p f])],[(0,some ⟨(.own 3 32 true []),g⟩)],0,0,3⟩
def gC : Option R:=aZ 153 [a]
def gQ : Option R:=aZ 154 [a]
def aF : Option R:=bZ 79 [.ptr 0 0,.p a] ⟨[(0,some [.p b,.p c,.p d])],[],0,0,1⟩
def iK : Option R:=gX 79 1 0 9 [(0,.ptr 0 0),(1,.p a),(5,.p b)] ⟨[(0,some [.p c,.p d,.p e])],[],0,0,1⟩
def aGC : Option R:=bZ 110 [.p a,.p b,.p c] ⟨[],[],0,0,0⟩
def vV : Option R:=gX 110 0 0 5 [(2,.p a),(3,.ptr 0 0),(6,.ptr 1 0),(7,.ptr 2 0),(9,.p b)] ⟨[(0,some [.p c,.p d]),(1,some [.ref 0 [],.ref 1 [],.p e,.ref 2 [],.p f,.p g,.p h,.p i,.p j,.p k]),(2,some [.ref 3 [],.ref 4 [],.p l,.ref 5 [],.p m,.p n,.p o,.p q,.p r,.p s])],[(0,some ⟨(.own 4 64 true [.leaf,.leaf,(.own 3 32 true []),(.own 3 32 true [])]),t⟩),(1,some ⟨(.own 1 24 true [(.own 3 32 true [])]),u⟩),(2,some ⟨(.own 1 16 false []),v⟩),(3,some ⟨(.own 4 64 true [.leaf,.leaf,(.own 3 32 true []),(.own 3 32 true [])]),w⟩),(4,some ⟨(.own 1 24 true [(.own 3 32 true [])]),x⟩),(5,some ⟨(.own 1 16 false []),y⟩)],0,0,9⟩
def eF : Option R:=bZ 111 [.ptr 0 0] ⟨[(0,some [.p a,.p b,.p c])],[],0,0,1⟩
def eT : Option R:=bZ 112 [.ptr 0 0] ⟨[(0,some [.p a,.p b,.p c])],[],0,0,1⟩
def fA : Option R:=bZ 165 [.p a] ⟨[],[],0,0,0⟩
def bW : Option R:=gX 165 0 0 3 [(0,.p a),(3,.p b),(9,.p c),(10,.p d),(11,.p e)] ⟨[],[],0,0,0⟩
def bU : Option R:=gX 165 0 0 11 [(6,.ref 0 []),(25,.p a),(26,.p b),(27,.p c)] ⟨[],[(0,some ⟨(.own 3 32 true []),d⟩)],0,0,1⟩
def pP : Option R:=bZ 121 [.agg [.p a,.p b,.p c],.ptr 0 0,.ptr 1 0,.ptr 2 0] ⟨[(0,some [.p d]),(1,some [.p e,.p f]),(2,some [.p g,.p h,.p i,.p j,.p k,.p l,.p m,.p n,.p o,.p q])],[],0,0,3⟩
def yY : Option R:=aZ 122 [a,b,c]
def wX : Option R:=bZ 131 [.p a] ⟨[],[],0,0,0⟩
def cE : Option R:=bZ 132 [.p a] ⟨[],[],0,0,0⟩
def gZ : Option R:=bZ 129 [.ref 0 [],.ptr 0 0] ⟨[(0,some [.p a])],[(0,some ⟨(.own 3 32 true []),b⟩)],0,0,2⟩
def gR : Option R:=aP6 129 1 1 ((mU.mode 129).map (Tmpl.fitK · [some (.own 3 32 true [])])) (todoOf Tryz.prog 129 1) [(0,.ref 0 []),(1,.ptr 0 0),(5,.ref 0 []),(6,.p a),(7,.p b)] ⟨[(0,some [.p c])],[(0,some ⟨(.own 3 32 true []),d⟩)],0,0,2⟩
def mG : Option R:=bZ 77 [.ptr 0 0,.p a] ⟨[(0,some [.p b,.ref 0 [],.ref 1 []])],[(0,some ⟨(.own 1 8 false []),c⟩),(1,some ⟨(.own 1 8 false []),d⟩)],0,0,3⟩
def qD : Option R:=bZ 138 [.p a] ⟨[],[],0,0,0⟩
def rL : Option R:=bZ 139 [.p a] ⟨[],[],0,0,0⟩
def kQ : Option R:=gX 139 0 0 3 [(0,.p a),(3,.ref 0 []),(4,.p b)] ⟨[],[(0,some ⟨(.own 1 24 true [(.own 3 32 true [])]),c⟩)],0,0,1⟩
def lQ : Option R:=bZ 148 [.ptr 0 0] ⟨[(0,some [.p a,.p b,.p c])],[],0,0,1⟩
def jH : Option R:=gX 148 1 0 3 [(0,.ptr 0 0),(2,.ptr 1 0),(3,.ptr 2 0),(4,.p a)] ⟨[(0,some [.p b,.p c,.p d]),(1,some [.ref 0 [],.ref 1 []]),(2,some [.ref 2 [],.ref 3 []])],[(0,some ⟨(.own 1 16 false []),e⟩),(1,some ⟨(.own 3 40 true []),f⟩),(2,some ⟨(.own 1 16 false []),g⟩),(3,some ⟨(.own 3 40 true []),h⟩)],0,0,7⟩
def gE : Option R:=gX 148 1 0 8 [(0,.ptr 0 0),(2,.ptr 1 0),(3,.ptr 2 0),(5,.ref 4 []),(6,.p a)] ⟨[(0,some [.p b,.p c,.p d]),(1,some [.ref 0 [],.ref 1 []]),(2,some [.ref 2 [],.ref 3 []])],[(0,some ⟨(.own 1 16 false []),e⟩),(1,some ⟨(.own 3 40 true []),f⟩),(2,some ⟨(.own 1 16 false []),g⟩),(3,some ⟨(.own 3 40 true []),h⟩),(4,some ⟨(.own 3 40 true []),i⟩)],0,0,8⟩
def iQ : Option R:=gX 148 1 0 15 [(0,.ptr 0 0),(2,.ptr 1 0),(3,.ptr 2 0),(5,.ref 4 []),(6,.p a),(7,.ptr 3 0),(8,.ptr 4 0)] ⟨[(0,some [.p b,.p c,.p d]),(1,some [.ref 0 [],.ref 1 []]),(2,some [.ref 2 [],.ref 3 []]),(3,some [.p e,.p f,.ref 5 []]),(4,some [.ptr 0 0,.ref 6 [],.p g,.p h,.p i,.p j])],[(0,some ⟨(.own 1 16 false []),k⟩),(1,some ⟨(.own 3 40 true []),l⟩),(2,some ⟨(.own 1 16 false []),m⟩),(3,some ⟨(.own 3 40 true []),n⟩),(4,some ⟨(.own 3 40 true []),o⟩),(5,some ⟨(.own 2 16 true []),q⟩),(6,some ⟨(.own 2 16 true []),r⟩)],0,0,12⟩
def wY : Option R:=bZ 149 [.ptr 0 0,.agg [.p a,.p b]] ⟨[(0,some [.p c,.p d,.p e])],[],0,0,1⟩
def mO : Option R:=gX 149 1 0 21 [(0,.ptr 0 0),(4,.ptr 1 0),(5,.ptr 2 0)] ⟨[(0,some [.p a,.p b,.p c]),(1,some [.ref 0 [],.ref 1 []]),(2,some [.ref 2 [],.ref 3 []])],[(0,some ⟨(.own 1 16 false []),d⟩),(1,some ⟨(.own 3 40 true [.leaf,.leaf,(.own 2 16 true [])]),e⟩),(2,some ⟨(.own 1 16 false []),f⟩),(3,some ⟨(.own 3 40 true [.leaf,.leaf,(.own 2 16 true [])]),g⟩)],0,0,7⟩
def nQ : Option R:=gX 149 1 0 6 [(0,.ptr 0 0),(4,.ptr 1 0),(5,.ptr 2 0),(6,.p a),(8,.ptr 3 0)] ⟨[(0,some [.p b,.p c,.p d]),(1,some [.ref 0 [],.ref 1 []]),(2,some [.ref 2 [],.ref 3 []]),(3,some [.p e,.p f])],[(0,some ⟨(.own 1 16 false []),g⟩),(1,some ⟨(.own 3 40 true [.leaf,.leaf,(.own 2 16 true [])]),h⟩),(2,some ⟨(.own 1 16 false []),i⟩),(3,some ⟨(.own 3 40 true [.leaf,.leaf,(.own 2 16 true [])]),j⟩)],0,0,8⟩
def aCy : Option R:=bZ 150 [.p a,.p b] ⟨[],[],0,0,0⟩
def oO : Option R:=gX 150 0 0 4 [(1,.p a),(2,.ptr 0 0),(4,.ptr 1 0),(6,.p b)] ⟨[(0,some [.p c,.p d]),(1,some [.ref 0 [],.ref 1 [],.p e,.ref 2 [],.p f,.p g,.p h,.p i,.p j,.p k])],[(0,some ⟨(.own 4 64 true [.leaf,.leaf,(.own 3 32 true []),(.own 3 32 true [])]),l⟩),(1,some ⟨(.own 1 24 true [(.own 3 32 true [])]),m⟩),(2,some ⟨(.own 1 16 false []),n⟩)],0,0,5⟩
def nD : Option R:=gX 150 0 0 10 [(1,.p a),(4,.ptr 0 0),(7,.ptr 1 0),(8,.p b)] ⟨[(0,some [.ref 0 [],.ref 1 [],.p c,.ref 2 [],.p d,.p e,.p f,.p g,.p h,.p i]),(1,some [.p j,.p k,.ref 3 [],.ref 4 []])],[(0,some ⟨(.own 4 64 true [.leaf,.leaf,(.own 3 32 true []),(.own 3 32 true [])]),l⟩),(1,some ⟨(.own 1 24 true [(.own 3 32 true [])]),m⟩),(2,some ⟨(.own 1 16 false []),n⟩),(3,some ⟨(.own 3 32 true []),o⟩),(4,some ⟨(.own 3 32 true []),q⟩)],0,0,7⟩
def yZ : Option R:=bZ 152 [.p a,.p b] ⟨[],[],0,0,0⟩
def fP : Option R:=bZ 188 [.nils,.p a] ⟨[],[],0,0,0⟩
def sS : Option R:=bZ 167 [.p a] ⟨[],[],0,0,0⟩
def lR : Option R:=gX 167 0 0 3 [(3,.ref 0 []),(7,.p a),(8,.p b),(9,.p c)] ⟨[],[(0,some ⟨(.own 4 64 true [.leaf,.leaf,(.own 3 32 true []),(.own 3 32 true [])]),d⟩)],0,0,1⟩
def wZ : Option R:=bZ 168 [.p a] ⟨[],[],0,0,0⟩
def nR : Option R:=gX 168 0 0 3 [(3,.ref 0 []),(7,.p a),(8,.p b),(9,.p c)] ⟨[],[(0,some ⟨(.own 1 24 true [(.own 3 32 true [])]),d⟩)],0,0,1⟩
def jE : Option R:=bZ 169 [.p a] ⟨[],[],0,0,0⟩
def gN : Option R:=bZ 175 [.ptr 0 0,.p a,.p b] ⟨[(0,some [.ptr 1 0,.ref 0 [],.p c,.p d,.p e,.p f]),(1,some [.p g,.p h,.p i])],[(0,some ⟨(.own 2 16 true []),j⟩)],0,0,3⟩
def fZ : Option R:=gX 175 2 0 1 [(0,.ptr 0 0),(1,.p a),(6,.p b)] ⟨[(0,some [.ptr 1 0,.ref 0 [],.p c,.p d,.p e,.p f]),(1,some [.p g,.p h,.p i])],[(0,some ⟨(.own 2 16 true []),j⟩)],0,0,3⟩
def rM : Option R:=bZ 178 [.ptr 0 0,.p a] ⟨[(0,some [.p b,.p c,.p d])],[],0,0,1⟩
def aP : Option R:=bZ 176 [.ptr 0 0,.p a] ⟨[(0,some [.ptr 1 0,.ref 0 [],.p b,.p c,.p d,.p e]),(1,some [.p f,.p g,.p h])],[(0,some ⟨(.own 2 16 true []),i⟩)],0,0,3⟩
def gS : Option R:=gX 176 2 0 2 [(0,.ptr 0 0),(4,.ptr 1 0)] ⟨[(0,some [.ptr 1 0,.ref 0 [],.p a,.p b,.p c,.p d]),(1,some [.p e,.p f,.p g])],[(0,some ⟨(.own 2 16 true []),h⟩)],0,0,3⟩
def dH : Option R:=gX 176 2 0 38 [(0,.ptr 0 0),(1,.p a),(5,.p b),(6,.p c)] ⟨[(0,some [.ptr 1 0,.ref 0 [],.p d,.p e,.p f,.p g]),(1,some [.p h,.p i,.p j])],[(0,some ⟨(.own 2 16 true []),k⟩)],0,0,3⟩
def gF : Option R:=gX 176 2 0 50 [(0,.ptr 0 0),(1,.p a),(7,.p b)] ⟨[(0,some [.ptr 1 0,.ref 0 [],.p c,.p d,.p e,.p f]),(1,some [.p g,.p h,.p i])],[(0,some ⟨(.own 2 16 true []),j⟩)],0,0,3⟩
def eX : Option R:=gX 176 2 0 51 [(0,.ptr 0 0),(1,.p a),(7,.p b),(8,.p c)] ⟨[(0,some [.ptr 1 0,.ref 0 [],.p d,.p e,.p f,.p g]),(1,some [.p h,.p i,.p j])],[(0,some ⟨(.own 2 16 true []),k⟩)],0,0,3⟩
def aJ : Option R:=bZ 177 [.ptr 0 0,.p a,.p b] ⟨[(0,some [.ptr 1 0,.ref 0 [],.p c,.p d,.p e,.p f]),(1,some [.p g,.p h,.p i])],[(0,some ⟨(.own 2 16 true []),j⟩)],0,0,3⟩
def pF : Option R:=bZ 179 [.p a] ⟨[],[],0,0,0⟩
def jI : Option R:=gX 179 0 0 3 [(1,.ptr 0 0),(2,.ptr 1 0),(3,.ptr 2 0),(4,.p a)] ⟨[(0,some [.p b,.p c]),(1,some [.ref 0 [],.ref 1 []]),(2,some [.ref 2 [],.ref 3 []])],[(0,some ⟨(.own 1 16 false []),d⟩),(1,some ⟨(.own 3 40 true [.leaf,.leaf,(.own 2 16 true [])]),e⟩),(2,some ⟨(.own 1 16 false []),f⟩),(3,some ⟨(.own 3 40 true [.leaf,.leaf,(.own 2 16 true [])]),g⟩)],0,0,7⟩
def eU : Option R:=bZ 182 [.ptr 0 0] ⟨[(0,some [.p a,.p b,.ref 0 [],.ref 1 [],.p c,.ref 2 [],.p d,.p e,.p f,.p g,.p h,.p i,.p j])],[(0,some ⟨(.own 4 64 true [.leaf,.leaf,(.own 3 32 true []),(.own 3 32 true [])]),k⟩),(1,some ⟨(.own 1 24 true [(.own 3 32 true [])]),l⟩),(2,some ⟨(.own 1 16 false []),m⟩)],0,0,4⟩
def uN : Option R:=bZ 183 [.ptr 0 0,.agg [.p a,.p b]] ⟨[(0,some [.p c,.p d,.ref 0 [],.ref 1 [],.p e,.ref 2 [],.p f,.p g,.p h,.p i,.p j,.p k,.p l])],[(0,some ⟨(.own 4 64 true [.leaf,.leaf,(.own 3 32 true []),(.own 3 32 true [])]),m⟩),(1,some ⟨(.own 1 24 true [(.own 3 32 true [])]),n⟩),(2,some ⟨(.own 1 16 false []),o⟩)],0,0,4⟩
def pG : Option R:=aZ 205 [a,b,c]
def aCz : Option R:=aZ 206 [a]
def uO : Option R:=aZ 208 [a,b]
def aCA : Option R:=aZ 215 [a,b]
def aCc : Option R:=gX 215 0 0 2 [(2,.ptr 0 0),(3,.ptr 1 0),(4,.ptr 2 0)] ⟨[(0,some [.p a,.p b,.p c]),(1,some [.p d,.p e,.p f]),(2,some [.p g,.p h,.p i])],[],0,0,3⟩
def aCB : Option R:=aZ 216 [a,b]
def aCC : Option R:=aZ 217 [a,b]
def aAU : Option R:=aZ 218 [a,b]
def aAV : Option R:=gX 218 0 0 2 [(2,.ptr 0 0),(3,.ptr 1 0),(4,.ptr 2 0)] ⟨[(0,some [.p a,.p b,.p c]),(1,some [.p d,.p e,.p f]),(2,some [.p g,.p h,.p i])],[],0,0,3⟩
def qE : Option R:=gX 218 0 0 3 [(2,.ptr 0 0),(3,.ptr 1 0),(4,.ptr 2 0)] ⟨[(0,some [.p a,.p b,.p c]),(1,some [.p d,.p e,.p f]),(2,some [.p g,.p h,.p i])],[],0,0,3⟩
def aAW : Option R:=gX 218 0 0 4 [(2,.ptr 0 0),(3,.ptr 1 0),(4,.ptr 2 0)] ⟨[(0,some [.p a,.p b,.p c]),(1,some [.p d,.p e,.p f]),(2,some [.p g,.p h,.p i])],[],0,0,3⟩
def aAX : Option R:=aZ 219 [a,b]
def fB : Option R:=aZ 220 [a]
def jQ : Option R:=aZ 222 [a,b,c]
def xA : Option R:=aZ 223 [a,b,c]
def lG : Option R:=bZ 200 [.ptr 0 0,.p a] ⟨[(0,some [.ptr 1 0,.ref 0 [],.p b,.p c,.p d,.p e]),(1,some [.p f,.p g,.p h])],[(0,some ⟨(.own 2 16 true []),i⟩)],0,0,3⟩
def iL : Option R:=gX 200 2 0 7 [(0,.ptr 0 0),(1,.p a),(4,.ptr 1 0),(6,.p b)] ⟨[(0,some [.ptr 1 0,.ref 0 [],.p c,.p d,.p e,.p f]),(1,some [.p g,.p h,.p i])],[(0,some ⟨(.own 2 16 true []),j⟩)],0,0,3⟩
def jF : Option R:=bZ 201 [.ptr 0 0,.p a] ⟨[(0,some [.ptr 1 0,.ref 0 [],.p b,.p c,.p d,.p e]),(1,some [.p f,.p g,.p h])],[(0,some ⟨(.own 2 16 true []),i⟩)],0,0,3⟩
def eY : Option R:=gX 201 2 0 3 [(0,.ptr 0 0),(1,.p a),(4,.p b),(5,.p c)] ⟨[(0,some [.ptr 1 0,.ref 0 [],.p d,.p e,.p f,.p g]),(1,some [.p h,.p i,.p j])],[(0,some ⟨(.own 2 16 true []),k⟩)],0,0,3⟩
def lS : Option R:=bZ 202 [.ptr 0 0,.p a] ⟨[(0,some [.ptr 1 0,.ref 0 [],.p b,.p c,.p d,.p e]),(1,some [.p f,.p g,.p h])],[(0,some ⟨(.own 2 16 true []),i⟩)],0,0,3⟩
def iU : Option R:=bZ 203 [.ptr 0 0,.p a] ⟨[(0,some [.p b,.p c,.ref 0 [],.ref 1 [],.p d,.ref 2 [],.p e,.p f,.p g,.p h,.p i,.p j,.p k])],[(0,some ⟨(.own 4 64 true [.leaf,.leaf,(.own 3 32 true []),(.own 3 32 true [])]),l⟩),(1,some ⟨(.own 1 24 true [(.own 3 32 true [])]),m⟩),(2,some ⟨(.own 1 16 false []),n⟩)],0,0,4⟩
def bK : Option R:=bZ 203 [.ptr 0 0,.agg [.p a,.p b,.p c]] ⟨[(0,some [.p d,.p e,.ref 0 [],.ref 1 [],.p f,.ref 2 [],.p g,.p h,.p i,.p j,.p k,.p l,.p m])],[(0,some ⟨(.own 4 64 true [.leaf,.leaf,(.own 3 32 true []),(.own 3 32 true [])]),n⟩),(1,some ⟨(.own 1 24 true [(.own 3 32 true [])]),o⟩),(2,some ⟨(.own 1 16 false []),q⟩)],0,0,4⟩
def bD : Option R:=bZ 204 [.ptr 0 0] ⟨[(0,some [.p a,.p b,.ref 0 [],.ref 1 [],.p c,.ref 2 [],.p d,.p e,.p f,.p g,.p h,.p i,.p j])],[(0,some ⟨(.own 4 64 true [.leaf,.leaf,(.own 3 32 true []),(.own 3 32 true [])]),k⟩),(1,some ⟨(.own 1 24 true [(.own 3 32 true [])]),l⟩),(2,some ⟨(.own 1 16 false []),m⟩)],0,0,4⟩
def nS : Option R:=bZ 207 [.ptr 0 0,.p a,.p b] ⟨[(0,some [.p c,.p d,.ref 0 [],.ref 1 [],.p e,.ref 2 [],.p f,.p g,.p h,.p i,.p j,.p k,.p l])],[(0,some ⟨(.own 4 64 true [.leaf,.leaf,(.own 3 32 true []),(.own 3 32 true [])]),m⟩),(1,some ⟨(.own 1 24 true [(.own 3 32 true [])]),n⟩),(2,some ⟨(.own 1 16 false []),o⟩)],0,0,4⟩
def kR : Option R:=gX 207 1 0 5 [(0,.ptr 0 0),(1,.p a),(2,.p b),(7,.ref 3 []),(8,.p c)] ⟨[(0,some [.p d,.p e,.ref 0 [],.ref 1 [],.p f,.ref 2 [],.p g,.p h,.p i,.p j,.p k,.p l,.p m])],[(0,some ⟨(.own 4 64 true [.leaf,.leaf,(.own 3 32 true []),(.own 3 32 true [])]),n⟩),(1,some ⟨(.own 1 24 true [(.own 3 32 true [])]),o⟩),(2,some ⟨(.own 1 16 false []),q⟩),(3,some ⟨(.own 3 32 true []),r⟩)],0,0,5⟩
def kA : Option R:=gX 207 1 0 10 [(0,.ptr 0 0),(1,.p a),(7,.ref 3 [])] ⟨[(0,some [.p b,.p c,.ref 0 [],.ref 1 [],.p d,.ref 2 [],.p e,.p f,.p g,.p h,.p i,.p j,.p k])],[(0,some ⟨(.own 4 64 true [.leaf,.leaf,(.own 3 32 true []),(.own 3 32 true [])]),l⟩),(1,some ⟨(.own 1 24 true [(.own 3 32 true [])]),m⟩),(2,some ⟨(.own 1 16 false []),n⟩),(3,some ⟨(.own 3 32 true []),o⟩)],0,0,5⟩
def nT : Option R:=bZ 214 [.ptr 0 0] ⟨[(0,some [.ptr 1 0,.ref 0 [],.p a,.p b,.p c,.p d]),(1,some [.p e,.p f,.p g])],[(0,some ⟨(.own 2 16 true []),h⟩)],0,0,3⟩
variable (a b c d e f g h i j k l m n o p q r s t u : PV)
theorem aFk : aDm a=bd (aGB a) λb=>PV.ite (hd b) (some [.bool true]) (bd (uG a) λc=>bd (PV.comp (hd c) 0) λd=>bd (PV.comp (hd c) 1) λe=>bd (PV.whole 2 d) λf=>bd (PV.cell f 0) λg=>bd (PV.cell f 1) λh=>bd (PV.whole 10 e) λi=>bd (PV.cell i 0) λj=>bd (PV.cell i 1) λk=>bd (PV.cell i 2) λl=>bd (PV.cell i 3) λm=>
 bd (PV.cell i 4) λn=>bd (PV.cell i 5) λo=>bd (PV.cell i 6) λp=>bd (PV.cell i 7) λq=>bd (PV.cell i 8) λr=>bd (PV.cell i 9) λs=>bd (yW (.agg [g,h]) (.agg [j,k,l,m,n,o,p,q,r,s])) λt=>PV.guardFlat (gd t 0) (PV.guardFlat (gd t 1) (PV.guardFlat (gd t 2) (PV.guardFlat (gd t 3) (PV.guardFlat (gd t 4) (PV.guardFlat (gd t 5) (PV.guardFlat (gd t 6) (
 PV.guardOwn (.own 4 64 true [.leaf,.leaf,(.own 3 32 true []),(.own 3 32 true [])]) (gd t 7) (PV.guardOwn (.own 1 24 true [(.own 3 32 true [])]) (gd t 8) (PV.guardOwn (.own 1 16 false []) (gd t 9) (bd (aCx (.agg [g,h]) (.agg [j,k,l,m,n,o,p,q,r,s])) λu=>PV.guardFlat (gd u 0) (PV.guardFlat (gd u 1) (PV.guardFlat (gd u 2) (PV.guardFlat (gd u 3) (PV.guardFlat (gd u 4) (PV.guardFlat (gd u 5) (
 PV.guardFlat (gd u 6) (PV.guardOwn (.own 4 64 true [.leaf,.leaf,(.own 3 32 true []),(.own 3 32 true [])]) (gd u 7) (PV.guardOwn (.own 1 24 true [(.own 3 32 true [])]) (gd u 8) (PV.guardOwn (.own 1 16 false []) (gd u 9) (bd (vP (.agg [(gd t 7),(gd t 8),(gd t 0),(gd t 9),(gd t 1),(gd t 2),(gd t 3),(gd t 4),(gd t 5),(gd t 6)]) (.agg [(gd u 7),(gd u 8),(gd u 0),(gd u 9),(gd u 1),(gd u 2),(gd u 3),(gd u 4),(gd u 5),(gd u 6)])) λv=>
 PV.guardFlat (hd v) (bd (PV.not (hd v)) λw=>PV.ite w (some [.bool false]) (bd (rG (.agg [g,h]) (.agg [j,k,l,m,n,o,p,q,r,s])) λx=>bd (PV.not (hd x)) λy=>PV.ite y (bd (PV.len (gd t 7)) λz=>bd (PV.bin .eql z (.int .i64 0)) λA=>some [A]) (bd (pM (.agg [g,h]) (.agg [(gd t 7),(gd t 8),(gd t 0),(gd t 9),(gd t 1),(gd t 2),(gd t 3),(gd t 4),(gd t 5),(gd t 6)])) λB=>
 PV.guardFlat (hd B) (PV.ite (hd B) (bd (aCu (.agg [g,h]) (.agg [j,k,l,m,n,o,p,q,r,s]) (.agg [(gd t 7),(gd t 8),(gd t 0),(gd t 9),(gd t 1),(gd t 2),(gd t 3),(gd t 4),(gd t 5),(gd t 6)])) λC=>PV.guardFlat (hd C) (PV.ite (hd C) (bd (yW (.agg [g,h]) (.agg [(gd t 7),(gd t 8),(gd t 0),(gd t 9),(gd t 1),(gd t 2),(gd t 3),(gd t 4),(gd t 5),(gd t 6)])) λD=>
 PV.guardFlat (gd D 0) (PV.guardFlat (gd D 1) (PV.guardFlat (gd D 2) (PV.guardFlat (gd D 3) (PV.guardFlat (gd D 4) (PV.guardFlat (gd D 5) (PV.guardFlat (gd D 6) (PV.guardOwn (.own 4 64 true [.leaf,.leaf,(.own 3 32 true []),(.own 3 32 true [])]) (gd D 7) (PV.guardOwn (.own 1 24 true [(.own 3 32 true [])]) (gd D 8) (PV.guardOwn (.own 1 16 false []) (gd D 9) (bd (vP (.agg [(gd D 7),(gd D 8),(gd D 0),(gd D 9),(gd D 1),(gd D 2),(gd D 3),(gd D 4),(gd D 5),(gd D 6)]) (.agg [(gd t 7),(gd t 8),(gd t 0),(gd t 9),(gd t 1),(gd t 2),(gd t 3),(gd t 4),(gd t 5),(gd t 6)])) λE=>
 PV.guardFlat (hd E) (PV.ite (hd E) (bd (PV.len (gd t 8)) λF=>bd (PV.len k) λG=>bd (PV.bin .leq F G) λH=>some [H]) (some [.bool false]))))))))))))) (some [.bool false]))) (some [.bool false])))))))))))))))))))))))))):=aY _ _ _ (by kernel_rfl)
theorem aKl : aGB a=bd (PV.len a) λb=>bd (PV.bin .gtr b (.int .i64 1048576)) λc=>some [c]:=aY _ _ _ (by kernel_rfl)
theorem aDp : uG a=bd (yX a) λb=>bd (rI (gd b 0) (gd b 1) (gd b 2)) λc=>bd (PV.whole 2 (gd c 0)) λd=>bd (PV.cell d 0) λe=>bd (PV.cell d 1) λf=>bd (uL e f (.int .i64 15) (gd c 1) (gd c 2) (gd c 3)) λg=>bd (PV.whole 10 (gd g 0)) λh=>bd (PV.cell h 0) λi=>bd (PV.cell h 1) λj=>bd (PV.cell h 2) λk=>
 bd (PV.cell h 3) λl=>bd (PV.cell h 4) λm=>bd (PV.cell h 5) λn=>bd (PV.cell h 6) λo=>bd (PV.cell h 7) λp=>bd (PV.cell h 8) λq=>bd (PV.cell h 9) λr=>bd (rG (.agg [e,f]) (.agg [i,j,k,l,m,n,o,p,q,r])) λs=>PV.ite (hd s) (bd (sP i j k l m n o p q r (gd g 1) (gd g 2) (gd g 3)) λt=>bd (PV.whole 10 (gd t 0)) λu=>bd (PV.cell u 0) λv=>
 bd (PV.cell u 1) λw=>bd (PV.cell u 2) λx=>bd (PV.cell u 3) λy=>bd (PV.cell u 4) λz=>bd (PV.cell u 5) λA=>bd (PV.cell u 6) λB=>bd (PV.cell u 7) λC=>bd (PV.cell u 8) λD=>bd (PV.cell u 9) λE=>some [(.tup [(.agg [e,f]),(.agg [v,w,x,y,z,A,B,C,D,E])])]) (some [(.tup [(.agg [e,f]),(.agg [i,j,k,l,m,n,o,p,q,r])])]):=aY _ _ _ (by kernel_rfl)
theorem aGD : vP a b=bd (PV.whole 10 a) λc=>bd (PV.cell c 0) λd=>bd (PV.cell c 1) λe=>bd (PV.cell c 2) λf=>bd (PV.cell c 3) λg=>bd (PV.cell c 4) λh=>bd (PV.cell c 5) λi=>bd (PV.cell c 6) λj=>bd (PV.cell c 7) λk=>bd (PV.cell c 8) λl=>bd (PV.cell c 9) λm=>bd (PV.whole 10 b) λn=>bd (PV.cell n 0) λo=>bd (PV.cell n 1) λp=>
 bd (PV.cell n 2) λq=>bd (PV.cell n 3) λr=>bd (PV.cell n 4) λs=>bd (PV.cell n 5) λt=>bd (PV.cell n 6) λu=>bd (PV.cell n 7) λv=>bd (PV.cell n 8) λw=>bd (PV.cell n 9) λx=>bd (PV.bin .neq f q) λy=>PV.ite y (some [.bool false]) (bd (PV.bin .neq h s) λz=>PV.ite z (some [.bool false]) (bd (PV.bin .neq i t) λA=>PV.ite A (some [.bool false]) (bd (PV.ceq [1,1,2] .neq (.agg [j,k,l]) (.agg [u,v,w])) λB=>
 PV.ite B (some [.bool false]) (bd (PV.bin .neq m x) λC=>PV.ite C (some [.bool false]) (bd (uH g r) λD=>bd (PV.not (hd D)) λE=>PV.ite E (some [.bool false]) (bd (PV.len e) λF=>bd (PV.len p) λG=>bd (PV.bin .neq F G) λH=>PV.ite H (some [.bool false]) (bd (PV.len d) λI=>bd (PV.len o) λJ=>bd (PV.bin .neq I J) λK=>PV.ite K (some [.bool false]) (pZ (.int .i64 0) d e f g h i j k l m o p q r s t u v w x)))))))):=aY _ _ _ (by kernel_rfl)
theorem vW : pZ a b c d e f g h i j k l m n o p q r s t u=bd (PV.len c) λv=>bd (PV.bin .lss a v) λw=>PV.ite w (bd (PV.at_ 1 true c a) λx=>bd (PV.cell x 0) λy=>bd (PV.at_ 1 true m a) λz=>bd (PV.cell z 0) λA=>bd (lX y A) λB=>bd (PV.not (hd B)) λC=>PV.ite C (some [.bool false]) (bd (PV.bin .add a (.int .i64 1)) λD=>
 pZ D b c d e f g h i j k l m n o p q r s t u)) (mX (.int .i64 0) b c d e f g h i j k l m n o p q r s t u):=aW _ _ _ _ _ _ _ _ (by kernel_rfl)
theorem vX : mX a b c d e f g h i j k l m n o p q r s t u=bd (PV.len b) λv=>bd (PV.bin .lss a v) λw=>PV.ite w (bd (PV.at_ 4 true b a) λx=>bd (PV.whole 4 x) λy=>bd (PV.cell y 0) λz=>bd (PV.cell y 1) λA=>bd (PV.cell y 2) λB=>bd (PV.cell y 3) λC=>bd (PV.at_ 4 true l a) λD=>bd (PV.whole 4 D) λE=>bd (PV.cell E 0) λF=>bd (PV.cell E 1) λG=>
 bd (PV.cell E 2) λH=>bd (PV.cell E 3) λI=>bd (PV.bin .neq z F) λJ=>PV.ite J (some [.bool false]) (bd (PV.bin .neq A G) λK=>PV.ite K (some [.bool false]) (bd (lX B H) λL=>bd (PV.not (hd L)) λM=>PV.ite M (some [.bool false]) (bd (lX C I) λN=>bd (PV.not (hd N)) λO=>PV.ite O (some [.bool false]) (bd (PV.bin .add a (.int .i64 1)) λP=>
 mX P b c d e f g h i j k l m n o p q r s t u))))) (some [.bool true]):=aW _ _ _ _ _ _ _ _ (by kernel_rfl)
theorem aDq : rG a b=bd (PV.whole 2 a) λc=>bd (PV.cell c 0) λd=>bd (PV.cell c 1) λe=>bd (PV.whole 10 b) λf=>bd (PV.cell f 0) λg=>bd (PV.cell f 1) λh=>bd (PV.cell f 2) λi=>bd (PV.cell f 3) λj=>bd (PV.cell f 4) λk=>bd (PV.cell f 5) λl=>bd (PV.cell f 6) λm=>bd (PV.cell f 7) λn=>bd (PV.cell f 8) λo=>bd (PV.cell f 9) λp=>
 bd (qA (.agg [d,e])) λq=>PV.ite (hd q) (bd (aDn (.agg [d,e]) (.agg [g,h,i,j,k,l,m,n,o,p])) λr=>some [(hd r)]) (some [.bool false]):=aY _ _ _ (by kernel_rfl)
theorem aDr : pM a b=bd (PV.whole 2 a) λc=>bd (PV.cell c 0) λd=>bd (PV.cell c 1) λe=>bd (PV.whole 10 b) λf=>bd (PV.cell f 0) λg=>bd (PV.cell f 1) λh=>bd (PV.cell f 2) λi=>bd (PV.cell f 3) λj=>bd (PV.cell f 4) λk=>bd (PV.cell f 5) λl=>bd (PV.cell f 6) λm=>bd (PV.cell f 7) λn=>bd (PV.cell f 8) λo=>bd (PV.cell f 9) λp=>
 bd (aAN (.agg [d,e])) λq=>PV.ite (hd q) (bd (yV (.agg [d,e])) λr=>bd (aIf (.agg [d,e]) (hd r) (.agg [g,h,i,j,k,l,m,n,o,p])) λs=>some [(hd s)]) (some [.bool false]):=aY _ _ _ (by kernel_rfl)
theorem aHB : aCu a b c=bd (PV.whole 2 a) λd=>bd (PV.cell d 0) λe=>bd (PV.cell d 1) λf=>bd (PV.whole 10 b) λg=>bd (PV.cell g 0) λh=>bd (PV.cell g 1) λi=>bd (PV.cell g 2) λj=>bd (PV.cell g 3) λk=>bd (PV.cell g 4) λl=>bd (PV.cell g 5) λm=>bd (PV.cell g 6) λn=>bd (PV.cell g 7) λo=>bd (PV.cell g 8) λp=>bd (PV.cell g 9) λq=>
 bd (PV.whole 10 c) λr=>bd (PV.cell r 0) λs=>bd (PV.cell r 1) λt=>bd (PV.cell r 2) λu=>bd (PV.cell r 3) λv=>bd (PV.cell r 4) λw=>bd (PV.cell r 5) λx=>bd (PV.cell r 6) λy=>bd (PV.cell r 7) λz=>bd (PV.cell r 8) λA=>bd (PV.cell r 9) λB=>bd (pM (.agg [e,f]) (.agg [h,i,j,k,l,m,n,o,p,q])) λC=>PV.ite (hd C) (bd (pM (.agg [e,f]) (.agg [s,t,u,v,w,x,y,z,A,B])) λD=>
 PV.ite (hd D) (bd (uM (.agg [h,i,j,k,l,m,n,o,p,q])) λE=>PV.guardFlat (gd E 0) (PV.guardFlat (gd E 1) (PV.guardFlat (gd E 2) (PV.guardFlat (gd E 3) (PV.guardFlat (gd E 4) (PV.guardFlat (gd E 5) (PV.guardFlat (gd E 6) (PV.guardOwn (.own 4 64 true [.leaf,.leaf,(.own 3 32 true []),(.own 3 32 true [])]) (gd E 7) (PV.guardOwn (.own 1 24 true [(.own 3 32 true [])]) (gd E 8) (
 PV.guardOwn (.own 1 16 false []) (gd E 9) (bd (uM (.agg [s,t,u,v,w,x,y,z,A,B])) λF=>PV.guardFlat (gd F 0) (PV.guardFlat (gd F 1) (PV.guardFlat (gd F 2) (PV.guardFlat (gd F 3) (PV.guardFlat (gd F 4) (PV.guardFlat (gd F 5) (PV.guardFlat (gd F 6) (PV.guardOwn (.own 4 64 true [.leaf,.leaf,(.own 3 32 true []),(.own 3 32 true [])]) (gd F 7) (PV.guardOwn (.own 1 24 true [(.own 3 32 true [])]) (gd F 8) (
 PV.guardOwn (.own 1 16 false []) (gd F 9) (bd (aAO (.agg [(gd E 7),(gd E 8),(gd E 0),(gd E 9),(gd E 1),(gd E 2),(gd E 3),(gd E 4),(gd E 5),(gd E 6)]) (.agg [(gd F 7),(gd F 8),(gd F 0),(gd F 9),(gd F 1),(gd F 2),(gd F 3),(gd F 4),(gd F 5),(gd F 6)])) λG=>PV.guardFlat (hd G) (some [(hd G)])))))))))))))))))))))) (some [.bool false])) (some [.bool false]):=aY _ _ _ (by kernel_rfl)
theorem aDs : uH a b=bd (PV.len a) λc=>bd (PV.len b) λd=>bd (PV.bin .neq c d) λe=>PV.ite e (some [.bool false]) (mJ a b (.int .i64 0)):=aY _ _ _ (by kernel_rfl)
theorem rZ : mJ a b c=bd (PV.len a) λd=>bd (PV.bin .lss c d) λe=>PV.ite e (bd (PV.at_ 1 false a c) λf=>bd (PV.at_ 1 false b c) λg=>bd (PV.bin .neq f g) λh=>PV.ite h (some [.bool false]) (bd (PV.bin .add c (.int .i64 1)) λi=>mJ a b i)) (some [.bool true]):=aW _ _ _ _ _ _ _ _ (by kernel_rfl)
theorem aCD : lX a b=bd (PV.len a) λc=>bd (PV.len b) λd=>bd (PV.bin .neq c d) λe=>PV.ite e (some [.bool false]) (lO a b (.int .i64 0)):=aY _ _ _ (by kernel_rfl)
theorem qT : lO a b c=bd (PV.len a) λd=>bd (PV.bin .lss c d) λe=>PV.ite e (bd (PV.at_ 3 true a c) λf=>bd (PV.at_ 3 true b c) λg=>bd (PV.whole 3 f) λh=>bd (PV.cell h 0) λi=>bd (PV.cell h 1) λj=>bd (PV.cell h 2) λk=>bd (PV.whole 3 g) λl=>bd (PV.cell l 0) λm=>bd (PV.cell l 1) λn=>bd (PV.cell l 2) λo=>bd (PV.ceq [1,1,2] .neq (.agg [i,j,k]) (.agg [m,n,o])) λp=>
 PV.ite p (some [.bool false]) (bd (PV.bin .add c (.int .i64 1)) λq=>lO a b q)) (some [.bool true]):=aW _ _ _ _ _ _ _ _ (by kernel_rfl)
theorem aFl : qA a=bd (PV.whole 2 a) λb=>bd (PV.cell b 0) λc=>bd (PV.cell b 1) λd=>bd (aAP (.agg [c,d])) λe=>bd (PV.cell (hd e) 0) λf=>bd (PV.bin .eql f (.int .i64 0)) λg=>some [g]:=aY _ _ _ (by kernel_rfl)
theorem aAc : aDn a b=bd (PV.whole 2 a) λc=>bd (PV.cell c 0) λd=>bd (PV.cell c 1) λe=>bd (PV.whole 10 b) λf=>bd (PV.cell f 0) λg=>bd (PV.cell f 1) λh=>bd (PV.cell f 2) λi=>bd (PV.cell f 3) λj=>bd (PV.cell f 4) λk=>bd (PV.cell f 5) λl=>bd (PV.cell f 6) λm=>bd (PV.cell f 7) λn=>bd (PV.cell f 8) λo=>bd (PV.cell f 9) λp=>
 bd (PV.len h) λq=>bd (PV.bin .gtr q (.int .i64 120)) λr=>PV.ite r (some [.bool false]) (bd (aM i q (.int .i64 120)) λs=>bd (PV.not (hd s)) λt=>PV.ite t (some [.bool false]) (bd (PV.len j) λu=>bd (PV.bin .gtr u (.int .i64 200)) λv=>PV.ite v (some [.bool false]) (bd (aM p (.int .i64 0) (.int .i64 50000)) λw=>bd (PV.not (hd w)) λx=>PV.ite x
 (some [.bool false]) (bd (uI (.agg [d,e]) (.agg [m,n,o]) q) λy=>bd (PV.not (hd y)) λz=>PV.ite z (some [.bool false]) (jO q (.int .i64 0) d e g h i j k l m n o p))))):=aY _ _ _ (by kernel_rfl)
theorem lT : jO a b c d e f g h i j k l m n=bd (PV.bin .lss b a) λo=>PV.ite o (bd (PV.at_ 1 true f b) λp=>bd (PV.cell p 0) λq=>bd (PV.len q) λr=>bd (PV.bin .gtr r (.int .i64 6)) λs=>PV.ite s (some [.bool false]) (bd (PV.at_ 1 true f b) λt=>bd (PV.cell t 0) λu=>bd (lC (.agg [c,d]) u a) λv=>bd (PV.not (hd v)) λw=>
 PV.ite w (some [.bool false]) (bd (PV.bin .add b (.int .i64 1)) λx=>jO a x c d e f g h i j k l m n))) (fK a (.int .i64 0) c d e f g h i j k l m n):=aW _ _ _ _ _ _ _ _ (by kernel_rfl)
theorem kS : fK a b c d e f g h i j k l m n=bd (PV.len h) λo=>bd (PV.bin .lss b o) λp=>PV.ite p (bd (PV.at_ 1 false h b) λq=>bd (nM q) λr=>bd (PV.not (hd r)) λs=>PV.ite s (some [.bool false]) (bd (PV.bin .add b (.int .i64 1)) λt=>fK a t c d e f g h i j k l m n)) (bd (PV.bin .eql i (.int .i64 1)) λu=>PV.ite u
 (bd (PV.len e) λv=>bd (PV.bin .eql v (.int .i64 0)) λw=>PV.ite w (bd (PV.bin .eql j (.int .i64 0)) λx=>some [x]) (some [.bool false])) (bd (PV.bin .neq i (.int .i64 0)) λy=>PV.ite y (bd (PV.bin .neq i (.int .i64 2)) λz=>PV.ite z (some [.bool false]) (bd (PV.ceq [1,1,2] .neq (.agg [k,l,m]) (.agg [(.int .i64 0),(.int .i64 0),(.str (bs []))])) λA=>PV.ite A (some [.bool false])
 (bd (PV.len e) λB=>bd (aM B (.int .i64 1) (.int .i64 24)) λC=>bd (PV.not (hd C)) λD=>PV.ite D (some [.bool false]) (bd (PV.bin .eql i (.int .i64 0)) λE=>PV.ite E (bd (PV.bin .neq j (.int .i64 0)) λF=>PV.ite F (some [.bool false]) (bd (PV.bin .eql i (.int .i64 2)) λG=>PV.ite G (bd (aM j (.int .i64 1) (.int .i64 8)) λH=>bd (PV.not (hd H)) λI=>
 PV.ite I (some [.bool false]) (bO a (.int .i64 0) c d e f g h i j k l m n)) (bO a (.int .i64 0) c d e f g h i j k l m n))) (bd (PV.bin .eql i (.int .i64 2)) λJ=>PV.ite J (bd (aM j (.int .i64 1) (.int .i64 8)) λK=>bd (PV.not (hd K)) λL=>PV.ite L (some [.bool false]) (bO a (.int .i64 0) c d e f g h i j k l m n)) (bO a (.int .i64 0) c d e f g h i j k l m n))))))
 (bd (PV.ceq [1,1,2] .neq (.agg [k,l,m]) (.agg [(.int .i64 0),(.int .i64 0),(.str (bs []))])) λM=>PV.ite M (some [.bool false]) (bd (PV.len e) λN=>bd (aM N (.int .i64 1) (.int .i64 24)) λO=>bd (PV.not (hd O)) λP=>PV.ite P (some [.bool false]) (bd (PV.bin .eql i (.int .i64 0)) λQ=>PV.ite Q (bd (PV.bin .neq j (.int .i64 0)) λR=>PV.ite R (some [.bool false])
 (bd (PV.bin .eql i (.int .i64 2)) λS=>PV.ite S (bd (aM j (.int .i64 1) (.int .i64 8)) λT=>bd (PV.not (hd T)) λU=>PV.ite U (some [.bool false]) (bO a (.int .i64 0) c d e f g h i j k l m n)) (bO a (.int .i64 0) c d e f g h i j k l m n))) (bd (PV.bin .eql i (.int .i64 2)) λV=>PV.ite V (bd (aM j (.int .i64 1) (.int .i64 8)) λW=>
 bd (PV.not (hd W)) λX=>PV.ite X (some [.bool false]) (bO a (.int .i64 0) c d e f g h i j k l m n)) (bO a (.int .i64 0) c d e f g h i j k l m n))))))):=aW _ _ _ _ _ _ _ _ (by kernel_rfl)
theorem kT : bO a b c d e f g h i j k l m n=bd (PV.len e) λo=>bd (PV.bin .lss b o) λp=>PV.ite p (bd (PV.at_ 4 true e b) λq=>bd (PV.len e) λr=>bd (PV.bin .sub r (.int .i64 1)) λs=>bd (PV.bin .eql b s) λt=>bd (oW (.agg [c,d]) q a t) λu=>bd (PV.not (hd u)) λv=>PV.ite v (some [.bool false]) (bd (PV.bin .add b (.int .i64 1)) λw=>
 bO a w c d e f g h i j k l m n)) (some [.bool true]):=aW _ _ _ _ _ _ _ _ (by kernel_rfl)
theorem aGE : aAN a=bd (PV.whole 2 a) λb=>bd (PV.cell b 0) λc=>bd (PV.cell b 1) λd=>bd (aAQ (.agg [c,d])) λe=>bd (PV.whole 3 (hd e)) λf=>bd (PV.cell f 0) λg=>bd (PV.cell f 1) λh=>bd (PV.cell f 2) λi=>bd (PV.ceq [1,1,1] .eql (.agg [g,h,i]) (.agg [(.int .i64 0),(.int .i64 0),(.int .i64 0)])) λj=>some [j]:=aY _ _ _ (by kernel_rfl)
variable (a b c d e f g h i j k l m n o p q : PV)
theorem aFm : yV a=bd (PV.whole 2 a) λb=>bd (PV.cell b 0) λc=>bd (PV.cell b 1) λd=>bd (PV.len d) λe=>lY e (.int .i64 0) c d (.lst []):=aY _ _ _ (by kernel_rfl)
theorem uP : lY a b c d e=bd (PV.bin .lss b a) λf=>PV.ite f (bd (vQ (.agg [c,d]) b) λg=>bd (PV.cat 1 24 false (.lst []) (.lst [(hd g)])) λh=>bd (PV.cat 1 24 false e h) λi=>bd (PV.bin .add b (.int .i64 1)) λj=>lY a j c d i) (some [e]):=aW _ _ _ _ _ _ _ _ (by kernel_rfl)
theorem aDt : aIf a b c=bd (PV.whole 2 a) λd=>bd (PV.cell d 0) λe=>bd (PV.cell d 1) λf=>bd (PV.whole 10 c) λg=>bd (PV.cell g 0) λh=>bd (PV.cell g 1) λi=>bd (PV.cell g 2) λj=>bd (PV.cell g 3) λk=>bd (PV.cell g 4) λl=>bd (PV.cell g 5) λm=>bd (PV.cell g 6) λn=>bd (PV.cell g 7) λo=>bd (PV.cell g 8) λp=>bd (PV.cell g 9) λq=>
 bd (vR i) λr=>bd (PV.not (hd r)) λs=>PV.ite s (some [.bool false]) (bd (PV.len i) λt=>bd (cH j t (.int .i64 120)) λu=>bd (PV.not (hd u)) λv=>PV.ite v (some [.bool false]) (bd (PV.len k) λw=>bd (PV.bin .gtr w (.int .i64 200)) λx=>PV.ite x (some [.bool false]) (bd (cH q (.int .i64 0) (.int .i64 50000)) λy=>bd (PV.not (hd y)) λz=>
 PV.ite z (some [.bool false]) (bd (dU k (.fn 119 [])) λA=>PV.ite (hd A) (some [.bool false]) (bd (qC h i j k l m n o p q (.bool true) e f h i j k l m n o p q) λB=>bd (PV.len (gd B 3)) λC=>jV b (gd B 3) C (.int .i64 0) (gd B 1) (gd B 2) (gd B 3) (gd B 4) (gd B 5) (gd B 6) (gd B 7) (gd B 8) (gd B 9) (gd B 10) (gd B 11) (gd B 12) (gd B 0)))))):=aY _ _ _ (by kernel_rfl)
theorem pB : jV a b c d e f g h i j k l m n o p q=bd (PV.bin .lss d c) λr=>PV.ite r (bd (PV.at_ 4 true b d) λs=>bd (PV.whole 4 s) λt=>bd (PV.cell t 0) λu=>bd (PV.cell t 1) λv=>bd (PV.cell t 2) λw=>bd (PV.cell t 3) λx=>PV.ite q (bd (PV.len w) λy=>bd (PV.len x) λz=>bd (PV.len g) λA=>bd (PV.bin .sub A (.int .i64 1)) λB=>bd (PV.bin .eql d B) λC=>
 bd (tG (.agg [e,f]) a u v y z C) λD=>bd (PV.one (hd D)) λE=>bd (PV.bin .add d (.int .i64 1)) λF=>jV a b c F e f g h i j k l m n o p E) (bd (PV.bin .add d (.int .i64 1)) λG=>jV a b c G e f g h i j k l m n o p (.bool false))) (bd (PV.len g) λH=>bd (cH H (.int .i64 1) (.int .i64 24)) λI=>PV.ite (hd I) (bd (PV.ceq [1,1,2] .eql (.agg [m,n,o]) (.agg [(.int .i64 0),(.int .i64 0),(.str (bs []))])) λJ=>
 bd (PV.bin .eql k (.int .i64 0)) λK=>PV.ite K (PV.ite q (PV.ite J (bd (PV.bin .eql l (.int .i64 0)) λL=>some [L]) (some [.bool false])) (some [.bool false])) (bd (PV.bin .eql k (.int .i64 2)) λM=>PV.ite M (PV.ite q (PV.ite J (bd (cH l (.int .i64 1) (.int .i64 8)) λN=>some [(hd N)]) (some [.bool false])) (some [.bool false])) (bd (PV.bin .eql k (.int .i64 1)) λO=>PV.ite O
 (PV.ite q (bd (PV.len g) λP=>bd (PV.bin .eql P (.int .i64 0)) λQ=>PV.ite Q (bd (PV.bin .eql l (.int .i64 0)) λR=>some [R]) (some [.bool false])) (some [.bool false])) (some [.bool false])))) (bd (PV.bin .eql k (.int .i64 0)) λS=>PV.ite S (PV.ite q (some [.bool false]) (some [.bool false])) (bd (PV.bin .eql k (.int .i64 2)) λT=>PV.ite T (PV.ite q (some [.bool false]) (some [.bool false]))
 (bd (PV.bin .eql k (.int .i64 1)) λU=>PV.ite U (PV.ite q (bd (PV.len g) λV=>bd (PV.bin .eql V (.int .i64 0)) λW=>PV.ite W (bd (PV.bin .eql l (.int .i64 0)) λX=>some [X]) (some [.bool false])) (some [.bool false])) (some [.bool false]))))):=aW _ _ _ _ _ _ _ _ (by kernel_rfl)
theorem aGF : aAO a b=bd (PV.whole 10 a) λc=>bd (PV.cell c 0) λd=>bd (PV.cell c 1) λe=>bd (PV.cell c 2) λf=>bd (PV.cell c 3) λg=>bd (PV.cell c 4) λh=>bd (PV.cell c 5) λi=>bd (PV.cell c 6) λj=>bd (PV.cell c 7) λk=>bd (PV.cell c 8) λl=>bd (PV.cell c 9) λm=>bd (PV.whole 10 b) λn=>bd (PV.cell n 0) λo=>bd (PV.cell n 1) λp=>
 bd (PV.cell n 2) λq=>bd (PV.cell n 3) λr=>bd (PV.cell n 4) λs=>bd (PV.cell n 5) λt=>bd (PV.cell n 6) λu=>bd (PV.cell n 7) λv=>bd (PV.cell n 8) λw=>bd (PV.cell n 9) λx=>bd (cB d o (.fn 125 [])) λy=>PV.ite (hd y) (bd (cL e p (.fn 127 [])) λz=>PV.ite (hd z)
 (bd (PV.bin .eql f q) λA=>PV.ite A (bd (iZ g r) λB=>PV.ite (hd B) (bd (PV.bin .eql h s) λC=>PV.ite C (bd (PV.bin .eql i t) λD=>PV.ite D (bd (PV.ceq [1,1,2] .eql (.agg [j,k,l]) (.agg [u,v,w])) λE=>PV.ite E (bd (PV.bin .eql m x) λF=>some [F]) (some [.bool false])) (some [.bool false])) (some [.bool false])) (some [.bool false])) (some [.bool false]))
 (some [.bool false])) (some [.bool false]):=aY _ _ _ (by kernel_rfl)
theorem aGG : aAP a=bd (PV.whole 2 a) λb=>bd (PV.cell b 0) λc=>bd (PV.cell b 1) λd=>bd (wS (.agg [c,d])) λe=>bd (PV.not (hd e)) λf=>PV.ite f (some [(.agg [(.int .i64 1),(.int .i64 0),(.int .i64 0)])]) (mY (.int .i64 0) c d (.int .i64 0) (.int .i64 0) (.int .i64 0)):=aY _ _ _ (by kernel_rfl)
theorem vY : mY a b c d e f=bd (PV.len c) λg=>bd (PV.bin .lss a g) λh=>PV.ite h (bd (PV.at_ 3 true c a) λi=>bd (PV.cell i 2) λj=>bd (lE (.agg [b,c]) a) λk=>lB a j (hd k) (.int .i64 0) b c d e f) (some [(.agg [(.int .i64 0),(.int .i64 0),(.int .i64 0)])]):=aW _ _ _ _ _ _ _ _ (by kernel_rfl)
theorem vZ : lB a b c d e f g h i=bd (PV.len b) λj=>bd (PV.bin .lss d j) λk=>PV.ite k (bd (PV.at_ 1 false c d) λl=>bd (PV.bin .lss l (.int .i64 0)) λm=>PV.ite m (bd (PV.bin .add d (.int .i64 1)) λn=>lB a b c n e f g h i) (bd (PV.at_ 2 true b d) λo=>bd (vS (.agg [e,f]) o) λp=>bd (PV.comp (hd p) 0) λq=>bd (PV.comp (hd p) 1) λr=>
 bd (PV.at_ 1 false c d) λs=>bd (PV.bin .sub s q) λt=>bd (PV.bin .add t r) λu=>bd (PV.at_ 1 false c d) λv=>bd (PV.bin .lss v q) λw=>PV.ite w (bd (PV.one a) λx=>bd (PV.one d) λy=>some [(.agg [(.int .i64 2),x,y])]) (bd (PV.bin .gtr u (.int .i64 16)) λz=>PV.ite z (bd (PV.one a) λA=>bd (PV.one d) λB=>some [(.agg [(.int .i64 2),A,B])]) (bd (PV.at_ 2 true b d) λC=>
 bd (tH C d) λD=>lZ a b c d u (hd D) (.int .i64 0) e f g h i)))) (bd (PV.bin .add a (.int .i64 1)) λE=>mY E e f g h i):=aW _ _ _ _ _ _ _ _ (by kernel_rfl)
theorem uQ : lZ a b c d e f g h i j k l=bd (PV.len f) λm=>bd (PV.bin .lss g m) λn=>PV.ite n (bd (PV.at_ 1 false f g) λo=>bd (PV.len b) λp=>bd (PV.bin .geq o p) λq=>PV.ite q (bd (PV.one a) λr=>bd (PV.one d) λs=>some [(.agg [(.int .i64 3),r,s])]) (bd (PV.bin .add g (.int .i64 1)) λt=>lZ a b c d e f t h i j k l)) (jP a b c d e f (.int .i64 0) h i j k l):=aW _ _ _ _ _ _ _ _ (by kernel_rfl)
theorem uR : jP a b c d e f g h i j k l=bd (PV.len f) λm=>bd (PV.bin .lss g m) λn=>PV.ite n (bd (PV.at_ 1 false f g) λo=>bd (PV.at_ 1 false c o) λp=>bd (PV.bin .neq p e) λq=>PV.ite q (bd (PV.one a) λr=>bd (PV.one d) λs=>some [(.agg [(.int .i64 4),r,s])]) (bd (PV.bin .add g (.int .i64 1)) λt=>jP a b c d e f t h i j k l))
 (bd (PV.bin .add d (.int .i64 1)) λu=>lB a b c u h i j k l):=aW _ _ _ _ _ _ _ _ (by kernel_rfl)
theorem aCE : aM a b c=bd (PV.bin .geq a b) λd=>PV.ite d (bd (PV.bin .leq a c) λe=>some [e]) (some [.bool false]):=aY _ _ _ (by kernel_rfl)
theorem aHC : uI a b c=bd (PV.whole 2 a) λd=>bd (PV.cell d 0) λe=>bd (PV.cell d 1) λf=>bd (PV.whole 3 b) λg=>bd (PV.cell g 0) λh=>bd (PV.cell g 1) λi=>bd (PV.cell g 2) λj=>bd (PV.bin .neq h (.int .i64 3)) λk=>PV.ite k (bd (PV.bin .neq j (.str (bs []))) λl=>PV.ite l (some [.bool false]) (bd (PV.bin .eql h (.int .i64 0)) λm=>PV.ite m
 (bd (PV.bin .eql i (.int .i64 0)) λn=>some [n]) (bd (PV.bin .eql h (.int .i64 1)) λo=>PV.ite o (bd (iS i) λp=>some [(hd p)]) (bd (PV.bin .eql h (.int .i64 2)) λq=>PV.ite q (bd (aM i (.int .i64 0) (.int .i64 1)) λr=>some [(hd r)]) (bd (PV.bin .eql h (.int .i64 3)) λs=>PV.ite s (bd (PV.bin .eql i (.int .i64 0)) λt=>PV.ite t (bd (nM j) λu=>
 some [(hd u)]) (some [.bool false])) (bd (PV.bin .eql h (.int .i64 4)) λv=>PV.ite v (bd (PV.bin .geq i (.int .i64 0)) λw=>PV.ite w (bd (PV.bin .lss i c) λx=>some [x]) (some [.bool false])) (bd (PV.bin .eql h (.int .i64 5)) λy=>PV.ite y (bd (PV.len f) λz=>bd (PV.bin .sub z (.int .i64 1)) λA=>bd (aM i (.int .i64 0) A) λB=>some [(hd B)]) (some [.bool false]))))))))
 (bd (PV.bin .eql h (.int .i64 0)) λC=>PV.ite C (bd (PV.bin .eql i (.int .i64 0)) λD=>some [D]) (bd (PV.bin .eql h (.int .i64 1)) λE=>PV.ite E (bd (iS i) λF=>some [(hd F)]) (bd (PV.bin .eql h (.int .i64 2)) λG=>PV.ite G (bd (aM i (.int .i64 0) (.int .i64 1)) λH=>some [(hd H)]) (bd (PV.bin .eql h (.int .i64 3)) λI=>PV.ite I (bd (PV.bin .eql i (.int .i64 0)) λJ=>
 PV.ite J (bd (nM j) λK=>some [(hd K)]) (some [.bool false])) (bd (PV.bin .eql h (.int .i64 4)) λL=>PV.ite L (bd (PV.bin .geq i (.int .i64 0)) λM=>PV.ite M (bd (PV.bin .lss i c) λN=>some [N]) (some [.bool false])) (bd (PV.bin .eql h (.int .i64 5)) λO=>PV.ite O (bd (PV.len f) λP=>bd (PV.bin .sub P (.int .i64 1)) λQ=>bd (aM i (.int .i64 0) Q) λR=>
 some [(hd R)]) (some [.bool false]))))))):=aY _ _ _ (by kernel_rfl)
theorem wA : lC a b c=bd (PV.whole 2 a) λd=>bd (PV.cell d 0) λe=>bd (PV.cell d 1) λf=>jW b c (.int .i64 0) e f:=aY _ _ _ (by kernel_rfl)
theorem kB : jW a b c d e=bd (PV.len a) λf=>bd (PV.bin .lss c f) λg=>PV.ite g (bd (PV.at_ 3 true a c) λh=>bd (uI (.agg [d,e]) h b) λi=>bd (PV.not (hd i)) λj=>PV.ite j (some [.bool false]) (bd (PV.bin .add c (.int .i64 1)) λk=>jW a b k d e)) (some [.bool true]):=aW _ _ _ _ _ _ _ _ (by kernel_rfl)
theorem aFn : nM a=bd (PV.slen a) λb=>bd (PV.bin .gtr b (.int .i64 60)) λc=>PV.ite c (some [.bool false]) (oV a (.int .i64 0)):=aY _ _ _ (by kernel_rfl)
theorem uS : oV a b=bd (PV.slen a) λc=>bd (PV.bin .lss b c) λd=>PV.ite d (bd (PV.chr a b) λe=>bd (PV.bin .lss e (.int .u8 32)) λf=>PV.ite f (some [.bool false]) (bd (PV.chr a b) λg=>bd (PV.bin .gtr g (.int .u8 126)) λh=>PV.ite h (some [.bool false]) (bd (PV.chr a b) λi=>bd (PV.bin .eql i (.int .u8 34)) λj=>PV.ite j (some [.bool false])
 (bd (PV.bin .add b (.int .i64 1)) λk=>oV a k)))) (some [.bool true]):=aW _ _ _ _ _ _ _ _ (by kernel_rfl)
theorem uT : oW a b c d=bd (PV.whole 2 a) λe=>bd (PV.cell e 0) λf=>bd (PV.cell e 1) λg=>bd (PV.whole 4 b) λh=>bd (PV.cell h 0) λi=>bd (PV.cell h 1) λj=>bd (PV.cell h 2) λk=>bd (PV.cell h 3) λl=>bd (PV.len g) λm=>bd (PV.bin .sub m (.int .i64 1)) λn=>bd (aM i (.int .i64 0) n) λo=>bd (PV.not (hd o)) λp=>
 PV.ite p (some [.bool false]) (bd (PV.at_ 3 true g i) λq=>bd (PV.whole 3 q) λr=>bd (PV.cell r 0) λs=>bd (PV.cell r 1) λt=>bd (PV.cell r 2) λu=>bd (lE (.agg [f,g]) i) λv=>bd (PV.len k) λw=>bd (PV.bin .neq w t) λx=>PV.ite x (some [.bool false]) (bd (PV.len u) λy=>bd (PV.bin .sub y (.int .i64 1)) λz=>bd (aM j (.int .i64 0) z) λA=>
 bd (PV.not (hd A)) λB=>PV.ite B (some [.bool false]) (bd (PV.at_ 1 false (hd v) j) λC=>bd (PV.bin .lss C (.int .i64 0)) λD=>PV.ite D (some [.bool false]) (bd (lC (.agg [f,g]) k c) λE=>bd (PV.not (hd E)) λF=>PV.ite F (some [.bool false]) (bd (lC (.agg [f,g]) l c) λG=>bd (PV.not (hd G)) λH=>PV.ite H (some [.bool false]) (PV.ite d (bd (PV.len l) λI=>
 bd (PV.at_ 1 false (hd v) j) λJ=>bd (PV.bin .eql I J) λK=>some [K]) (bd (PV.bin .lss j (.int .i64 1)) λL=>PV.ite L (some [.bool false]) (bd (PV.bin .sub j (.int .i64 1)) λM=>bd (PV.at_ 1 false (hd v) M) λN=>bd (PV.bin .lss N (.int .i64 0)) λO=>PV.ite O (some [.bool false]) (bd (PV.bin .sub j (.int .i64 1)) λP=>bd (PV.at_ 2 true u P) λQ=>bd (PV.cell Q 0) λR=>
 bd (PV.bin .eql R (.int .i64 23)) λS=>PV.ite S (bd (PV.len l) λT=>bd (PV.at_ 1 false (hd v) j) λU=>bd (PV.bin .sub U (.int .i64 1)) λV=>bd (PV.bin .eql T V) λW=>some [W]) (bd (PV.bin .eql R (.int .i64 24)) λX=>PV.ite X (bd (PV.len l) λY=>bd (PV.at_ 1 false (hd v) j) λZ=>bd (PV.bin .sub Z (.int .i64 1)) λaa=>bd (PV.bin .eql Y aa) λab=>some [ab]) (some [.bool false]))))))))))):=aY _ _ _ (by kernel_rfl)
theorem aGH : aAQ a=bd (PV.whole 2 a) λb=>bd (PV.cell b 0) λc=>bd (PV.cell b 1) λd=>bd (wU (.agg [c,d])) λe=>bd (PV.not (hd e)) λf=>PV.ite f (some [(.agg [(.int .i64 1),(.int .i64 0),(.int .i64 0)])]) (bd (PV.len d) λg=>mZ g (.int .i64 0) c d (.int .i64 0) (.int .i64 0) (.int .i64 0)):=aY _ _ _ (by kernel_rfl)
theorem wC : mZ a b c d e f g=bd (PV.bin .lss b a) λh=>PV.ite h (bd (vQ (.agg [c,d]) b) λi=>bd (PV.one (hd i)) λj=>bd (PV.at_ 3 true d b) λk=>bd (PV.cell k 2) λl=>bd (PV.len l) λm=>nB b a b l m (.int .i64 0) c d e f g j) (some [(.agg [(.int .i64 0),(.int .i64 0),(.int .i64 0)])]):=aW _ _ _ _ _ _ _ _ (by kernel_rfl)
theorem wD : nB a b c d e f g h i j k l=bd (PV.bin .lss f e) λm=>PV.ite m (bd (PV.at_ 2 true d f) λn=>bd (PV.whole 2 n) λo=>bd (PV.cell o 0) λp=>bd (PV.cell o 1) λq=>bd (PV.at_ 1 false l f) λr=>bd (PV.bin .lss r (.int .i64 0)) λs=>PV.ite s (bd (PV.bin .add f (.int .i64 1)) λt=>nB a b c d e t g h i j k l) (bd (PV.at_ 1 false l f) λu=>
 bd (vT (.agg [g,h]) (.agg [p,q]) u) λv=>bd (PV.comp (hd v) 0) λw=>bd (PV.comp (hd v) 1) λx=>bd (PV.one w) λy=>bd (PV.not x) λz=>PV.ite z (bd (PV.one a) λA=>bd (PV.one f) λB=>some [(.agg [(.int .i64 2),A,B])]) (bd (tI (.agg [p,q]) f) λC=>bd (PV.len l) λD=>bd (fL (hd C) D) λE=>PV.ite (hd E) (bd (PV.one a) λF=>
 bd (PV.one f) λG=>some [(.agg [(.int .i64 3),F,G])]) (bd (iP (hd C) (.fn 160 [(.bx [l]),(.bx [y])])) λH=>PV.guardFlat (hd H) (PV.ite (hd H) (bd (PV.one a) λI=>bd (PV.one f) λJ=>some [(.agg [(.int .i64 4),I,J])]) (bd (PV.bin .add f (.int .i64 1)) λK=>nB a b c d e K g h i j k l)))))) (bd (PV.bin .add c (.int .i64 1)) λL=>mZ b L g h i j k):=aW _ _ _ _ _ _ _ _ (by kernel_rfl)
theorem aGI : vQ a b=bd (PV.whole 2 a) λc=>bd (PV.cell c 0) λd=>bd (PV.cell c 1) λe=>bd (PV.at_ 3 true e b) λf=>bd (PV.cell f 2) λg=>bd (PV.len g) λh=>bd (mD (.lst [(.int .i64 (-1))]) h) λi=>PV.guardOwn (.own 1 8 false []) (gd i 0) (bd (PV.inb (gd i 0) (.int .i64 0)) λj=>bd (PV.setAt 1 false (gd i 0) (.int .i64 0) (.int .i64 0)) λk=>
 nC g (.bool true) d e k):=aY _ _ _ (by kernel_rfl)
theorem mP : nC a b c d e=PV.ite b (bd (PV.len a) λf=>iY a (.bool false) a f (.int .i64 0) c d e) (some [e]):=aW _ _ _ _ _ _ _ _ (by kernel_rfl)
theorem wE : iY a b c d e f g h=bd (PV.bin .lss e d) λi=>PV.ite i (bd (PV.at_ 2 true c e) λj=>bd (PV.whole 2 j) λk=>bd (PV.cell k 0) λl=>bd (PV.cell k 1) λm=>bd (PV.inb h e) λn=>bd (PV.at_ 1 false h e) λo=>bd (PV.bin .lss o (.int .i64 0)) λp=>PV.ite p (bd (PV.bin .add e (.int .i64 1)) λq=>iY a b c d q f g h) (bd (PV.inb h e) λr=>
 bd (PV.at_ 1 false h e) λs=>bd (vT (.agg [f,g]) (.agg [l,m]) s) λt=>bd (PV.comp (hd t) 0) λu=>bd (PV.comp (hd t) 1) λv=>bd (tI (.agg [l,m]) e) λw=>bd (PV.len (hd w)) λx=>gB a b u v c d e (hd w) x (.int .i64 0) f g h)) (nC a b f g h):=aW _ _ _ _ _ _ _ _ (by kernel_rfl)
theorem uU : gB a b c d e f g h i j k l m=bd (PV.bin .lss j i) λn=>PV.ite n (bd (PV.at_ 1 false h j) λo=>PV.ite d (bd (PV.len a) λp=>bd (PV.bin .lss o p) λq=>PV.ite q (bd (PV.inb m o) λr=>bd (PV.at_ 1 false m o) λs=>bd (PV.bin .lss s (.int .i64 0)) λt=>PV.ite t (zW a c d o e f g h i j k l m) (bd (PV.bin .add j (.int .i64 1)) λu=>
 gB a b c d e f g h i u k l m)) (bd (PV.bin .add j (.int .i64 1)) λv=>gB a b c d e f g h i v k l m)) (bd (PV.bin .add j (.int .i64 1)) λw=>gB a b c d e f g h i w k l m)) (bd (PV.bin .add g (.int .i64 1)) λx=>iY a b e f x k l m):=aW _ _ _ _ _ _ _ _ (by kernel_rfl)
theorem aCF : zW a b c d e f g h i j k l m=bd (PV.inb m d) λn=>bd (PV.setAt 1 false m d b) λo=>bd (PV.bin .add j (.int .i64 1)) λp=>gB a (.bool true) b c e f g h i p k l o:=aW _ _ _ _ _ _ _ _ (by kernel_rfl)
theorem aAY : vR a=bd (PV.len a) λb=>bd (PV.bin .leq b (.int .i64 120)) λc=>PV.ite c (bd (gY a (.fn 164 [])) λd=>bd (PV.not (hd d)) λe=>some [e]) (some [.bool false]):=aY _ _ _ (by kernel_rfl)
theorem aFo : cH a b c=bd (PV.bin .leq b a) λd=>PV.ite d (bd (PV.bin .leq a c) λe=>some [e]) (some [.bool false]):=aY _ _ _ (by kernel_rfl)
theorem oD : dU a b=bd (lF a b) λc=>bd (PV.bin .geq (hd c) (.int .i64 0)) λd=>some [d]:=aY _ _ _ (by kernel_rfl)
theorem aAZ : aAR a=bd (pN a) λb=>bd (PV.not (hd b)) λc=>some [c]:=aY _ _ _ (by kernel_rfl)
theorem aAd : tG a b c d e f g=bd (PV.whole 2 a) λh=>bd (PV.cell h 0) λi=>bd (PV.cell h 1) λj=>bd (PV.len j) λk=>bd (cZ c k) λl=>bd (PV.not (hd l)) λm=>PV.ite m (some [.bool false]) (bd (PV.at_ 3 true j c) λn=>bd (PV.cell n 1) λo=>bd (PV.bin .neq e o) λp=>PV.ite p (some [.bool false]) (bd (PV.at_ 3 true j c) λq=>bd (PV.cell q 2) λr=>
 bd (PV.len r) λs=>bd (cZ d s) λt=>bd (PV.not (hd t)) λu=>PV.ite u (some [.bool false]) (bd (PV.at_ 1 false b c) λv=>bd (PV.at_ 1 false v d) λw=>bd (PV.bin .lss w (.int .i64 0)) λx=>PV.ite x (some [.bool false]) (PV.ite g (bd (PV.at_ 1 false b c) λy=>bd (PV.at_ 1 false y d) λz=>bd (PV.bin .eql f z) λA=>some [A]) (bd (PV.bin .eql d (.int .i64 0)) λB=>
 PV.ite B (some [.bool false]) (bd (PV.at_ 1 false b c) λC=>bd (PV.bin .sub d (.int .i64 1)) λD=>bd (PV.at_ 1 false C D) λE=>bd (PV.bin .lss E (.int .i64 0)) λF=>PV.ite F (some [.bool false]) (bd (PV.at_ 3 true j c) λG=>bd (PV.cell G 2) λH=>bd (PV.bin .sub d (.int .i64 1)) λI=>bd (PV.at_ 2 true H I) λJ=>bd (PV.cell J 0) λK=>bd (PV.bin .eql K (.int .i64 23)) λL=>
 PV.ite L (bd (PV.at_ 1 false b c) λM=>bd (PV.at_ 1 false M d) λN=>bd (PV.bin .sub N (.int .i64 1)) λO=>bd (PV.bin .eql f O) λP=>some [P]) (bd (PV.bin .eql K (.int .i64 24)) λQ=>PV.ite Q (bd (PV.at_ 1 false b c) λR=>bd (PV.at_ 1 false R d) λS=>bd (PV.bin .sub S (.int .i64 1)) λT=>bd (PV.bin .eql f T) λU=>some [U]) (some [.bool false]))))))))):=aY _ _ _ (by kernel_rfl)
theorem fQ : cB a b c=bd (PV.len a) λd=>bd (PV.len b) λe=>bd (PV.bin .neq d e) λf=>PV.ite f (some [.bool false]) (bd (PV.len a) λg=>bL b c a g (.int .i64 0)):=aY _ _ _ (by kernel_rfl)
theorem cR : bL a b c d e=bd (PV.bin .lss e d) λf=>PV.ite f (bd (PV.at_ 4 true c e) λg=>bd (PV.whole 4 g) λh=>bd (PV.cell h 0) λi=>bd (PV.cell h 1) λj=>bd (PV.cell h 2) λk=>bd (PV.cell h 3) λl=>bd (PV.at_ 4 true a e) λm=>bd (PV.whole 4 m) λn=>
 bd (PV.cell n 0) λo=>bd (PV.cell n 1) λp=>bd (PV.cell n 2) λq=>bd (PV.cell n 3) λr=>bd (PV.apply aZ b [(.agg [i,j,k,l]),(.agg [o,p,q,r])]) λs=>bd (PV.not (hd s)) λt=>PV.ite t (some [.bool false]) (bd (PV.bin .add e (.int .i64 1)) λu=>bL a b c d u)) (some [.bool true]):=aW _ _ _ _ _ _ _ _ (by kernel_rfl)
variable (a b c d e f g h i : PV)
theorem aDu : aAS a b=bd (PV.whole 4 a) λc=>bd (PV.cell c 0) λd=>bd (PV.cell c 1) λe=>bd (PV.cell c 2) λf=>bd (PV.cell c 3) λg=>bd (PV.whole 4 b) λh=>bd (PV.cell h 0) λi=>bd (PV.cell h 1) λj=>bd (PV.cell h 2) λk=>bd (PV.cell h 3) λl=>bd (PV.bin .eql d i) λm=>PV.ite m (bd (PV.bin .eql e j) λn=>PV.ite n (bd (cQ f k) λo=>
 PV.ite (hd o) (bd (cQ g l) λp=>some [(hd p)]) (some [.bool false])) (some [.bool false])) (some [.bool false]):=aY _ _ _ (by kernel_rfl)
theorem gV : cL a b c=bd (PV.len a) λd=>bd (PV.len b) λe=>bd (PV.bin .neq d e) λf=>PV.ite f (some [.bool false]) (bd (PV.len a) λg=>bR b c a g (.int .i64 0)):=aY _ _ _ (by kernel_rfl)
theorem dK : bR a b c d e=bd (PV.bin .lss e d) λf=>PV.ite f (bd (PV.at_ 1 true c e) λg=>bd (PV.whole 1 g) λh=>bd (PV.cell h 0) λi=>bd (PV.at_ 1 true a e) λj=>bd (PV.whole 1 j) λk=>bd (PV.cell k 0) λl=>bd (PV.apply aZ b [(.agg [i]),(.agg [l])]) λm=>
 bd (PV.not (hd m)) λn=>PV.ite n (some [.bool false]) (bd (PV.bin .add e (.int .i64 1)) λo=>bR a b c d o)) (some [.bool true]):=aW _ _ _ _ _ _ _ _ (by kernel_rfl)
theorem aFp : aDo a b=bd (PV.whole 1 a) λc=>bd (PV.cell c 0) λd=>bd (PV.whole 1 b) λe=>bd (PV.cell e 0) λf=>bd (cQ d f) λg=>some [(hd g)]:=aY _ _ _ (by kernel_rfl)
theorem sA : iZ a b=bd (PV.len a) λc=>bd (PV.len b) λd=>bd (PV.bin .neq c d) λe=>PV.ite e (some [.bool false]) (bd (PV.len a) λf=>eS a b f (.int .i64 0)):=aY _ _ _ (by kernel_rfl)
theorem kC : eS a b c d=bd (PV.bin .lss d c) λe=>PV.ite e (bd (PV.at_ 1 false a d) λf=>bd (PV.at_ 1 false b d) λg=>bd (PV.bin .neq f g) λh=>PV.ite h (some [.bool false]) (bd (PV.bin .add d (.int .i64 1)) λi=>eS a b c i)) (some [.bool true]):=aW _ _ _ _ _ _ _ _ (by kernel_rfl)
theorem aEj : wS a=bd (PV.whole 2 a) λb=>bd (PV.cell b 0) λc=>bd (PV.cell b 1) λd=>bd (PV.len d) λe=>bd (aM e (.int .i64 1) (.int .i64 12)) λf=>bd (PV.not (hd f)) λg=>PV.ite g (some [.bool false]) (bd (PV.len c) λh=>bd (PV.bin .gtr h (.int .i64 20)) λi=>PV.ite i (some [.bool false]) (nN (.int .i64 0) c d)):=aY _ _ _ (by kernel_rfl)
theorem sV : nN a b c=bd (PV.len b) λd=>bd (PV.bin .lss a d) λe=>PV.ite e (bd (PV.at_ 1 false b a) λf=>bd (nM f) λg=>bd (PV.not (hd g)) λh=>PV.ite h (some [.bool false]) (bd (PV.bin .add a (.int .i64 1)) λi=>nN i b c)) (lD (.int .i64 0) b c):=aW _ _ _ _ _ _ _ _ (by kernel_rfl)
theorem sW : lD a b c=bd (PV.len c) λd=>bd (PV.bin .lss a d) λe=>PV.ite e (bd (PV.at_ 3 true c a) λf=>bd (PV.whole 3 f) λg=>bd (PV.cell g 0) λh=>bd (PV.cell g 1) λi=>bd (PV.cell g 2) λj=>bd (aM h (.int .i64 0) (.int .i64 6)) λk=>bd (PV.not (hd k)) λl=>PV.ite l (some [.bool false]) (bd (aM i h (.int .i64 12)) λm=>
 bd (PV.not (hd m)) λn=>PV.ite n (some [.bool false]) (bd (PV.len j) λo=>bd (aM o (.int .i64 1) (.int .i64 120)) λp=>bd (PV.not (hd p)) λq=>PV.ite q (some [.bool false]) (mK a (.int .i64 0) b c h i j)))) (some [.bool true]):=aW _ _ _ _ _ _ _ _ (by kernel_rfl)
theorem sB : mK a b c d e f g=bd (PV.len g) λh=>bd (PV.bin .lss b h) λi=>PV.ite i (bd (PV.at_ 2 true g b) λj=>bd (aCv (.agg [c,d]) a j) λk=>bd (PV.not (hd k)) λl=>PV.ite l (some [.bool false]) (bd (PV.bin .add b (.int .i64 1)) λm=>mK a m c d e f g)) (bd (PV.bin .add a (.int .i64 1)) λn=>lD n c d):=aW _ _ _ _ _ _ _ _ (by kernel_rfl)
theorem aDv : lE a b=bd (PV.whole 2 a) λc=>bd (PV.cell c 0) λd=>bd (PV.cell c 1) λe=>bd (PV.at_ 3 true e b) λf=>bd (PV.cell f 2) λg=>mL g (.int .i64 0) d e (.lst []):=aY _ _ _ (by kernel_rfl)
theorem sC : mL a b c d e=bd (PV.len a) λf=>bd (PV.bin .lss b f) λg=>PV.ite g (bd (PV.cat 1 8 false e (.lst [(.int .i64 (-1))])) λh=>bd (PV.bin .add b (.int .i64 1)) λi=>mL a i c d h) (bd (PV.inb e (.int .i64 0)) λj=>bd (PV.setAt 1 false e (.int .i64 0) (.int .i64 0)) λk=>jX a (.bool true) c d k):=aW _ _ _ _ _ _ _ _ (by kernel_rfl)
theorem kD : jX a b c d e=PV.ite b (eE a (.bool false) (.int .i64 0) c d e) (some [e]):=aW _ _ _ _ _ _ _ _ (by kernel_rfl)
theorem qU : eE a b c d e f=bd (PV.len a) λg=>bd (PV.bin .lss c g) λh=>PV.ite h (bd (PV.at_ 2 true a c) λi=>bd (vS (.agg [d,e]) i) λj=>bd (PV.comp (hd j) 0) λk=>bd (PV.comp (hd j) 1) λl=>bd (PV.inb f c) λm=>bd (PV.at_ 1 false f c) λn=>bd (PV.bin .sub n k) λo=>bd (PV.bin .add o l) λp=>bd (PV.inb f c) λq=>
 bd (PV.at_ 1 false f c) λr=>bd (PV.bin .lss r k) λs=>PV.ite s (bd (PV.bin .add c (.int .i64 1)) λt=>eE a b t d e f) (bd (PV.bin .gtr p (.int .i64 16)) λu=>PV.ite u (bd (PV.bin .add c (.int .i64 1)) λv=>eE a b v d e f) (bd (PV.at_ 2 true a c) λw=>bd (tH w c) λx=>fH a b c p (hd x) (.int .i64 0) d e f))) (jX a b d e f):=aW _ _ _ _ _ _ _ _ (by kernel_rfl)
theorem qV : fH a b c d e f g h i=bd (PV.len e) λj=>bd (PV.bin .lss f j) λk=>PV.ite k (bd (PV.at_ 1 false e f) λl=>bd (PV.len a) λm=>bd (PV.bin .lss l m) λn=>PV.ite n (bd (PV.at_ 1 false e f) λo=>bd (PV.inb i o) λp=>bd (PV.at_ 1 false i o) λq=>bd (PV.bin .lss q (.int .i64 0)) λr=>PV.ite r (uJ a c d e f g h i)
 (bd (PV.bin .add f (.int .i64 1)) λs=>fH a b c d e s g h i)) (bd (PV.bin .add f (.int .i64 1)) λt=>fH a b c d e t g h i)) (bd (PV.bin .add c (.int .i64 1)) λu=>eE a b u g h i):=aW _ _ _ _ _ _ _ _ (by kernel_rfl)
theorem aAf : uJ a b c d e f g h=bd (PV.at_ 1 false d e) λi=>bd (PV.inb h i) λj=>bd (PV.setAt 1 false h i c) λk=>bd (PV.bin .add e (.int .i64 1)) λl=>fH a (.bool true) b c d l f g k:=aW _ _ _ _ _ _ _ _ (by kernel_rfl)
theorem aGJ : vS a b=bd (PV.whole 2 a) λc=>bd (PV.cell c 0) λd=>bd (PV.cell c 1) λe=>bd (PV.whole 2 b) λf=>bd (PV.cell f 0) λg=>bd (PV.cell f 1) λh=>bd (PV.bin .eql g (.int .i64 1)) λi=>PV.ite i (some [(.tup [(.int .i64 0),(.int .i64 1)])]) (bd (PV.bin .eql g (.int .i64 2)) λj=>PV.ite j (some [(.tup [(.int .i64 0),(.int .i64 1)])]) (bd (PV.bin .eql g (.int .i64 3)) λk=>
 PV.ite k (some [(.tup [(.int .i64 0),(.int .i64 1)])]) (bd (PV.bin .eql g (.int .i64 4)) λl=>PV.ite l (some [(.tup [(.int .i64 0),(.int .i64 1)])]) (bd (PV.bin .eql g (.int .i64 5)) λm=>PV.ite m (some [(.tup [(.int .i64 0),(.int .i64 1)])]) (bd (PV.bin .eql g (.int .i64 6)) λn=>PV.ite n (some [(.tup [(.int .i64 0),(.int .i64 1)])]) (bd (PV.bin .eql g (.int .i64 20)) λo=>PV.ite o
 (some [(.tup [(.int .i64 0),(.int .i64 1)])]) (bd (PV.bin .eql g (.int .i64 7)) λp=>PV.ite p (some [(.tup [(.int .i64 1),(.int .i64 0)])]) (bd (PV.bin .eql g (.int .i64 9)) λq=>PV.ite q (some [(.tup [(.int .i64 1),(.int .i64 0)])]) (bd (PV.bin .eql g (.int .i64 18)) λr=>PV.ite r (some [(.tup [(.int .i64 1),(.int .i64 0)])]) (bd (PV.bin .eql g (.int .i64 19)) λs=>PV.ite s (some [(.tup [(.int .i64 1),(.int .i64 0)])])
 (bd (PV.bin .eql g (.int .i64 25)) λt=>PV.ite t (some [(.tup [(.int .i64 1),(.int .i64 0)])]) (bd (PV.bin .eql g (.int .i64 26)) λu=>PV.ite u (some [(.tup [(.int .i64 1),(.int .i64 0)])]) (bd (PV.bin .eql g (.int .i64 8)) λv=>PV.ite v (some [(.tup [(.int .i64 1),(.int .i64 2)])]) (bd (PV.bin .eql g (.int .i64 10)) λw=>PV.ite w (some [(.tup [(.int .i64 2),(.int .i64 2)])]) (bd (PV.bin .eql g (.int .i64 11)) λx=>
 PV.ite x (some [(.tup [(.int .i64 2),(.int .i64 1)])]) (bd (PV.bin .eql g (.int .i64 12)) λy=>PV.ite y (some [(.tup [(.int .i64 2),(.int .i64 1)])]) (bd (PV.bin .eql g (.int .i64 13)) λz=>PV.ite z (some [(.tup [(.int .i64 2),(.int .i64 1)])]) (bd (PV.bin .eql g (.int .i64 14)) λA=>PV.ite A (some [(.tup [(.int .i64 2),(.int .i64 1)])]) (bd (PV.bin .eql g (.int .i64 15)) λB=>PV.ite B
 (some [(.tup [(.int .i64 2),(.int .i64 1)])]) (bd (PV.bin .eql g (.int .i64 16)) λC=>PV.ite C (some [(.tup [(.int .i64 1),(.int .i64 1)])]) (bd (PV.bin .eql g (.int .i64 21)) λD=>PV.ite D (some [(.tup [(.int .i64 1),(.int .i64 1)])]) (bd (PV.bin .eql g (.int .i64 22)) λE=>PV.ite E (some [(.tup [(.int .i64 2),(.int .i64 0)])]) (bd (PV.bin .eql g (.int .i64 23)) λF=>PV.ite F (bd (aM h (.int .i64 0) (.int .i64 6)) λG=>
 PV.ite (hd G) (bd (PV.bin .add h (.int .i64 1)) λH=>some [(.tup [H,(.int .i64 1)])]) (some [(.tup [(.int .i64 0),(.int .i64 0)])])) (bd (PV.bin .eql g (.int .i64 24)) λI=>PV.ite I (bd (PV.len e) λJ=>bd (PV.bin .sub J (.int .i64 1)) λK=>bd (aM h (.int .i64 0) K) λL=>PV.ite (hd L) (bd (PV.at_ 3 true e h) λM=>bd (PV.cell M 0) λN=>some [(.tup [N,(.int .i64 1)])])
 (some [(.tup [(.int .i64 0),(.int .i64 0)])])) (some [(.tup [(.int .i64 0),(.int .i64 0)])]))))))))))))))))))))))))):=aY _ _ _ (by kernel_rfl)
theorem aFq : tH a b=bd (PV.whole 2 a) λc=>bd (PV.cell c 0) λd=>bd (PV.cell c 1) λe=>bd (PV.bin .neq d (.int .i64 17)) λf=>PV.ite f (bd (PV.bin .neq d (.int .i64 25)) λg=>PV.ite g (zX b d e (.lst [])) (oX d e (.lst []))) (oX d e (.lst [])):=aY _ _ _ (by kernel_rfl)
theorem aCG : zX a b c d=bd (PV.bin .add a (.int .i64 1)) λe=>bd (PV.cat 1 8 false (.lst []) (.lst [e])) λf=>bd (PV.cat 1 8 false d f) λg=>oX b c g:=aW _ _ _ _ _ _ _ _ (by kernel_rfl)
theorem aCH : oX a b c=bd (PV.bin .eql a (.int .i64 17)) λd=>PV.ite d (oY a b c) (bd (PV.bin .eql a (.int .i64 18)) λe=>PV.ite e (oY a b c) (bd (PV.bin .eql a (.int .i64 19)) λf=>PV.ite f (oY a b c) (some [c]))):=aW _ _ _ _ _ _ _ _ (by kernel_rfl)
theorem aCI : oY a b c=bd (PV.cat 1 8 false (.lst []) (.lst [b])) λd=>bd (PV.cat 1 8 false c d) λe=>some [e]:=aW _ _ _ _ _ _ _ _ (by kernel_rfl)
theorem aGK : iS a=bd (aM a (.int .i64 (-1000000000)) (.int .i64 1000000000)) λb=>some [(hd b)]:=aY _ _ _ (by kernel_rfl)
theorem aEk : wU a=bd (PV.whole 2 a) λb=>bd (PV.cell b 0) λc=>bd (PV.cell b 1) λd=>bd (PV.len d) λe=>bd (cH e (.int .i64 1) (.int .i64 12)) λf=>bd (PV.not (hd f)) λg=>PV.ite g (some [.bool false]) (bd (PV.len c) λh=>bd (PV.bin .gtr h (.int .i64 20)) λi=>PV.ite i (some [.bool false]) (bd (dU c (.fn 87 [])) λj=>
 PV.ite (hd j) (some [.bool false]) (bd (PV.len d) λk=>nO d k (.int .i64 0) c d))):=aY _ _ _ (by kernel_rfl)
theorem sX : nO a b c d e=bd (PV.bin .lss c b) λf=>PV.ite f (bd (PV.at_ 3 true a c) λg=>bd (PV.whole 3 g) λh=>bd (PV.cell h 0) λi=>bd (PV.cell h 1) λj=>bd (PV.cell h 2) λk=>bd (cH i (.int .i64 0) (.int .i64 6)) λl=>bd (PV.not (hd l)) λm=>PV.ite m (some [.bool false]) (bd (cH j i (.int .i64 12)) λn=>bd (PV.not (hd n)) λo=>
 PV.ite o (some [.bool false]) (bd (PV.len k) λp=>bd (cH p (.int .i64 1) (.int .i64 120)) λq=>bd (PV.not (hd q)) λr=>PV.ite r (some [.bool false]) (bd (eL k (.fn 90 [(.bx [d,e]),(.bx [i,j,k])])) λs=>PV.guardFlat (hd s) (PV.ite (hd s) (some [.bool false]) (bd (PV.bin .add c (.int .i64 1)) λt=>nO a b t d e)))))) (some [.bool true]):=aW _ _ _ _ _ _ _ _ (by kernel_rfl)
theorem aGL : vT a b c=bd (PV.whole 2 a) λd=>bd (PV.cell d 0) λe=>bd (PV.cell d 1) λf=>bd (PV.whole 2 b) λg=>bd (PV.cell g 0) λh=>bd (PV.cell g 1) λi=>bd (aAT (.agg [e,f]) (.agg [h,i])) λj=>bd (PV.comp (hd j) 0) λk=>bd (PV.comp (hd j) 1) λl=>bd (PV.bin .sub c k) λm=>bd (PV.bin .add m l) λn=>bd (PV.bin .leq k c) λo=>
 PV.ite o (bd (PV.bin .leq n (.int .i64 16)) λp=>some [(.tup [n,p])]) (some [(.tup [n,(.bool false)])]):=aY _ _ _ (by kernel_rfl)
theorem aFr : tI a b=bd (PV.whole 2 a) λc=>bd (PV.cell c 0) λd=>bd (PV.cell c 1) λe=>bd (PV.bin .eql d (.int .i64 25)) λf=>PV.ite f (some [(.lst [])]) (bd (PV.bin .eql d (.int .i64 17)) λg=>PV.ite g (bd (PV.cat 1 8 false (.lst []) (.lst [e])) λh=>some [h]) (bd (PV.bin .eql d (.int .i64 18)) λi=>PV.ite i (bd (PV.bin .add b (.int .i64 1)) λj=>
 bd (PV.cat 1 8 false (.lst []) (.lst [j,e])) λk=>some [k]) (bd (PV.bin .eql d (.int .i64 19)) λl=>PV.ite l (bd (PV.bin .add b (.int .i64 1)) λm=>bd (PV.cat 1 8 false (.lst []) (.lst [m,e])) λn=>some [n]) (bd (PV.bin .add b (.int .i64 1)) λo=>bd (PV.cat 1 8 false (.lst []) (.lst [o])) λp=>some [p])))):=aY _ _ _ (by kernel_rfl)
theorem uV : fL a b=bd (fM a b) λc=>bd (PV.bin .geq (hd c) (.int .i64 0)) λd=>some [d]:=aY _ _ _ (by kernel_rfl)
theorem rN : iP a b=bd (oL a b) λc=>bd (PV.bin .geq (hd c) (.int .i64 0)) λd=>some [d]:=aY _ _ _ (by kernel_rfl)
theorem aEl : aCa a b c=bd (PV.deref b 0) λd=>bd (PV.at_ 1 false d a) λe=>bd (PV.deref c 0) λf=>bd (PV.bin .neq e f) λg=>some [g]:=aY _ _ _ (by kernel_rfl)
theorem gG : gY a b=bd (jA a b) λc=>bd (PV.bin .geq (hd c) (.int .i64 0)) λd=>some [d]:=aY _ _ _ (by kernel_rfl)
theorem xY : wV a=bd (PV.whole 1 a) λb=>bd (PV.cell b 0) λc=>bd (PV.len c) λd=>bd (PV.bin .gtr d (.int .i64 6)) λe=>some [e]:=aY _ _ _ (by kernel_rfl)
theorem pU : lF a b=bd (PV.len a) λc=>dV a b c (.int .i64 0):=aY _ _ _ (by kernel_rfl)
theorem iM : dV a b c d=bd (PV.bin .lss d c) λe=>PV.ite e (bd (PV.at_ 1 false a d) λf=>bd (PV.apply aZ b [f]) λg=>PV.ite (hd g) (some [d]) (bd (PV.bin .add d (.int .i64 1)) λh=>dV a b c h)) (some [(.int .i64 (-1))]):=aW _ _ _ _ _ _ _ _ (by kernel_rfl)
theorem aGM : pN a=bd (PV.slen a) λb=>qB a b (.int .i64 0):=aY _ _ _ (by kernel_rfl)
theorem wF : qB a b c=bd (PV.bin .lss c b) λd=>PV.ite d (bd (PV.chr a c) λe=>bd (PV.bin .lss e (.int .u8 32)) λf=>PV.ite f (some [.bool false]) (bd (PV.chr a c) λg=>bd (PV.bin .gtr g (.int .u8 126)) λh=>PV.ite h (some [.bool false]) (bd (PV.chr a c) λi=>bd (PV.bin .eql i (.int .u8 34)) λj=>PV.ite j (some [.bool false]) (bd (PV.bin .add c (.int .i64 1)) λk=>
 qB a b k)))) (bd (PV.slen a) λl=>bd (PV.bin .leq l (.int .i64 60)) λm=>some [m]):=aW _ _ _ _ _ _ _ _ (by kernel_rfl)
theorem aFs : cZ a b=bd (PV.bin .sub b (.int .i64 1)) λc=>bd (cH a (.int .i64 0) c) λd=>some [(hd d)]:=aY _ _ _ (by kernel_rfl)
theorem nU : cQ a b=bd (PV.len a) λc=>bd (PV.len b) λd=>bd (PV.bin .neq c d) λe=>PV.ite e (some [.bool false]) (bd (PV.len a) λf=>dD a b f (.int .i64 0)):=aY _ _ _ (by kernel_rfl)
theorem gH : dD a b c d=bd (PV.bin .lss d c) λe=>PV.ite e (bd (PV.at_ 3 true a d) λf=>bd (PV.at_ 3 true b d) λg=>bd (PV.whole 3 f) λh=>bd (PV.cell h 0) λi=>bd (PV.cell h 1) λj=>bd (PV.cell h 2) λk=>bd (PV.whole 3 g) λl=>bd (PV.cell l 0) λm=>bd (PV.cell l 1) λn=>bd (PV.cell l 2) λo=>
 bd (PV.ceq [1,1,2] .neq (.agg [i,j,k]) (.agg [m,n,o])) λp=>PV.ite p (some [.bool false]) (bd (PV.bin .add d (.int .i64 1)) λq=>dD a b c q)) (some [.bool true]):=aW _ _ _ _ _ _ _ _ (by kernel_rfl)
theorem aHD : aCv a b c=bd (PV.whole 2 a) λd=>bd (PV.cell d 0) λe=>bd (PV.cell d 1) λf=>bd (PV.whole 2 c) λg=>bd (PV.cell g 0) λh=>bd (PV.cell g 1) λi=>bd (PV.len f) λj=>bd (PV.bin .sub j (.int .i64 1)) λk=>bd (aM b (.int .i64 0) k) λl=>bd (PV.not (hd l)) λm=>PV.ite m (some [.bool false]) (bd (PV.bin .eql h (.int .i64 1)) λn=>
 PV.ite n (bd (aM i (.int .i64 (-1000000000)) (.int .i64 1000000000)) λo=>some [(hd o)]) (bd (PV.bin .eql h (.int .i64 2)) λp=>PV.ite p (bd (aM i (.int .i64 0) (.int .i64 1)) λq=>some [(hd q)]) (bd (PV.bin .eql h (.int .i64 3)) λr=>PV.ite r (bd (PV.len e) λs=>bd (PV.bin .sub s (.int .i64 1)) λt=>bd (aM i (.int .i64 0) t) λu=>some [(hd u)])
 (bd (PV.bin .eql h (.int .i64 5)) λv=>PV.ite v (bd (PV.len f) λw=>bd (PV.bin .sub w (.int .i64 1)) λx=>bd (aM i (.int .i64 0) x) λy=>some [(hd y)]) (bd (PV.bin .eql h (.int .i64 24)) λz=>PV.ite z (bd (PV.len f) λA=>bd (PV.bin .sub A (.int .i64 1)) λB=>bd (aM i (.int .i64 0) B) λC=>some [(hd C)]) (bd (PV.bin .eql h (.int .i64 6)) λD=>
 PV.ite D (bd (PV.at_ 3 true f b) λE=>bd (PV.cell E 1) λF=>bd (PV.bin .sub F (.int .i64 1)) λG=>bd (aM i (.int .i64 0) G) λH=>some [(hd H)]) (bd (PV.bin .eql h (.int .i64 7)) λI=>PV.ite I (bd (PV.at_ 3 true f b) λJ=>bd (PV.cell J 1) λK=>bd (PV.bin .sub K (.int .i64 1)) λL=>bd (aM i (.int .i64 0) L) λM=>some [(hd M)]) (bd (PV.bin .eql h (.int .i64 17)) λN=>
 PV.ite N (bd (PV.at_ 3 true f b) λO=>bd (PV.cell O 2) λP=>bd (PV.len P) λQ=>bd (PV.bin .sub Q (.int .i64 1)) λR=>bd (aM i (.int .i64 0) R) λS=>some [(hd S)]) (bd (PV.bin .eql h (.int .i64 18)) λT=>PV.ite T (bd (PV.at_ 3 true f b) λU=>bd (PV.cell U 2) λV=>bd (PV.len V) λW=>bd (PV.bin .sub W (.int .i64 1)) λX=>bd (aM i (.int .i64 0) X) λY=>
 some [(hd Y)]) (bd (PV.bin .eql h (.int .i64 19)) λZ=>PV.ite Z (bd (PV.at_ 3 true f b) λaa=>bd (PV.cell aa 2) λab=>bd (PV.len ab) λac=>bd (PV.bin .sub ac (.int .i64 1)) λad=>bd (aM i (.int .i64 0) ad) λae=>some [(hd ae)]) (bd (PV.bin .eql h (.int .i64 20)) λaf=>PV.ite af (bd (aM i (.int .i64 0) (.int .i64 6)) λag=>some [(hd ag)]) (bd (PV.bin .eql h (.int .i64 21)) λah=>
 PV.ite ah (bd (aM i (.int .i64 0) (.int .i64 5)) λai=>some [(hd ai)]) (bd (PV.bin .eql h (.int .i64 22)) λaj=>PV.ite aj (bd (aM i (.int .i64 0) (.int .i64 5)) λak=>some [(hd ak)]) (bd (PV.bin .eql h (.int .i64 23)) λal=>PV.ite al (bd (aM i (.int .i64 0) (.int .i64 6)) λam=>some [(hd am)]) (bd (aM h (.int .i64 1) (.int .i64 26)) λan=>
 PV.ite (hd an) (bd (PV.bin .eql i (.int .i64 0)) λao=>some [ao]) (some [.bool false])))))))))))))))):=aY _ _ _ (by kernel_rfl)
theorem aCJ : zY a=bd (pN a) λb=>bd (PV.not (hd b)) λc=>some [c]:=aY _ _ _ (by kernel_rfl)
theorem mH : eL a b=bd (jB a b) λc=>bd (PV.bin .geq (hd c) (.int .i64 0)) λd=>some [d]:=aY _ _ _ (by kernel_rfl)
theorem aCK : zZ a b c=bd (PV.whole 2 a) λd=>bd (PV.cell d 0) λe=>bd (PV.cell d 1) λf=>bd (PV.deref b 0) λg=>bd (PV.deref b 1) λh=>bd (PV.deref c 0) λi=>bd (PV.deref c 1) λj=>bd (PV.deref c 2) λk=>bd (aCw (.agg [g,h]) (.agg [i,j,k]) (.agg [e,f])) λl=>bd (PV.not (hd l)) λm=>some [m]:=aY _ _ _ (by kernel_rfl)
end
end Go.Proofs.YtllmobkkbpdchaaGreat
