/-
  Texts of the proof, part 2: a value-level evaluator and its soundness, what the functions compute, laws about it.
  Conditions: none.
-/
import Derived.Test.YtllmobkkbpdchaaGreatDoorA
import Derived.Laws.StructEq
import Derived.Laws.BytesString
import Derived.Laws.NewFold
import Derived.Laws.Tables
import Derived.Great.FillDense
set_option linter.all false
namespace Go.Proofs.YtllmobkkbpdchaaGreatDoor
noncomputable section
open Go
variable {n : Nat} {v : Value}
def bY.setRow (m : bY) (l : Nat) (w' : World) (own : tN) (F' : NP) : bY:=
 { m with w:=w',ρ:={ m.ρ with fp:=λl'=>if l'=l then F' else m.ρ.fp l'},
          s:={ m.s with list:=λl'=>if l'=l then some own else m.s.list l'},L:=λr=>(m.L r∨m.ρ.fp l r)∧¬ F' r}
def bY.setRowS (m : bY) (l : Nat) (w' : World) (own : tN) (F' : NP) : bY:=
 { m.setRow l w' own F' with s:={ (m.setRow l w' own F').s with box:=λb=>(m.s.box b).map (·.map (scrub [l] 0 cU))}}
section
variable {m : bY} {l : Nat} {w0 : tN} {root : PV} {w' : World} {F' : NP}
theorem aHw (inv : sN m) (hl : m.s.list l=some w0) (hw : ∀ r,r<m.w.heap.size→¬ m.ρ.fp l r→w'.heap[r]? = m.w.heap[r]?) {gone : NP} (hg : gone l∨(m.ρ.ty l).plain=true) :
 aDn m.w w' m.Z m.Z m.ρ (m.setRow l w' ⟨w0.o,root⟩ F').ρ m.s.live (m.setRow l w' ⟨w0.o,root⟩ F').s.live gone:=by
 refine ⟨λ_ h=>h,λr hr=>hw r (inv.zlt r hr) (λhf=>(inv.row l w0 hl).2.2.notZ r hf hr),λb hb=>⟨hb,rfl⟩,λl h=>h,λl' hu hv=>?_⟩
 by_cases e : l'=l
 ·subst e
  exact ⟨bY.live_of hl,rfl,rfl,hg.imp id .inl⟩
 ·have hv' : m.s.live l':=by unfold Sx.live bY.setRow at hv;unfold Sx.live;simpa [e] using hv
  refine ⟨hv',rfl,rfl,.inr (.inr λr hr=>?_)⟩
  obtain ⟨o',ho'⟩ : ∃ o',m.s.list l'=some o':=by
   unfold Sx.live at hv'
   exact Option.ne_none_iff_exists'.1 hv'
  refine ⟨by simp [bY.setRow,e];exact hr,hw r (inv.owned_lt (.inr (.inl ⟨l',o',ho',hr⟩))) (λhf=>e (inv.ll l' o' l w0 r ho' hl hr hf))⟩
theorem jH.rowSet (inv : sN m) (hl : m.s.list l=some w0) (hro : eO w' m.Z w0.o root (m.ρ.hdr l) F') (hF' : ∀ r,F' r→m.ρ.fp l r∨m.L r)
 (hw : ∀ r,r<m.w.heap.size→¬ m.ρ.fp l r→w'.heap[r]? = m.w.heap[r]?)
 (hsize : w'.heap.size=m.w.heap.size) (hos : w'.os=m.w.os) (htape : w'.tape=m.w.tape) (hout : w'.output=m.w.output)
 {m' : bY} {scr : DV→DV} (hm' : m' = { m.setRow l w' ⟨w0.o,root⟩ F' with s:=m'.s}) (hlist : m'.s.list=(m.setRow l w' ⟨w0.o,root⟩ F').s.list)
 (hbox : ∀ b,m'.s.box b=(m.s.box b).map (·.map scr)) (hrd : ∀ d v,m.rd d v→m'.rd (scr d) v) : jH m m' scr n:=by
 obtain ⟨hty,hlf,_⟩:=inv.row l w0 hl
 have hul:=inv.ul l w0 hl
 have e1 : m'.w=w':=by rw [hm'];rfl
 have e2 : m'.Z=m.Z:=by rw [hm'];rfl
 have e3 : m'.ρ=(m.setRow l w' ⟨w0.o,root⟩ F').ρ:=by rw [hm']
 have e4 : m'.L=λr=>(m.L r∨m.ρ.fp l r)∧¬ F' r:=by rw [hm'];rfl
 have hll : m'.s.list l=some ⟨w0.o,root⟩:=by rw [hlist];simp [bY.setRow]
 refine jH.row (l:=l) inv hrd hbox ?_ ?_ ?_ (.inl hul) ?_ ?_ ?_ ?_ ?_ ?_ ?_ ?_ ?_ ?_ ?_ ?_
 ·intro l' hne
  rw [hlist,e3]
  simp [bY.setRow,hne]
 ·rw [e3];exact ⟨rfl,rfl⟩
 ·intro x
  rw [e3]
  exact ⟨.inl,λh=>h.elim id (λe=>e▸hul)⟩
 ·intro o ho
  rw [hll] at ho
  cases ho
  rw [e1,e2,e3]
  refine ⟨hty,hlf,?_⟩
  have : (m.setRow l w' ⟨w0.o,root⟩ F').ρ.fp l=F':=by simp [bY.setRow]
  rw [this]
  exact hro
 ·intro _ _
  rw [e3]
  exact ⟨bY.live_of hl,rfl,rfl⟩
 ·intro o r _ hr
  rw [e3] at hr
  have : (m.setRow l w' ⟨w0.o,root⟩ F').ρ.fp l=F':=by simp [bY.setRow]
  rw [this] at hr
  rcases hF' r hr with h | h
  ·exact .inl ⟨w0,hl,h⟩
  ·exact .inr (.inl h)
 ·rw [e1,hsize];exact Nat.le_refl _
 ·rw [e1];exact hos
 ·rw [e1];exact htape
 ·rw [e1];exact hout
 ·intro r hr hn _
  rw [e1]
  exact hw r hr (λhf=>hn ⟨w0,hl,hf⟩)
 ·intro r h;rw [e2];exact h
 ·intro r h;rw [e2] at h;exact .inl h
 ·intro r h;rw [e2] at h;rw [e1,hsize];exact inv.zlt r h
 ·intro r h
  rw [e4] at h
  have hown : m.owned r:=h.1.elim (λh=>.inr (.inr h)) (λh=>.inr (.inl ⟨l,w0,hl,h⟩))
  refine ⟨h.1.imp id (λhf=>.inl ⟨w0,hl,hf⟩),by rw [e2];exact inv.owned_notZ hown,by rw [e1,hsize];exact inv.owned_lt hown,λo _=>?_⟩
  rw [e3]
  have : (m.setRow l w' ⟨w0.o,root⟩ F').ρ.fp l=F':=by simp [bY.setRow]
  rw [this]
  exact h.2
theorem jH.rowSetPlain (inv : sN m) (hl : m.s.list l=some w0) (hp : w0.o.plain=true) (hro : eO w' m.Z w0.o root (m.ρ.hdr l) F') (hF' : ∀ r,F' r→m.ρ.fp l r∨m.L r)
 (hw : ∀ r,r<m.w.heap.size→¬ m.ρ.fp l r→w'.heap[r]? = m.w.heap[r]?)
 (hsize : w'.heap.size=m.w.heap.size) (hos : w'.os=m.w.os) (htape : w'.tape=m.w.tape) (hout : w'.output=m.w.output) :
 jH m (m.setRow l w' ⟨w0.o,root⟩ F') id n:=
 jH.rowSet inv hl hro hF' hw hsize hos htape hout rfl rfl (λb=>pK _)
  (λd v h=>fG.carry (aHw inv hl hw (.inr (by rw [← (inv.row l w0 hl).1];exact hp))) h)
theorem jH.rowSetWays (inv : sN m) (hl : m.s.list l=some w0) (hways : ∀ q u,fY m.w (m.ρ.fp l) (m.ρ.ty l) (m.ρ.hdr l) q u→fY w' F' (m.ρ.ty l) (m.ρ.hdr l) q u)
 (hro : eO w' m.Z w0.o root (m.ρ.hdr l) F') (hF' : ∀ r,F' r→m.ρ.fp l r∨m.L r)
 (hw : ∀ r,r<m.w.heap.size→¬ m.ρ.fp l r→w'.heap[r]? = m.w.heap[r]?)
 (hsize : w'.heap.size=m.w.heap.size) (hos : w'.os=m.w.os) (htape : w'.tape=m.w.tape) (hout : w'.output=m.w.output) :
 jH m (m.setRow l w' ⟨w0.o,root⟩ F') id n:=
 jH.rowSet inv hl hro hF' hw hsize hos htape hout rfl rfl (λb=>pK _)
  (λd v h=>fG.carryH (ρ:=m.ρ) (ρ':=(m.setRow l w' ⟨w0.o,root⟩ F').ρ) (live:=m.s.live) (live':=(m.setRow l w' ⟨w0.o,root⟩ F').s.live) (λ_ h=>h)
   (λr hr=>hw r (inv.zlt r hr) (λhf=>(inv.row l w0 hl).2.2.notZ r hf hr)) (λb hb=>⟨hb,rfl⟩) (λl h=>h) (λl' hu hv=>by
    by_cases e : l'=l
    ·subst e
     refine ⟨bY.live_of hl,rfl,λpath v hh=>?_⟩
     show fY w' ((m.setRow l' w' ⟨w0.o,root⟩ F').ρ.fp l') (m.ρ.ty l') (m.ρ.hdr l') path v
     have hfp : (m.setRow l' w' ⟨w0.o,root⟩ F').ρ.fp l'=F':=by simp [bY.setRow]
     rw [hfp]
     exact hways path v hh
    ·have hv' : m.s.live l':=by unfold Sx.live bY.setRow at hv;unfold Sx.live;simpa [e] using hv
     refine ⟨hv',rfl,λpath v hh=>?_⟩
     show fY w' ((m.setRow l w' ⟨w0.o,root⟩ F').ρ.fp l') (m.ρ.ty l') (m.ρ.hdr l') path v
     have hfp : (m.setRow l w' ⟨w0.o,root⟩ F').ρ.fp l'=m.ρ.fp l':=by simp [bY.setRow,e]
     rw [hfp]
     obtain ⟨o',ho'⟩ : ∃ o',m.s.list l'=some o':=by
      unfold Sx.live at hv'
      exact Option.ne_none_iff_exists'.1 hv'
     exact hh.mono (λ_ h=>h) (λr hr=>hw r (inv.owned_lt (.inr (.inl ⟨l',o',ho',hr⟩))) (λhf=>e (inv.ll l' o' l w0 r ho' hl hr hf)))) h)
theorem jH.rowSetScrub (inv : sN m) (hl : m.s.list l=some w0) (hro : eO w' m.Z w0.o root (m.ρ.hdr l) F') (hF' : ∀ r,F' r→m.ρ.fp l r∨m.L r)
 (hw : ∀ r,r<m.w.heap.size→¬ m.ρ.fp l r→w'.heap[r]? = m.w.heap[r]?)
 (hsize : w'.heap.size=m.w.heap.size) (hos : w'.os=m.w.os) (htape : w'.tape=m.w.tape) (hout : w'.output=m.w.output) :
 jH m (m.setRowS l w' ⟨w0.o,root⟩ F') (scrub [l] 0 cU) n:=
 jH.rowSet inv hl hro hF' hw hsize hos htape hout rfl rfl (λb=>rfl)
  (λd v h=>fG.scrub (l0:=[l]) (aHw inv hl hw (.inl List.mem_cons_self)) cU h)
end
theorem aCF (h : eN v) : v.oneCell'=true:=by
 cases v<;>first | rfl | exact h.elim
theorem aHx {P : Program} {t : Nat} (hs : ((aM P).at t).size≠0) {w : World} {us : List Value} (hv : v.cells.toList=us) (hl : us.length=((aM P).at t).size)
 {b o : Nat} {cells : Array Value} {e : TypeId} (hh : w.heap[b]? = some (.cells cells e (0,0))) (hle : o+us.length≤cells.size) (hc : ∀ (i : Nat) u,us[i]? = some u→eN u) :
 (storeVar t ⟨b,o,none⟩ v).run P w = .ok () (w.setCells b o us):=by
 have hsz : v.cells.size=((aM P).at t).size:=by rw [← hl,← hv];simp
 unfold storeVar
 rw [Sem.run_bind,nY (.inl hs),Result.andThen_ok]
 rw [if_neg (by rw [hsz];simp),hv]
 have:=run_storeCells_cells (P:=P) b o us 0 w (λj hj=>?_) (λj hj=>?_) (λu hu=>?_)
 ·simpa using this
 ·have : cells[o+0+j]? = some cells[o+0+j]:=Array.getElem?_eq_getElem (by omega)
  rw [aA4 hh this];rfl
 ·simp [World.frozen?,hh]
 ·obtain ⟨i,hi,rfl⟩:=List.getElem_of_mem hu
  exact aCF (hc i _ (List.getElem?_eq_getElem hi))
variable {m : bY} {n b : Nat} {cs : List DV}
theorem jH.box {m m' : bY} {n b : Nat} (inv : sN m)
 (hrd : ∀ d v,m.rd d v→m'.rd d v) (hlist : m'.s.list=m.s.list)
 (hoth : ∀ b',b'≠b→m'.s.box b'=m.s.box b'∧m'.ρ.box b'=m.ρ.box b')
 (hρ : m'.ρ.hdr=m.ρ.hdr∧m'.ρ.fp=m.ρ.fp∧m'.ρ.ty=m.ρ.ty∧m'.ρ.ul=m.ρ.ul) (hub : ∀ x,m'.ρ.ub x↔m.ρ.ub x∨x=b)
 (hb : ((∃ cs,m.s.box b=some cs)∧m'.ρ.box b=m.ρ.box b)∨(¬ m.ρ.ub b∧n≤b∧b<n+16∧m.w.heap.size≤m'.ρ.box b))
 (hcont : ∃ cs,m'.s.box b=some cs∧∃ (vs : List Value) (ety : TypeId),m'.w.heap[m'.ρ.box b]? = some (.cells vs.toArray ety (0,0))∧vs.length=cs.length∧
  (∀ (i : Nat) v,vs[i]? = some v→eN v)∧∀ (i : Nat) d v,cs[i]? = some d→vs[i]? = some v→m'.rd d v)
 (hw : ∀ r,r<m.w.heap.size→r≠m'.ρ.box b→m'.w.heap[r]? = m.w.heap[r]?) (hZ : m'.Z=m.Z) (hL : m'.L=m.L)
 (hsize : m.w.heap.size≤m'.w.heap.size) (hos : m'.w.os=m.w.os) (htape : m'.w.tape=m.w.tape) (hout : m'.w.output=m.w.output) : jH m m' id n:=by
 obtain ⟨ρ1,ρ2,ρ3,ρ4⟩:=hρ
 have hbl : ∀ r,m.Z r∨(∃ l o,m.s.list l=some o∧m.ρ.fp l r)∨m.L r∨(∃ b' cs,b'≠b∧m.s.box b'=some cs∧r=m.ρ.box b')→r≠m'.ρ.box b:=by
  intro r hr e
  rcases hb with ⟨⟨cs,hcs⟩,h2⟩ | ⟨_,_,_,h4⟩
  ·rw [h2] at e
   rcases hr with h | ⟨l,o,h,h'⟩ | h | ⟨b',cs',hne,h,h'⟩
   ·exact inv.bz b cs hcs (e▸h)
   ·exact inv.bl b cs l o hcs h (e▸h')
   ·exact inv.Lb b cs hcs (e▸h)
   ·exact hne (inv.bb b' cs' b cs h hcs (h'.symm.trans e))
  ·have : r<m.w.heap.size:=by
    rcases hr with h | ⟨l,o,h,h'⟩ | h | ⟨b',cs',hne,h,h'⟩
    ·exact inv.zlt r h
    ·exact inv.owned_lt (.inr (.inl ⟨l,o,h,h'⟩))
    ·exact (inv.Lz r h).2
    ·exact inv.owned_lt (.inl ⟨b',cs',h,h'⟩)
   omega
 have old : ∀ {b' cs},b'≠b→m'.s.box b'=some cs→m.s.box b'=some cs:=λhne h=>by rw [← (hoth _ hne).1];exact h
 obtain ⟨cs0,hcs0,vs0,ety0,hh0,hl0,hc0,hr0⟩:=hcont
 have inv' : sN m':=by
  refine ⟨?_,?_,?_,?_,?_,?_,?_,?_,?_,?_,?_,?_⟩
  ·intro b' cs h
   by_cases e : b'=b
   ·subst e;exact (hub _).2 (.inr rfl)
   ·exact (hub _).2 (.inl (inv.ub b' cs (old e h)))
  ·intro l o h
   rw [hlist] at h
   rw [ρ4];exact inv.ul l o h
  ·refine inv.zlt.next (λr h=>by rw [hZ];exact h) (λr hr=>hw r (inv.zlt r hr) (hbl r (.inl hr))) (λr h=>?_)
   rw [hZ] at h
   exact Nat.lt_of_lt_of_le (inv.zlt r h) hsize
  ·intro b' cs h
   by_cases e : b'=b
   ·subst e
    rw [hcs0] at h;cases h
    exact ⟨vs0,ety0,hh0,hl0,hc0,hr0⟩
   ·have h':=old e h
    obtain ⟨vs,ety,h1,h2,h3,h4⟩:=inv.box b' cs h'
    refine ⟨vs,ety,?_,h2,h3,λi d v hd hv=>hrd d v (h4 i d v hd hv)⟩
    rw [(hoth b' e).2,hw _ (inv.owned_lt (.inl ⟨b',cs,h',rfl⟩)) (hbl _ (.inr (.inr (.inr ⟨b',cs,e,h',rfl⟩))))]
    exact h1
  ·intro l o h
   rw [hlist] at h
   obtain ⟨h1,h2,h3⟩:=inv.row l o h
   rw [ρ1,ρ2,ρ3]
   refine ⟨h1,h2,?_⟩
   rw [hZ]
   exact h3.frame (λ_ h=>h) (λr hr=>hw r (inv.zlt r hr) (hbl r (.inl hr))) (λr hr=>hw r (h3.lt r hr) (hbl r (.inr (.inl ⟨l,o,h,hr⟩)))) (λr hr=>h3.notZ r hr)
  ·intro b' cs h hz
   rw [hZ] at hz
   by_cases e : b'=b
   ·subst e;exact hbl _ (.inl hz) rfl
   ·rw [(hoth b' e).2] at hz
    exact inv.bz b' cs (old e h) hz
  ·intro b1 c1 b2 c2 h1 h2 he
   by_cases e1 : b1=b
   ·by_cases e2 : b2=b
    ·rw [e1,e2]
    ·exfalso
     subst e1
     rw [(hoth b2 e2).2] at he
     exact hbl _ (.inr (.inr (.inr ⟨b2,c2,e2,old e2 h2,rfl⟩))) he.symm
   ·by_cases e2 : b2=b
    ·exfalso
     subst e2
     rw [(hoth b1 e1).2] at he
     exact hbl _ (.inr (.inr (.inr ⟨b1,c1,e1,old e1 h1,rfl⟩))) he
    ·rw [(hoth b1 e1).2,(hoth b2 e2).2] at he
     exact inv.bb b1 c1 b2 c2 (old e1 h1) (old e2 h2) he
  ·intro b' cs l o h hl hf
   rw [hlist] at hl
   rw [ρ2] at hf
   by_cases e : b'=b
   ·subst e;exact hbl _ (.inr (.inl ⟨l,o,hl,hf⟩)) rfl
   ·rw [(hoth b' e).2] at hf
    exact inv.bl b' cs l o (old e h) hl hf
  ·intro l o l' o' r h h' hf hf'
   rw [hlist] at h h'
   rw [ρ2] at hf hf'
   exact inv.ll l o l' o' r h h' hf hf'
  ·intro r h
   rw [hL] at h
   rw [hZ]
   exact ⟨(inv.Lz r h).1,Nat.lt_of_lt_of_le (inv.Lz r h).2 hsize⟩
  ·intro b' cs h hl
   rw [hL] at hl
   by_cases e : b'=b
   ·subst e;exact hbl _ (.inr (.inr (.inl hl))) rfl
   ·rw [(hoth b' e).2] at hl
    exact inv.Lb b' cs (old e h) hl
  ·intro l o r h hf hl
   rw [hlist] at h
   rw [ρ2] at hf
   rw [hL] at hl
   exact inv.Ll l o r h hf hl
 refine ⟨inv',hrd,hsize,hos,htape,hout,?_,?_,?_,?_,?_,?_,?_,?_,?_,?_⟩
 ·intro r hr ho
  refine hw r hr (λe=>?_)
  rcases hb with ⟨⟨cs,hcs⟩,h2⟩ | ⟨_,_,_,h4⟩
  ·exact ho (.inl ⟨b,cs,hcs,e.trans h2⟩)
  ·omega
 ·rintro r (⟨b',cs,h,rfl⟩ | ⟨l,o,h,hf⟩ | h)
  ·by_cases e : b'=b
   ·subst e
    rcases hb with ⟨⟨cs',hcs⟩,h2⟩ | ⟨_,_,_,h4⟩
    ·exact .inl (.inl ⟨b',cs',hcs,h2⟩)
    ·exact .inr h4
   ·exact .inl (.inl ⟨b',cs,old e h,(hoth b' e).2⟩)
  ·rw [hlist] at h
   rw [ρ2] at hf
   exact .inl (.inr (.inl ⟨l,o,h,hf⟩))
  ·rw [hL] at h
   exact .inl (.inr (.inr h))
 ·intro r h;rw [hZ] at h;exact .inl h
 ·intro r h;rw [hZ];exact h
 ·intro x hx
  rcases (hub x).1 hx with h | rfl
  ·exact .inl h
  ·rcases hb with ⟨⟨cs,hcs⟩,_⟩ | ⟨_,h2,h3,_⟩
   ·exact .inl (inv.ub _ cs hcs)
   ·exact .inr ⟨h2,h3⟩
 ·intro x hx;rw [ρ4] at hx;exact .inl hx
 ·intro x hx
  refine ⟨(hub x).2 (.inl hx),?_⟩
  by_cases e : x=b
  ·subst e
   rcases hb with ⟨_,h2⟩ | ⟨h1,_⟩
   ·exact h2
   ·exact absurd hx h1
  ·exact (hoth x e).2
 ·intro x hx;rw [ρ4];exact hx
 ·intro b' cs h
  by_cases e : b'=b
  ·subst e;exact ⟨cs0,hcs0⟩
  ·exact ⟨cs,by rw [(hoth b' e).1];exact h⟩
 ·intro l _ hv
  unfold Sx.live at hv ⊢
  rw [hlist] at hv
  exact ⟨hv,by rw [ρ1],by rw [ρ3]⟩
def bY.addBox (m : bY) (b : Nat) (w' : World) (cs : List DV) : bY:=
 { m with w:=w',ρ:={ m.ρ with box:=λx=>if x=b then m.w.heap.size else m.ρ.box x,ub:=λx=>m.ρ.ub x∨x=b},
          s:={ m.s with box:=λx=>if x=b then some cs else m.s.box x}}
theorem bY.addBox_step (inv : sN m) (hf : ¬ m.ρ.ub b) (hn : n≤b∧b<n+16) {vs : List Value} {ety : TypeId} (hl : vs.length=cs.length)
 (hc : ∀ (i : Nat) v,vs[i]? = some v→eN v) (hr : ∀ (i : Nat) d v,cs[i]? = some d→vs[i]? = some v→m.rd d v) :
 jH m (m.addBox b (m.w.alloc (.cells vs.toArray ety)) cs) id n:=by
 have hw : ∀ r,r<m.w.heap.size→(m.w.alloc (.cells vs.toArray ety)).heap[r]? = m.w.heap[r]?:=λr hr=>by
  show (m.w.heap.push _)[r]? = _
  rw [Array.getElem?_push,if_neg (by omega)]
 have hrd : ∀ d v,m.rd d v→(m.addBox b (m.w.alloc (.cells vs.toArray ety)) cs).rd d v:=λd v h=>by
  refine fG.carry (ρ:=m.ρ) (ρ':=(m.addBox b (m.w.alloc (.cells vs.toArray ety)) cs).ρ) ⟨λ_ h=>h,λr hr=>hw r (inv.zlt r hr),λx hx=>⟨Or.inl hx,?_⟩,λl h=>h,λl hu hv=>⟨hv,rfl,rfl,.inr (.inr λr hr=>⟨hr,?_⟩)⟩⟩ h
  ·have : x≠b:=λe=>hf (e▸hx)
   simp [bY.addBox,this]
  ·obtain ⟨o,ho⟩ : ∃ o,m.s.list l=some o:=Option.ne_none_iff_exists'.1 hv
   exact hw r (inv.owned_lt (.inr (.inl ⟨l,o,ho,hr⟩)))
 refine jH.box (b:=b) inv hrd rfl (λb' hne=>by simp [bY.addBox,hne]) ⟨rfl,rfl,rfl,rfl⟩ (λx=>Iff.rfl) (.inr ⟨hf,hn.1,hn.2,by simp [bY.addBox]⟩)
  ⟨cs,by simp [bY.addBox],vs,ety,?_,hl,hc,λi d v hd hv=>hrd d v (hr i d v hd hv)⟩ (λr hr _=>hw r hr) rfl rfl (by simp [bY.addBox]) rfl rfl rfl
 show (m.w.heap.push _)[if b=b then m.w.heap.size else m.ρ.box b]? = _
 simp
def bY.setBox (m : bY) (b : Nat) (w' : World) (cs : List DV) : bY:=
 { m with w:=w',s:={ m.s with box:=λx=>if x=b then some cs else m.s.box x}}
theorem bY.setBox_step (inv : sN m) {cs' : List DV} (hb : m.s.box b=some cs) {off : Nat} {us : List Value} (hle : off+us.length≤cs.length)
 (hlen : cs'.length=cs.length) (hc : ∀ (i : Nat) u,us[i]? = some u→eN u) (hnew : ∀ (i : Nat) d u,cs'[off+i]? = some d→us[i]? = some u→m.rd d u)
 (hold : ∀ i : Nat,(i<off∨off+us.length≤i)→cs'[i]? = cs[i]?) :
 jH m (m.setBox b (m.w.setCells (m.ρ.box b) off us) cs') id n:=by
 obtain ⟨vs,ety,hh,hl,hcv,hr⟩:=inv.box b cs hb
 obtain ⟨cells',h1,h2,h3,h4⟩:=gO us off m.w vs.toArray hh (by simp;omega)
 have hw : ∀ r,r≠m.ρ.box b→(m.w.setCells (m.ρ.box b) off us).heap[r]? = m.w.heap[r]?:=λr hr=>eG hr us off m.w
 obtain ⟨e1,e2,e3,e4⟩:=iQ us (m.ρ.box b) off m.w
 have hrd : ∀ d v,m.rd d v→(m.setBox b (m.w.setCells (m.ρ.box b) off us) cs').rd d v:=λd v h=>by
  refine fG.carry ⟨λ_ h=>h,λr hr=>hw r (λe=>inv.bz b cs hb (e▸hr)),λx hx=>⟨hx,rfl⟩,λl h=>h,λl hu hv=>⟨hv,rfl,rfl,.inr (.inr λr hr=>⟨hr,?_⟩)⟩⟩ h
  obtain ⟨o,ho⟩ : ∃ o,m.s.list l=some o:=Option.ne_none_iff_exists'.1 hv
  exact hw r (λe=>inv.bl b cs l o hb ho (e▸hr))
 have hsz : cells'.size=vs.length:=by rw [h2];simp
 refine jH.box (b:=b) inv hrd rfl (λb' hne=>by simp [bY.setBox,hne]) ⟨rfl,rfl,rfl,rfl⟩ (λx=>⟨.inl,λh=>h.elim id (λe=>e▸inv.ub b cs hb)⟩) (.inl ⟨⟨cs,hb⟩,rfl⟩)
  ⟨cs',by simp [bY.setBox],cells'.toList,ety,by simpa [bY.setBox] using h1,by simp [hsz];omega,?_,?_⟩ (λr _ hr=>hw r hr) rfl rfl (by simp [bY.setBox,e1]) e2 e3 e4
 ·intro i v hv
  by_cases hin : off≤i∧i<off+us.length
  ·have:=h3 (i - off) (by omega)
   rw [show off+(i - off)=i by omega] at this
   rw [Array.getElem?_toList,this] at hv
   exact hc _ v hv
  ·rw [Array.getElem?_toList,h4 i (by omega)] at hv
   exact hcv i v (by simpa using hv)
 ·intro i d v hd hv
  by_cases hin : off≤i∧i<off+us.length
  ·have:=h3 (i - off) (by omega)
   rw [show off+(i - off)=i by omega] at this
   rw [Array.getElem?_toList,this] at hv
   exact hrd d v (hnew (i - off) d v (by rw [show off+(i - off)=i by omega];exact hd) hv)
  ·rw [Array.getElem?_toList,h4 i (by omega)] at hv
   rw [hold i (by omega)] at hd
   exact hrd d v (hr i d v hd (by simpa using hv))
def bY.addRow (m : bY) (l : Nat) (w' : World) (own : tN) (hdr : Value) (F : NP) : bY:=
 { m with w:=w',ρ:={ m.ρ with hdr:=λx=>if x=l then hdr else m.ρ.hdr x,fp:=λx=>if x=l then F else m.ρ.fp x,ty:=λx=>if x=l then own.o else m.ρ.ty x,
                              ul:=λx=>m.ρ.ul x∨x=l},
          s:={ m.s with list:=λx=>if x=l then some own else m.s.list x},L:=λr=>m.L r∧¬ F r}
theorem bY.addRow_step (inv : sN m) {l : Nat} (hf : ¬ m.ρ.ul l) (hn : n≤l∧l<n+16) {w' : World} {own : tN} {hdr : Value} {F : NP} (hlf : own.o.isLeaf=false)
 (hro : eO w' m.Z own.o own.c hdr F) (hF : ∀ r,F r→m.L r∨m.w.heap.size≤r) (hw : ∀ r,r<m.w.heap.size→¬ m.L r→w'.heap[r]? = m.w.heap[r]?)
 (hsize : m.w.heap.size≤w'.heap.size) (hos : w'.os=m.w.os) (htape : w'.tape=m.w.tape) (hout : w'.output=m.w.output) :
 jH m (m.addRow l w' own hdr F) id n:=by
 have hne : ∀ {x},m.ρ.ul x→x≠l:=λh e=>hf (e▸h)
 have hnl : ∀ o,m.s.list l≠some o:=λo h=>hf (inv.ul l o h)
 refine jH.row (l:=l) inv ?_ (λb=>pK _) (λl' h=>by simp [bY.addRow,h]) ⟨rfl,rfl⟩ (λx=>Iff.rfl) (.inr hn) ?_ (λh=>absurd h hf) ?_ hsize hos htape hout
  (λr hr _ hL=>hw r hr hL) (λ_ h=>h) (λ_ h=>.inl h) (λr h=>Nat.lt_of_lt_of_le (inv.zlt r h) hsize) ?_
 ·intro d v h
  refine fG.carry (ρ:=m.ρ) (ρ':=(m.addRow l w' own hdr F).ρ) ⟨λ_ h=>h,λr hr=>hw r (inv.zlt r hr) (λhL=>(inv.Lz r hL).1 hr),λx hx=>⟨hx,rfl⟩,λx h=>Or.inl h,λx hu hv=>?_⟩ h
  have hx:=hne hu
  have hv' : m.s.live x:=by unfold Sx.live bY.addRow at hv;unfold Sx.live;simpa [hx] using hv
  refine ⟨hv',by simp [bY.addRow,hx],by simp [bY.addRow,hx],.inr (.inr λr hr=>⟨by simp [bY.addRow,hx];exact hr,?_⟩)⟩
  obtain ⟨o,ho⟩ : ∃ o,m.s.list x=some o:=Option.ne_none_iff_exists'.1 hv'
  exact hw r (inv.owned_lt (.inr (.inl ⟨x,o,ho,hr⟩))) (inv.Ll x o r ho hr)
 ·intro o h
  have : own=o:=by simpa [bY.addRow] using h
  subst this
  refine ⟨by simp [bY.addRow],hlf,?_⟩
  simpa [bY.addRow] using hro
 ·intro o r _ hr
  have hr : F r:=by simpa [bY.addRow] using hr
  exact .inr (hF r hr)
 ·rintro r ⟨h,hnF⟩
  refine ⟨.inl h,(inv.Lz r h).1,Nat.lt_of_lt_of_le (inv.Lz r h).2 hsize,λo _ hr=>hnF (by simpa [bY.addRow] using hr)⟩
theorem gG {α : Type} (n m : Nat) (a : Option α) (r : List (Nat × Option α)) : oG n ((m,a)::r)=if n=m then a else oG n r:=by
 show (if Nat.beq n m then a else oG n r)=_
 by_cases h : n=m
 ·subst h;simp [Nat.beq_refl]
 ·have : Nat.beq n m=false:=by
   cases hb : Nat.beq n m with
   | false=>rfl
   | true=>exact absurd (dH hb) h
  simp [this,h]
theorem lC (s : St) (o : tN) (l : Nat) : (s.addList o).list l=if l=s.nl then some o else s.list l:=gG _ _ _ _
theorem aPL (s : St) (o : tN) (b : Nat) : (s.addList o).box b=s.box b:=rfl
theorem jT (s : St) (x : Nat) (o : tN) (l : Nat) : (s.setList x o).list l=if l=x then some o else s.list l:=gG _ _ _ _
theorem aLl (s : St) (x : Nat) (cs : List DV) (b : Nat) : (s.setBox x cs).box b=if b=x then some cs else s.box b:=gG _ _ _ _
theorem aLm (s : St) (cs : List DV) (b : Nat) : (s.addBox cs).box b=if b=s.nb then some cs else s.box b:=gG _ _ _ _
structure aHy (m m' : bY) (s s' : St) (n : Nat) : Prop where
 step : jH m m' id n
 w : m'.w=m.w
 box : m'.s.box=m.s.box
 new : ∀ l,s.nl≤l→l<s'.nl→m'.s.list l=s'.list l
 old : ∀ l,¬ (s.nl≤l∧l<s'.nl)→m'.s.list l=m.s.list l
 ul : ∀ x,m'.ρ.ul x→m.ρ.ul x∨(s.nl≤x∧x<s'.nl)
 ub : m'.ρ.ub=m.ρ.ub
 L : ∀ r,m.L r↔m'.L r
structure aB6 (s s' : St) : Prop where
 boxes : s'.boxes=s.boxes
 nb : s'.nb=s.nb
 base : s'.base=s.base
 le : s.nl≤s'.nl
 old : ∀ l,¬ (s.nl≤l∧l<s'.nl)→s'.list l=s.list l
theorem aB6.refl (s : St) : aB6 s s:=⟨rfl,rfl,rfl,Nat.le_refl _,λ_ _=>rfl⟩
theorem aB6.trans {a b c : St} (h : aB6 a b) (k : aB6 b c) : aB6 a c:=
 ⟨k.boxes.trans h.boxes,k.nb.trans h.nb,k.base.trans h.base,Nat.le_trans h.le k.le,λl hl=>by
  have:=h.le;have:=k.le
  rw [k.old l (by omega),h.old l (by omega)]⟩
theorem aHy.refl {m : bY} (s : St) (n : Nat) (h : sN m) : aHy m m s s n:=
 ⟨jH.refl n h,rfl,rfl,λl h1 h2=>by omega,λ_ _=>rfl,λ_ h=>.inl h,rfl,λ_=>Iff.rfl⟩
theorem aHy.trans {m m' m'' : bY} {a b c : St} {n : Nat} (hs : aB6 a b) (ks : aB6 b c) (h : aHy m m' a b n) (k : aHy m' m'' b c n) : aHy m m'' a c n:=by
 have h1:=hs.le
 have h2:=ks.le
 refine ⟨h.step.trans k.step,k.w.trans h.w,k.box.trans h.box,λl hl hl'=>?_,λl hl=>?_,λx hx=>?_,k.ub.trans h.ub,λr=>(h.L r).trans (k.L r)⟩
 ·by_cases e : l<b.nl
  ·rw [k.old l (by omega),h.new l hl e,ks.old l (by omega)]
  ·exact k.new l (by omega) hl'
 ·rw [k.old l (by omega),h.old l (by omega)]
 ·rcases k.ul x hx with h' | h'
  ·rcases h.ul x h' with h'' | h''
   ·exact .inl h''
   ·exact .inr (by omega)
  ·exact .inr (by omega)
theorem bY.addNil {m : bY} (inv : sN m) {n : Nat} {s : St} (hn : n≤s.nl∧s.nl<n+16) (hf : ¬ m.ρ.ul s.nl) (sz by' : Nat) (g : Bool) (cts : List OTy) :
 aHy m (m.addRow s.nl m.w ⟨.own sz by' g cts,.lst []⟩ (.slice none 0 0) (λ_=>False)) s (s.addList ⟨.own sz by' g cts,.lst []⟩) n∧
 (m.addRow s.nl m.w ⟨.own sz by' g cts,.lst []⟩ (.slice none 0 0) (λ_=>False)).rd (.ref s.nl []) (.slice none 0 0):=by
 have st:=bY.addRow_step inv hf hn (w':=m.w) (own:=⟨.own sz by' g cts,.lst []⟩) (hdr:=.slice none 0 0) (F:=λ_=>False) rfl (.nil _ _ _ _ _ _ (λ_ h=>h)) (λ_ h=>h.elim)
  (λ_ _ _=>rfl) (Nat.le_refl _) rfl rfl rfl
 refine ⟨⟨st,rfl,rfl,λl h1 h2=>?_,λl h=>?_,λx hx=>?_,rfl,λr=>⟨λh=>⟨h,λh=>h⟩,λh=>h.1⟩⟩,?_⟩
 ·have : l=s.nl:=by simp [St.addList] at h2;omega
  subst this
  rw [lC]
  simp [bY.addRow]
 ·have : l≠s.nl:=λe=>h (by simp [St.addList];omega)
  simp [bY.addRow,this]
 ·rcases hx with h | h
  ·exact .inl h
  ·exact .inr (by simp [St.addList];omega)
 ·refine .ref _ _ _ (Or.inr rfl) trivial (λ_=>?_)
  show (m.addRow s.nl m.w ⟨.own sz by' g cts,.lst []⟩ (.slice none 0 0) (λ_=>False)).ρ.hdr s.nl=_
  simp [bY.addRow]
theorem aBC (s : St) (o : tN) : aB6 s (s.addList o):=by
 refine ⟨rfl,rfl,rfl,by simp [St.addList],λl hl=>?_⟩
 rw [lC,if_neg]
 intro e
 exact hl (by simp [St.addList];omega)
theorem qU {X : Cx} : ∀ {ds : List DV} {ts : List (Option Nat)} {s : St} {k : List DV→St→OR} {r : R},nD X ds ts s k=some r→
 ∃ ds' s',k ds' s'=some r∧ds'.length=ds.length∧aB6 s s'∧∀ (n : Nat) (m : bY),sN m→n≤s.nl→s'.nl≤n+16→(∀ x,s.nl≤x→x<n+16→¬ m.ρ.ul x)→
   ∀ us : List Value,(∀ (i : Nat) d u,ds[i]? = some d→us[i]? = some u→m.rd d u)→∃ m',aHy m m' s s' n∧∀ (i : Nat) d u,ds'[i]? = some d→us[i]? = some u→m'.rd d u
 | [],ts,s,k,r,h=>by
  have h : k [] s=some r:=by cases ts<;>exact h
  exact ⟨[],s,h,rfl,aB6.refl s,λn m inv _ _ _ us hrd=>⟨m,aHy.refl s n inv,hrd⟩⟩
 | d::ds,[],s,k,r,h=>⟨d::ds,s,h,rfl,aB6.refl s,λn m inv _ _ _ us hrd=>⟨m,aHy.refl s n inv,hrd⟩⟩
 | d::ds,t::ts,s,k,r,h=>by
   unfold nD at h
   split at h
   ·rename_i u
    obtain ⟨ds',s',hk,hl,hs,H⟩:=qU h
    have hs1:=aBC s ⟨rowOf X u,.lst []⟩
    refine ⟨_,s',hk,by simp [hl],hs1.trans hs,λn m inv hn hn' hf us hrd=>?_⟩
    have hle:=hs.le
    have hnl : (s.addList ⟨rowOf X u,.lst []⟩).nl=s.nl+1:=rfl
    obtain ⟨M1,hr1⟩:=bY.addNil inv (n:=n) (s:=s) ⟨hn,by omega⟩ (hf s.nl (Nat.le_refl _) (by omega)) (X.T.at u).size (X.T.at u).bytes (X.T.at u).isAgg (X.own u)
    have M1 : aHy m _ s (s.addList ⟨rowOf X u,.lst []⟩) n:=M1
    obtain ⟨m2,M2,hr2⟩:=H n _ M1.step.inv (by omega) hn' (λx hx hx' hu=>by
     rcases M1.ul x hu with h' | h'
     ·exact hf x (by omega) hx' h'
     ·omega) us.tail (λi d' u' h1 h2=>M1.step.rd _ _ (hrd (i+1) d' u' (by simpa using h1) (by cases us<;>simpa using h2)))
    refine ⟨m2,aHy.trans hs1 hs M1 M2,λi d' u' h1 h2=>?_⟩
    cases us with
    | nil=>simp at h2
    | cons u0 us=>
      cases i with
      | zero=>
        simp at h1 h2
        subst h1;subst h2
        have : m.rd .nils u0:=hrd 0 .nils u0 rfl rfl
        cases this
        exact M2.step.rd _ _ hr1
      | succ i=>exact hr2 i d' u' (by simpa using h1) (by simpa using h2)
   ·obtain ⟨ds',s',hk,hl,hs,H⟩:=qU h
    refine ⟨_,s',hk,by simp [hl],hs,λn m inv hn hn' hf us hrd=>?_⟩
    obtain ⟨m2,M2,hr2⟩:=H n m inv hn hn' hf us.tail (λi d' u' h1 h2=>hrd (i+1) d' u' (by simpa using h1) (by cases us<;>simpa using h2))
    refine ⟨m2,M2,λi d' u' h1 h2=>?_⟩
    cases us with
    | nil=>simp at h2
    | cons u0 us=>
      cases i with
      | zero=>
        simp at h1 h2
        subst h1;subst h2
        exact M2.step.rd _ _ (hrd 0 d u0 rfl rfl)
      | succ i=>exact hr2 i d' u' (by simpa using h1) (by simpa using h2)
variable {m m' : bY} {s s' : St} {B WL : NP} {n l : Nat} {w' : World}
structure tT (m : bY) (s : St) (B L : NP) (n : Nat) : Prop where
 inv : sN m
 ab : ∀ b,B b∨(n≤b∧b<n+16)→m.s.box b=s.box b
 al : ∀ l,L l∨(n≤l∧l<n+16)→m.s.list l=s.list l
 nb : n≤s.nb
 nl : n≤s.nl
 fb : ∀ x,s.nb≤x→x<n+16→¬ m.ρ.ub x
 fl : ∀ x,s.nl≤x→x<n+16→¬ m.ρ.ul x
structure dF (m m' : bY) (s s' : St) (B L WB WL : NP) (n : Nat) (scr : DV→DV) : Prop where
 step : jH m m' scr n
 after : aPK m m' s s' B L WB WL n
 nb : s.nb≤s'.nb
 nl : s.nl≤s'.nl
 ub : ∀ x,s'.nb≤x→m'.ρ.ub x→m.ρ.ub x
 ul : ∀ x,s'.nl≤x→m'.ρ.ul x→m.ρ.ul x
theorem dF.sit {L WB : NP} {scr : DV→DV} (g : dF m m' s s' B L WB WL n scr) (h : tT m s B L n) : tT m' s' B L n where
 inv:=g.step.inv
 ab:=g.after.ab
 al:=g.after.al
 nb:=Nat.le_trans h.nb g.nb
 nl:=Nat.le_trans h.nl g.nl
 fb:=λx hx hx' hu=>h.fb x (Nat.le_trans g.nb hx) hx' (g.ub x hx hu)
 fl:=λx hx hx' hu=>h.fl x (Nat.le_trans g.nl hx) hx' (g.ul x hx hu)
theorem aPK.trans {m m' m'' : bY} {s s' s'' : St} {B L WB WL : NP} {n : Nat} (h : aPK m m' s s' B L WB WL n) (k : aPK m' m'' s' s'' B L WB WL n) : aPK m m'' s s'' B L WB WL n where
 ab:=k.ab
 al:=k.al
 ob:=λb h1 h2=>(k.ob b h1 h2).trans (h.ob b h1 h2)
 ol:=λl h1 h2=>(k.ol l h1 h2).trans (h.ol l h1 h2)
 wb:=λb h1 h2=>(k.wb b h1 h2).trans (h.wb b h1 h2)
 wl:=λl h1 h2=>(k.wl l h1 h2).trans (h.wl l h1 h2)
theorem dF.trans {m m' m'' : bY} {s s' s'' : St} {B L WB WL : NP} {n : Nat} {f g : DV→DV} (h : dF m m' s s' B L WB WL n f) (k : dF m' m'' s' s'' B L WB WL n g) :
 dF m m'' s s'' B L WB WL n (λd=>g (f d)) where
 step:=h.step.trans k.step
 after:=h.after.trans k.after
 nb:=Nat.le_trans h.nb k.nb
 nl:=Nat.le_trans h.nl k.nl
 ub:=λx hx hu=>h.ub x (Nat.le_trans k.nb hx) (k.ub x hx hu)
 ul:=λx hx hu=>h.ul x (Nat.le_trans k.nl hx) (k.ul x hx hu)
theorem dF.refl {m : bY} {s : St} {B L : NP} (WB WL : NP) {n : Nat} (h : tT m s B L n) : dF m m s s B L WB WL n id where
 step:=jH.refl n h.inv
 after:=⟨h.ab,h.al,λ_ _ _=>rfl,λ_ _ _=>rfl,λ_ _ _=>rfl,λ_ _ _=>rfl⟩
 nb:=Nat.le_refl _
 nl:=Nat.le_refl _
 ub:=λ_ _ h=>h
 ul:=λ_ _ h=>h
theorem aHy.goes {L : NP} (WB WL : NP) (h : tT m s B L n) (M : aHy m m' s s' n) (hs : aB6 s s') (hn : s'.nl≤n+16) : dF m m' s s' B L WB WL n id where
 step:=M.step
 after:=by
  have hbox : ∀ b,s'.box b=s.box b:=λb=>by unfold St.box;rw [hs.boxes]
  have hnl:=h.nl
  refine ⟨λb hb=>?_,λl hl=>?_,λb _ _=>by rw [M.box],λl _ hl=>?_,λb _ _=>hbox b,λl _ hl=>?_⟩
  ·rw [M.box,hbox];exact h.ab b hb
  ·by_cases e : s.nl≤l∧l<s'.nl
   ·exact M.new l e.1 e.2
   ·rw [M.old l e,hs.old l e];exact h.al l hl
  ·exact M.old l (λe=>hl ⟨by omega,by omega⟩)
  ·exact hs.old l (λe=>hl ⟨by omega,by omega⟩)
 nb:=Nat.le_of_eq hs.nb.symm
 nl:=hs.le
 ub:=λx _ hu=>by rw [M.ub] at hu;exact hu
 ul:=λx hx hu=>(M.ul x hu).elim id (λe=>by omega)
theorem aLn : ∀ (ls : List Nat) (s : St),(s.killL ls).nb=s.nb
 | [],_=>rfl
 | _::r,_=>aLn r _
theorem xQ : ∀ (ls : List Nat) (s : St),(s.killL ls).nl=s.nl
 | [],_=>rfl
 | _::r,_=>xQ r _
theorem zE.goes {L : NP} (WB : NP) {ls : List Nat} (h : tT m s B L n) (M : zE m m' n ls) (hl : ∀ l∈ls,L l∨(n≤l∧l<n+16))
 (hw : ∀ l∈ls,WL l∨(n≤l∧l<n+16)) : dF m m' s (s.killL ls) B L WB WL n id where
 step:=M.step
 after:=by
  refine ⟨λb hb=>?_,λl hl=>?_,λb _ _=>by rw [M.box],λl h1 h2=>?_,λb _ _=>zY b ls s,λl h1 h2=>?_⟩
  ·rw [M.box,zY];exact h.ab b hb
  ·rw [M.list,iC,h.al l hl]
  ·rw [M.list,if_neg]
   intro e
   exact (hl l e).elim h1 h2
  ·rw [iC,if_neg]
   intro e
   exact (hw l e).elim h1 h2
 nb:=Nat.le_of_eq (aLn ls s).symm
 nl:=Nat.le_of_eq (xQ ls s).symm
 ub:=λx _ hu=>by rw [M.ρ] at hu;exact hu
 ul:=λx _ hu=>by rw [M.ρ] at hu;exact hu
theorem dF.addBox {m : bY} {s : St} {B L : NP} (WB WL : NP) {n : Nat} (h : tT m s B L n) (hn : s.nb<n+16) {cs : List DV} {vs : List Value} {ety : TypeId} (hl : vs.length=cs.length)
 (hc : ∀ (i : Nat) v,vs[i]? = some v→eN v) (hr : ∀ (i : Nat) d v,cs[i]? = some d→vs[i]? = some v→m.rd d v) :
 dF m (m.addBox s.nb (m.w.alloc (.cells vs.toArray ety)) cs) s (s.addBox cs) B L WB WL n id where
 step:=bY.addBox_step h.inv (h.fb s.nb (Nat.le_refl _) hn) ⟨h.nb,hn⟩ hl hc hr
 after:=by
  have h1:=h.nb
  refine ⟨λb hb=>?_,h.al,λb _ hb=>?_,λ_ _ _=>rfl,λb _ hb=>?_,λ_ _ _=>rfl⟩
  ·show (if b=s.nb then some cs else m.s.box b)=_
   rw [aLm,h.ab b hb]
  ·show (if b=s.nb then some cs else m.s.box b)=_
   rw [if_neg (λe=>hb ⟨by omega,by omega⟩)]
  ·rw [aLm,if_neg (λe=>hb ⟨by omega,by omega⟩)]
 nb:=Nat.le_succ _
 nl:=Nat.le_refl _
 ub:=λx hx hu=>hu.elim id (λe=>absurd (e▸hx) (by simp [St.addBox]))
 ul:=λ_ _ h=>h
theorem dF.setBox {m : bY} {s : St} {B L WB : NP} (WL : NP) {n : Nat} (h : tT m s B L n) {b : Nat} (hB : B b) (hW : WB b) {cs cs' : List DV} (hb : s.box b=some cs)
 {off : Nat} {us : List Value} (hle : off+us.length≤cs.length)
 (hlen : cs'.length=cs.length) (hc : ∀ (i : Nat) u,us[i]? = some u→eN u) (hnew : ∀ (i : Nat) d u,cs'[off+i]? = some d→us[i]? = some u→m.rd d u)
 (hold : ∀ i : Nat,(i<off∨off+us.length≤i)→cs'[i]? = cs[i]?) :
 dF m (m.setBox b (m.w.setCells (m.ρ.box b) off us) cs') s (s.setBox b cs') B L WB WL n id where
 step:=bY.setBox_step h.inv ((h.ab b (.inl hB)).trans hb) hle hlen hc hnew hold
 after:=by
  refine ⟨λx hx=>?_,h.al,λx hx _=>?_,λ_ _ _=>rfl,λx hx _=>?_,λ_ _ _=>rfl⟩
  ·show (if x=b then some cs' else m.s.box x)=_
   rw [aLl,h.ab x hx]
  ·show (if x=b then some cs' else m.s.box x)=_
   rw [if_neg (by rintro rfl;exact hx hB)]
  ·rw [aLl,if_neg (by rintro rfl;exact hx hW)]
 nb:=Nat.le_refl _
 nl:=Nat.le_refl _
 ub:=λ_ _ h=>h
 ul:=λ_ _ h=>h
theorem dF.addRow {m : bY} {s : St} {B L : NP} (WB WL : NP) {n : Nat} (h : tT m s B L n) (hn : s.nl<n+16) {w' : World} {own : tN} {hdr : Value} {F : NP} (hlf : own.o.isLeaf=false)
 (hro : eO w' m.Z own.o own.c hdr F) (hF : ∀ r,F r→m.L r∨m.w.heap.size≤r) (hw : ∀ r,r<m.w.heap.size→¬ m.L r→w'.heap[r]? = m.w.heap[r]?)
 (hsize : m.w.heap.size≤w'.heap.size) (hos : w'.os=m.w.os) (htape : w'.tape=m.w.tape) (hout : w'.output=m.w.output) :
 dF m (m.addRow s.nl w' own hdr F) s (s.addList own) B L WB WL n id where
 step:=bY.addRow_step h.inv (h.fl s.nl (Nat.le_refl _) hn) ⟨h.nl,hn⟩ hlf hro hF hw hsize hos htape hout
 after:=by
  have h1:=h.nl
  refine ⟨h.ab,λl hl=>?_,λ_ _ _=>rfl,λl _ hl=>?_,λ_ _ _=>rfl,λl _ hl=>?_⟩
  ·show (if l=s.nl then some own else m.s.list l)=_
   rw [lC,h.al l hl]
  ·show (if l=s.nl then some own else m.s.list l)=_
   rw [if_neg (λe=>hl ⟨by omega,by omega⟩)]
  ·rw [lC,if_neg (λe=>hl ⟨by omega,by omega⟩)]
 nb:=Nat.le_refl _
 nl:=Nat.le_succ _
 ub:=λ_ _ h=>h
 ul:=λx hx hu=>hu.elim id (λe=>absurd (e▸hx) (by simp [St.addList]))
theorem bY.addRow_rd {own : tN} {hdr : Value} {F : NP} (hc : eN hdr) : (m.addRow l w' own hdr F).rd (.ref l []) hdr:=
 .ref l [] hdr (.inr rfl) hc (λ_=>by
  show (if l=l then hdr else m.ρ.hdr l)=hdr
  rw [if_pos rfl])
theorem dF.setRow {m : bY} {s : St} {B L WL : NP} (WB : NP) {n : Nat} (h : tT m s B L n) {l : Nat} (hL : L l) (hW : WL l) {w0 : tN} {root : PV} {w' : World} {F' : NP} (hl : s.list l=some w0) (hp : w0.o.plain=true)
 (hro : eO w' m.Z w0.o root (m.ρ.hdr l) F') (hF' : ∀ r,F' r→m.ρ.fp l r∨m.L r)
 (hw : ∀ r,r<m.w.heap.size→¬ m.ρ.fp l r→w'.heap[r]? = m.w.heap[r]?)
 (hsize : w'.heap.size=m.w.heap.size) (hos : w'.os=m.w.os) (htape : w'.tape=m.w.tape) (hout : w'.output=m.w.output) :
 dF m (m.setRow l w' ⟨w0.o,root⟩ F') s (s.setList l ⟨w0.o,root⟩) B L WB WL n id where
 step:=jH.rowSetPlain h.inv ((h.al l (.inl hL)).trans hl) hp hro hF' hw hsize hos htape hout
 after:=by
  refine ⟨h.ab,λx hx=>?_,λ_ _ _=>rfl,λx hx _=>?_,λ_ _ _=>rfl,λx hx _=>?_⟩
  ·show (if x=l then some _ else m.s.list x)=_
   rw [jT,h.al x hx]
  ·show (if x=l then some _ else m.s.list x)=_
   rw [if_neg (by rintro rfl;exact hx hL)]
  ·rw [jT,if_neg (by rintro rfl;exact hx hW)]
 nb:=Nat.le_refl _
 nl:=Nat.le_refl _
 ub:=λ_ _ h=>h
 ul:=λ_ _ h=>h
theorem dF.setRowW {L : NP} (WB : NP) (h : tT m s B L n) (hL : L l) (hW : WL l) {w0 : tN} {root : PV} {F' : NP} (hl : s.list l=some w0) (hways : ∀ q u,fY m.w (m.ρ.fp l) (m.ρ.ty l) (m.ρ.hdr l) q u→fY w' F' (m.ρ.ty l) (m.ρ.hdr l) q u)
 (hro : eO w' m.Z w0.o root (m.ρ.hdr l) F') (hF' : ∀ r,F' r→m.ρ.fp l r∨m.L r)
 (hw : ∀ r,r<m.w.heap.size→¬ m.ρ.fp l r→w'.heap[r]? = m.w.heap[r]?)
 (hsize : w'.heap.size=m.w.heap.size) (hos : w'.os=m.w.os) (htape : w'.tape=m.w.tape) (hout : w'.output=m.w.output) :
 dF m (m.setRow l w' ⟨w0.o,root⟩ F') s (s.setList l ⟨w0.o,root⟩) B L WB WL n id where
 step:=jH.rowSetWays h.inv ((h.al l (.inl hL)).trans hl) hways hro hF' hw hsize hos htape hout
 after:=by
  refine ⟨h.ab,λx hx=>?_,λ_ _ _=>rfl,λx hx _=>?_,λ_ _ _=>rfl,λx hx _=>?_⟩
  ·show (if x=l then some _ else m.s.list x)=_
   rw [jT,h.al x hx]
  ·show (if x=l then some _ else m.s.list x)=_
   rw [if_neg (by rintro rfl;exact hx hL)]
  ·rw [jT,if_neg (by rintro rfl;exact hx hW)]
 nb:=Nat.le_refl _
 nl:=Nat.le_refl _
 ub:=λ_ _ h=>h
 ul:=λ_ _ h=>h
theorem aFo (l : List Nat) (b : Nat) : ∀ (bs : List (Nat × Option (List DV))),oG b (tO l 0 bs)=(oG b bs).map (·.map (scrub l 0 cU))
 | []=>rfl
 | (b',some cs)::r=>by
   unfold tO
   rw [gG,gG,aFo l b r]
   split<;>rfl
 | (b',none)::r=>by
   unfold tO
   rw [gG,gG,aFo l b r]
   split<;>rfl
theorem dF.setRowS {m : bY} {s : St} {B L WL WB : NP} {n : Nat} (h : tT m s B L n) (hB : ∀ b,B b) (hWB : ∀ b,WB b) {l : Nat} (hL : L l) (hW : WL l) {w0 : tN} {root : PV} {w' : World} {F' : NP} (hl : s.list l=some w0)
 (hro : eO w' m.Z w0.o root (m.ρ.hdr l) F') (hF' : ∀ r,F' r→m.ρ.fp l r∨m.L r)
 (hw : ∀ r,r<m.w.heap.size→¬ m.ρ.fp l r→w'.heap[r]? = m.w.heap[r]?)
 (hsize : w'.heap.size=m.w.heap.size) (hos : w'.os=m.w.os) (htape : w'.tape=m.w.tape) (hout : w'.output=m.w.output) :
 dF m (m.setRowS l w' ⟨w0.o,root⟩ F') s ((s.setList l ⟨w0.o,root⟩).scrub [l]) B L WB WL n (scrub [l] 0 cU) where
 step:=jH.rowSetScrub h.inv ((h.al l (.inl hL)).trans hl) hro hF' hw hsize hos htape hout
 after:=by
  refine ⟨λb hb=>?_,λx hx=>?_,λb hb _=>absurd (hB b) hb,λx hx _=>?_,λb hb _=>absurd (hWB b) hb,λx hx _=>?_⟩
  ·show (m.s.box b).map _=_
   rw [h.ab b hb]
   exact (aFo [l] b s.boxes).symm
  ·show (if x=l then some _ else m.s.list x)=(s.setList l ⟨w0.o,root⟩).list x
   rw [jT,h.al x hx]
  ·show (if x=l then some _ else m.s.list x)=_
   rw [if_neg (by rintro rfl;exact hx hL)]
  ·show (s.setList l ⟨w0.o,root⟩).list x=_
   rw [jT,if_neg (by rintro rfl;exact hx hW)]
 nb:=Nat.le_refl _
 nl:=Nat.le_refl _
 ub:=λ_ _ h=>h
 ul:=λ_ _ h=>h
variable {b n t off : Nat} {d : DV} {r : R} {m : bY} {s : St} {B WB : NP} {cs : List DV} {v : Value}
theorem tU {a : Nat} (h : Nat.ble a b=true) : a≤b:=Nat.le_of_ble_eq_true h
theorem PV.whole_inv {x y : PV} (h : bE n x=some y) : ∃ cs,x = .agg cs∧y=x∧cs.length=n:=by
 unfold bE at h
 split at h
 ·rename_i cs
  split at h
  ·rename_i hl
   cases h
   exact ⟨cs,rfl,rfl,dH hl⟩
  ·cases h
 ·cases h
theorem aSB {cs : R} : ∀ {m : Nat} {k : R→OR} {r : R},m≤cs.length→pJ.go (.agg cs) m k=some r→k (cs.take m)=some r
 | 0,k,r,_,h=>by simpa [pJ.go] using h
 | m+1,k,r,hm,h=>by
   unfold pJ.go at h
   have h:=aSB (by omega) h
   obtain ⟨c,hc,h⟩:=bH h
   have hc : cs[m]? = some c:=hc
   rw [List.take_add_one,hc]
   exact h
theorem rN {k : List DV→OR} (h : pJ n d k=some r) :
 ∃ ds,k ds=some r∧ds.length=n∧(∀ l,l∈ds.flatMap (dX cU)→l∈dX (cU+1) d)∧∀ (m : bY) (v : Value),m.rd d v→
   ∃ us,v.cells.toList=us∧us.length=n∧(∀ (i : Nat) u,us[i]? = some u→eN u)∧∀ (i : Nat) d u,ds[i]? = some d→us[i]? = some u→m.rd d u:=by
 unfold pJ at h
 split at h
 ·rename_i cs
  split at h
  ·rename_i hl
   have hl:=dH hl
   refine ⟨cs,h,hl,λl hm=>by simpa [dX] using hm,λm v hv=>?_⟩
   cases hv with
   | agg _ us hlu hc hr=>exact ⟨us,rfl,by omega,hc,hr⟩
  ·cases h
 ·rename_i v
  obtain ⟨y,hy,h⟩:=bH h
  obtain ⟨cs,rfl,rfl,hl⟩:=PV.whole_inv hy
  have h:=aSB (by omega) h
  rw [List.take_of_length_le (by omega)] at h
  refine ⟨_,h,by simpa using hl,λl hm=>?_,λm v hv=>?_⟩
  ·rw [List.mem_flatMap] at hm
   obtain ⟨d,hd,hm⟩:=hm
   rw [List.mem_map] at hd
   obtain ⟨c,_,rfl⟩:=hd
   simp [dX,cU] at hm
  ·cases hv with
   | p _ _ hv=>
     cases hv with
     | agg _ us hlu hc hr=>
       refine ⟨us,rfl,by omega,hc,λi d u h1 h2=>?_⟩
       rw [List.getElem?_map] at h1
       cases hc' : cs[i]? with
       | none=>rw [hc'] at h1;cases h1
       | some c=>
         rw [hc'] at h1
         cases h1
         exact .p _ _ (hr i c u hc' h2)
 ·cases h
theorem aBD : ∀ (vs cs : List DV) (off : Nat),off+vs.length≤cs.length→(qR cs off vs).length=cs.length∧
 (∀ i : Nat,i<vs.length→(qR cs off vs)[off+i]? = vs[i]?)∧∀ i : Nat,(i<off∨off+vs.length≤i)→(qR cs off vs)[i]? = cs[i]?
 | [],cs,off,_=>⟨rfl,λi hi=>by simp at hi,λ_ _=>rfl⟩
 | v::vs,cs,off,h=>by
   simp only [List.length_cons] at h
   obtain ⟨h1,h2,h3⟩:=aBD vs (cs.set off v) (off+1) (by simp;omega)
   refine ⟨by rw [qR,h1];simp,λi hi=>?_,λi hi=>?_⟩
   ·rw [qR]
    cases i with
    | zero=>
      rw [h3 _ (.inl (by omega))]
      simp only [Nat.add_zero] at h ⊢
      rw [List.getElem?_set_self (by omega)]
      rfl
    | succ i=>
      have:=h2 i (by simpa using hi)
      rw [show off+(i+1)=off+1+i from by omega,this]
      simp
   ·simp only [List.length_cons] at hi
    rw [qR,h3 i (by omega),List.getElem?_set_ne (by omega)]
mutual
theorem OTy.same_refl : ∀ (a : OTy),a.same a=true
 | .leaf=>rfl
 | .own s e g c=>by
  unfold OTy.same
  simp [Nat.beq_refl,OTy.sames_refl c]
theorem OTy.sames_refl : ∀ (a : List OTy),OTy.sames a a=true
 | []=>rfl
 | a::as_=>by
   unfold OTy.sames
   simp [OTy.same_refl a,OTy.sames_refl as_]
end
section
variable {P : Program} {X : Cx}
theorem aPM (hs : ((aM P).at t).size≠0) {L : NP} (WL : NP) (h : tT m s B L n) (hB : B b) (hW : WB b) {cs' : List DV} (hb : s.box b=some cs)
 {us : List Value} (hv : v.cells.toList=us) (hl : us.length=((aM P).at t).size) (hle : off+us.length≤cs.length)
   (hlen : cs'.length=cs.length) (hc : ∀ (i : Nat) u,us[i]? = some u→eN u) (hnew : ∀ (i : Nat) d u,cs'[off+i]? = some d→us[i]? = some u→m.rd d u)
   (hold : ∀ i : Nat,(i<off∨off+us.length≤i)→cs'[i]? = cs[i]?) :
   ∃ m',(storeVar t ⟨m.ρ.box b,off,none⟩ v).run P m.w = .ok () m'.w∧dF m m' s (s.setBox b cs') B L WB WL n id:=by
  obtain ⟨vs,ety,hh,hvl,hcv,hr⟩:=h.inv.box b cs ((h.ab b (.inl hB)).trans hb)
  exact ⟨_,aHx hs hv hl hh (by simp;omega) hc,dF.setBox WL h hB hW hb hle hlen hc hnew hold⟩
theorem aIU (hs : ((aM P).at t).size=1) {L : NP} (WL : NP) (h : tT m s B L n) (hB : B b) (hW : WB b) (hb : s.box b=some cs)
 (hcv : eN v) (hle : off+1≤cs.length) (hd : m.rd d v) :
   ∃ m',(storeVar t ⟨m.ρ.box b,off,none⟩ v).run P m.w = .ok () m'.w∧dF m m' s (s.setBox b (cs.set off d)) B L WB WL n id:=by
  refine aPM (us:=[v]) (by omega) WL h hB hW hb (uJ hcv) (by simp [hs]) (by simpa using hle) (by simp) ?_ ?_ ?_
  ·intro i u h
   cases i with
   | zero=>simp at h;subst h;exact hcv
   | succ i=>simp at h
  ·intro i d' u h1 h2
   cases i with
   | zero=>
     rw [Nat.add_zero,List.getElem?_set_self (by omega)] at h1
     cases h1
     cases h2
     exact hd
   | succ i=>simp at h2
  ·intro i hi
   simp at hi
   rw [List.getElem?_set_ne (by omega)]
theorem aCG {k : DV→OR} (h : aOx d k=some r) : k d=some r∧∀ (m : bY) (v : Value),m.rd d v→eN v:=by
 unfold aOx at h
 split at h
 ·rename_i x
  obtain ⟨y,hy,h⟩:=bH h
  unfold aS at hy
  split at hy
  ·rename_i he
   cases hy
   exact ⟨h,λm v hv=>fG.cellV hv (.inl ⟨x,rfl,he⟩)⟩
  ·cases hy
 ·cases h
 ·cases h
 ·cases h
 ·rename_i h1 h2 h3 h4
  refine ⟨h,λm v hv=>fG.cellV hv (.inr ⟨h1,?_⟩)⟩
  cases d<;>first | rfl | (exact absurd rfl (h2 _)) | (exact absurd rfl (h3 _)) | (exact absurd rfl h4)
theorem aOJ {v : DV} {k : St→OR} (hT : X.T=aM P) (hs : ((aM P).at t).size≠0) (h : aII X t b off v s k=some r) :
 ∃ s',k s'=some r∧∀ (n : Nat) (m : bY) (B L WB WL : NP),tT m s B L n→s'.nl≤n+16→B b→WB b→(∀ l∈dX (cU+1) v,L l∧WL l)→∀ vv,m.rd v vv→
   ∃ m',(storeVar t ⟨m.ρ.box b,off,none⟩ vv).run P m.w = .ok () m'.w∧dF m m' s s' B L WB WL n id:=by
 unfold aII at h
 simp only [hT] at h
 split at h
 rotate_left
 ·cases h
 rename_i cs hb
 split at h
 rotate_left
 ·cases h
 rename_i hle
 have hle:=tU hle
 split at h
 ·
  obtain ⟨ds,h,hlen,hls,H⟩:=rN h
  obtain ⟨ds',s1,hk,hlen',hs1,H1⟩:=qU h
  refine ⟨_,hk,λn m B L WB WL sit hn hB hW hL vv hv=>?_⟩
  obtain ⟨us,hu,hul,huc,hur⟩:=H m vv hv
  have hn : s1.nl≤n+16:=hn
  obtain ⟨m1,M1,hr1⟩:=H1 n m sit.inv sit.nl hn sit.fl us hur
  have G1:=M1.goes WB WL sit hs1 hn
  have hb1 : s1.box b=some cs:=by unfold St.box;rw [hs1.boxes];exact hb
  obtain ⟨e1,e2,e3⟩:=aBD ds' cs off (by omega)
  obtain ⟨m2,hrun,G2⟩:=aPM (P:=P) hs (B:=B) (L:=L) (WB:=WB) WL (G1.sit sit) hB hW (cs:=cs) (off:=off) (us:=us) hb1 hu (by omega) (by omega) e1 huc (λi d u h1 h2=>by
   have hi : i<us.length:=(List.getElem?_eq_some_iff.1 h2).1
   rw [e2 i (by omega)] at h1
   exact hr1 i d u h1 h2) (λi hi=>e3 i (by omega))
  refine ⟨m2,?_,G1.trans G2⟩
  rw [M1.w] at hrun
  have : m1.ρ.box b=m.ρ.box b:=(M1.step.mub b (sit.inv.ub b cs ((sit.ab b (.inl hB)).trans hb))).2
  rw [this] at hrun
  exact hrun
 ·split at h
  rotate_left
  ·cases h
  rename_i hs1
  have hs1:=dH hs1
  obtain ⟨h,hcv⟩:=aCG h
  have plain : ∀ {d : DV},k (s.setBox b (cs.set off d))=some r→(∀ (m : bY) v,m.rd d v→eN v)→(∀ l∈dX (cU+1) d,l∈dX (cU+1) v)→d=v→
   ∃ s',k s'=some r∧∀ (n : Nat) (m : bY) (B L WB WL : NP),tT m s B L n→s'.nl≤n+16→B b→WB b→(∀ l∈dX (cU+1) v,L l∧WL l)→∀ vv,m.rd v vv→
     ∃ m',(storeVar t ⟨m.ρ.box b,off,none⟩ vv).run P m.w = .ok () m'.w∧dF m m' s s' B L WB WL n id:=by
   intro d hk hc _ e
   subst e
   exact ⟨_,hk,λn m B L WB WL sit hn hB hW hL vv hv=>aIU hs1 WL sit hB hW hb (hc m vv hv) (by omega) hv⟩
  split at h
  ·
   split at h
   rotate_left
   ·cases h
   rename_i u hu
   refine ⟨_,h,λn m B L WB WL sit hn hB hW hL vv hv=>?_⟩
   cases hv
   have hn : s.nl+1≤n+16:=hn
   obtain ⟨M1,hr1⟩:=bY.addNil sit.inv (n:=n) (s:=s) ⟨sit.nl,by omega⟩ (sit.fl s.nl (Nat.le_refl _) (by omega)) (X.T.at u).size (X.T.at u).bytes (X.T.at u).isAgg (X.own u)
   have G1:=M1.goes (B:=B) (L:=L) WB WL sit (aBC s _) hn
   obtain ⟨m2,hrun,G2⟩:=aIU (P:=P) hs1 (B:=B) (L:=L) (WB:=WB) WL (G1.sit sit) (off:=off) (b:=b) hB hW (cs:=cs) hb (v:=.slice none 0 0) trivial (by omega) hr1
   exact ⟨m2,hrun,G1.trans G2⟩
  ·
   rename_i l lo hi _
   split at h
   ·rename_i l' hcs
    split at h
    ·rename_i hl'
     split at h
     rotate_left
     ·cases h
     rename_i w hw
     have hsame : nU w.o s (.sref l [] lo hi) (λc s'=>k ((s'.addList ⟨w.o,c⟩).setBox b (cs.set off (.ref s'.nl []))))=some r∨w.o.isLeaf=true:=by
      cases ho : w.o with
      | leaf=>exact .inr rfl
      | own sz e g cts=>
        left
        unfold nU
        rw [ho] at h
        simp only [hw,ho,OTy.same_refl,if_true]
        obtain ⟨c,hc,h⟩:=bH h
        rw [hc]
        exact h
     rcases hsame with hsame | hleaf
     ·obtain ⟨pv,ls,hk,hls,H⟩:=lB hsame
      refine ⟨_,hk,λn m B L WB WL sit hn hB hW hL vv hv=>?_⟩
      have hn : (s.killL ls).nl+1≤n+16:=hn
      have hlsL : ∀ l'∈ls,l'=l:=λl' h'=>by simpa [dX,cU] using hls l' h'
      have hLl:=hL l (by simp [dX,cU])
      obtain ⟨m1,F,sk,hro,hF⟩:=H n m L sit.inv (λl h=>sit.al l (.inl h)) (λl' h'=>by
       have : l'=l:=by simpa [dX,cU] using h'
       rw [this];exact hLl.1) vv hv
      have G1:=sk.goes (B:=B) (L:=L) (WL:=WL) WB sit (λl' h'=>.inl (by rw [hlsL l' h'];exact hLl.1)) (λl' h'=>.inl (by rw [hlsL l' h'];exact hLl.2))
      have sit1:=G1.sit sit
      have hlf : w.o.isLeaf=false:=by
       have:=(sit.inv.row l w ((sit.al l (.inl hLl.1)).trans hw))
       exact this.2.1
      have G2:=dF.addRow (B:=B) (L:=L) WB WL sit1 (by omega) (w':=m1.w) (own:=⟨w.o,pv⟩) (hdr:=vv) hlf hro (λr hr=>.inl (hF r hr).1) (λ_ _ _=>rfl) (Nat.le_refl _) rfl rfl rfl
      have sit2:=G2.sit sit1
      have hb2 : ((s.killL ls).addList ⟨w.o,pv⟩).box b=some cs:=by
       rw [aPL,zY];exact hb
      obtain ⟨m3,hrun,G3⟩:=aIU (P:=P) hs1 (B:=B) (L:=L) (WB:=WB) WL sit2 (off:=off) (b:=b) hB hW hb2 (hcv m vv hv) (by omega) (bY.addRow_rd (hcv m vv hv))
      refine ⟨m3,?_,(G1.trans G2).trans G3⟩
      have e1 : (m1.addRow (s.killL ls).nl m1.w ⟨w.o,pv⟩ vv F).ρ.box b=m.ρ.box b:=by
       show m1.ρ.box b=_
       rw [sk.ρ]
      have e2 : (m1.addRow (s.killL ls).nl m1.w ⟨w.o,pv⟩ vv F).w=m.w:=sk.w
      rw [e1,e2] at hrun
      exact hrun
     ·
      obtain ⟨c,hc,h⟩:=bH h
      refine ⟨_,h,λn m B L WB WL sit hn hB hW hL vv hv=>?_⟩
      have hLl:=hL l (by simp [dX,cU])
      have:=(sit.inv.row l w ((sit.al l (.inl hLl.1)).trans hw)).2.1
      rw [hleaf] at this
      cases this
    ·exact plain h hcv (λ_ h=>h) rfl
   ·exact plain h hcv (λ_ h=>h) rfl
  ·exact plain h hcv (λ_ h=>h) rfl
end
variable {l n : Nat} {w : tN} {path : jW} {s : St} {m : bY} {B WL WB F' Z : NP} {w' : World} {o : OTy} {xs : R} {v : Value} {c' : PV}
def aCH (l : Nat) (b : Bool) (e : gJ) : gJ:=if b then e else aBX [l] 0 e
def aEc (l : Nat) (b : Bool) (s : St) : St:=if b then s else s.scrub [l]
def aAp (l : Nat) (b : Bool) : DV→DV:=if b then id else scrub [l] 0 cU
theorem aJO {e : gJ} {k : gJ→St→OR} {r : R} (h : aOv l w path e s k=some r) : k (aCH l (w.o.stays path) e) (aEc l (w.o.stays path) s)=some r:=by
 unfold aOv at h
 unfold aCH aEc
 cases hp : w.o.stays path<;>rw [hp] at h<;>simpa using h
theorem aCI (l : List Nat) (t : Nat) : ∀ (e : gJ),(aBX l 0 e).get t=scrub l 0 cU (e.get t)
 | []=>rfl
 | (t',d)::r=>by
   unfold aBX gJ.get
   rw [aCI l t r]
   split<;>rfl
theorem aRy (l t : Nat) (b : Bool) (e : gJ) : (aCH l b e).get t=aAp l b (e.get t):=by
 unfold aCH aAp
 split
 ·rfl
 ·exact aCI [l] t e
theorem dF.touch {L : NP} (h : tT m s B L n) (hL : L l) (hW : WL l) {w0 : tN} {root : PV} (hl : s.list l=some w0)
 (hp : w0.o.plain=true∨∀ b,B b∧WB b)
 (hst : w0.o.plain=false→w0.o.stays path=true→∀ q u,fY m.w (m.ρ.fp l) (m.ρ.ty l) (m.ρ.hdr l) q u→fY w' F' (m.ρ.ty l) (m.ρ.hdr l) q u)
 (hro : eO w' m.Z w0.o root (m.ρ.hdr l) F') (hF' : ∀ r,F' r→m.ρ.fp l r∨m.L r)
 (hw : ∀ r,r<m.w.heap.size→¬ m.ρ.fp l r→w'.heap[r]? = m.w.heap[r]?)
 (hsize : w'.heap.size=m.w.heap.size) (hos : w'.os=m.w.os) (htape : w'.tape=m.w.tape) (hout : w'.output=m.w.output) :
 ∃ m',m'.w=w'∧m'.ρ.box=m.ρ.box∧dF m m' s (aEc l (w0.o.stays path) (s.setList l ⟨w0.o,root⟩)) B L WB WL n (aAp l (w0.o.stays path)):=by
 cases hpl : w0.o.plain with
 | true=>
   refine ⟨m.setRow l w' ⟨w0.o,root⟩ F',rfl,rfl,?_⟩
   have : w0.o.stays path=true:=by unfold OTy.stays;rw [hpl];rfl
   unfold aEc aAp
   rw [this]
   exact dF.setRow WB h hL hW hl hpl hro hF' hw hsize hos htape hout
 | false=>
   cases hs : w0.o.stays path with
   | true=>
     refine ⟨m.setRow l w' ⟨w0.o,root⟩ F',rfl,rfl,?_⟩
     unfold aEc aAp
     exact dF.setRowW WB h hL hW hl (hst hpl hs) hro hF' hw hsize hos htape hout
   | false=>
     have hp : ∀ b,B b∧WB b:=hp.resolve_left (by rw [hpl];simp)
     refine ⟨m.setRowS l w' ⟨w0.o,root⟩ F',rfl,rfl,?_⟩
     unfold aEc aAp
     exact dF.setRowS h (λb=>(hp b).1) (λb=>(hp b).2) hL hW hl hro hF' hw hsize hos htape hout
theorem eO.row_of {w : World} {F : NP} (h : eO w Z o (.lst xs) v F) (ho : o.isLeaf=false) (hn : n<xs.length) :
 ∃ (b off cap : Nat) (cells : Array Value) (ety : TypeId) (cv : Nat→Nat→Value) (fp : Nat→Nat→Nat→Prop),
   v = .slice (some ⟨b,off,none⟩) xs.length cap∧yT w Z o xs b off cap cells ety cv fp F:=by
 cases h with
 | leaf=>cases ho
 | nil=>simp at hn
 | own s e g cts _ b o cap cells ety cv fp _ hh hs ho' hl hz he hc hv hr hf hb hd=>
   exact ⟨b,o,cap,cells,ety,cv,fp,rfl,⟨ho,hh,hs,ho',hl,hz,he,hc,hv,hr,hf,hb,hd⟩⟩
theorem aPN {w : World} {c : PV} {v1 : Value} {F : NP} (hsh : o.shallow=true) (hp : path≠[])
 (hr : eO w Z o c v F) (hg : aIS o c path=some (.lst xs)) (hh : fY w F o v path v1) {b o1 len1 cap1 : Nat} (hv1 : v1 = .slice (some ⟨b,o1,none⟩) len1 cap1) (hx : xs≠[])
 (hw : ∀ r,r≠b→w'.heap[r]? = w.heap[r]?) (hr' : eO w' Z o c' v F') (hc' : c'≠.hole) {q : jW} {u : Value} (hq : fY w F o v q u) : fY w' F' o v q u:=by
 have short : ∀ {j : Nat} {r : jW} {v2 u2 : Value},fY w F (o.ct j) v2 r u2→r = []:=λ{j r v2 u2} h=>by
  cases r with
  | nil=>rfl
  | cons p2 q2=>
    exfalso
    obtain ⟨i2,j2⟩:=p2
    obtain ⟨_,_,_,_,_,_,_,_,_,_,_,_,_,_,_,_,g7,_⟩:=h
    rw [OTy.shallow_ct hsh] at g7
    cases g7
 cases path with
 | nil=>exact absurd rfl hp
 | cons p rest=>
 obtain ⟨i,j⟩:=p
 obtain ⟨b0,o0,len,cap,n,kk,cells,ety,fz,u0,hv,hi,hn,hh0,hc0,hF0,hlf,hrest⟩:=hh
 obtain rfl:=short hrest
 have hrest : u0=v1:=hrest
 subst hrest
 have hne : b0≠b:=by
  unfold aIS at hg
  cases hx0 : aB o.s o.g c i with
  | none=>rw [hx0] at hg;cases hg
  | some x=>
    rw [hx0] at hg
    dsimp only at hg
    obtain ⟨ys,b2,off,cap2,cells2,ety2,cv,fp,k2,n2,rfl,hv2,hi2,hn2,he,R⟩:=hr.row_inv hx0
    rw [hv] at hv2
    cases hv2
    rw [hi] at hi2
    cases hi2
    have hcc:=R.heap
    rw [hh0] at hcc
    cases hcc
    have hi2 : n<ys.length:=(List.getElem?_eq_some_iff.1 hn2).1
    have fin : ∀ {j' : Nat},j'<o.s→j=j'→gF o.g x j' = .lst xs→b0≠b:=by
     intro j' hj' hjj hel
     subst hjj
     have h1:=R.rep n j x hn2 hj'
     rw [hel] at h1
     have h2:=R.at_ n j hi2 hj'
     rw [hc0] at h2
     cases h2
     rw [hv1] at h1
     generalize hoc : o.ct j=oc at h1 hlf
     cases h1 with
     | leaf=>cases hlf
     | nil=>exact absurd rfl hx
     | own s e g cts _ bb oo capp cells' ety' cv' fp' _ hh' hs' ho' hl' hz' he' hc' hv' hr2 hf hb hd=>
       rintro rfl
       exact R.fb n j hi2 hj' ((hf _).2 (.inl rfl))
    by_cases hgt : o.g=true
    ·rw [if_pos hgt] at hg
     cases hy : x.cell j with
     | none=>rw [hy] at hg;cases hg
     | some y=>
       rw [hy] at hg
       dsimp only at hg
       unfold aIS at hg
       cases hg
       obtain ⟨h1,h2⟩:=R.cell hn2 hgt hy
       exact fin h1 rfl h2
    ·rw [if_neg hgt] at hg
     split at hg
     ·rename_i hj0
      have:=dH hj0
      unfold aIS at hg
      cases hg
      refine fin (j':=0) R.pos (dH hj0) ?_
      unfold gF
      rw [if_neg hgt]
     ·cases hg
 have hF'0 : F' b0:=by
  rw [hv] at hr'
  cases hr' with
  | leaf=>simp [OTy.ct,OTy.isLeaf] at hlf
  | hole=>exact absurd rfl hc'
  | nil=>omega
  | own s e g cts _ bb oo capp cells' ety' cv' fp' _ hh' hs' ho' hl' hz' he' hc' hv' hr2 hf hb hd=>exact (hf _).2 (.inl rfl)
 cases q with
 | nil=>exact hq
 | cons p2 q2=>
   obtain ⟨i2,j2⟩:=p2
   obtain ⟨b2,o2,len2,cap2,n2,kk2,cells2,ety2,fz2,u2,hv2,hi2,hn2,hh2,hc2,hF2,hlf2,hrest2⟩:=hq
   obtain rfl:=short hrest2
   rw [hv] at hv2
   cases hv2
   exact ⟨b0,o0,len,cap,n2,kk2,cells2,ety2,fz2,u2,hv,hi2,hn2,(hw b0 hne).trans hh2,hc2,hF'0,hlf2,hrest2⟩
section
variable {P : Program}
theorem aPO {t : Nat} (hs : ((aM P).at t).size≠0) {L : NP} (sit : tT m s B L n) (hL : L l) (hW : WL l) (hl : s.list l=some w)
 (hp : w.o.plain=true∨∀ b,B b∧WB b) (hg : aIS w.o w.c path=some (.lst xs)) (hnh : path≠[]→c'≠.hole) {kk : IntKind} {i : Nat} {x x' : PV} (hx : xs[i]? = some x)
 (HS : ∀ (w₀ : World) (Z : NP) (v : Value) (F : NP),eO w₀ Z w.o w.c v F→(w.o.along path).isLeaf=false→
  ∃ v1 F1,fY w₀ F w.o v path v1∧eO w₀ Z (w.o.along path) (.lst xs) v1 F1∧(∀ r,F1 r→F r)∧
    ∀ (w' : World) (G : NP),eO w' Z (w.o.along path) (.lst (xs.set i x')) v1 G→(∀ r,Z r∨(F r∧¬ F1 r)→w'.heap[r]? = w₀.heap[r]?)→(∀ r,G r→F1 r∨¬ F r)→
      ∃ F',eO w' Z w.o c' v F'∧∀ r,F' r→(F r∧¬ F1 r)∨G r)
 (hx' : x'.isEl (w.o.along path).s (w.o.along path).g=true) {off : Nat} {us : List Value} {vv : Value} (hvu : vv.cells.toList=us) (hul : us.length=((aM P).at t).size)
 (hle : off+us.length≤(w.o.along path).s) (hus : ∀ (j : Nat) u,us[j]? = some u→eN u) {G : Nat→Nat→Prop}
 (hkeep : ∀ j : Nat,j<(w.o.along path).s→(j<off∨off+us.length≤j)→gF (w.o.along path).g x' j=gF (w.o.along path).g x j)
 (hnew : ∀ (j : Nat) u,us[j]? = some u→eO m.w m.Z ((w.o.along path).ct (off+j)) (gF (w.o.along path).g x' (off+j)) u (G j))
 (hGL : ∀ j r : Nat,j<us.length→G j r→m.L r) (hGG : ∀ j j' r : Nat,j<us.length→j'<us.length→G j r→G j' r→j=j')
 {va : Value} (hva : m.rd (.eptr l path (.int kk i) off) va) :
 ∃ m',(Instr.storeAt t va vv).run P m.w = .ok () m'.w∧m'.ρ.box=m.ρ.box∧dF m m' s (aEc l (w.o.stays path) (s.setList l ⟨w.o,c'⟩)) B L WB WL n (aAp l (w.o.stays path)):=by
 have hml:=(sit.al l (.inl hL)).trans hl
 obtain ⟨hty,_,hro⟩:=sit.inv.row l w hml
 have hlf : (w.o.along path).isLeaf=false:=by
  cases ho : w.o.along path with
  | own=>rfl
  | leaf=>
    exfalso
    rw [ho] at hx'
    cases x'<;>simp [PV.isEl,OTy.s,OTy.g] at hx'
 obtain ⟨v1,F1,hh,hr1,hF1,HW⟩:=HS m.w m.Z _ _ hro hlf
 have hi : i<xs.length:=(List.getElem?_eq_some_iff.1 hx).1
 obtain ⟨b,o,cap,cells,ety,cv,fp,rfl,R⟩:=hr1.row_of hlf hi
 have hbF1 : F1 b:=(R.foot b).2 (.inl rfl)
 have hbF:=hF1 b hbF1
 have hbL : ¬ m.L b:=sit.inv.Ll l w b hml hbF
 have hva : va = .pointer (some ⟨b,o+i*(w.o.along path).s+off,none⟩):=by
  cases hva with
  | eptr _ _ _ _ _ _ _ hd=>
    obtain ⟨b2,o2,len2,cap2,k2,n2,hh2,hi2,hn2,hva⟩:=hd (bY.live_of hml)
    rw [← hty] at hh2
    cases hh.unique hh2
    cases hi2
    rw [hva,hty]
 subst hva
 have hnm : i*(w.o.along path).s+(w.o.along path).s≤xs.length*(w.o.along path).s:=by
  have : (i+1)*(w.o.along path).s≤xs.length*(w.o.along path).s:=Nat.mul_le_mul_right _ hi
  rwa [Nat.succ_mul] at this
 have hcm : xs.length*(w.o.along path).s≤cap*(w.o.along path).s:=Nat.mul_le_mul_right _ R.len
 have hroom:=R.room
 have hne : ∀ r,r≠b→(m.w.setCells b (o+i*(w.o.along path).s+off) us).heap[r]? = m.w.heap[r]?:=λr hr=>eG hr us _ m.w
 obtain ⟨e1,e2,e3,e4⟩:=iQ us b (o+i*(w.o.along path).s+off) m.w
 have hZb : ∀ r,m.Z r→r≠b:=λr hz e=>R.nz (e▸hz)
 obtain ⟨cells',cv',fp',F',R',hF'⟩:=R.update hx hx' off us hle hus G hkeep
  (λj u hj=>by
   have hj' : j<us.length:=(List.getElem?_eq_some_iff.1 hj).1
   exact (hnew j u hj).frame (λ_ h=>h) (λr hz=>hne r (hZb r hz)) (λr hr=>hne r (λe=>hbL (e▸hGL j r hj' hr))) (λr hr=>(sit.inv.Lz r (hGL j r hj' hr)).1))
  (λj r hj hr hf=>sit.inv.Ll l w r hml (hF1 r hf) (hGL j r hj hr)) hGG
 obtain ⟨F'',hro',hF''⟩:=HW _ F' (by have:=R'.repO;rwa [List.length_set] at this) (λr hr=>hne r (by
  rintro rfl
  rcases hr with hr | hr
  ·exact R.nz hr
  ·exact hr.2 hbF1)) (λr hr=>by
  rcases hF' r hr with h | ⟨j,hj,h⟩
  ·exact .inl h
  ·exact .inr (λhf=>sit.inv.Ll l w r hml hf (hGL j r hj h)))
 obtain ⟨m',hw',hbox,hG⟩:=dF.touch sit hL hW hl hp (WB:=WB) (path:=path) (λhpl hst q u hq=>by
  unfold OTy.stays at hst
  rw [hpl,Bool.false_or,Bool.and_eq_true] at hst
  have hpn : path≠[]:=by
   intro e
   rw [e] at hst
   simp at hst
  rw [← hty] at hq ⊢
  exact aPN hst.1 hpn hro hg hh rfl (by intro e;rw [e] at hi;simp at hi) hne hro' (hnh hpn) hq) hro' (λr hr=>by
  rcases hF'' r hr with h | h
  ·exact .inl h.1
  ·rcases hF' r h with h | ⟨j,hj,h⟩
   ·exact .inl (hF1 r h)
   ·exact .inr (hGL j r hj h)) (λr _ hr=>hne r (by rintro rfl;exact hr hbF)) e1 e2 e3 e4
 refine ⟨m',?_,hbox,hG⟩
 rw [hw']
 have : (Instr.storeAt t (.pointer (some ⟨b,o+i*(w.o.along path).s+off,none⟩)) vv).run P m.w=(storeVar t ⟨b,o+i*(w.o.along path).s+off,none⟩ vv).run P m.w:=by
  simp [Instr.storeAt,Instr.sureAddr]
 rw [this]
 exact aHx hs hvu hul R.heap (by omega) hus
end
variable {s off l t : Nat} {c i v c' y : PV} {g : Bool} {path : jW} {k : gJ → St → OR} {r : R} {e : gJ} {ow : tN}
theorem PV.setCell_form {j : Nat} (h : aC s c i j v=some c') :
 ∃ (xs : R) (k : IntKind) (n : Nat) (cs : R),c = .lst xs∧i = .int k n∧xs[n]? = some (.agg cs):=by
 unfold aC at h
 split at h
 ·rename_i xs k n
  split at h
  ·rename_i hn
   split at h
   ·rename_i cs hx
    exact ⟨xs,k,n.toNat,cs,rfl,by rw [Int.toNat_of_nonneg hn],hx⟩
   ·cases h
  ·cases h
 ·cases h
theorem PV.setAt_form (h : aX s g c i v=some c') :
 ∃ (xs : R) (k : IntKind) (n : Nat),c = .lst xs∧i = .int k n:=by
 unfold aX at h
 split at h
 ·rename_i xs k n
  split at h
  ·rename_i hn
   exact ⟨xs,k,n.toNat,rfl,by rw [Int.toNat_of_nonneg hn.1]⟩
  ·cases h
 ·cases h
theorem aJP {s : Nat} {kk : IntKind} {n : Nat} : ∀ {ys : R} {xs cs : R} {off : Nat} {k : PV→OR} {r : R},cs.length=s→xs[n]? = some (.agg cs)→
 jX.setAll s (.lst xs) (.int kk n) off ys k=some r→
 ∃ cs',k (.lst (xs.set n (.agg cs')))=some r∧cs'.length=s∧(ys≠[]→off+ys.length≤s)∧(∀ j : Nat,j<ys.length→cs'[off+j]? = ys[j]?)∧∀ j : Nat,(j<off∨off+ys.length≤j)→cs'[j]? = cs[j]?
 | [],xs,cs,off,k,r,hl,hx,h=>by
  refine ⟨cs,?_,hl,λh=>absurd rfl h,λj hj=>by simp at hj,λ_ _=>rfl⟩
  have hn : n<xs.length:=(List.getElem?_eq_some_iff.1 hx).1
  have : xs.set n (.agg cs)=xs:=by
   rw [← (List.getElem?_eq_some_iff.1 hx).2,List.set_getElem_self]
  rw [this]
  exact h
 | y::ys,xs,cs,off,k,r,hl,hx,h=>by
   unfold jX.setAll at h
   obtain ⟨c1,hc,h⟩:=bH h
   obtain ⟨cs0,h0,h1,h2,h3,rfl⟩:=PV.setCell_inv hx hc
   cases h0
   have hn : n<xs.length:=(List.getElem?_eq_some_iff.1 hx).1
   obtain ⟨cs',hk,g1,g2,g3,g4⟩:=aJP (cs:=cs.set off y) (by simpa using hl) (by rw [List.getElem?_set_self hn]) h
   rw [List.set_set] at hk
   refine ⟨cs',hk,g1,λ_=>?_,λj hj=>?_,λj hj=>?_⟩
   ·cases ys with
    | nil=>simp;omega
    | cons y' ys=>have:=g2 (by simp);simp at this ⊢;omega
   ·cases j with
    | zero=>
      rw [g4 _ (.inl (by omega)),Nat.add_zero,List.getElem?_set_self (by omega)]
      rfl
    | succ j=>
      have:=g3 j (by simpa using hj)
      rw [show off+(j+1)=off+1+j from by omega,this]
      rfl
   ·simp only [List.length_cons] at hj
    rw [g4 j (by omega),List.getElem?_set_ne (by omega)]
section
variable {P : Program} {X : Cx}
theorem aPP (h : aC s c i off v=some y) : ∃ ys,y = .lst ys:=by
 unfold aC at h
 repeat' split at h
 all_goals first | (cases h;done) | (cases h;exact ⟨_,rfl⟩)
theorem aTp (h : aX s g c i v=some y) : ∃ ys,y = .lst ys:=by
 unfold aX at h
 repeat' split at h
 all_goals first | (cases h;done) | (cases h;exact ⟨_,rfl⟩)
theorem aUM {o : OTy} {k : PV→OR} (hp : path≠[]) (h : aDH o c path y k=some r) : aDH o c path y (λc'=>match c' with | .lst ys=>k (.lst ys) | _=>none)=some r:=by
 cases path with
 | nil=>exact absurd rfl hp
 | cons p q=>
   obtain ⟨i,j⟩:=p
   have e1 : (λz'=>bd (aC o.s c i j z') k)=λz'=>bd (aC o.s c i j z') (λc'=>match c' with | .lst ys=>k (.lst ys) | _=>none):=by
    funext z'
    cases hz : aC o.s c i j z' with
    | none=>rfl
    | some y=>obtain ⟨ys,rfl⟩:=aPP hz;rfl
   have e2 : (λz'=>bd (aX o.s o.g c i z') k)=λz'=>bd (aX o.s o.g c i z') (λc'=>match c' with | .lst ys=>k (.lst ys) | _=>none):=by
    funext z'
    cases hz : aX o.s o.g c i z' with
    | none=>rfl
    | some y=>obtain ⟨ys,rfl⟩:=aTp hz;rfl
   unfold aDH at h ⊢
   rw [← e1,← e2]
   exact h
theorem aPQ {w : tN} {s : St} (h : jX.fin e k l path w c s=some r) :
 ∃ c' c1,k (aCH l (w.o.stays path) e) (aEc l (w.o.stays path) (s.setList l ⟨w.o,c'⟩))=some r∧aIS w.o w.c path=some c1∧(path≠[]→c'≠.hole)∧
   ∀ (w₀ : World) (Z : NP) (v : Value) (F : NP),eO w₀ Z w.o w.c v F→(w.o.along path).isLeaf=false→
   ∃ v1 F1,fY w₀ F w.o v path v1∧eO w₀ Z (w.o.along path) c1 v1 F1∧(∀ r,F1 r→F r)∧
     ∀ (w' : World) (G : NP),eO w' Z (w.o.along path) c v1 G→(∀ r,Z r∨(F r∧¬ F1 r)→w'.heap[r]? = w₀.heap[r]?)→(∀ r,G r→F1 r∨¬ F r)→
       ∃ F',eO w' Z w.o c' v F'∧∀ r,F' r→(F r∧¬ F1 r)∨G r:=by
 unfold jX.fin at h
 by_cases hpn : path = []
 ·obtain ⟨c',c1,hk,hp,H⟩:=qT h
  exact ⟨c',c1,aJO hk,hp,λh=>absurd hpn h,H⟩
 ·obtain ⟨c',c1,hk,hp,H⟩:=qT (aUM hpn h)
  cases c'<;>try (cases hk;done)
  exact ⟨_,c1,aJO hk,hp,λ_ h=>(by cases h),H⟩
theorem aJQ (hs : ((aM P).at t).size≠0) {s : St} {ds : List DV} (hw0 : s.list l=some ow)
 (hds : ds.length=((aM P).at t).size) (h : jX.setIn e k (ow.o.along path) ds off l path i s=some r) :
 ∃ s',k (aCH l (ow.o.stays path) e) s'=some r∧∀ (n : Nat) (m : bY) (B L WB WL : NP),tT m s B L n→L l→WL l→(∀ l'∈ds.flatMap (dX cU),L l'∧WL l')→(ow.o.plain=true∨∀ b,B b∧WB b)→
   ∀ va vv us,m.rd (.eptr l path i off) va→vv.cells.toList=us→us.length=((aM P).at t).size→(∀ (i : Nat) u,us[i]? = some u→eN u)→(∀ (i : Nat) d u,ds[i]? = some d→us[i]? = some u→m.rd d u)→
   ∃ m',(Instr.storeAt t va vv).run P m.w = .ok () m'.w∧dF m m' s s' B L WB WL n (aAp l (ow.o.stays path)):=by
 unfold jX.setIn at h
 obtain ⟨ys,ls,h,hlen,hls,H⟩:=yI h
 split at h
 rotate_left
 ·cases h
 rename_i w hw
 obtain ⟨c1,hg,h⟩:=uH h
 have hll : l∉ls:=λe=>by rw [iC,if_pos e] at hw;cases hw
 have hww : w=ow:=by
  rw [iC,if_neg hll,hw0] at hw
  cases hw;rfl
 subst hww
 have hne : ys≠[]:=by
  intro e
  rw [e] at hlen
  simp at hlen
  omega
 obtain ⟨xs,kk,nn,cs,rfl,rfl,hx⟩ : ∃ (xs : R) (k : IntKind) (n : Nat) (cs : R),c1 = .lst xs∧i = .int k n∧xs[n]? = some (.agg cs):=by
  cases ys with
  | nil=>exact absurd rfl hne
  | cons y ys=>
    unfold jX.setAll at h
    obtain ⟨c2,hc,_⟩:=bH h
    exact PV.setCell_form hc
 have hcs : cs.length=(w.o.along path).s:=by
  cases ys with
  | nil=>exact absurd rfl hne
  | cons y ys=>
    unfold jX.setAll at h
    obtain ⟨c2,hc,_⟩:=bH h
    obtain ⟨cs0,h0,h1,_⟩:=PV.setCell_inv hx hc
    cases h0
    exact h1
 obtain ⟨cs',h,g1,g2,g3,g4⟩:=aJP hcs hx h
 obtain ⟨c',c2,hk,hp2,hnh,HS⟩:=aPQ h
 rw [hg] at hp2
 cases hp2
 refine ⟨_,hk,λn m B L WB WL sit hL hW hLs hp va vv us hva hvu hul hus hrd=>?_⟩
 obtain ⟨m1,F,sk,C⟩:=H n m L sit.inv (λl h=>sit.al l (.inl h)) (λl' h'=>(hLs l' h').1) us (by omega) hrd
 have G1:=sk.goes (B:=B) (L:=L) (WL:=WL) WB sit (λl' h'=>.inl (hLs l' (hls l' h')).1) (λl' h'=>.inl (hLs l' (hls l' h')).2)
 have hva1:=sk.keepD hva
 have hgt : (w.o.along path).g=true:=by
  obtain ⟨hty,hlf0,hro⟩:=sit.inv.row l w ((sit.al l (.inl hL)).trans hw0)
  cases hva with
  | eptr _ _ _ _ _ _ _ hd=>
    obtain ⟨_,_,_,_,_,_,hh,_⟩:=hd (bY.live_of ((sit.al l (.inl hL)).trans hw0))
    have hlf:=hh.along_notLeaf (by rw [← hty];exact hlf0)
    rw [← hty] at hlf
    obtain ⟨v1,F1,_,hr1,_,_⟩:=HS m.w m.Z _ _ hro hlf
    obtain ⟨_,_,_,_,_,_,_,_,R⟩:=hr1.row_of hlf (List.getElem?_eq_some_iff.1 hx).1
    have:=R.el nn _ hx
    simp [PV.isEl] at this
    exact this.1
 obtain ⟨m2,hrun,_,G2⟩:=aPO (P:=P) hs (G1.sit sit) (WB:=WB) hL hW hw hp hg hnh hx HS (x':=.agg cs') (by rw [hgt];simp [PV.isEl,g1,Nat.beq_refl]) hvu hul (off:=off) (by have:=g2 hne;omega) hus
  (G:=F) (λj hj hj'=>by
   rw [hgt,jO,jO,List.getD,List.getD,g4 j (by omega)])
  (λj u hj=>by
   have hj' : j<us.length:=(List.getElem?_eq_some_iff.1 hj).1
   have hy : ys[j]? = some ys[j]:=List.getElem?_eq_getElem (by omega)
   have:=C.rep j _ u hy hj
   rw [hgt,jO,List.getD,g3 j (by omega),hy]
   exact this)
  (λj r hj hr=>(C.own j r hj hr).1) (λj j' r hj hj' hr hr'=>C.apart j j' r hj hj' hr hr') hva1
 refine ⟨m2,?_,G1.trans G2⟩
 rw [sk.w] at hrun
 exact hrun
theorem aPR (hs : ((aM P).at t).size≠0) {s : St} {x : PV} {ls : List Nat} (hw0 : s.list l=some ow)
 (h : (match (s.killL ls).list l with
  | some w=>aCu w.o w.c path λo c=>bd (aX o.s o.g c i x) λc=>jX.fin e k l path w c (s.killL ls)
  | none=>none)=some r) :
 x.isEl (ow.o.along path).s (ow.o.along path).g=true∧∃ s',k (aCH l (ow.o.stays path) e) s'=some r∧∀ (n : Nat) (m m1 : bY) (B L WB WL : NP),tT m s B L n→zE m m1 n ls→L l→WL l→(∀ l'∈ls,L l'∧WL l')→(ow.o.plain=true∨∀ b,B b∧WB b)→
  ∀ va vv vs us F,m.rd (.eptr l path i 0) va→vv.cells.toList=us→us.length=((aM P).at t).size→us.length=(ow.o.along path).s→(∀ (i : Nat) u,us[i]? = some u→eN u)→
    aSA m m1 (ow.o.along path) 0 vs us F→(∀ (j : Nat) pv,vs[j]? = some pv→gF (ow.o.along path).g x j=pv)→
  ∃ m',(Instr.storeAt t va vv).run P m.w = .ok () m'.w∧dF m m' s s' B L WB WL n (aAp l (ow.o.stays path)):=by
 split at h
 rotate_left
 ·cases h
 rename_i w hw
 obtain ⟨c1,hg,h⟩:=uH h
 have hll : l∉ls:=λe=>by rw [iC,if_pos e] at hw;cases hw
 have hww : w=ow:=by
  rw [iC,if_neg hll,hw0] at hw
  cases hw;rfl
 subst hww
 obtain ⟨c2,hset,h⟩:=bH h
 obtain ⟨xs,kk,nn,rfl,rfl⟩:=PV.setAt_form hset
 obtain ⟨hn,hel,rfl⟩:=PV.setAt_inv hset
 obtain ⟨c',c3,hk,hp2,hnh,HS⟩:=aPQ h
 rw [hg] at hp2
 cases hp2
 refine ⟨hel,_,hk,λn m m1 B L WB WL sit sk hL hW hLs hp va vv vs us F hva hvu hul huo hus C hvx=>?_⟩
 have G1:=sk.goes (B:=B) (L:=L) (WL:=WL) WB sit (λl' h'=>.inl (hLs l' h').1) (λl' h'=>.inl (hLs l' h').2)
 obtain ⟨m2,hrun,_,G2⟩:=aPO (P:=P) hs (G1.sit sit) (WB:=WB) hL hW hw hp hg hnh (List.getElem?_eq_getElem hn) HS (x':=x) hel hvu hul (off:=0) (by omega) hus
  (G:=F) (λj hj hj'=>by omega)
  (λj u hj=>by
   have hj' : j<us.length:=(List.getElem?_eq_some_iff.1 hj).1
   have hjv : j<vs.length:=by rw [C.len];exact hj'
   have hy : vs[j]? = some vs[j]:=List.getElem?_eq_getElem hjv
   have:=C.rep j _ u hy hj
   rw [Nat.zero_add] at this ⊢
   rw [hvx j _ hy]
   exact this)
  (λj r hj hr=>(C.own j r hj hr).1) (λj j' r hj hj' hr hr'=>C.apart j j' r hj hj' hr hr') (sk.keepD hva)
 refine ⟨m2,?_,G1.trans G2⟩
 rw [sk.w] at hrun
 exact hrun
structure iR.Cov (f : iR) (B L WB WL : NP) : Prop where
 rb : ∀ b∈f.rb,B b
 rl : ∀ l∈f.rl,L l
 wb : ∀ b∈f.wb,WB b
 wl : ∀ l∈f.wl,WL l
 all : f.last=true→∀ x,B x∧L x∧WB x∧WL x
theorem aCJ {a v : DV} {s : St} (hT : X.T=aM P) (h : jX X t a v e s k=some r) :
 ∃ e' s' scr,k e' s'=some r∧(∀ t,e'.get t=scr (e.get t))∧((bZ s a v).last=false→scr=id∧e'=e)∧∀ (n : Nat) (m : bY) (B L WB WL : NP),tT m s B L n→s'.nl≤n+16→
   (bZ s a v).Cov B L WB WL→∀ va vv,m.rd a va→m.rd v vv→
   ∃ m',(Instr.storeAt t va vv).run P m.w = .ok () m'.w∧dF m m' s s' B L WB WL n scr:=by
 unfold jX at h
 simp only [hT] at h
 split at h
 ·cases h
 rename_i hs
 have hs : ((aM P).at t).size≠0:=λe=>hs (by rw [e];rfl)
 split at h
 ·rename_i b off
  obtain ⟨s',hk,H⟩:=aOJ hT hs h
  refine ⟨e,s',id,hk,λ_=>rfl,λ_=>⟨rfl,rfl⟩,λn m B L WB WL sit hn C va vv hva hvv=>?_⟩
  cases hva
  obtain ⟨m',hrun,G⟩:=H n m B L WB WL sit hn (C.rb b (by simp [bZ])) (C.wb b (by simp [bZ])) (λl hl=>⟨C.rl l (by simpa [bZ,aDI] using hl),C.wl l (by simpa [bZ,aDI] using hl)⟩) vv hvv
  refine ⟨m',?_,G⟩
  rw [← hrun]
  simp [Instr.storeAt,Instr.sureAddr]
 ·rename_i l path i off
  split at h
  rotate_left
  ·cases h
  rename_i w hw
  replace h:=uH h
  obtain ⟨c1,hg,h⟩:=h
  have hlast : (bZ s (.eptr l path i off) v).last = !w.o.plain:=by
   simp [bZ,jF,hw]
  have covL : ∀ {B L WB WL : NP},(bZ s (.eptr l path i off) v).Cov B L WB WL→L l∧WL l:=λC=>⟨C.rl l (by simp [bZ]),C.wl l (by simp [bZ])⟩
  have covV : ∀ {B L WB WL : NP},(bZ s (.eptr l path i off) v).Cov B L WB WL→∀ l'∈dX (cU+1) v,L l'∧WL l':=
   λC l' h'=>⟨C.rl l' (by simp [bZ,aDI];exact .inr h'),C.wl l' (by simp [bZ,aDI];exact .inr h')⟩
  have covP : ∀ {B L WB WL : NP},(bZ s (.eptr l path i off) v).Cov B L WB WL→w.o.plain=true∨∀ b,B b∧WB b:=λC=>by
   cases hp : w.o.plain with
   | true=>exact .inl rfl
   | false=>exact .inr (λb=>let ⟨h1,_,h3,_⟩:=C.all (by rw [hlast,hp];rfl) b;⟨h1,h3⟩)
  have key : ∀ {s' : St},k (aCH l (w.o.stays path) e) s'=some r→(∀ (n : Nat) (m : bY) (B L WB WL : NP),tT m s B L n→
   (bZ s (.eptr l path i off) v).Cov B L WB WL→∀ va vv,m.rd (.eptr l path i off) va→m.rd v vv→
   ∃ m',(Instr.storeAt t va vv).run P m.w = .ok () m'.w∧dF m m' s s' B L WB WL n (aAp l (w.o.stays path)))→
   ∃ e' s' scr,k e' s'=some r∧(∀ t,e'.get t=scr (e.get t))∧((bZ s (.eptr l path i off) v).last=false→scr=id∧e'=e)∧∀ (n : Nat) (m : bY) (B L WB WL : NP),tT m s B L n→s'.nl≤n+16→
     (bZ s (.eptr l path i off) v).Cov B L WB WL→∀ va vv,m.rd (.eptr l path i off) va→m.rd v vv→
     ∃ m',(Instr.storeAt t va vv).run P m.w = .ok () m'.w∧dF m m' s s' B L WB WL n scr:=λhk H=>
   ⟨_,_,_,hk,λt=>aRy l t (w.o.stays path) e,λhl=>by
    rw [hlast] at hl
    have hp : w.o.plain=true:=by simpa using hl
    have hp : w.o.stays path=true:=by unfold OTy.stays;rw [hp];rfl
    unfold aAp aCH
    rw [hp]
    exact ⟨rfl,rfl⟩,λn m B L WB WL sit _=>H n m B L WB WL sit⟩
  split at h
  ·rename_i hc
   simp only [Bool.and_eq_true] at hc
   have h0:=dH hc.1.1
   have hsz:=dH hc.1.2
   subst h0
   obtain ⟨x,ls,h,hls,H⟩:=aJN h
   obtain ⟨hel,s',hk,H2⟩:=aPR (P:=P) hs hw h
   refine key hk (λn m B L WB WL sit C va vv hva hvv=>?_)
   obtain ⟨m1,vs,us,F,sk,CC,hvu,hul,hus,hvx⟩:=H n m L sit.inv (λl h=>sit.al l (.inl h)) (λl' h'=>(covV C l' h').1) vv hvv hel
   exact H2 n m m1 B L WB WL sit sk (covL C).1 (covL C).2 (λl' h'=>covV C l' (hls l' h')) (covP C) va vv vs us F hva hvu (by omega) hul hus CC hvx
  ·split at h
   ·obtain ⟨ds,h,hlen,hls,H⟩:=rN h
    obtain ⟨s',hk,H2⟩:=aJQ (P:=P) hs hw hlen h
    refine key hk (λn m B L WB WL sit C va vv hva hvv=>?_)
    obtain ⟨us,hvu,hul,hus,hrd⟩:=H m vv hvv
    exact H2 n m B L WB WL sit (covL C).1 (covL C).2 (λl' h'=>covV C l' (hls l' h')) (covP C) va vv us hva hvu hul hus hrd
   ·split at h
    rotate_left
    ·cases h
    rename_i hs1
    simp only [Bool.and_eq_true] at hs1
    have hs1 : ((aM P).at t).size=1:=dH hs1.1
    obtain ⟨h,hcv⟩:=aCG h
    obtain ⟨s',hk,H2⟩:=aJQ (P:=P) hs hw (by simp [hs1]) h
    refine key hk (λn m B L WB WL sit C va vv hva hvv=>?_)
    refine H2 n m B L WB WL sit (covL C).1 (covL C).2 (λl' h'=>covV C l' (wI _ (by simpa using h'))) (covP C) va vv [vv] hva (uJ (hcv m vv hvv)) (by simp [hs1]) ?_ ?_
    ·intro i u h
     cases i with
     | zero=>simp at h;subst h;exact hcv m vv hvv
     | succ i=>simp at h
    ·intro i d u h h'
     cases i with
     | zero=>simp at h h';subst h;subst h';exact hvv
     | succ i=>simp at h
 ·cases h
end
variable {t : Nat} {w : World} {s : St} {k : DV → St → OR} {r : R}
def qC (P : Program) (zok : Nat→Bool) : Prop:=∀ t,zok t=true→(P.info? t).bind (·.zero)=some (gI (aM P) t)
theorem aNJ (m : bY) (x : PV) : m.rd (aK6 x) (uU x):=by
 cases x<;>first | exact .nils | exact .p _ _ (.bool _) | exact .p _ _ (.int _ _) | exact .p _ _ (.str _) | exact .p _ _ .nil | exact .p _ _ .nilf | exact .dead _
theorem aA6 (x : PV) : eN (uU x):=by
 cases x<;>trivial
theorem aGt (w : World) (Z : NP) (x : PV) : kX w Z (aK7 x) (uU x):=by
 cases x<;>first | exact .empty none 0 | exact .bool _ | exact .int _ _ | exact .str _ | exact .nil | exact .nilf | exact .hole _ trivial
section
variable {P : Program} {X : Cx}
theorem aUN {zok : Nat→Bool} (hz : qC P zok) (h : zok t=true) : (zeroValue t).run P w = .ok (gI (aM P) t) w:=by
 have h:=hz t h
 cases hi : P.info? t with
 | none=>rw [hi] at h;cases h
 | some i=>
   rw [hi] at h
   have h : i.zero=some (gI (aM P) t):=h
   simp [zeroValue,typeInfo,hi,h]
theorem sO {T : pS} (hl : (zeroCells T 20 t).length=(T.at t).size) (h1 : (T.at t).isAgg=true∨(T.at t).size=1) :
 (gI T t).cells.toList=(zeroCells T 20 t).map uU:=by
 unfold gI
 cases ha : (T.at t).isAgg with
 | true=>rfl
 | false=>
   have h1 : (T.at t).size=1:=h1.resolve_left (by rw [ha];simp)
   rw [h1] at hl
   match hz : zeroCells T 20 t,hl with
   | [x],_=>exact uJ (aA6 x)
theorem aLo {v : Value} : (Go.newVar t v).run P w = .ok ⟨w.heap.size,0,none⟩ (w.alloc (.cells v.cells t)):=by
 unfold Go.newVar newRow
 rw [Sem.run_bind]
 rfl
theorem aRz {ds : List DV} {ts : List (Option Nat)} (h : nD X ds ts s (λcs s=>k (.ptr s.nb 0) (s.addBox cs))=some r) :
 ∃ d s',k d s'=some r∧∀ (n : Nat) (m : bY) (B L WB WL : NP),tT m s B L n→s'.nl≤n+16→s'.nb≤n+16→∀ us : List Value,us.length=ds.length→(∀ (i : Nat) u,us[i]? = some u→eN u)→
   (∀ (i : Nat) d u,ds[i]? = some d→us[i]? = some u→m.rd d u)→
   ∃ m',m'.w=m.w.alloc (.cells us.toArray t)∧dF m m' s s' B L WB WL n id∧m'.rd d (.pointer (some ⟨m.w.heap.size,0,none⟩)):=by
 obtain ⟨ds',s1,hk,hlen,hs1,H1⟩:=qU h
 refine ⟨_,_,hk,λn m B L WB WL sit hn hn' us hul hus hrd=>?_⟩
 have hn : s1.nl≤n+16:=hn
 have hn' : s1.nb+1≤n+16:=hn'
 obtain ⟨m1,M1,hr1⟩:=H1 n m sit.inv sit.nl hn sit.fl us hrd
 have G1:=M1.goes WB WL sit hs1 hn
 have G2:=dF.addBox (B:=B) (L:=L) WB WL (G1.sit sit) (by omega) (ety:=t) (cs:=ds') (vs:=us) (by omega) hus hr1
 refine ⟨_,?_,G1.trans G2,?_⟩
 ·show m1.w.alloc _=_
  rw [M1.w]
 ·have : (m1.addBox s1.nb (m1.w.alloc (.cells us.toArray t)) ds').rd (.ptr s1.nb 0) (.pointer (some ⟨(m1.addBox s1.nb (m1.w.alloc (.cells us.toArray t)) ds').ρ.box s1.nb,0,none⟩)):=.ptr _ _ (.inr rfl)
  have e : (m1.addBox s1.nb (m1.w.alloc (.cells us.toArray t)) ds').ρ.box s1.nb=m.w.heap.size:=by
   show (if s1.nb=s1.nb then m1.w.heap.size else _)=_
   rw [if_pos rfl,M1.w]
  rw [e] at this
  exact this
theorem aOK (hT : X.T=aM P) (hz : qC P X.zok) (h : aIN X t s k=some r) :
 ∃ d s',k d s'=some r∧∀ (n : Nat) (m : bY) (B L WB WL : NP),tT m s B L n→s'.nl≤n+16→s'.nb≤n+16→
   ∃ v m',(Instr.alloc t true (.tuple #[])).run P m.w = .ok v m'.w∧dF m m' s s' B L WB WL n id∧m'.rd d v:=by
 unfold aIN at h
 split at h
 rotate_left
 ·cases h
 rename_i hc
 unfold aD1 at hc
 simp only [Bool.and_eq_true,Bool.or_eq_true,hT] at hc
 obtain ⟨⟨hzk,hl⟩,h1⟩:=hc
 have hl:=dH hl
 have h1 : ((aM P).at t).isAgg=true∨((aM P).at t).size=1:=h1.imp id dH
 obtain ⟨d,s',hk,H⟩:=aRz (t:=t) h
 rw [hT] at H
 refine ⟨d,s',hk,λn m B L WB WL sit hn hn'=>?_⟩
 obtain ⟨m',hw,G,hr⟩:=H n m B L WB WL sit hn hn' ((zeroCells (aM P) 20 t).map uU) (by simp) (λi u h=>by
  rw [List.getElem?_map] at h
  cases hc : (zeroCells (aM P) 20 t)[i]? with
  | none=>rw [hc] at h;cases h
  | some x=>rw [hc] at h;cases h;exact aA6 x) (λi d u h h'=>by
  rw [List.getElem?_map] at h h'
  cases hc : (zeroCells (aM P) 20 t)[i]? with
  | none=>rw [hc] at h;cases h
  | some x=>rw [hc] at h h';cases h;cases h';exact aNJ m x)
 refine ⟨_,m',?_,G,hr⟩
 have he : (gI (aM P) t).cells=((zeroCells (aM P) 20 t).map uU).toArray:=by
  rw [← sO hl h1]
 unfold Instr.alloc
 rw [Sem.run_bind,aUN hz hzk,Result.andThen_ok]
 simp only
 rw [Sem.run_bind,aLo,Result.andThen_ok,Sem.run_pure,hw,he]
theorem aRA {x : DV} (h : aTj X t x s k=some r) :
 ∃ d s',k d s'=some r∧∀ (n : Nat) (m : bY) (B L WB WL : NP),tT m s B L n→s'.nl≤n+16→s'.nb≤n+16→∀ u,m.rd x u→
   ∃ v m',(Instr.box t u).run P m.w = .ok v m'.w∧dF m m' s s' B L WB WL n id∧m'.rd d v:=by
 have run : ∀ {u : Value} {us : List Value} {w : World},u.cells.toList=us→(Instr.box t u).run P w = .ok (.pointer (some ⟨w.heap.size,0,none⟩)) (w.alloc (.cells us.toArray t)):=by
  intro u us w hu
  unfold Instr.box
  rw [Sem.run_bind,aLo,Result.andThen_ok,Sem.run_pure,← hu]
 unfold aTj at h
 split at h
 ·obtain ⟨ds,h,hlen,_,H⟩:=rN h
  obtain ⟨d,s',hk,H2⟩:=aRz (t:=t) h
  refine ⟨d,s',hk,λn m B L WB WL sit hn hn' u hu=>?_⟩
  obtain ⟨us,hvu,hul,hus,hrd⟩:=H m u hu
  obtain ⟨m',hw,G,hr⟩:=H2 n m B L WB WL sit hn hn' us (by omega) hus hrd
  exact ⟨_,m',by rw [run hvu,hw],G,hr⟩
 ·obtain ⟨h,hcv⟩:=aCG h
  obtain ⟨d,s',hk,H2⟩:=aRz (t:=t) h
  refine ⟨d,s',hk,λn m B L WB WL sit hn hn' u hu=>?_⟩
  obtain ⟨m',hw,G,hr⟩:=H2 n m B L WB WL sit hn hn' [u] rfl (λi u' h=>by
   cases i with
   | zero=>simp at h;subst h;exact hcv m _ hu
   | succ i=>simp at h) (λi d u' h h'=>by
   cases i with
   | zero=>simp at h h';subst h;subst h';exact hu
   | succ i=>simp at h)
  exact ⟨_,m',by rw [run (uJ (hcv m u hu)),hw],G,hr⟩
end
variable {x : DV} {k : DV → OR} {r : R}
section
variable {P : Program} {X : Cx}
theorem aLp {i : Nat} (h : aB1 x i k=some r) :
 ∃ d,k d=some r∧∀ (m : bY) v,m.rd x v→∃ u,(Instr.extract v i).run P m.w = .ok u m.w∧m.rd d u:=by
 unfold aB1 at h
 split at h
 ·rename_i cs
  split at h
  ·rename_i d hd
   refine ⟨d,h,λm v hv=>?_⟩
   cases hv with
   | tup _ vs hl hr=>
     have hi : i<cs.length:=(List.getElem?_eq_some_iff.1 hd).1
     have hlt : i<vs.length:=by omega
     have hv : vs[i]? = some vs[i]:=List.getElem?_eq_getElem hlt
     refine ⟨vs[i],?_,hr i d _ hd hv⟩
     simp [Instr.extract,hlt]
  ·cases h
 ·rename_i v
  obtain ⟨y,hy,h⟩:=bH h
  refine ⟨_,h,λm u hu=>?_⟩
  cases hu with
  | p _ _ hu=>
    unfold cA at hy
    split at hy
    ·rename_i cs
     cases hu with
     | tup _ vs hl hr=>
       have hi : i<cs.length:=(List.getElem?_eq_some_iff.1 hy).1
       have hlt : i<vs.length:=by omega
       have hv : vs[i]? = some vs[i]:=List.getElem?_eq_getElem hlt
       refine ⟨vs[i],?_,.p _ _ (hr i y _ hy hv)⟩
       simp [Instr.extract,hlt]
    ·cases hy
 ·cases h
theorem PV.isPtr_inv {c d : PV} (h : bG c=some d) : d=c∧∃ cs,c = .bx cs:=by
 unfold bG at h
 split at h
 ·cases h;exact ⟨rfl,_,rfl⟩
 ·cases h
theorem pS.struct {t : Nat} {fs : List (Nat × Nat)} (h : ((aM P).at t).d = .struct fs) : ∃ f : Array Field,P.underlying t=some (.struct f)∧fs=f.toList.map λf=>(f.offset,f.type):=by
 obtain ⟨i,d,_,hd,hr⟩:=pS.known (P:=P) (t:=t) (.inr (by rw [h];simp))
 rw [hr] at h
 obtain ⟨f,rfl,hf⟩:=aBB h
 exact ⟨f,hd,hf⟩
theorem aIV (hT : X.T=aM P) {t f : Nat} {s : St} (h : wG X t x f s k=some r) :
 ∃ d,k d=some r∧∀ (m : bY),(∀ l∈(eP x).rl,m.s.list l=s.list l)→∀ v,m.rd x v→∃ u,(Instr.fieldAt t v f).run P m.w = .ok u m.w∧m.rd d u:=by
 unfold wG at h
 simp only [hT] at h
 split at h
 rotate_left
 ·cases h
 rename_i fs hfs
 split at h
 rotate_left
 ·cases h
 rename_i o u hfu
 split at h
 ·cases h
 rename_i hs
 have hs : ((aM P).at u).size≠0:=λe=>hs (by rw [e];rfl)
 obtain ⟨fa,hu,rfl⟩:=pS.struct hfs
 have run : ∀ (w : World) (b off : Nat),(Instr.fieldAt t (.pointer (some ⟨b,off,none⟩)) f).run P w = .ok (.pointer (some ⟨b,off+o,none⟩)) w:=by
  intro w b off
  rw [List.getElem?_map] at hfu
  cases hf : fa.toList[f]? with
  | none=>rw [hf] at hfu;cases hfu
  | some fl=>
    rw [hf] at hfu
    simp at hfu
    obtain ⟨rfl,rfl⟩:=hfu
    have hf' : fa[f]? = some fl:=by simpa using hf
    have hsz:=nY (P:=P) (w:=w) (.inl hs)
    simp [Instr.fieldAt,Instr.sureAddr,fieldPlace,underlying,hu,hf',hsz,hs,nF]
 split at h
 ·refine ⟨_,h,λm ha v hv=>?_⟩
  cases hv with
  | ptr b off hb=>exact ⟨_,run _ _ _,.ptr _ _ hb⟩
 ·rename_i l path i off
  split at h
  rotate_left
  ·cases h
  rename_i w hw
  refine ⟨_,h,λm ha v hv=>?_⟩
  have hl : m.s.live l:=bY.live_of ((ha l (by simp [eP])).trans hw)
  cases hv with
  | eptr _ _ _ _ _ hul hc hd=>
    obtain ⟨b,o',len,cap,kk,n,h1,h2,h3,rfl⟩:=hd hl
    exact ⟨_,run _ _ _,.eptr _ _ _ _ _ hul trivial (λ_=>⟨b,o',len,cap,kk,n,h1,h2,h3,by rw [Nat.add_assoc]⟩)⟩
 ·refine ⟨_,h,λm ha v hv=>?_⟩
  cases hv with
  | fptr _ _ _ off b o' cells e fz cv h1 h2 h3 h4 h5 h6=>
    exact ⟨_,run _ _ _,by rw [Nat.add_assoc];exact .fptr _ _ _ _ b o' cells e fz cv h1 h2 h3 h4 h5 h6⟩
 ·refine ⟨_,h,λm ha v hv=>?_⟩
  cases hv with
  | bptr _ off b o' h1=>exact ⟨_,run _ _ _,by rw [Nat.add_assoc];exact .bptr _ _ b o' h1⟩
 ·obtain ⟨y,hy,h⟩:=bH h
  obtain ⟨rfl,cs,rfl⟩:=PV.isPtr_inv hy
  refine ⟨_,h,λm ha v hv=>?_⟩
  cases hv with
  | p _ _ hv=>
    have hv':=hv
    cases hv with
    | bx _ b o' cells e fz cv h1 h2 h3 h4 h5=>exact ⟨_,run _ _ _,.bptr _ _ b o' hv'⟩
 ·cases h
end
variable {x : DV} {k : DV → OR} {r : R} {t : Nat}
section
variable {P : Program} {X : Cx}
theorem pS.str {t : Nat} (h : ((aM P).at t).d = .str) : P.underlying t=some .string:=by
 obtain ⟨i,d,_,hd,hr⟩:=pS.known (P:=P) (t:=t) (.inr (by rw [h];simp))
 rw [hr] at h
 rw [hd,aLi h]
theorem pS.array {t n e : Nat} (h : ((aM P).at t).d = .array n e) : P.underlying t=some (.array n e):=by
 obtain ⟨i,d,_,hd,hr⟩:=pS.known (P:=P) (t:=t) (.inr (by rw [h];simp))
 rw [hr] at h
 rw [hd,aOE h]
theorem aKg {s : St} (h : zW x s k=some r) :
 ∃ d,k d=some r∧∀ (m : bY),(∀ l∈(eP x).rl,m.s.list l=s.list l)→∀ v,m.rd x v→m.rd d v∧
   ((∃ a,v = .pointer (some a))∨∃ f vs,v = .func (.func f) #[] vs):=by
 unfold zW at h
 split at h
 ·obtain ⟨y,hy,h⟩:=bH h
  obtain ⟨rfl,cs,rfl⟩:=PV.isPtr_inv hy
  refine ⟨_,h,λm _ v hv=>⟨hv,?_⟩⟩
  cases hv with
  | p _ _ hv=>cases hv;exact .inl ⟨_,rfl⟩
 ·refine ⟨_,h,λm _ v hv=>⟨hv,?_⟩⟩
  cases hv;exact .inl ⟨_,rfl⟩
 ·rename_i l path i off
  split at h
  ·rename_i w hw
   refine ⟨_,h,λm ha v hv=>⟨hv,?_⟩⟩
   have hl : m.s.live l:=bY.live_of ((ha l (by simp [eP])).trans hw)
   cases hv with
   | eptr _ _ _ _ _ hul hc hd=>
     obtain ⟨b,o',len,cap,kk,n,h1,h2,h3,rfl⟩:=hd hl
     exact .inl ⟨_,rfl⟩
  ·cases h
 ·refine ⟨_,h,λm _ v hv=>⟨hv,?_⟩⟩
  cases hv;exact .inl ⟨_,rfl⟩
 ·refine ⟨_,h,λm _ v hv=>⟨hv,?_⟩⟩
  cases hv;exact .inl ⟨_,rfl⟩
 ·refine ⟨_,h,λm _ v hv=>⟨hv,?_⟩⟩
  cases hv;exact .inr ⟨_,_,rfl⟩
 ·cases h
theorem aPS {op : UnOp} (h : aNF op x k=some r) :
 ∃ d,k d=some r∧∀ (m : bY) v,m.rd x v→∃ u,(Op.unary op v).run P m.w = .ok u m.w∧m.rd d u:=by
 unfold aNF at h
 split at h
 ·obtain ⟨y,hy,h⟩:=bH h
  refine ⟨_,h,λm v hv=>?_⟩
  cases hv with
  | p _ _ hv=>
    unfold dB at hy
    split at hy
    ·cases hy;cases hv
     exact ⟨_,rfl,.p _ _ (.bool _)⟩
    ·cases hy
 ·obtain ⟨y,hy,h⟩:=bH h
  refine ⟨_,h,λm v hv=>?_⟩
  cases hv with
  | p _ _ hv=>
    unfold dM at hy
    split at hy
    ·cases hy;cases hv
     exact ⟨_,rfl,.p _ _ (.int _ _)⟩
    ·cases hy
 ·cases h
theorem aHz {m : bY} : ∀ {ds : List DV} {cs : R},aGp ds=some cs→cs.length=ds.length∧∀ (i : Nat) d v,ds[i]? = some d→m.rd d v→∃ c,cs[i]? = some c∧kX m.w m.Z c v
 | [],cs,h=>by cases h;exact ⟨rfl,λi d v h=>by simp at h⟩
 | d::r,cs,h=>by
   have go : ∀ {c : PV} {cs : R},(aGp r).map (c::·)=some cs→(∀ v,m.rd d v→kX m.w m.Z c v)→cs.length=(d::r).length∧∀ (i : Nat) d' v,(d::r)[i]? = some d'→m.rd d' v→∃ c,cs[i]? = some c∧kX m.w m.Z c v:=by
    intro c cs h hc
    cases hl : aGp r with
    | none=>rw [hl] at h;cases h
    | some ys=>
      rw [hl] at h;cases h
      obtain ⟨h1,h2⟩:=aHz hl
      refine ⟨by simp [h1],λi d' v hd hv=>?_⟩
      cases i with
      | zero=>simp at hd;subst hd;exact ⟨c,rfl,hc v hv⟩
      | succ i=>simpa using h2 i d' v (by simpa using hd) hv
   unfold aGp at h
   split at h
   ·cases h;rename_i he;cases he
   ·rename_i v r' he
    cases he
    exact go h (λv hv=>by cases hv;assumption)
   ·rename_i f r' he
    cases he
    refine go h (λv hv=>?_)
    cases hv with
    | fn _ _ vs hl hr=>
      have : vs = []:=List.eq_nil_of_length_eq_zero hl.symm
      subst this
      exact .fn f [] [] rfl (λi d v h=>by simp at h)
   ·cases h
theorem aOL (hT : X.T=aM P) {i : DV} (h : aIO X t x i k=some r) :
 ∃ d,k d=some r∧∀ (m : bY) v j,m.rd x v→m.rd i j→∃ u,(Instr.index t v j).run P m.w = .ok u m.w∧m.rd d u:=by
 unfold aIO at h
 rw [hT] at h
 split at h
 ·rename_i v j ht
  obtain ⟨y,hy,h⟩:=bH h
  refine ⟨_,h,λm v j hv hj=>?_⟩
  unfold dG at hy
  split at hy
  ·rename_i s kk n
   split at hy
   ·rename_i hn
    split at hy
    ·rename_i b hb
     cases hy
     cases hv with
     | p _ _ hv=>cases hv;cases hj with
       | p _ _ hj=>
         cases hj
         refine ⟨_,?_,.p _ _ (.int _ _)⟩
         simp only [Instr.index,asIntOf,Sem.run_bind,Sem.run_pure,Result.andThen_ok,underlying,run_program,pS.str ht,if_pos hn,hb]
    ·cases hy
   ·cases hy
  ·cases hy
 ·rename_i n e ds j ht
  split at h
  rotate_left
  ·cases h
  rename_i hc
  simp only [Bool.and_eq_true,Bool.not_eq_true'] at hc
  split at h
  rotate_left
  ·cases h
  rename_i cs hcs
  obtain ⟨y,hy,h⟩:=bH h
  refine ⟨_,h,λm v j' hv hj=>?_⟩
  unfold fK at hy
  split at hy
  rotate_left
  ·cases hy
  rename_i cs' kk i hcs'
  cases hcs'
  split at hy
  rotate_left
  ·cases hy
  rename_i hi
  split at hy
  rotate_left
  ·cases hy
  rename_i x hx
  split at hy
  rotate_left
  ·cases hy
  rename_i hel
  cases hy
  cases hj with
  | p _ _ hj=>
    cases hj
    cases hv with
    | agg _ vs hlen hone hr=>
      obtain ⟨hl2,HL⟩:=aHz (m:=m) hcs
      have hlt : i.toNat<ds.length:=by
       have:=(List.getElem?_eq_some_iff.1 hx).1
       omega
      have hd : ds[i.toNat]? = some ds[i.toNat]:=List.getElem?_eq_getElem hlt
      have hv : vs[i.toNat]? = some (vs[i.toNat]'(by omega)):=List.getElem?_eq_getElem (by omega)
      obtain ⟨c,hc1,hc2⟩:=HL _ _ _ hd (hr _ _ _ hd hv)
      rw [hx] at hc1
      cases hc1
      obtain ⟨d0,hu,hkd,_⟩:=pS.under ht (by simp)
      have hu : P.underlying t=some (.array n e):=by
       rw [hu]
       cases d0<;>simp [nT] at hkd
       obtain ⟨rfl,rfl⟩:=hkd;rfl
      have hes : ((aM P).at e).size=1:=dH hc.1
      refine ⟨vs[i.toNat]'(by omega),?_,.p _ _ hc2⟩
      have hz : (sizeOf e).run P m.w = .ok 1 m.w:=by rw [nY (.inl (by omega)),hes]
      have hag : (isAgg e).run P m.w = .ok false m.w:=by rw [zX (.inl (by omega)),hc.2]
      have hpart : (part e vs.toArray i.toNat).run P m.w = .ok (vs[i.toNat]'(by omega)) m.w:=by
       unfold part
       simp [hag,hv]
      simp only [Instr.index,asIntOf,Sem.run_bind,Sem.run_pure,Result.andThen_ok,underlying,run_program,hu,if_pos (And.intro hi.1 hi.2.1),hz,Nat.mul_one,hpart]
 ·cases h
theorem aOM (hT : X.T=aM P) {f : Nat} (h : aIM X t x f k=some r) :
 ∃ d,k d=some r∧∀ (m : bY) v,m.rd x v→∃ u,(Instr.field t v f).run P m.w = .ok u m.w∧m.rd d u:=by
 unfold aIM at h
 simp only [hT] at h
 split at h
 rotate_left
 ·cases h
 rename_i fs hfs
 split at h
 rotate_left
 ·cases h
 rename_i o u hfu
 split at h
 ·cases h
 rename_i hs
 have hs : ((aM P).at u).size≠0:=λe=>hs (by rw [e];rfl)
 obtain ⟨fa,hu,rfl⟩:=pS.struct hfs
 rw [List.getElem?_map] at hfu
 cases hf : fa.toList[f]? with
 | none=>rw [hf] at hfu;cases hfu
 | some fl=>
 rw [hf] at hfu
 simp at hfu
 obtain ⟨rfl,rfl⟩:=hfu
 have hf' : fa[f]? = some fl:=by simpa using hf
 have run : ∀ (w : World) (vs : List Value),(Instr.field t (.agg vs.toArray) f).run P w=(part fl.type vs.toArray fl.offset).run P w:=by
  intro w vs
  simp [Instr.field,run_underlying hu,hf',asAgg]
 have runA : ∀ (w : World) (vs : List Value),((aM P).at fl.type).isAgg=true→(part fl.type vs.toArray fl.offset).run P w = .ok (.agg ((vs.drop fl.offset).take ((aM P).at fl.type).size).toArray) w:=by
  intro w vs ha
  unfold part
  rw [Sem.run_bind,zX (.inl hs),Result.andThen_ok]
  simp only [ha,if_true]
  rw [Sem.run_bind,nY (.inl hs),Result.andThen_ok,Sem.run_pure]
  congr 2
  apply Array.ext'
  simp
 have run1 : ∀ (w : World) (vs : List Value) (v : Value),((aM P).at fl.type).isAgg=false→vs[fl.offset]? = some v→(part fl.type vs.toArray fl.offset).run P w = .ok v w:=by
  intro w vs v ha hv
  unfold part
  rw [Sem.run_bind,zX (.inl hs),Result.andThen_ok]
  simp only [ha,Bool.false_eq_true,if_false]
  simp [hv]
 split at h
 ·rename_i cs
  split at h
  ·rename_i ha
   split at h
   ·rename_i hle
    have hle:=tU hle
    refine ⟨_,h,λm v hv=>?_⟩
    cases hv with
    | agg _ vs hl hc hr=>
      refine ⟨_,(run _ _).trans (runA _ _ ha),.agg _ _ (by simp;omega) (λi v hv=>?_) (λi d v hd hv=>?_)⟩
      ·rw [List.getElem?_take] at hv
       split at hv
       ·rw [List.getElem?_drop] at hv;exact hc _ _ hv
       ·cases hv
      ·rw [List.getElem?_take] at hv hd
       split at hv
       ·rename_i hi
        rw [if_pos hi,List.getElem?_drop] at hd
        rw [List.getElem?_drop] at hv;exact hr _ _ _ hd hv
       ·cases hv
   ·cases h
  ·rename_i ha
   split at h
   ·rename_i d hd
    refine ⟨d,h,λm v hv=>?_⟩
    cases hv with
    | agg _ vs hl hc hr=>
      have hi : fl.offset<cs.length:=(List.getElem?_eq_some_iff.1 hd).1
      have hv : vs[fl.offset]? = some (vs[fl.offset]'(by omega)):=List.getElem?_eq_getElem (by omega)
      exact ⟨_,(run _ _).trans (run1 _ _ _ (by simpa using ha) hv),hr _ _ _ hd hv⟩
   ·cases h
 ·rename_i x
  split at h
  ·rename_i ha
   obtain ⟨y,hy,h⟩:=bH h
   refine ⟨_,h,λm v hv=>?_⟩
   unfold PV.sub at hy
   split at hy
   ·rename_i cs
    split at hy
    ·rename_i hle
     cases hy
     cases hv with
     | p _ _ hv=>cases hv with
       | agg _ vs hl hc hr=>
         refine ⟨_,(run _ _).trans (runA _ _ ha),.p _ _ (.agg _ _ (by simp;omega) (λi v hv=>?_) (λi d v hd hv=>?_))⟩
         ·rw [List.getElem?_take] at hv
          split at hv
          ·rw [List.getElem?_drop] at hv;exact hc _ _ hv
          ·cases hv
         ·rw [List.getElem?_take] at hv hd
          split at hv
          ·rename_i hi
           rw [if_pos hi,List.getElem?_drop] at hd
           rw [List.getElem?_drop] at hv;exact hr _ _ _ hd hv
          ·cases hv
    ·cases hy
   ·cases hy
  ·rename_i ha
   obtain ⟨y,hy,h⟩:=bH h
   refine ⟨_,h,λm v hv=>?_⟩
   obtain ⟨cs,rfl,hd⟩:=PV.cell_inv hy
   cases hv with
   | p _ _ hv=>cases hv with
     | agg _ vs hl hc hr=>
       have hi : fl.offset<cs.length:=(List.getElem?_eq_some_iff.1 hd).1
       have hv : vs[fl.offset]? = some (vs[fl.offset]'(by omega)):=List.getElem?_eq_getElem (by omega)
       exact ⟨_,(run _ _).trans (run1 _ _ _ (by simpa using ha) hv),.p _ _ (hr _ _ _ hd hv)⟩
 ·cases h
end
variable {w : World} {Z : NP} {xs : R} {v : Value} {c i y : PV} {t : Nat} {s : St} {k : DV → OR} {r : R}
section
variable {P : Program} {X : Cx}
theorem eO.lst_slice {o : OTy} {F : NP} (h : eO w Z o (.lst xs) v F) (ho : o.isLeaf=false) :
 ∃ a cap,v = .slice a xs.length cap∧xs.length≤cap∧∀ n,n<xs.length→∃ b off,a=some ⟨b,off,none⟩:=by
 cases h with
 | leaf=>cases ho
 | nil s e g cts F a=>exact ⟨a,0,rfl,Nat.le_refl _,λn hn=>by simp at hn⟩
 | own s e g cts _ b o cap=>exact ⟨_,cap,rfl,by assumption,λ_ _=>⟨b,o,rfl⟩⟩
theorem kX.lst_slice (h : kX w Z (.lst xs) v) :
 ∃ a cap,v = .slice a xs.length cap:=by
 cases h with
 | empty a cap=>exact ⟨a,cap,rfl⟩
 | lst _ b o s cap=>exact ⟨_,cap,rfl⟩
theorem PV.len_inv {n : PV} (h : aK c=some n) : ∃ xs,c = .lst xs∧n = .int .i64 xs.length:=by
 unfold aK at h
 split at h
 ·cases h;exact ⟨_,rfl,rfl⟩
 ·cases h
theorem PV.inb_inv (h : aT c i=some y) : ∃ (xs : R) (k : IntKind) (n : Nat),c = .lst xs∧i = .int k n∧n<xs.length:=by
 unfold aT at h
 split at h
 ·rename_i xs k n
  split at h
  ·rename_i hn
   exact ⟨xs,k,n.toNat,rfl,by rw [Int.toNat_of_nonneg hn.1],by omega⟩
  ·cases h
 ·cases h
theorem aLq (n : Nat) : goInt n = .int .i64 n:=rfl
theorem aRB (hT : X.T=aM P) {d : DV} (h : aTh X t d s k=some r) :
 ∃ y,k y=some r∧∀ (m : bY),sN m→(∀ l∈(eP d).rl,m.s.list l=s.list l)→∀ v ty,m.rd d v→∃ u,(Builtin.len_ #[t] ty #[v]).run P m.w = .ok u m.w∧m.rd y u:=by
 have runS : ∀ {e : Nat} {a : Option Addr} {n cap : Nat} {w : World} {ty : TypeId},((aM P).at t).d = .slice e→(Builtin.len_ #[t] ty #[.slice a n cap]).run P w = .ok (.int .i64 n) w:=by
  intro e a n cap w ty ht
  simp [Builtin.len_,run_underlying (pS.slice ht),aLq]
 unfold aTh at h
 rw [hT] at h
 split at h
 ·rename_i ht
  split at h
  ·rename_i v
   obtain ⟨n,hn,h⟩:=bH h
   refine ⟨_,h,λm _ _ v ty hv=>?_⟩
   unfold bV at hn
   split at hn
   ·cases hn
    cases hv with
    | p _ _ hv=>
      cases hv
      exact ⟨.int .i64 _,by simp [Builtin.len_,run_underlying (pS.str ht),aLq],.p _ _ (.int _ _)⟩
   ·cases hn
  ·cases h
 ·rename_i e ht
  split at h
  ·obtain ⟨n,hn,h⟩:=bH h
   obtain ⟨xs,rfl,rfl⟩:=PV.len_inv hn
   refine ⟨_,h,λm _ _ v ty hv=>?_⟩
   cases hv with
   | p _ _ hv=>
     obtain ⟨a,cap,rfl⟩:=hv.lst_slice
     exact ⟨_,runS ht,.p _ _ (.int _ _)⟩
  ·refine ⟨_,h,λm _ _ v ty hv=>?_⟩
   cases hv
   exact ⟨_,runS ht,.p _ _ (.int _ _)⟩
  ·rename_i l path
   obtain ⟨w0,c,hw0,h,H⟩:=aEb h
   obtain ⟨n,hn,h⟩:=bH h
   obtain ⟨xs,rfl,rfl⟩:=PV.len_inv hn
   refine ⟨_,h,λm inv ha v ty hv=>?_⟩
   have hml:=(ha l (by simp [eP])).trans hw0
   obtain ⟨F,hro,_,hh,hty⟩:=H m inv hml v hv
   obtain ⟨a,cap,rfl,_⟩:=hro.lst_slice (by rw [hty];exact hh.along_notLeaf (by rw [← hty];exact (inv.row l w0 hml).2.1))
   exact ⟨_,runS ht,.p _ _ (.int _ _)⟩
  ·rename_i l path lo hi
   obtain ⟨w0,c,y,hw0,hy,h,H⟩:=aFn h
   obtain ⟨n,hn,h⟩:=bH h
   obtain ⟨xs,rfl,rfl⟩:=PV.len_inv hn
   refine ⟨_,h,λm inv ha v ty hv=>?_⟩
   have hml:=(ha l (by simp [eP])).trans hw0
   obtain ⟨F,v0,hro,_,hh,hty,a,len,cap,k1,k2,m1,n1,rfl,rfl,rfl,h1,h2,rfl⟩:=H m inv hml v hv
   obtain ⟨zs,m2,n2,k3,k4,rfl,h5,h6,h7,h8,h9,_⟩:=rM hy
   cases h5;cases h6
   have hl : xs.length=n1 - m1:=by
    cases h9;simp;omega
   exact ⟨_,runS ht,.p _ _ (by rw [hl];exact .int _ _)⟩
  ·cases h
 ·rename_i n e ht
  refine ⟨_,h,λm _ _ v ty hv=>?_⟩
  exact ⟨.int .i64 _,by simp [Builtin.len_,run_underlying (pS.array ht),aLq],.p _ _ (.int _ _)⟩
 ·cases h
theorem PV.off_inv {lo j : PV} (h : dJ lo i=some j) : ∃ k k' a b,lo = .int k a∧i = .int k' b∧j = .int .i64 (a+b):=by
 unfold dJ at h
 split at h
 ·cases h;exact ⟨_,_,_,_,rfl,rfl,rfl⟩
 ·cases h
theorem PV.sel_inv {n : Nat} (h : dO n c i=some y) : ∃ (cs : R) (k : IntKind) (j : Int),c = .bx cs∧i = .int k j∧(0≤j∧j<n)∧cs.length=n∧cs[j.toNat]? = some y∧y.isEl 1 false=true:=by
 unfold dO at h
 split at h
 ·rename_i cs k j
  split at h
  ·rename_i hj
   split at h
   ·rename_i z hz
    split at h
    ·rename_i hel
     cases h
     exact ⟨cs,k,j,rfl,rfl,⟨hj.1,hj.2.1⟩,hj.2.2,hz,hel⟩
    ·cases h
   ·cases h
  ·cases h
 ·cases h
theorem aIW (hT : X.T=aM P) {x i : DV} (h : wF X t x i s k=some r) :
 ∃ d,k d=some r∧∀ (m : bY),sN m→(∀ l∈(eP x).rl,m.s.list l=s.list l)→∀ v j,m.rd x v→m.rd i j→∃ u,(Instr.indexAt t v j).run P m.w = .ok u m.w∧m.rd d u:=by
 unfold wF at h
 rw [hT] at h
 split at h
 ·rename_i e i ht
  simp only at h
  split at h
  ·cases h
  rename_i hs
  have hs : ((aM P).at e).size≠0:=λe'=>hs (by rw [e'];rfl)
  have run : ∀ {b o len cap n : Nat} {kk : IntKind} {w : World},n<len→(Instr.indexAt t (.slice (some ⟨b,o,none⟩) len cap) (.int kk n)).run P w = .ok (.pointer (some ⟨b,o+n*((aM P).at e).size,none⟩)) w:=by
   intro b o len cap n kk w hn
   have hn' : (0 : Int)≤n∧(n : Int)<len:=by omega
   simp [Instr.indexAt,asIntOf,run_underlying (pS.slice ht),hn,nY (.inl hs),nF]
  split at h
  ·rename_i c
   obtain ⟨y,hy,hk⟩:=bH h
   clear h
   obtain ⟨xs,kk,n,rfl,rfl,hn,he⟩:=PV.at_inv hy
   refine ⟨_,hk,λm _ _ v j hv hj=>?_⟩
   cases hj with
   | p _ _ hj=>cases hj;cases hv with
     | p _ _ hv=>cases hv with
       | empty=>simp at hn
       | lst _ b o s cap g cells ety fz cv hz hh hs' hcap hel hc hv hr=>
         obtain ⟨rfl,rfl⟩:=aIT (hel n y hn) he
         have hi : n<xs.length:=(List.getElem?_eq_some_iff.1 hn).1
         exact ⟨_,run hi,.fptr y _ _ 0 b (o+n*_) cells ety fz (cv n) hz hh he (λj hj=>hc n j hi hj) (λj hj=>hv n j hi hj) (λj hj=>hr n j y hn hj)⟩
  ·rename_i l path
   obtain ⟨w0,c,hw0,h,H⟩:=aEb h
   split at h
   rotate_left
   ·cases h
   rename_i hsg
   simp only [Bool.and_eq_true,beq_iff_eq] at hsg
   have hos:=dH hsg.1
   obtain ⟨y,hy,hk⟩:=bH h
   clear h
   obtain ⟨xs,kk,n,rfl,rfl,hn⟩:=PV.inb_inv hy
   refine ⟨_,hk,λm inv ha v j hv hj=>?_⟩
   have hml:=(ha l (by simp [eP])).trans hw0
   obtain ⟨F,hro,_,hh,hty⟩:=H m inv hml v hv
   obtain ⟨a,cap,rfl,_,hb⟩:=hro.lst_slice (by rw [hty];exact hh.along_notLeaf (by rw [← hty];exact (inv.row l w0 hml).2.1))
   obtain ⟨b,o,rfl⟩:=hb n hn
   cases hj with
   | p _ _ hj=>cases hj;cases hv with
     | ref _ _ _ hul _ _=>
       exact ⟨_,run hn,.eptr _ _ _ _ _ hul trivial λ_=>⟨b,o,_,cap,kk,n,hh,rfl,hn,by rw [← hty,hos];rfl⟩⟩
  ·rename_i l path lo hi
   obtain ⟨w0,c,y,hw0,hyc,h,H⟩:=aFn h
   split at h
   rotate_left
   ·cases h
   rename_i hsg
   simp only [Bool.and_eq_true,beq_iff_eq] at hsg
   have hos:=dH hsg.1
   obtain ⟨y',hy,hk'⟩:=bH h
   obtain ⟨j',hj',hk⟩:=bH hk'
   clear h hk'
   obtain ⟨xs,kk,n,rfl,rfl,hn⟩:=PV.inb_inv hy
   refine ⟨_,hk,λm inv ha v j hv hj=>?_⟩
   have hml:=(ha l (by simp [eP])).trans hw0
   obtain ⟨F,v0,hro,_,hh,hty,a,len,cap,k1,k2,m1,n1,rfl,rfl,rfl,h1,h2,rfl⟩:=H m inv hml v hv
   obtain ⟨zs,m2,n2,k3,k4,rfl,h5,h6,h7,h8,h9,_⟩:=rM hyc
   cases h5;cases h6
   have hl : xs.length=n1 - m1:=by
    cases h9;simp;omega
   have hlf:=(w0.o.along path).isLeaf
   obtain ⟨a',cap',e1,e2,hb⟩:=hro.lst_slice (by rw [hty];exact hh.along_notLeaf (by rw [← hty];exact (inv.row l w0 hml).2.1))
   cases e1
   obtain ⟨b,o,rfl⟩:=hb m1 (by omega)
   obtain ⟨_,_,_,_,e3,e4,rfl⟩:=PV.off_inv hj'
   cases e3;cases e4
   cases hj with
   | p _ _ hj=>cases hj;cases hv with
     | sref _ _ _ _ _ hul _ _=>
       have hcap : ¬ cap=m1:=by omega
       simp only [hcap,if_false,Option.map_some,nF]
       refine ⟨_,run (by omega),.eptr _ _ _ _ _ hul trivial λ_=>⟨b,o,_,cap,.i64,m1+n,hh,by simp,by omega,?_⟩⟩
       rw [← hty,← hos,Nat.add_mul,Nat.add_zero,Nat.add_assoc]
  ·cases h
 ·rename_i n e i ht
  simp only at h
  split at h
  ·cases h
  rename_i hns
  simp only [Bool.or_eq_true,not_or] at hns
  have hs : ((aM P).at e).size≠0:=λe'=>hns.2 (by rw [e'];rfl)
  have hn1 : ¬ n≤1:=λe'=>hns.1 (Nat.ble_eq_true_of_le e')
  have run : ∀ {b o : Nat} {kk : IntKind} {j : Int} {w : World},0≤j∧j<n→(Instr.indexAt t (.pointer (some ⟨b,o,none⟩)) (.int kk j)).run P w = .ok (.pointer (some ⟨b,o+j.toNat*((aM P).at e).size,none⟩)) w:=by
   intro b o kk j w hj
   simp [Instr.indexAt,asIntOf,run_underlying (pS.array ht),hj,nY (.inl hs),nF,Instr.sureAddr]
  split at h
  ·split at h
   ·rename_i hj
    refine ⟨_,h,λm _ _ v j hv hj'=>?_⟩
    cases hj' with
    | p _ _ hj'=>cases hj';cases hv with
      | ptr _ _ hub=>exact ⟨_,run hj,.ptr _ _ hub⟩
   ·cases h
  ·split at h
   ·rename_i hj
    refine ⟨_,h,λm _ _ v j hv hj'=>?_⟩
    cases hj' with
    | p _ _ hj'=>cases hj';cases hv with
      | fptr _ _ _ off b o cells e fz cv h1 h2 h3 h4 h5 h6=>
        exact ⟨_,run hj,by rw [Nat.add_assoc];exact .fptr _ _ _ _ b o cells e fz cv h1 h2 h3 h4 h5 h6⟩
   ·cases h
  ·split at h
   ·rename_i hj
    refine ⟨_,h,λm _ _ v j hv hj'=>?_⟩
    cases hj' with
    | p _ _ hj'=>cases hj';cases hv with
      | bptr _ off b o h1=>
        exact ⟨_,run hj,by rw [Nat.add_assoc];exact .bptr _ _ b o h1⟩
   ·cases h
  ·split at h
   ·rename_i hsz
    simp only [Bool.and_eq_true] at hsz
    have hsz:=dH hsz.1
    obtain ⟨y,hy,hk⟩:=bH h
    clear h
    obtain ⟨cs,kk,jj,rfl,rfl,hj,hl,hz,hel⟩:=PV.sel_inv hy
    refine ⟨_,hk,λm _ _ v j hv hj'=>?_⟩
    cases hj' with
    | p _ _ hj'=>cases hj';cases hv with
      | p _ _ hv=>cases hv with
        | bx _ b o cells ety fz cv h1 h2 h3 h4 h5=>
          have hjl : jj.toNat<cs.length:=by omega
          refine ⟨_,run hj,?_⟩
          rw [hsz,Nat.mul_one]
          refine .fptr y 1 false 0 b (o+jj.toNat) cells ety fz (λ_=>cv jj.toNat) h1 h2 hel (λj hj=>?_) (λj hj=>h4 _ hjl) (λj hj=>h5 _ _ hz)
          have : j=0:=by omega
          subst this
          exact h3 _ hjl
   ·cases h
  ·cases h
 ·cases h
end
variable {lo : Option DV} {m : bY} {v : Option Value} {k : IntKind} {n : Nat} {c : PV}
section
variable {P : Program} {X : Cx}
def bY.rdO (m : bY) (d : Option DV) (v : Option Value) : Prop:=match d,v with
 | none,none=>True
 | some d,some v=>m.rd d v
 | _,_=>False
theorem aDo {isS : Bool} {len cap l h : Nat} {lo hi : Option Value} {w : World} (hlo : (lo=none∧l=0)∨∃ k : IntKind,lo=some (.int k l)) (hhi : (hi=none∧h=len)∨∃ k : IntKind,hi=some (.int k h))
 (h1 : l≤h) (h2 : h≤cap) : (Instr.sliceBounds isS len cap lo hi none).run P w = .ok (l,h,cap) w:=by
 have sb : ∀ (k : IntKind) (n y : Nat) (c : BoundsCode),n≤y→(Instr.sliceBound (.int k n) y c).run P w = .ok n w:=by
  intro k n y c hn
  simp [Instr.sliceBound,asIntOf,hn]
 unfold Instr.sliceBounds
 rcases hlo with ⟨rfl,rfl⟩ | ⟨k,rfl⟩<;>rcases hhi with ⟨rfl,rfl⟩ | ⟨k',rfl⟩<;>simp [sb,h1,h2]
theorem aLr {l : PV} (h : aCx.lowOf lo=some l) (hv : m.rdO lo v) (hl : l = .int k n) :
 (v=none∧n=0)∨∃ k : IntKind,v=some (.int k n):=by
 unfold aCx.lowOf at h
 split at h
 ·cases h
  unfold aOs at hl
  cases hl
  cases v with
  | none=>exact .inl ⟨rfl,rfl⟩
  | some v=>exact hv.elim
 ·cases h
  subst hl
  cases v with
  | none=>exact hv.elim
  | some v=>
    have hv : m.rd _ v:=hv
    cases hv with
    | p _ _ hv=>cases hv;exact .inr ⟨k,rfl⟩
 ·cases h
theorem aKQ {hd : DV} (hh : hd = .p (.int k n)) (hv : m.rdO (some hd) v) : ∃ k : IntKind,v=some (.int k n):=by
 subst hh
 cases v with
 | none=>exact hv.elim
 | some v=>
   have hv : m.rd _ v:=hv
   cases hv with
   | p _ _ hv=>cases hv;exact ⟨k,rfl⟩
theorem aPT {lo hi y : PV} (h : cG c lo hi=some y) :
 ∃ (s : ByteArray) (m n : Nat) (k k' : IntKind),c = .str s∧lo = .int k m∧hi = .int k' n∧m≤n∧n≤s.size∧y = .str (s.extract m n):=by
 unfold cG at h
 split at h
 ·rename_i s
  cases hb : nC s.size hi with
  | none=>rw [hb] at h;cases h
  | some n=>
    rw [hb] at h
    simp only [Option.bind_some] at h
    cases hb2 : nC n lo with
    | none=>rw [hb2] at h;cases h
    | some m=>
      rw [hb2] at h
      simp only [Option.bind_some] at h
      cases h
      obtain ⟨k',h1,h2⟩:=uI hb
      obtain ⟨k,h3,h4⟩:=uI hb2
      exact ⟨s,m,n,k,k',rfl,h3,h1,h4,h2,rfl⟩
 ·cases h
theorem aPU {n : PV} (h : bV c=some n) : ∃ s,c = .str s∧n = .int .i64 s.size:=by
 unfold bV at h
 split at h
 ·cases h;exact ⟨_,rfl,rfl⟩
 ·cases h
theorem aON (hT : X.T=aM P) {t : Nat} {x : DV} {hi : Option DV} {s : St} {k : DV→OR} {r : R} (h : aCx X t x lo hi s k=some r) :
 ∃ d,k d=some r∧∀ (m : bY),sN m→(∀ l∈(eP x).rl,m.s.list l=s.list l)→∀ v vl vh,m.rd x v→m.rdO lo vl→m.rdO hi vh→
   ∃ u,(Instr.sliceAt t v vl vh none).run P m.w = .ok u m.w∧m.rd d u:=by
 unfold aCx at h
 rw [hT] at h
 split at h
 ·cases h
 rename_i l hlo
 split at h
 ·rename_i ht
  have run : ∀ {s : ByteArray} {vl vh : Option Value} {l0 h0 : Nat} {w : World},(vl=none∧l0=0∨∃ k : IntKind,vl=some (.int k l0))→(vh=none∧h0=s.size∨∃ k : IntKind,vh=some (.int k h0))→l0≤h0→h0≤s.size→
   (Instr.sliceAt t (.string s) vl vh none).run P w = .ok (.string (s.extract l0 h0)) w:=by
   intro s vl vh l0 h0 w h1 h2 h3 h4
   simp [Instr.sliceAt,run_underlying (pS.str ht),Instr.slice,aDo h1 h2 h3 h4]
  split at h
  rotate_left
  ·cases h
  rename_i v
  split at h
  ·obtain ⟨n,hn,h'⟩:=bH h
   obtain ⟨y,hy,hk⟩:=bH h'
   clear h h'
   obtain ⟨s0,rfl,rfl⟩:=aPU hn
   obtain ⟨s1,m1,n1,k1,k2,e1,h1,e2,h3,h4,rfl⟩:=aPT hy
   cases e1;cases e2
   refine ⟨_,hk,λm _ _ v vl vh hv hvl hvh=>?_⟩
   cases hv with
   | p _ _ hv=>
     cases hv
     have hvh : vh=none:=by cases vh with | none=>rfl | some _=>exact hvh.elim
     exact ⟨_,run (aLr hlo hvl h1) (.inl ⟨hvh,rfl⟩) h3 h4,.p _ _ (.str _)⟩
  ·obtain ⟨y,hy,hk⟩:=bH h
   clear h
   obtain ⟨s1,m1,n1,k1,k2,rfl,h1,rfl,h3,h4,rfl⟩:=aPT hy
   refine ⟨_,hk,λm _ _ v vl vh hv hvl hvh=>?_⟩
   cases hv with
   | p _ _ hv=>
     cases hv
     exact ⟨_,run (aLr hlo hvl h1) (.inr (aKQ rfl hvh)) h3 h4,.p _ _ (.str _)⟩
  ·cases h
 ·rename_i u ht
  split at h
  ·cases h
  rename_i hs
  have hs : ((aM P).at u).size≠0:=λe'=>hs (by rw [e'];rfl)
  have run : ∀ {a : Option Addr} {len cap : Nat} {vl vh : Option Value} {l0 h0 : Nat} {w : World},(vl=none∧l0=0∨∃ k : IntKind,vl=some (.int k l0))→(vh=none∧h0=len∨∃ k : IntKind,vh=some (.int k h0))→l0≤h0→h0≤cap→
   (Instr.sliceAt t (.slice a len cap) vl vh none).run P w = .ok (.slice (if cap=l0 then a else a.map (·.add (l0*((aM P).at u).size))) (h0 - l0) (cap - l0)) w:=by
   intro a len cap vl vh l0 h0 w h1 h2 h3 h4
   simp [Instr.sliceAt,run_underlying (pS.slice ht),Instr.slice,aDo h1 h2 h3 h4,nY (.inl hs)]
  have capOf : ∀ {w : World} {Z : NP} {xs : R} {a : Option Addr} {len cap : Nat},kX w Z (.lst xs) (.slice a len cap)→xs.length≤cap:=by
   intro w Z xs a len cap hr
   cases hr with
   | empty=>simp
   | lst=>assumption
  split at h
  ·rename_i v
   split at h
   ·obtain ⟨n,hn,h'⟩:=bH h
    obtain ⟨y,hy,hk⟩:=bH h'
    clear h h'
    obtain ⟨xs0,rfl,rfl⟩:=PV.len_inv hn
    obtain ⟨xs,m1,n1,k1,k2,e1,h1,e2,h3,h4,rfl,hh⟩:=rM hy
    cases e1;cases e2
    refine ⟨_,hk,λm _ _ v vl vh hv hvl hvh=>?_⟩
    cases hv with
    | p _ _ hv=>
      obtain ⟨a,len,cap,rfl,rfl,hr⟩:=hv.cut hh h3 h4
      have hvh : vh=none:=by cases vh with | none=>rfl | some _=>exact hvh.elim
      exact ⟨_,run (aLr hlo hvl h1) (.inl ⟨hvh,rfl⟩) h3 (capOf hv),.p _ _ hr⟩
   ·obtain ⟨y,hy,hk⟩:=bH h
    clear h
    obtain ⟨xs,m1,n1,k1,k2,rfl,h1,rfl,h3,h4,rfl,hh⟩:=rM hy
    refine ⟨_,hk,λm _ _ v vl vh hv hvl hvh=>?_⟩
    cases hv with
    | p _ _ hv=>
      obtain ⟨a,len,cap,rfl,rfl,hr⟩:=hv.cut hh h3 h4
      exact ⟨_,run (aLr hlo hvl h1) (.inr (aKQ rfl hvh)) h3 (Nat.le_trans h4 (capOf hv)),.p _ _ hr⟩
   ·cases h
  ·rename_i nn path
   obtain ⟨w0,c,hw0,h',H⟩:=aEb h
   clear h
   split at h'
   rotate_left
   ·cases h'
   rename_i hos
   have hos:=dH hos
   have fin : ∀ (m : bY),sN m→(∀ l∈(eP (.ref nn path)).rl,m.s.list l=s.list l)→∀ (xs : R) (v : Value) (vl vh : Option Value) (m1 n1 : Nat) (k1 k2 : IntKind),c = .lst xs→l = .int k1 m1→m1≤n1→n1≤xs.length→m.rd (.ref nn path) v→m.rdO lo vl→
    (vh=none∧n1=xs.length∨∃ k : IntKind,vh=some (.int k n1))→
    ∃ u,(Instr.sliceAt t v vl vh none).run P m.w = .ok u m.w∧m.rd (.sref nn path l (.int k2 n1)) u:=by
    intro m inv ha xs v vl vh m1 n1 k1 k2 hc h1 h3 h4 hv hvl hvh
    subst hc
    have hml:=(ha nn (by simp [eP])).trans hw0
    obtain ⟨F,hro,_,hh,hty⟩:=H m inv hml v hv
    obtain ⟨a,cap,rfl,hcap,_⟩:=hro.lst_slice (by rw [hty];exact hh.along_notLeaf (by rw [← hty];exact (inv.row nn w0 hml).2.1))
    cases hv with
    | ref _ _ _ hul _ _=>
      exact ⟨_,run (aLr hlo hvl h1) hvh h3 (by omega),.sref _ _ _ _ _ hul trivial λ_=>⟨a,_,cap,k1,k2,m1,n1,hh,h1,rfl,h3,h4,by rw [← hty,hos]⟩⟩
   split at h'
   ·obtain ⟨n,hn,h''⟩:=bH h'
    obtain ⟨y,hy,hk⟩:=bH h''
    clear h' h''
    obtain ⟨xs0,hc0,rfl⟩:=PV.len_inv hn
    obtain ⟨xs,m1,n1,k1,k2,e1,h1,e2,h3,h4,_,_⟩:=rM hy
    rw [hc0] at e1
    cases e1;cases e2
    refine ⟨_,hk,λm inv ha v vl vh hv hvl hvh=>?_⟩
    have hvh : vh=none:=by cases vh with | none=>rfl | some _=>exact hvh.elim
    exact fin m inv ha _ v vl vh m1 _ k1 .i64 hc0 h1 h3 h4 hv hvl (.inl ⟨hvh,rfl⟩)
   ·obtain ⟨y,hy,hk⟩:=bH h'
    clear h'
    obtain ⟨xs,m1,n1,k1,k2,hc0,h1,rfl,h3,h4,_,_⟩:=rM hy
    refine ⟨_,hk,λm inv ha v vl vh hv hvl hvh=>?_⟩
    exact fin m inv ha _ v vl vh m1 _ k1 k2 hc0 h1 h3 h4 hv hvl (.inr (aKQ rfl hvh))
   ·cases h'
  ·cases h
 ·cases h
end
variable {d : TypeDesc}
section
variable {P : Program} {X : Cx}
theorem aJR (h : nT d = .bool) : d = .bool:=by
 cases d<;>simp [nT] at h<;>rfl
theorem aRC (h : nT d = .ptr) : ∃ e,d = .pointer e:=by
 cases d<;>simp [nT] at h<;>exact ⟨_,rfl⟩
theorem aEd : ∀ {a b : List Nat} {xs ys : R} {r : Bool},eU (a++b) xs ys=some r→
 ∃ r1 r2,eU a (xs.take a.length) (ys.take a.length)=some r1∧eU b (xs.drop a.length) (ys.drop a.length)=some r2∧r=(r1&&r2)
 | [],b,xs,ys,r,h=>⟨true,r,by simp [eU],by simpa using h,by simp⟩
 | q::a,b,xs,ys,r,h=>by
   cases xs with
   | nil=>simp [eU] at h
   | cons x xs=>
     cases ys with
     | nil=>simp [eU] at h
     | cons y ys=>
       simp only [List.cons_append,eU] at h
       split at h
       ·rename_i u v hu hv
        cases h
        obtain ⟨r1,r2,h1,h2,rfl⟩:=aEd hv
        refine ⟨u&&r1,r2,?_,by simpa using h2,by rw [Bool.and_assoc]⟩
        simp only [List.length_cons,List.take_succ_cons,eU,hu,h1]
       ·cases h
theorem aA7 : ∀ {a : List Nat} {xs ys : R} {r : Bool},eU a xs ys=some r→xs.length=a.length∧ys.length=a.length
 | [],[],[],_,_=>⟨rfl,rfl⟩
 | q::a,x::xs,y::ys,r,h=>by
   simp only [eU] at h
   split at h
   ·rename_i u v hu hv
    obtain ⟨h1,h2⟩:=aA7 hv
    simp [h1,h2]
   ·cases h
 | [],_::_,_,_,h=>by simp [eU] at h
 | [],[],_::_,_,h=>by simp [eU] at h
 | _::_,[],_,_,h=>by simp [eU] at h
 | _::_,_::_,[],_,h=>by simp [eU] at h
def aUO (T : pS) (t : Nat) (v : Value) (us : List Value) : Prop:=((T.at t).isAgg=true∧v = .agg us.toArray)∨((T.at t).isAgg=false∧us = [v])
def aHA (w : World) (Z : NP) (xs : R) (us : List Value) : Prop:=xs.length=us.length∧∀ (i : Nat) x u,xs[i]? = some x→us[i]? = some u→kX w Z x u
theorem aHA.take {w : World} {Z : NP} {xs : R} {us : List Value} (h : aHA w Z xs us) (n : Nat) : aHA w Z (xs.take n) (us.take n):=
 ⟨by simp [h.1],λi x u hx hu=>by
  rw [List.getElem?_take] at hx hu
  split at hx
  ·rename_i hi;rw [if_pos hi] at hu;exact h.2 i x u hx hu
  ·cases hx⟩
theorem aHA.drop {w : World} {Z : NP} {xs : R} {us : List Value} (h : aHA w Z xs us) (n : Nat) : aHA w Z (xs.drop n) (us.drop n):=
 ⟨by simp [h.1],λi x u hx hu=>by
  rw [List.getElem?_drop] at hx hu
  exact h.2 _ x u hx hu⟩
theorem aHA.one {w : World} {Z : NP} {x : PV} {u : Value} (h : aHA w Z [x] [u]) : kX w Z x u:=h.2 0 x u rfl rfl
theorem aF5 {w : World} {Z : NP} (hT : X.T=aM P) : ∀ (n t : Nat) (qs : List Nat),jS X n t=some qs→∀ (d : Nat),n≤d→∀ (as_ bs : R) (r : Bool),eU qs as_ bs=some r→
 ∀ (us vs : List Value),aHA w Z as_ us→aHA w Z bs vs→∀ u v,aUO (aM P) t u us→aUO (aM P) t v vs→(Op.equalIn d t u v).run P w = .ok r w
 | 0,_,_,h,_,_,_,_,_,_,_,_,_,_,_,_,_,_=>by simp [jS] at h
 | n+1,t,qs,h,d,hd,as_,bs,r,hr,us,vs,hus,hvs,u,v,hu,hv=>by
   obtain ⟨d,rfl⟩ : ∃ d',d=d'+1:=⟨d - 1,by omega⟩
   unfold jS at h
   split at h
   rotate_left
   ·cases h
   rename_i qs' hk
   split at h
   rotate_left
   ·cases h
   cases h
   have sc : ∀ {k : TyI},((aM P).at t).d=k→(k = .bool∨(∃ i,k = .int i)∨k = .str)→us = [u]∧vs = [v]:=by
    intro k hk hkk
    have ha : ((aM P).at t).isAgg=false:=by
     unfold TyR.isAgg
     rw [hk]
     rcases hkk with rfl | ⟨i,rfl⟩ | rfl<;>rfl
    exact ⟨(hu.resolve_left (by simp [ha])).2,(hv.resolve_left (by simp [ha])).2⟩
   have one : ∀ {q : Nat},eU [q] as_ bs=some r→∃ a b,as_ = [a]∧bs = [b]∧iB q a b=some r:=by
    intro q h
    obtain ⟨h1,h2⟩:=aA7 h
    match as_,bs,h1,h2 with
    | [a],[b],_,_=>
     simp only [eU] at h
     cases hq : iB q a b with
     | none=>rw [hq] at h;cases h
     | some x=>rw [hq] at h;simp at h;subst h;exact ⟨a,b,rfl,rfl,hq⟩
   unfold jS.kinds at hk
   rw [hT] at hk
   split at hk
   ·rename_i ht
    cases hk
    obtain ⟨rfl,rfl⟩:=sc ht (.inl rfl)
    obtain ⟨a,b,rfl,rfl,hq⟩:=one hr
    obtain ⟨p,q,rfl,rfl,rfl⟩:=aNH hq
    obtain ⟨dd,hdd,hkk,_⟩:=pS.under ht (by simp)
    have:=aJR hkk;subst this
    have e1:=hus.one.bool_inv;have e2:=hvs.one.bool_inv;subst e1;subst e2
    exact run_equalIn_bool' w d t p q hdd
   ·rename_i kk ht
    cases hk
    obtain ⟨rfl,rfl⟩:=sc ht (.inr (.inl ⟨_,rfl⟩))
    obtain ⟨a,b,rfl,rfl,hq⟩:=one hr
    obtain ⟨k,p,q,rfl,rfl,rfl⟩:=aTm hq
    obtain ⟨dd,hdd,hkk,_⟩:=pS.under ht (by simp)
    have:=aAm hkk;subst this
    have e1:=hus.one.int_inv;have e2:=hvs.one.int_inv;subst e1;subst e2
    exact run_equalIn_int w d t k kk p q hdd
   ·rename_i ht
    cases hk
    obtain ⟨rfl,rfl⟩:=sc ht (.inr (.inr rfl))
    obtain ⟨a,b,rfl,rfl,hq⟩:=one hr
    obtain ⟨p,q,rfl,rfl,rfl⟩:=aTn hq
    obtain ⟨dd,hdd,hkk,_⟩:=pS.under ht (by simp)
    have:=aLi hkk;subst this
    have e1:=hus.one.str_inv;have e2:=hvs.one.str_inv;subst e1;subst e2
    exact run_equalIn_string w d t p q hdd
   ·rename_i fs ht
    split at hk
    rotate_left
    ·cases hk
    rename_i heq
    obtain ⟨dd,hdd,hkk,hee⟩:=pS.under ht (by simp)
    obtain ⟨fa,rfl,rfl⟩:=aBB hkk
    rw [heq] at hee
    have hee:=hee.symm
    simp only [aTg,Bool.and_eq_true,Bool.not_eq_true'] at hee
    obtain ⟨⟨hstood,_⟩,hnames⟩:=hee
    have hfo : P.fieldsOf t=fa:=by unfold Program.fieldsOf;rw [hdd]
    have ha : ((aM P).at t).isAgg=true:=by unfold TyR.isAgg;rw [ht]
    obtain ⟨_,rfl⟩:=hu.resolve_right (by simp [ha])
    obtain ⟨_,rfl⟩:=hv.resolve_right (by simp [ha])
    rw [run_equalIn_struct w d t us.toArray vs.toArray (by rw [hfo];exact hdd) hstood,hfo]
    have names : ∀ f∈fa.toList,f.name≠ "_":=by
     intro f hf
     rw [Array.all_eq_true_iff_forall_mem] at hnames
     simpa using hnames f (Array.mem_toList_iff.1 hf)
    clear hnames
    have key : ∀ (fl : List Field) (at_ : Nat) (qs : List Nat) (as_ bs : R) (r : Bool),(∀ f∈fl,f.name≠ "_")→jS.parts (jS X n) at_ (fl.map λf=>(f.offset,f.type))=some qs→eU qs as_ bs=some r→
     aHA w Z as_ (us.drop at_)→aHA w Z bs (vs.drop at_)→(Op.eqFields d us.toArray vs.toArray fl).run P w = .ok r w:=by
     intro fl
     induction fl with
     | nil=>
       intro at_ qs as_ bs r _ h hr _ _
       simp only [List.map_nil,jS.parts] at h
       cases h
       obtain ⟨h1,h2⟩:=aA7 hr
       have h1:=List.eq_nil_of_length_eq_zero h1
       have h2:=List.eq_nil_of_length_eq_zero h2
       subst h1;subst h2
       simp [eU] at hr
       subst hr
       rfl
     | cons f fl ih=>
       intro at_ qs as_ bs r hn h hr hA hB
       simp only [List.map_cons,jS.parts] at h
       split at h
       rotate_left
       ·cases h
       rename_i hat
       have hat:=dH hat
       subst hat
       split at h
       rotate_left
       ·cases h
       rename_i a hka
       split at h
       rotate_left
       ·cases h
       rename_i b hkb
       cases h
       obtain ⟨r1,r2,h1,h2,rfl⟩:=aEd hr
       have hsz : a.length=((aM P).at f.type).size∧((aM P).at f.type).d≠.other:=by
        cases n with
        | zero=>simp [jS] at hka
        | succ n=>
          unfold jS at hka
          split at hka
          ·split at hka
           ·rename_i q hq hl
            cases hka
            rw [hT] at hl
            refine ⟨dH hl,λe=>?_⟩
            unfold jS.kinds at hq
            rw [hT,e] at hq
            simp at hq
           ·cases hka
          ·cases hka
       have hlen:=aA7 h1
       have part_ok : ∀ (cs : R) (ws : List Value),aHA w Z cs (ws.drop f.offset)→(cs.take a.length).length=a.length→∃ p,(part f.type ws.toArray f.offset).run P w = .ok p w∧aUO (aM P) f.type p ((ws.drop f.offset).take a.length):=by
        intro cs ws hR hl
        unfold part
        rw [Sem.run_bind,zX (.inr hsz.2),Result.andThen_ok]
        cases hag : ((aM P).at f.type).isAgg with
        | true=>
          simp only [if_true]
          rw [Sem.run_bind,nY (.inr hsz.2),Result.andThen_ok,Sem.run_pure]
          refine ⟨_,rfl,.inl ⟨hag,?_⟩⟩
          congr 1
          apply Array.ext'
          simp [hsz.1]
        | false=>
          simp only [Bool.false_eq_true,if_false]
          have hs1 : a.length=1:=by
           cases n with
           | zero=>simp [jS] at hka
           | succ n=>
             unfold jS at hka
             split at hka
             ·split at hka
              ·rename_i q hq hl
               cases hka
               unfold jS.kinds at hq
               rw [hT] at hq
               unfold TyR.isAgg at hag
               split at hq
               ·cases hq;rfl
               ·cases hq;rfl
               ·cases hq;rfl
               ·rename_i hst
                rw [hst] at hag
                cases hag
               ·cases hq
              ·cases hka
             ·cases hka
          have hlt : f.offset<ws.length:=by
           have:=hR.1
           simp at this hl
           omega
          refine ⟨ws[f.offset],by simp [hlt],.inr ⟨hag,?_⟩⟩
          rw [hs1]
          rw [List.drop_eq_getElem_cons hlt]
          rfl
       obtain ⟨p,hp,hp'⟩:=part_ok as_ us hA hlen.1
       obtain ⟨q,hq,hq'⟩:=part_ok bs vs hB hlen.2
       have he:=aF5 hT n f.type a hka d (by omega) _ _ r1 h1 _ _ (hA.take a.length) (hB.take a.length) p q hp' hq'
       have hA':=hA.drop a.length
       have hB':=hB.drop a.length
       rw [List.drop_drop] at hA' hB'
       have ih':=ih (f.offset+a.length) b _ _ r2 (λg hg=>hn g (List.mem_cons_of_mem _ hg)) hkb h2 hA' hB'
       unfold Op.eqFields
       rw [if_pos (hn f (List.mem_cons_self ..))]
       simp only [Sem.run_bind,hp,hq,he,Result.andThen_ok]
       cases r1 with
       | false=>simp
       | true=>simpa using ih'
    exact key fa.toList 0 qs as_ bs r names hk hr (by simpa using hus) (by simpa using hvs)
   ·cases hk
end
variable {n : Nat} {k : DV → OR} {r : R} {t e : TypeId} {fs : List (Nat × Nat)} {op : BinOp} {x y : DV} {w : World}
section
variable {P : Program} {X : Cx}
theorem aLs {d : DV} {k : List DV→OR} (h : pJ n d k=some r) : ∀ (m : bY) (v : Value),m.rd d v→∃ vs : List Value,v = .agg vs.toArray:=by
 unfold pJ at h
 split at h
 ·intro m v hv
  cases hv with
  | agg _ vs=>exact ⟨vs,rfl⟩
 ·obtain ⟨y,hy,_⟩:=bH h
  obtain ⟨cs,rfl,_⟩:=PV.whole_inv hy
  intro m v hv
  cases hv with
  | p _ _ hv=>cases hv with
    | agg _ vs=>exact ⟨vs,rfl⟩
 ·cases h
theorem aIX : ∀ {ds : List DV} {k : R→OR} {r : R},eqK.trees ds k=some r→∃ ps : R,ds=ps.map DV.p∧k ps=some r
 | [],_,_,h=>⟨[],rfl,h⟩
 | .p v::ds,k,_,h=>by
  obtain ⟨ps,e,h'⟩:=aIX (ds:=ds) (k:=λvs=>k (v::vs)) h
  exact ⟨v::ps,by rw [e];rfl,h'⟩
 | .nils::_,_,_,h=>by cases h
 | .agg _::_,_,_,h=>by cases h
 | .tup _::_,_,_,h=>by cases h
 | .fn _ _::_,_,_,h=>by cases h
 | .ptr _ _::_,_,_,h=>by cases h
 | .ref _ _::_,_,_,h=>by cases h
 | .sref _ _ _ _::_,_,_,h=>by cases h
 | .eptr _ _ _ _::_,_,_,h=>by cases h
 | .fptr _ _ _ _::_,_,_,h=>by cases h
 | .bptr _ _::_,_,_,h=>by cases h
 | .dead::_,_,_,h=>by cases h
theorem aRD (hT : X.T=aM P) {t : Nat} {qs : List Nat} (h : jS X n t=some qs) (ht : ((aM P).at t).d = .struct fs) : ((aM P).at t).eq=true:=by
 cases n with
 | zero=>simp [jS] at h
 | succ n=>
   unfold jS at h
   split at h
   ·rename_i q hq
    unfold jS.kinds at hq
    rw [hT,ht] at hq
    simp only at hq
    split at hq
    ·assumption
    ·cases hq
   ·cases h
theorem aTq (hT : X.T=aM P) {t : Nat} (ht : ((aM P).at t).d = .struct fs) (h : eqK X op t x y k=some r) :
 ∃ d,k d=some r∧∀ (m : bY) a b,m.rd x a→m.rd y b→∀ u v,∃ w,uX P op t u v a b m.w = .ok w m.w∧m.rd d w:=by
 unfold eqK at h
 split at h
 rotate_left
 ·cases h
 rename_i qs hqs
 have g1:=aLs h
 obtain ⟨as_,h1,hla,_,H1⟩:=rN h
 have g2:=aLs h1
 obtain ⟨bs,h2,hlb,_,H2⟩:=rN h1
 obtain ⟨as_,rfl,h3⟩:=aIX h2
 obtain ⟨bs,rfl,h4⟩:=aIX h3
 obtain ⟨z,hz,hk⟩:=bH h4
 refine ⟨_,hk,λm a b ha hb u v=>?_⟩
 obtain ⟨us,rfl⟩:=g1 m a ha
 obtain ⟨vs,rfl⟩:=g2 m b hb
 obtain ⟨us',hus,hul,_,hua⟩:=H1 m _ ha
 obtain ⟨vs',hvs,hvl,_,hvb⟩:=H2 m _ hb
 have hus : us=us':=hus
 have hvs : vs=vs':=hvs
 subst hus;subst hvs
 unfold cQ at hz
 simp only at hz
 obtain ⟨c,hc,ho⟩:=aIQ hz
 have heq:=aRD hT hqs ht
 obtain ⟨dd,hdd,hkk,hee⟩:=pS.under ht (by simp)
 obtain ⟨fa,rfl,rfl⟩:=aBB hkk
 rw [heq] at hee
 have hee:=hee.symm
 simp only [aTg,Bool.and_eq_true,Bool.not_eq_true'] at hee
 have hag : ((aM P).at t).isAgg=true:=by unfold TyR.isAgg;rw [ht]
 have rep : ∀ {ps : R} {ws : List Value},(ps.map DV.p).length=qs.length→ws.length=qs.length→(∀ (i : Nat) d u,(ps.map DV.p)[i]? = some d→ws[i]? = some u→m.rd d u)→aHA m.w m.Z ps ws:=by
  intro ps ws h1 h2 h3
  refine ⟨by simp at h1;omega,λi x u hx hu=>?_⟩
  have:=h3 i (.p x) u (by rw [List.getElem?_map,hx];rfl) hu
  cases this;assumption
 have he:=aF5 (P:=P) (w:=m.w) (Z:=m.Z) hT 10 t qs hqs 10000 (by omega) as_ bs c hc us vs (rep hla hul hua) (rep hlb hvl hvb) _ _ (.inl ⟨hag,rfl⟩) (.inl ⟨hag,rfl⟩)
 unfold uX
 rw [Sem.run_bind,run_eqGuard_agg _ _ _ _ _ _ _ hee.1.2,Result.andThen_ok]
 rcases ho with ⟨rfl,rfl⟩ | ⟨rfl,rfl⟩
 ·exact ⟨_,by rw [run_eql_struct,he];rfl,.p _ _ (.bool _)⟩
 ·exact ⟨_,by rw [run_neq_struct,he];rfl,.p _ _ (.bool _)⟩
theorem aF6 (ht : P.underlying t=some (.pointer e)) (a b : Option Addr) (h : a=none∨b=none) : (Op.equal t (.pointer a) (.pointer b)).run P w = .ok (a.isNone&&b.isNone) w:=by
 obtain ⟨n,hn⟩ : ∃ n,Op.maxDepth=n+1:=⟨9999,rfl⟩
 unfold Op.equal
 rw [hn]
 unfold Op.equalIn
 cases a<;>cases b<;>simp_all [underlying]
theorem aB7 (ht : P.underlying t=some (.pointer e)) {a b : Option Addr} (h : a=none∨b=none) {z : PV} (ho : vZ op (some (a.isNone&&b.isNone))=some z) (u v : Operand) :
 ∃ x,uX P op t u v (.pointer a) (.pointer b) w = .ok x w∧∀ (m : bY),m.rd (.p z) x:=by
 rw [nG (by simp) (by simp)]
 obtain ⟨c,hc,ho⟩:=aIQ ho
 cases hc
 rcases ho with ⟨rfl,rfl⟩ | ⟨rfl,rfl⟩
 ·refine ⟨_,?_,λm=>.p _ _ (.bool _)⟩
  have : binOp .eql t (.pointer a) (.pointer b)=(do pure (.bool (← Op.equal t (.pointer a) (.pointer b)))):=by
   cases a<;>cases b<;>rfl
  rw [this,Sem.run_bind,aF6 ht a b h];rfl
 ·refine ⟨_,?_,λm=>.p _ _ (.bool _)⟩
  have : binOp .neq t (.pointer a) (.pointer b)=(do pure (.bool (!(← Op.equal t (.pointer a) (.pointer b))))):=by
   cases a<;>cases b<;>rfl
  rw [this,Sem.run_bind,aF6 ht a b h];rfl
theorem aDp (ht : P.underlying t=some (.slice e)) (o : Option Addr) (l c : Nat) : (Op.equal t (.slice o l c) (.slice none 0 0)).run P w = .ok o.isNone w:=by
 obtain ⟨n,hn⟩ : ∃ n,Op.maxDepth=n+1:=⟨9999,rfl⟩
 unfold Op.equal
 rw [hn]
 unfold Op.equalIn
 cases o<;>simp_all [underlying]
theorem aTr (ht : P.underlying t=some (.slice e)) {o : Option Addr} {l c : Nat} {neg : Bool} {xs : R} (ho : op = .eql∧neg=false∨op = .neq∧neg=true) (hx : o=none→xs = []) (u v : Operand) {m : bY} :
 ∃ x,uX P op t u v (.slice o l c) (.slice none 0 0) m.w = .ok x m.w∧m.rd (.nilq (.lst xs) neg) x:=by
 have hn : ∀ b : Bool,b=o.isNone→b=true→PV.lst xs = .lst []:=λb h1 h2=>by
  rw [hx]
  cases o with
  | none=>rfl
  | some a=>rw [h1] at h2;cases h2
 rcases ho with ⟨rfl,rfl⟩ | ⟨rfl,rfl⟩
 ·refine ⟨.bool o.isNone,?_,.nilq _ _ _ (λh=>hn _ rfl (by simpa using h))⟩
  rw [nG (by simp) (by simp)]
  have : binOp .eql t (.slice o l c) (.slice none 0 0)=(do pure (.bool (← Op.equal t (.slice o l c) (.slice none 0 0)))):=by
   cases o<;>rfl
  rw [this,Sem.run_bind,aDp ht];rfl
 ·refine ⟨.bool (!o.isNone),?_,.nilq _ _ _ (λh=>hn o.isNone rfl (by cases o<;>simp_all))⟩
  rw [nG (by simp) (by simp)]
  have : binOp .neq t (.slice o l c) (.slice none 0 0)=(do pure (.bool (!(← Op.equal t (.slice o l c) (.slice none 0 0))))):=by
   cases o<;>rfl
  rw [this,Sem.run_bind,aDp ht];rfl
theorem aRE (hT : X.T=aM P) {t : Nat} (h : aTi X op t x y k=some r) :
 ∃ d,k d=some r∧∀ (m : bY) a b,m.rd x a→m.rd y b→∀ u v,∃ w,uX P op t u v a b m.w = .ok w m.w∧m.rd d w:=by
 unfold aTi at h
 rw [hT] at h
 have num : ∀ {a b : PV},(bd (aD op a b) λv=>k (.p v))=some r→∃ d,k d=some r∧∀ (m : bY) a' b',m.rd (.p a) a'→m.rd (.p b) b'→∀ u v,∃ w,uX P op t u v a' b' m.w = .ok w m.w∧m.rd d w:=by
  intro a b h
  obtain ⟨z,hz,hk⟩:=bH h
  refine ⟨_,hk,λm a' b' ha hb u v=>?_⟩
  cases ha with
  | p _ _ ha=>cases hb with
    | p _ _ hb=>
      obtain ⟨w,hw,hr⟩:=aTl (P:=P) (w:=m.w) hz ha hb t u v
      exact ⟨w,hw,.p _ _ hr⟩
 split at h
 ·rename_i e ht
  split at h
  rotate_left
  ·cases h
  have key : ∀ {c : PV} {neg : Bool} {op : BinOp},(op = .eql∧neg=false∨op = .neq∧neg=true)→(bd (bL c) λc=>k (.nilq c neg))=some r→
   ∃ d,k d=some r∧∀ (m : bY) a b,m.rd (.p c) a→m.rd .nils b→∀ u v,∃ w,uX P op t u v a b m.w = .ok w m.w∧m.rd d w:=by
   intro c neg op ho h
   obtain ⟨c',hc,hk⟩:=bH h
   have : ∃ xs,c = .lst xs∧c'=c:=by
    unfold bL at hc
    split at hc
    ·cases hc;exact ⟨_,rfl,rfl⟩
    ·cases hc
   obtain ⟨xs,rfl,rfl⟩:=this
   refine ⟨_,hk,λm a b ha hb u v=>?_⟩
   obtain ⟨o,l,cp,rfl,hx⟩ : ∃ o l cp,a = .slice o l cp∧(o=none→xs = []):=by
    cases ha with
    | p _ _ ha=>cases ha with
      | empty a cap=>exact ⟨_,_,_,rfl,λ_=>rfl⟩
      | lst xs b o s cap g cells e fz cv=>exact ⟨_,_,_,rfl,λh=>by cases h⟩
   cases hb
   exact aTr (pS.slice ht) ho (by simpa using hx) u v
  unfold aUF at h
  split at h
  ·exact key (.inl ⟨rfl,rfl⟩) h
  ·exact key (.inr ⟨rfl,rfl⟩) h
  ·cases h
 ·rename_i ht
  split at h
  ·obtain ⟨z,hz,hk⟩:=bH h
   refine ⟨_,hk,λm a' b' ha hb u v=>?_⟩
   obtain ⟨dd,hdd,hkk,_⟩:=pS.under ht (by simp)
   have:=aJR hkk;subst this
   cases ha with
   | p _ _ ha=>cases hb with
     | p _ _ hb=>
       obtain ⟨w,hw,hr⟩:=aTo (P:=P) (w:=m.w) hz ha hb hdd u v
       exact ⟨w,hw,.p _ _ hr⟩
  ·cases h
 ·rename_i ht
  obtain ⟨dd,hdd,hkk,_⟩:=pS.under ht (by simp)
  obtain ⟨e,rfl⟩:=aRC hkk
  split at h
  ·obtain ⟨z,hz,hk⟩:=bH h
   refine ⟨_,hk,λm a' b' ha hb u v=>?_⟩
   unfold dQ at hz
   split at hz
   ·cases ha with
    | p _ _ ha=>cases hb with
      | p _ _ hb=>
        cases ha;cases hb
        obtain ⟨w,hw,hr⟩:=aB7 (P:=P) (w:=m.w) hdd (.inl rfl) (a:=none) (b:=none) hz u v
        exact ⟨w,hw,hr m⟩
   ·cases ha with
    | p _ _ ha=>cases hb with
      | p _ _ hb=>
        cases ha;cases hb
        obtain ⟨w,hw,hr⟩:=aB7 (P:=P) (w:=m.w) hdd (.inl rfl) (a:=none) (b:=some _) hz u v
        exact ⟨w,hw,hr m⟩
   ·cases ha with
    | p _ _ ha=>cases hb with
      | p _ _ hb=>
        cases ha;cases hb
        obtain ⟨w,hw,hr⟩:=aB7 (P:=P) (w:=m.w) hdd (.inr rfl) (a:=some _) (b:=none) hz u v
        exact ⟨w,hw,hr m⟩
   ·cases hz
  ·split at h
   ·refine ⟨_,h,λm a' b' ha hb u v=>?_⟩
    cases ha with
    | ptr _ _ ha=>cases hb with
      | p _ _ hb=>
        cases hb
        obtain ⟨w,hw,hr⟩:=aB7 (P:=P) (w:=m.w) hdd (.inr rfl) (a:=some _) (b:=none) (op:=.eql) rfl u v
        exact ⟨w,hw,hr m⟩
   ·refine ⟨_,h,λm a' b' ha hb u v=>?_⟩
    cases ha with
    | ptr _ _ ha=>cases hb with
      | p _ _ hb=>
        cases hb
        obtain ⟨w,hw,hr⟩:=aB7 (P:=P) (w:=m.w) hdd (.inr rfl) (a:=some _) (b:=none) (op:=.neq) rfl u v
        exact ⟨w,hw,hr m⟩
   ·cases h
  ·cases h
 ·rename_i ht
  exact aTq hT ht h
 ·split at h
  ·exact num h
  ·cases h
 ·split at h
  ·exact num h
  ·cases h
 ·cases h
end
variable {w : World} {Z : NP} {v : Value} {d : DV} {s : St} {k : DV → St → OR} {r : R} {e : gJ}
inductive Src (w : World) (Z : NP) : PV→Value→Prop
 | str (s : ByteArray) : Src w Z (.str s) (.string s)
 | empty (a : Option Addr) (cap : Nat) : Src w Z (.lst []) (.slice a 0 cap)
 | lst (xs : R) (b o s cap : Nat) (g : Bool) (cells : Array Value) (e : TypeId) (fz : Nat × Nat) (cv : Nat→Nat→Value) :
  w.heap[b]? = some (.cells cells e fz)→0<s→xs.length≤cap→
  (∀ (i : Nat) x,xs[i]? = some x→x.isEl s g=true)→
  (∀ i j : Nat,i<xs.length→j<s→cells[o+i*s+j]? = some (cv i j))→
  (∀ i j : Nat,i<xs.length→j<s→eN (cv i j))→
  (∀ (i j : Nat) x,xs[i]? = some x→j<s→kX w Z (gF g x j) (cv i j))→
  Src w Z (.lst xs) (.slice (some ⟨b,o,none⟩) xs.length cap)
section
variable {P : Program} {X : Cx}
theorem kX.src {x : PV} (h : kX w Z x v) (hx : eK x≠none) : Src w Z x v:=by
 cases h<;>first | (exfalso;exact hx rfl) | skip
 ·exact .str _
 ·exact .empty _ _
 ·exact .lst _ _ _ _ _ _ _ _ _ _ (by assumption) (by assumption) (by assumption) (by assumption) (by assumption) (by assumption) (by assumption)
theorem eO.src {o : OTy} {xs : R} {F : NP} (h : eO w Z o (.lst xs) v F) (ho : o.isLeaf=false) (hp : o.plain=true) : Src w Z (.lst xs) v:=by
 cases h with
 | leaf=>cases ho
 | nil=>exact .empty _ _
 | own s e g cts _ b o cap cells ety cv fp F hh hs ho hl hz he hc hv hr hf hb hd=>
   refine .lst xs b o s cap g cells ety (0,0) cv hh hs hl he hc hv (λi j x hx hj=>?_)
   have:=hr i j x hx hj
   have hct : cts.getD j .leaf = .leaf:=OTy.plain_ct hp j
   rw [hct] at this
   exact this.leaf_inv
theorem aCK {k : PV→OR} (h : aOz d s k=some r) :
 ∃ y,k y=some r∧∀ (m : bY),sN m→(∀ l∈(eP d).rl,m.s.list l=s.list l)→eK y≠none→∀ v,m.rd d v→Src m.w m.Z y v:=by
 unfold aOz at h
 split at h
 ·refine ⟨_,h,λm _ _ he v hv=>?_⟩
  cases hv with
  | p _ _ hv=>exact hv.src he
 ·refine ⟨_,h,λm _ _ he v hv=>?_⟩
  cases hv;exact .empty _ _
 ·rename_i l path
  obtain ⟨w0,c,hw0,h',H⟩:=aEb h
  clear h
  split at h'
  ·rename_i hp
   refine ⟨_,h',λm inv ha he v hv=>?_⟩
   have hml:=(ha l (by simp [eP])).trans hw0
   obtain ⟨F,hro,_,hh,hty⟩:=H m inv hml v hv
   have hlf : (w0.o.along path).isLeaf=false:=by rw [hty];exact hh.along_notLeaf (by rw [← hty];exact (inv.row l w0 hml).2.1)
   cases hc : c with
   | lst xs=>rw [hc] at hro;exact hro.src hlf hp
   | str s0=>
     exfalso
     rw [hc] at hro
     generalize w0.o.along path=o at *
     cases hro
     cases hlf
   | _=>rw [hc] at he;exact (he rfl).elim
  ·cases h'
 ·rename_i l path lo hi
  obtain ⟨w0,c,y,hw0,hy,h',H⟩:=aFn h
  clear h
  split at h'
  ·rename_i hp
   refine ⟨_,h',λm inv ha he v hv=>?_⟩
   have hml:=(ha l (by simp [eP])).trans hw0
   obtain ⟨F,v0,hro,_,hh,hty,a,len,cap,k1,k2,m1,n1,rfl,rfl,rfl,h1,h2,rfl⟩:=H m inv hml v hv
   have hlf : (w0.o.along path).isLeaf=false:=by rw [hty];exact hh.along_notLeaf (by rw [← hty];exact (inv.row l w0 hml).2.1)
   obtain ⟨zs,m2,n2,k3,k4,rfl,h5,h6,h7,h8,rfl,hd⟩:=rM hy
   cases h5;cases h6
   obtain ⟨a',len',cap',F',e1,_,hro',_⟩:=hro.cut hlf hd h7 h8
   cases e1
   exact hro'.src hlf hp
  ·cases h'
 ·cases h
theorem aTs {l : Nat} {lo hi : PV} {w : tN} (hw : s.list l=some w)
 (h : (bd (bA w.o.s w.o.g w.c lo hi) λc=>k (.ref s.nl []) ((s.killL [l]).addList ⟨w.o,c⟩))=some r) :
 ∃ s',k (.ref s.nl []) s'=some r∧∀ (n : Nat) (m : bY) (B L WB WL : NP),tT m s B L n→s'.nl≤n+16→L l→WL l→∀ v,m.rd (.sref l [] lo hi) v→
   ∃ m',m'.w=m.w∧dF m m' s s' B L WB WL n id∧m'.rd (.ref s.nl []) v:=by
 have hsame : nU w.o s (.sref l [] lo hi) (λc s'=>k (.ref s'.nl []) (s'.addList ⟨w.o,c⟩))=some r∨w.o.isLeaf=true:=by
  cases ho : w.o with
  | leaf=>exact .inr rfl
  | own sz e g cts=>
    left
    unfold nU
    rw [ho] at h
    simp only [hw,ho,OTy.same_refl,if_true]
    obtain ⟨c,hc,h⟩:=bH h
    rw [hc]
    exact h
 rcases hsame with hsame | hleaf
 ·obtain ⟨pv,ls,hk,hls,H⟩:=lB hsame
  rw [xQ] at hk
  refine ⟨_,hk,λn m B L WB WL sit hn hL hWL vv hv=>?_⟩
  have hcv : eN vv:=by cases hv;assumption
  have hn : (s.killL ls).nl+1≤n+16:=hn
  have hlsL : ∀ l'∈ls,l'=l:=λl' h'=>by simpa [dX,cU] using hls l' h'
  obtain ⟨m1,F,sk,hro,hF⟩:=H n m L sit.inv (λl h=>sit.al l (.inl h)) (λl' h'=>by
   have : l'=l:=by simpa [dX,cU] using h'
   rw [this];exact hL) vv hv
  have G1:=sk.goes (B:=B) (L:=L) (WL:=WL) WB sit (λl' h'=>.inl (by rw [hlsL l' h'];exact hL)) (λl' h'=>.inl (by rw [hlsL l' h'];exact hWL))
  have sit1:=G1.sit sit
  have hlf : w.o.isLeaf=false:=(sit.inv.row l w ((sit.al l (.inl hL)).trans hw)).2.1
  have G2:=dF.addRow (B:=B) (L:=L) WB WL sit1 (by omega) (w':=m1.w) (own:=⟨w.o,pv⟩) (hdr:=vv) hlf hro (λr hr=>.inl (hF r hr).1) (λ_ _ _=>rfl) (Nat.le_refl _) rfl rfl rfl
  refine ⟨m1.addRow (s.killL ls).nl m1.w ⟨w.o,pv⟩ vv F,sk.w,G1.trans G2,?_⟩
  have:=bY.addRow_rd (m:=m1) (l:=(s.killL ls).nl) (w':=m1.w) (own:=⟨w.o,pv⟩) (F:=F) hcv
  rw [xQ] at this ⊢
  exact this
 ·obtain ⟨c,hc,h⟩:=bH h
  refine ⟨_,h,λn m B L WB WL sit hn hL hWL vv hv=>?_⟩
  have:=(sit.inv.row l w ((sit.al l (.inl hL)).trans hw)).2.1
  rw [hleaf] at this
  cases this
theorem aA8 {dst : Option Nat} {t : Nat} (h : aJH X dst t d e s k=some r) :
 ∃ d' s',k d' s'=some r∧∀ (n : Nat) (m : bY) (B L WB WL : NP),tT m s B L n→s'.nl≤n+16→(dst=none∨∀ l∈(aB2 d).wl,L l∧WL l)→∀ v,m.rd d v→
   ∃ m',m'.w=m.w∧dF m m' s s' B L WB WL n id∧m'.rd d' v:=by
 have same : ∀ {d : DV},k d s=some r→∃ d' s',k d' s'=some r∧∀ (n : Nat) (m : bY) (B L WB WL : NP),tT m s B L n→s'.nl≤n+16→(dst=none∨∀ l∈(aB2 d).wl,L l∧WL l)→∀ v,m.rd d v→
  ∃ m',m'.w=m.w∧dF m m' s s' B L WB WL n id∧m'.rd d' v:=
  λ{d} h=>⟨d,s,h,λn m B L WB WL sit _ _ v hv=>⟨m,rfl,dF.refl WB WL sit,hv⟩⟩
 unfold aJH at h
 split at h
 ·cases h
 ·split at h
  ·rename_i u hu
   refine ⟨_,_,h,λn m B L WB WL sit hn _ v hv=>?_⟩
   cases hv
   have hn : s.nl+1≤n+16:=hn
   obtain ⟨M1,hr1⟩:=bY.addNil sit.inv (n:=n) (s:=s) ⟨sit.nl,by omega⟩ (sit.fl s.nl (Nat.le_refl _) (by omega)) (X.T.at u).size (X.T.at u).bytes (X.T.at u).isAgg (X.own u)
   exact ⟨m.addRow s.nl m.w ⟨rowOf X u,.lst []⟩ (.slice none 0 0) (λ_=>False),rfl,M1.goes (B:=B) (L:=L) WB WL sit (aBC s _) hn,hr1⟩
  ·exact same h
 ·rename_i l lo hi
  split at h
  ·rename_i t'
   split at h
   ·split at h
    ·split at h
     ·rename_i w hw
      obtain ⟨s',hk,H⟩:=aTs hw h
      refine ⟨_,_,hk,λn m B L WB WL sit hn hf v hv=>?_⟩
      rcases hf with hf | hf
      ·cases hf
      ·have:=hf l (by simp [aB2])
       exact H n m B L WB WL sit hn this.1 this.2 v hv
     ·cases h
    ·exact same h
   ·exact same h
  ·exact same h
 ·exact same h
theorem aB8 {β : Type} {c : PV} {a b : Option β} {r : β} (h : aV c a b=some r) : (c = .bool true∧a=some r)∨(c = .bool false∧b=some r):=by
 unfold aV at h
 split at h
 ·exact .inl ⟨rfl,h⟩
 ·exact .inr ⟨rfl,h⟩
 ·cases h
theorem aPV {c a b : DV} (h : aNE X c a b e s k=some r) :
 ∃ d' s',k d' s'=some r∧∀ (n : Nat) (m : bY) (B L WB WL : NP),tT m s B L n→s'.nl≤n+16→∀ vc va vb,m.rd c vc→m.rd a va→m.rd b vb→
   ∃ v m',(do pure (.value (if ← asBool vc then va else vb)) : Sem Next).run P m.w = .ok (.value v) m'.w∧dF m m' s s' B L WB WL n id∧m'.rd d' v:=by
 unfold aNE at h
 split at h
 rotate_left
 ·cases h
 rcases aB8 h with ⟨rfl,h'⟩ | ⟨rfl,h'⟩
 ·obtain ⟨d',s',hk,H⟩:=aA8 h'
  refine ⟨d',s',hk,λn m B L WB WL sit hn vc va vb hc ha hb=>?_⟩
  obtain ⟨m',hw,G,hr⟩:=H n m B L WB WL sit hn (.inl rfl) va ha
  cases hc with
  | p _ _ hc=>
    cases hc
    exact ⟨va,m',by rw [hw];simp [asBool],G,hr⟩
 ·obtain ⟨d',s',hk,H⟩:=aA8 h'
  refine ⟨d',s',hk,λn m B L WB WL sit hn vc va vb hc ha hb=>?_⟩
  obtain ⟨m',hw,G,hr⟩:=H n m B L WB WL sit hn (.inl rfl) vb hb
  cases hc with
  | p _ _ hc=>
    cases hc
    exact ⟨vb,m',by rw [hw];simp [asBool],G,hr⟩
def bY.grow (m : bY) (w' : World) (Z' : NP) : bY:={ m with w:=w',Z:=Z'}
theorem bY.grow_step {m : bY} (inv : sN m) {n : Nat} {w' : World} {Z' : NP} (hw : ∀ r,r<m.w.heap.size→w'.heap[r]? = m.w.heap[r]?) (hsize : m.w.heap.size≤w'.heap.size)
 (hos : w'.os=m.w.os) (htape : w'.tape=m.w.tape) (hout : w'.output=m.w.output) (hz : ∀ r,m.Z r→Z' r) (hz' : ∀ r,Z' r→m.Z r∨(m.w.heap.size≤r∧r<w'.heap.size)) : jH m (m.grow w' Z') id n:=by
 have C : aDn m.w w' m.Z Z' m.ρ m.ρ m.s.live m.s.live (λ_=>False):={
  z:=hz
  hw:=λr hr=>hw r (inv.zlt r hr)
  b:=λb hb=>⟨hb,rfl⟩
  u:=λl hl=>hl
  l:=λl hl hv=>⟨hv,rfl,rfl,.inr (.inr λr hr=>⟨hr,by
   unfold Sx.live at hv
   cases hs : m.s.list l with
   | none=>exact absurd hs hv
   | some o=>exact hw r ((inv.row l o hs).2.2.lt r hr)⟩)⟩}
 have rd : ∀ d v,m.rd d v→(m.grow w' Z').rd d v:=λd v h=>fG.carry C h
 have notZ : ∀ r,m.owned r→¬ Z' r:=λr ho hzr=>by
  rcases hz' r hzr with h | h
  ·exact inv.owned_notZ ho h
  ·have:=inv.owned_lt ho;omega
 exact {
  inv:={
   ub:=inv.ub
   ul:=inv.ul
   zlt:=inv.zlt.next hz (λr hr=>hw r (inv.zlt r hr)) λr hr=>by
    rcases hz' r hr with h | h
    ·exact Nat.lt_of_lt_of_le (inv.zlt r h) hsize
    ·exact h.2
   box:=λb cs hb=>by
    obtain ⟨vs,ety,h1,h2,h3,h4⟩:=inv.box b cs hb
    exact ⟨vs,ety,(hw _ (Array.getElem?_eq_some_iff.1 h1).1).trans h1,h2,h3,λi d v hd hv=>rd d v (h4 i d v hd hv)⟩
   row:=λl o hl=>by
    obtain ⟨h1,h2,h3⟩:=inv.row l o hl
    exact ⟨h1,h2,h3.frame hz (λr hr=>hw r (inv.zlt r hr)) (λr hr=>hw r (h3.lt r hr)) (λr hr=>notZ r (.inr (.inl ⟨l,o,hl,hr⟩)))⟩
   bz:=λb cs hb=>notZ _ (.inl ⟨b,cs,hb,rfl⟩)
   bb:=inv.bb
   bl:=inv.bl
   ll:=inv.ll
   Lz:=λr hr=>⟨notZ r (.inr (.inr hr)),Nat.lt_of_lt_of_le (inv.Lz r hr).2 hsize⟩
   Lb:=inv.Lb
   Ll:=inv.Ll}
  rd:=rd
  size:=hsize
  os:=hos
  tape:=htape
  output:=hout
  keep:=λr hr _=>hw r hr
  own:=λr hr=>.inl hr
  z:=λr hr=>(hz' r hr).elim .inl (λh=>.inr (.inr h.1))
  zz:=hz
  ub:=λ_ h=>.inl h
  ul:=λ_ h=>.inl h
  mub:=λ_ h=>⟨h,rfl⟩
  mul:=λ_ h=>h
  bx:=λ_ cs h=>⟨cs,h⟩
  hd:=λ_ _ h=>⟨h,rfl,rfl⟩}
theorem dF.grow {m : bY} {s : St} {B L : NP} (WB WL : NP) {n : Nat} (h : tT m s B L n) {w' : World} {Z' : NP} (hw : ∀ r,r<m.w.heap.size→w'.heap[r]? = m.w.heap[r]?) (hsize : m.w.heap.size≤w'.heap.size)
 (hos : w'.os=m.w.os) (htape : w'.tape=m.w.tape) (hout : w'.output=m.w.output) (hz : ∀ r,m.Z r→Z' r) (hz' : ∀ r,Z' r→m.Z r∨(m.w.heap.size≤r∧r<w'.heap.size)) :
 dF m (m.grow w' Z') s s B L WB WL n id where
 step:=bY.grow_step h.inv hw hsize hos htape hout hz hz'
 after:=⟨h.ab,h.al,λ_ _ _=>rfl,λ_ _ _=>rfl,λ_ _ _=>rfl,λ_ _ _=>rfl⟩
 nb:=Nat.le_refl _
 nl:=Nat.le_refl _
 ub:=λ_ _ h=>h
 ul:=λ_ _ h=>h
end
section
variable {P : Program} {X : Cx}
theorem aRF {x : PV} {b : UInt8} (h : aAe x=some b) : ∃ n : Int,x = .int .u8 n∧b=UInt8.ofNat n.toNat:=by
 unfold aAe at h
 split at h
 ·cases h;exact ⟨_,rfl,rfl⟩
 ·cases h
theorem aNK : ∀ {xs : R} {bs : List UInt8},xs.mapM aAe=some bs→∃ ns : List Int,xs=ns.map (PV.int .u8)∧bs=ns.map (λn=>UInt8.ofNat n.toNat)
 | [],bs,h=>by simp at h;subst h;exact ⟨[],rfl,rfl⟩
 | x::xs,bs,h=>by
   rw [List.mapM_cons] at h
   cases hx : aAe x with
   | none=>rw [hx] at h;cases h
   | some b=>
     rw [hx] at h
     cases hr : xs.mapM aAe with
     | none=>rw [hr] at h;cases h
     | some bs'=>
       rw [hr] at h
       cases h
       obtain ⟨n,rfl,rfl⟩:=aRF hx
       obtain ⟨ns,rfl,rfl⟩:=aNK hr
       exact ⟨n::ns,rfl,rfl⟩
theorem aLt : ∀ (ns : List Int) (acc : List UInt8),ns.foldl (λr n=>r.push (UInt8.ofNat n.toNat)) (⟨acc.toArray⟩ : ByteArray)=⟨(acc++ns.map λn=>UInt8.ofNat n.toNat).toArray⟩
 | [],acc=>by simp
 | n::ns,acc=>by
   rw [List.foldl_cons]
   have : (⟨acc.toArray⟩ : ByteArray).push (UInt8.ofNat n.toNat)=⟨(acc++[UInt8.ofNat n.toNat]).toArray⟩:=by
    show (⟨acc.toArray.push _⟩ : ByteArray)=_
    rw [List.push_toArray]
   rw [this,aLt ns]
   simp
theorem aTt {m : bY} {xs : R} {y : PV} (hy : bK (.lst xs)=some y) {v : Value} (hv : Src m.w m.Z (.lst xs) v) : ∃ u,(Conv.bytesToString v).run P m.w = .ok u m.w∧m.rd (.p y) u:=by
 unfold bK at hy
 simp only [Option.map_eq_some_iff] at hy
 obtain ⟨bs,hbs,rfl⟩:=hy
 obtain ⟨ns,rfl,rfl⟩:=aNK hbs
 have fin : ∀ (a : Addr) (len cap : Nat),(loadCells a len).run P m.w = .ok (ns.map (Value.int .u8)).toArray m.w→∃ u,(Conv.bytesToString (.slice (some a) len cap)).run P m.w = .ok u m.w∧m.rd (.p (.str ⟨(ns.map λn=>UInt8.ofNat n.toNat).toArray⟩)) u:=by
  intro a len cap h
  refine ⟨_,run_bytesToString m.w a len cap ns h,?_⟩
  have:=aLt ns []
  simp only [List.nil_append] at this
  have e : (⟨([] : List UInt8).toArray⟩ : ByteArray)=ByteArray.empty:=rfl
  rw [e] at this
  rw [this]
  exact .p _ _ (.str _)
 generalize hxs : ns.map (PV.int .u8)=xs at hv
 cases hv with
 | empty a cap=>
   have hns : ns = []:=by simpa using hxs
   subst hns
   cases a with
   | none=>exact ⟨.string .empty,rfl,.p _ _ (.str _)⟩
   | some a=>exact fin a 0 cap (by simpa using run_loadCells_list (P:=P) m.w a [] (by simp))
 | lst _ b o s cap g cells e fz cv hh hs hcap hel hc hone hr=>
   subst hxs
   have hlen : (ns.map (PV.int .u8)).length=(ns.map (Value.int .u8)).length:=by simp
   rw [hlen]
   refine fin _ _ cap (run_loadCells_list (P:=P) m.w _ _ (λj v hv=>?_))
   rw [List.getElem?_map] at hv
   cases hj : ns[j]? with
   | none=>rw [hj] at hv;cases hv
   | some n=>
     rw [hj] at hv
     cases hv
     have hx : (ns.map (PV.int .u8))[j]? = some (.int .u8 n):=by rw [List.getElem?_map,hj];rfl
     have hlt : j<(ns.map (PV.int .u8)).length:=(List.getElem?_eq_some_iff.1 hx).1
     have he:=hel j _ hx
     simp [PV.isEl] at he
     obtain ⟨rfl,he⟩:=he
     subst he
     have h1:=hr j 0 _ hx (by omega)
     have h2:=hc j 0 hlt (by omega)
     have h1 : kX m.w m.Z (.int .u8 n) (cv j 0):=h1
     rw [h1.int_inv] at h2
     rw [nF]
     exact aA4 hh (by simpa using h2)
theorem aPW (hT : X.T=aM P) {src dst : Nat} {x : DV} {s : St} {k : DV→OR} {r : R} (h : aND X src dst x s k=some r) :
 ∃ d,k d=some r∧∀ (n : Nat) (m : bY) (B L WB WL : NP),tT m s B L n→(∀ l∈(eP x).rl,L l)→∀ v,m.rd x v→
   ∃ u m',(convert src dst v).run P m.w = .ok u m'.w∧dF m m' s s B L WB WL n id∧m'.rd d u:=by
 unfold aND at h
 simp only [hT] at h
 split at h
 ·rename_i k1 k2 v h1 h2
  obtain ⟨y,hy,hk⟩:=bH h
  refine ⟨_,hk,λn m B L WB WL sit _ u hu=>?_⟩
  obtain ⟨d1,e1,g1,_⟩:=pS.under h1 (by simp)
  obtain ⟨d2,e2,g2,_⟩:=pS.under h2 (by simp)
  have:=aAm g1;subst this
  have:=aAm g2;subst this
  unfold bR at hy
  split at hy
  ·cases hy
   cases hu with
   | p _ _ hu=>
     cases hu
     exact ⟨_,m,by simp [convert,run_underlying e1,run_underlying e2,Conv.intToInt],dF.refl WB WL sit,.p _ _ (.int _ _)⟩
  ·cases hy
 ·rename_i v h1 h2
  obtain ⟨y,hy,hk⟩:=bH h
  obtain ⟨s0,rfl,_⟩:=aPU hy
  refine ⟨_,hk,λn m B L WB WL sit _ u hu=>?_⟩
  cases hu with
  | p _ _ hu=>
    cases hu
    exact ⟨_,m,by simp [convert,run_underlying (pS.str h1),run_underlying (pS.str h2)],dF.refl WB WL sit,.p _ _ (.str _)⟩
 ·rename_i d e h1 h2
  split at h
  rotate_left
  ·cases h
  rename_i h3
  obtain ⟨y,h',H⟩:=aCK h
  obtain ⟨z,hz,hk⟩:=bH h'
  refine ⟨_,hk,λn m B L WB WL sit hL v hv=>?_⟩
  obtain ⟨d3,e3,g3,_⟩:=pS.under h3 (by simp)
  have:=aAm g3;subst this
  have hz':=hz
  unfold bK at hz'
  split at hz'
  ·obtain ⟨u,hu,hr⟩:=aTt (P:=P) hz (H m sit.inv (λl hl=>sit.al l (.inl (hL l hl))) (by simp [eK]) v hv)
   have hsl : ∃ a len cap,v = .slice a len cap:=by
    have:=H m sit.inv (λl hl=>sit.al l (.inl (hL l hl))) (by simp [eK]) v hv
    cases this<;>exact ⟨_,_,_,rfl⟩
   obtain ⟨a,len,cap,rfl⟩:=hsl
   exact ⟨u,m,by rw [run_convert_bytes_string m.w src dst e a len cap (pS.slice h1) e3 (pS.str h2)];exact hu,dF.refl WB WL sit,hr⟩
  ·cases hz'
 ·rename_i e v h1 h2
  split at h
  rotate_left
  ·cases h
  rename_i h3
  obtain ⟨z,hz,hk⟩:=bH h
  refine ⟨_,hk,λn m B L WB WL sit hL v hv=>?_⟩
  obtain ⟨d3,e3,g3,_⟩:=pS.under h3 (by simp)
  have:=aAm g3;subst this
  unfold aW at hz
  split at hz
  rotate_left
  ·cases hz
  rename_i s0
  split at hz
  rotate_left
  ·cases hz
  rename_i hsz
  cases hz
  cases hv with
  | p _ _ hv=>
  cases hv
  generalize hcp : grownCap m.w s0.size 0 e=cap
  have hcap : s0.size≤cap:=by rw [← hcp];exact grownCap_ge _ _ _ _
  generalize hcells : ((s0.data.map λb=>Value.int .u8 b.toNat)++Array.replicate (cap - s0.size) (Value.int .u8 0) : Array Value)=cells
  have hcsz : cells.size=cap:=by
   rw [← hcells]
   simp
   show s0.size+_=_
   omega
  have hrun : (convert src dst (.string s0)).run P m.w = .ok (.slice (some ⟨m.w.heap.size,0,none⟩) s0.size cap) ((m.w.drew.alloc (.cells cells e)).freeze ⟨m.w.heap.size,cap,none⟩ 1):=by
   have hsh : (m.w.drew.alloc (.cells cells e)).shape? m.w.heap.size=some (e,cap):=by
    unfold World.shape?
    have : (m.w.drew.alloc (.cells cells e)).heap[m.w.heap.size]? = some (.cells cells e (0,0)):=heap_alloc_new m.w.drew _
    rw [this]
    simp only [hcsz]
   simp only [convert,Sem.run_bind,run_underlying (pS.str h1),run_underlying (pS.slice h2),run_underlying e3,Result.andThen_ok,Conv.stringToBytes,run_choose_drew]
   simp only [Question.forced,Bool.false_eq_true,if_false,Result.andThen_ok]
   have hc2 : (Question.appendCap s0.size 0 e).cut (m.w.tape m.w.drawn (Question.appendCap s0.size 0 e))=cap:=hcp
   simp only [hc2,hcells,newRow,Sem.run_bind,run_newObj_alloc,Result.andThen_ok,Sem.run_pure,markStringish,run_shape]
   have hd : m.w.drew.heap.size=m.w.heap.size:=rfl
   rw [hd,hsh]
   simp
  have hheap : ((m.w.drew.alloc (.cells cells e)).freeze ⟨m.w.heap.size,cap,none⟩ 1).heap=(m.w.heap.push (.cells cells e)).modify m.w.heap.size fun
   | .cells c elem (lo,hi)=>.cells c elem (if lo==hi then (cap,cap+1) else (min lo cap,max hi (cap+1)))
   | o=>o:=by
   unfold World.freeze
   rw [if_neg (by omega)]
   rfl
  have hnew : ((m.w.drew.alloc (.cells cells e)).freeze ⟨m.w.heap.size,cap,none⟩ 1).heap[m.w.heap.size]? = some (.cells cells e (cap,cap+1)):=by
   rw [hheap,Array.getElem?_modify,if_pos rfl,Array.getElem?_push_size]
   rfl
  have hold : ∀ r,r<m.w.heap.size→((m.w.drew.alloc (.cells cells e)).freeze ⟨m.w.heap.size,cap,none⟩ 1).heap[r]? = m.w.heap[r]?:=by
   intro r hr
   rw [hheap,Array.getElem?_modify,if_neg (show ¬ m.w.heap.size=r by omega),Array.getElem?_push,if_neg (by omega)]
  have hsz' : ((m.w.drew.alloc (.cells cells e)).freeze ⟨m.w.heap.size,cap,none⟩ 1).heap.size=m.w.heap.size+1:=by
   rw [hheap,Array.size_modify,Array.size_push]
  refine ⟨_,_,hrun,dF.grow WB WL sit (Z':=λr=>m.Z r∨r=m.w.heap.size) hold (by omega) rfl rfl rfl (λr hr=>.inl hr) (λr hr=>hr.imp id (λe=>by omega)),.p _ _ ?_⟩
  have hlen : (s0.data.toList.map λb=>PV.int .u8 b.toNat).length=s0.size:=by
   simp
  have hget : ∀ (i : Nat) x,(s0.data.toList.map λb=>PV.int .u8 b.toNat)[i]? = some x→∃ b : UInt8,s0.data.toList[i]? = some b∧x = .int .u8 b.toNat:=by
   intro i x hx
   rw [List.getElem?_map] at hx
   cases hb : s0.data.toList[i]? with
   | none=>rw [hb] at hx;cases hx
   | some b=>rw [hb] at hx;cases hx;exact ⟨b,rfl,rfl⟩
  by_cases h0 : (s0.data.toList.map λb=>PV.int .u8 b.toNat) = []
  ·have hl0 : s0.size=0:=by rw [h0] at hlen;simpa using hlen.symm
   rw [h0,hl0]
   exact .empty _ _
  ·have:=kX.lst (w:=(m.w.drew.alloc (.cells cells e)).freeze ⟨m.w.heap.size,cap,none⟩ 1) (Z:=λr=>m.Z r∨r=m.w.heap.size) (s0.data.toList.map λb=>PV.int .u8 b.toNat) m.w.heap.size 0 1 cap false cells e (cap,cap+1) (λi _=>.int .u8 ((s0.data.toList.getD i 0).toNat : Int))
    (.inr rfl) hnew (by omega) (by omega) (λi x hx=>by obtain ⟨b,_,rfl⟩:=hget i x hx;rfl) (λi j hi hj=>by
     have hj0 : j=0:=by omega
     subst hj0
     rw [hlen] at hi
     have hi' : i<s0.data.toList.length:=by simpa using hi
     rw [← hcells]
     simp only [Nat.zero_add,Nat.mul_one,Nat.add_zero]
     rw [Array.getElem?_append_left (by simpa using hi)]
     simp only [Array.getElem?_map,List.getD,Array.getElem?_toList]
     have hlt : i<s0.data.size:=by simpa using hi'
     rw [Array.getElem?_eq_getElem hlt]
     rfl) (λ_ _ _ _=>trivial) (λi j x hx hj=>by
     obtain ⟨b,hb,rfl⟩:=hget i x hx
     simp only [List.getD,hb,Option.getD_some]
     exact .int _ _)
   rw [hlen] at this
   exact this
 ·cases h
end
variable {t : Nat}
def setOff {α : Type} (cs : List α) (off : Nat) : List α→List α
 | []=>cs
 | v::r=>setOff (cs.set off v) (off+1) r
theorem aJS {α : Type} : ∀ (vs cs : List α) (off : Nat),off+vs.length≤cs.length→(setOff cs off vs).length=cs.length∧
 (∀ i : Nat,i<vs.length→(setOff cs off vs)[off+i]? = vs[i]?)∧∀ i : Nat,(i<off∨off+vs.length≤i)→(setOff cs off vs)[i]? = cs[i]?
 | [],cs,off,_=>⟨rfl,λi hi=>by simp at hi,λ_ _=>rfl⟩
 | v::vs,cs,off,h=>by
   simp only [List.length_cons] at h
   obtain ⟨h1,h2,h3⟩:=aJS vs (cs.set off v) (off+1) (by simp;omega)
   refine ⟨by rw [setOff,h1];simp,λi hi=>?_,λi hi=>?_⟩
   ·rw [setOff]
    cases i with
    | zero=>
      rw [h3 _ (.inl (by omega))]
      simp only [Nat.add_zero] at h ⊢
      rw [List.getElem?_set_self (by omega)]
      rfl
    | succ i=>
      have:=h2 i (by simpa using hi)
      rw [show off+(i+1)=off+1+i from by omega,this]
      simp
   ·simp only [List.length_cons] at hi
    rw [setOff,h3 i (by omega),List.getElem?_set_ne (by omega)]
theorem aJT : ∀ (l : List Value) (k off : Nat) (cells : Array Value),((l.zipIdx k).foldl (λ(cs : Array Value) (p : Value × Nat)=>cs.setIfInBounds (off+p.2) p.1) cells).toList=setOff cells.toList (off+k) l
 | [],_,_,_=>rfl
 | v::l,k,off,cells=>by
   rw [List.zipIdx_cons,List.foldl_cons,aJT l (k+1) off]
   simp only [Array.toList_setIfInBounds,setOff,Nat.add_assoc]
structure RdL (m : bY) (cs : List DV) (us : List Value) : Prop where
 len : us.length=cs.length
 one : ∀ (i : Nat) u,us[i]? = some u→eN u
 rd : ∀ (i : Nat) d u,cs[i]? = some d→us[i]? = some u→m.rd d u
theorem RdL.setOff {m : bY} {cs ds : List DV} {us vs : List Value} (h : RdL m cs us) (k : RdL m ds vs) {off : Nat} (hle : off+ds.length≤cs.length) : RdL m (qR cs off ds) (setOff us off vs):=by
 have hl:=h.len
 have kl:=k.len
 obtain ⟨a1,a2,a3⟩:=aBD ds cs off hle
 obtain ⟨b1,b2,b3⟩:=aJS vs us off (by omega)
 refine ⟨by omega,λi u hu=>?_,λi d u hd hu=>?_⟩
 ·by_cases hi : i<off∨off+vs.length≤i
  ·rw [b3 i hi] at hu;exact h.one i u hu
  ·obtain ⟨j,rfl⟩ : ∃ j,i=off+j:=⟨i - off,by omega⟩
   rw [b2 j (by omega)] at hu;exact k.one j u hu
 ·by_cases hi : i<off∨off+vs.length≤i
  ·rw [b3 i hi] at hu;rw [a3 i (by omega)] at hd;exact h.rd i d u hd hu
  ·obtain ⟨j,rfl⟩ : ∃ j,i=off+j:=⟨i - off,by omega⟩
   rw [b2 j (by omega)] at hu;rw [a2 j (by omega)] at hd;exact k.rd j d u hd hu
def RdP (m : bY) (ps : List (Nat × DV)) (vs : List (Nat × Value)) : Prop:=ps.length=vs.length∧∀ (i : Nat) p v,ps[i]? = some p→vs[i]? = some v→p.1=v.1∧m.rd p.2 v.2
section
variable {P : Program} {X : Cx}
theorem aTu {aE9 : Nat→Option (Nat × Nat)} {i off size : Nat} {v : Value} {us vs : List Value} {rest : List (Nat × Value)} (hp : aE9 i=some (off,size)) (hv : v.cells.toList=vs) (hs : vs.length=size) (hle : off+size≤us.length) :
 Instr.fill aE9 us.toArray ((i,v)::rest)=Instr.fill aE9 (setOff us off vs).toArray rest:=by
 have hvs : v.cells.size=size:=by rw [← hs,← hv];simp
 rw [Instr.fill]
 simp only [hp]
 rw [if_neg (by simp [hvs];omega)]
 congr 1
 apply Array.ext'
 rw [← Array.foldl_toList,Array.toList_zipIdx,hv]
 exact aJT vs 0 off us.toArray
theorem aCL (hT : X.T=aM P) {fs : List (Nat × Nat)} : ∀ {ps : List (Nat × DV)} {cs : List DV} {k : List DV→OR} {r : R},aBz X fs ps cs k=some r→
 ∃ cs',k cs'=some r∧∀ (m : bY) (us : List Value) (vs : List (Nat × Value)),RdL m cs us→RdP m ps vs→
   ∃ us',Instr.fill (λi=>(fs.map λf=>(f.1,((aM P).at f.2).size))[i]?) us.toArray vs=some us'.toArray∧RdL m cs' us'
 | [],cs,k,r,h=>⟨cs,h,λm us vs hr hp=>by
  have : vs = []:=List.eq_nil_of_length_eq_zero hp.1.symm
  subst this
  exact ⟨us,rfl,hr⟩⟩
 | (i,d)::ps,cs,k,r,h=>by
   unfold aBz at h
   split at h
   rotate_left
   ·cases h
   rename_i off t hf
   rw [hT] at h
   split at h
   rotate_left
   ·cases h
   rename_i hle
   have hle:=tU hle
   have hplace : (fs.map λf=>(f.1,((aM P).at f.2).size))[i]? = some (off,((aM P).at t).size):=by
    rw [List.getElem?_map,hf];rfl
   have go : ∀ {ds : List DV},aBz X fs ps (qR cs off ds) k=some r→ds.length=((aM P).at t).size→(∀ (m : bY) v,m.rd d v→∃ ws,v.cells.toList=ws∧RdL m ds ws)→
    ∃ cs',k cs'=some r∧∀ (m : bY) (us : List Value) (vs : List (Nat × Value)),RdL m cs us→RdP m ((i,d)::ps) vs→
      ∃ us',Instr.fill (λi=>(fs.map λf=>(f.1,((aM P).at f.2).size))[i]?) us.toArray vs=some us'.toArray∧RdL m cs' us':=by
    intro ds h hl H
    obtain ⟨cs',hk,H2⟩:=aCL hT h
    refine ⟨cs',hk,λm us vs hr hp=>?_⟩
    cases vs with
    | nil=>have:=hp.1;simp at this
    | cons q vs=>
      obtain ⟨i',v⟩:=q
      obtain ⟨e,hv⟩:=hp.2 0 (i,d) (i',v) rfl rfl
      have e : i=i':=e
      subst e
      obtain ⟨ws,hws,hR⟩:=H m v hv
      have hwl:=hR.len
      have hul:=hr.len
      obtain ⟨us',hfill,hR'⟩:=H2 m _ vs (hr.setOff hR (by omega)) ⟨by have:=hp.1;simp at this;omega,λj p v' h1 h2=>hp.2 (j+1) p v' (by simpa using h1) (by simpa using h2)⟩
      exact ⟨us',by rw [aTu (aE9:=λi=>(fs.map λf=>(f.1,((aM P).at f.2).size))[i]?) hplace hws (by omega) (by omega)];exact hfill,hR'⟩
   split at h
   ·obtain ⟨ds,h',hl,_,H⟩:=rN h
    exact go h' hl λm v hv=>by
     obtain ⟨us,h1,h2,h3,h4⟩:=H m v hv
     exact ⟨us,h1,⟨by omega,h3,h4⟩⟩
   ·split at h
    rotate_left
    ·cases h
    rename_i hs1
    have hs1:=dH hs1
    obtain ⟨h',hc⟩:=aCG h
    exact go (ds:=[d]) h' (by rw [hs1];rfl) λm v hv=>⟨[v],uJ (hc m v hv),⟨rfl,λi u hu=>by
     cases i with
     | zero=>simp at hu;subst hu;exact hc m _ hv
     | succ i=>simp at hu,λi d' u hd hu=>by
     cases i with
     | zero=>simp at hd hu;subst hd;subst hu;exact hv
     | succ i=>simp at hu⟩⟩
theorem aAq (hT : X.T=aM P) (h : aD1 X t=true) : X.zok t=true∧(zeroCells (aM P) 20 t).length=((aM P).at t).size∧(((aM P).at t).isAgg=true∨((aM P).at t).size=1):=by
 unfold aD1 at h
 simp only [Bool.and_eq_true,Bool.or_eq_true,hT] at h
 exact ⟨h.1.1,dH h.1.2,h.2.imp id dH⟩
theorem aPX (m : bY) : RdL m ((zeroCells (aM P) 20 t).map aK6) ((zeroCells (aM P) 20 t).map uU):=by
 refine ⟨by simp,λi u h=>?_,λi d u h h'=>?_⟩
 ·rw [List.getElem?_map] at h
  cases hc : (zeroCells (aM P) 20 t)[i]? with
  | none=>rw [hc] at h;cases h
  | some x=>rw [hc] at h;cases h;exact aA6 x
 ·rw [List.getElem?_map] at h h'
  cases hc : (zeroCells (aM P) 20 t)[i]? with
  | none=>rw [hc] at h;cases h
  | some x=>rw [hc] at h h';cases h;cases h';exact aNJ m x
theorem aNL {p p' : Nat→Option (Nat × Nat)} (hp : ∀ i q,p i=some q→p' i=some q) : ∀ {parts : List (Nat × Value)} {cells r : Array Value},Instr.fill p cells parts=some r→Instr.fill p' cells parts=some r
 | [],_,_,h=>h
 | (i,v)::rest,cells,r,h=>by
   unfold Instr.fill at h ⊢
   cases hq : p i with
   | none=>rw [hq] at h;cases h
   | some q=>
     rw [hq] at h
     rw [hp i q hq]
     obtain ⟨off,size⟩:=q
     simp only at h ⊢
     split at h
     ·cases h
     ·rename_i hc
      rw [if_neg hc]
      exact aNL hp h
theorem aMV (hT : X.T=aM P) (hz : qC P X.zok) {ps : List (Nat × DV)} {k : DV→OR} {r : R} (h : aFm X t ps k=some r) :
 ∃ d,k d=some r∧∀ (m : bY) (vs : Array (Nat × Value)),RdP m ps vs.toList→∃ u,(Instr.build t vs).run P m.w = .ok u m.w∧m.rd d u:=by
 unfold aFm at h
 simp only [hT] at h
 split at h
 rotate_left
 ·rename_i n e hfs
  split at h
  rotate_left
  ·cases h
  rename_i hc
  simp only [Bool.and_eq_true,Bool.not_eq_true'] at hc
  obtain ⟨hzo,hsz⟩:=hc
  obtain ⟨hzk,hzl,ha⟩:=aAq hT hzo
  obtain ⟨cs',hk,H⟩:=aCL hT h
  refine ⟨_,hk,λm vs hp=>?_⟩
  obtain ⟨us',hfill,hR⟩:=H m _ vs.toList (aPX (P:=P) m) hp
  obtain ⟨d0,hu,hkd,_⟩:=pS.under hfs (by simp)
  have hu : P.underlying t=some (.array n e):=by
   rw [hu]
   cases d0<;>simp [nT] at hkd
   obtain ⟨rfl,rfl⟩:=hkd;rfl
  have hag : ((aM P).at t).isAgg=true:=by unfold TyR.isAgg;rw [hfs]
  have hinfo:=hz t hzk
  cases hi : P.info? t with
  | none=>rw [hi] at hinfo;cases hinfo
  | some it=>
    rw [hi] at hinfo
    have hinfo : it.zero=some (gI (aM P) t):=hinfo
    have hes : ((aM P).at e).size≠0:=λh0=>by rw [h0] at hsz;cases hsz
    obtain ⟨ie,d1,h1,_,h2⟩:=pS.known (P:=P) (t:=e) (.inl hes)
    have hbuilt : P.built t vs.toList=some us'.toArray:=by
     unfold Program.built
     rw [hi,hu]
     simp only [hinfo,h1]
     have hcells : (gI (aM P) t).cells=((zeroCells (aM P) 20 t).map uU).toArray:=by
      rw [← sO hzl ha]
     rw [hcells]
     refine aNL (λi q hq=>?_) hfill
     simp only [List.getElem?_map] at hq
     cases hr : (List.range n)[i]? with
     | none=>rw [hr] at hq;simp at hq
     | some j=>
       rw [hr] at hq
       have hj : j=i:=by
        rw [List.getElem?_range (by
         have:=(List.getElem?_eq_some_iff.1 hr).1
         simpa using this)] at hr
        cases hr;rfl
       subst hj
       simp only [Option.map_some,Option.some.injEq] at hq
       rw [← hq,h2]
    exact ⟨_,run_build m.w t vs _ hbuilt,.agg _ _ hR.len.symm hR.one hR.rd⟩
 ·cases h
 rename_i fs hfs
 split at h
 rotate_left
 ·cases h
 rename_i hc
 simp only [Bool.and_eq_true] at hc
 obtain ⟨hzo,hsz⟩:=hc
 obtain ⟨hzk,hzl,ha⟩:=aAq hT hzo
 obtain ⟨cs',hk,H⟩:=aCL hT h
 refine ⟨_,hk,λm vs hp=>?_⟩
 obtain ⟨us',hfill,hR⟩:=H m _ vs.toList (aPX (P:=P) m) hp
 obtain ⟨fa,hu,rfl⟩:=pS.struct hfs
 have hag : ((aM P).at t).isAgg=true:=by unfold TyR.isAgg;rw [hfs]
 have hinfo:=hz t hzk
 cases hi : P.info? t with
 | none=>rw [hi] at hinfo;cases hinfo
 | some it=>
   rw [hi] at hinfo
   have hinfo : it.zero=some (gI (aM P) t):=hinfo
   have hplaces : ∀ (fl : List Field),(∀ f∈fl,((aM P).at f.type).size≠0)→fl.mapM (λf=>(P.info? f.type).map λi=>(f.offset,i.size))=some (fl.map λf=>(f.offset,((aM P).at f.type).size)):=by
    intro fl
    induction fl with
    | nil=>intro _;rfl
    | cons f fl ih=>
      intro hf
      obtain ⟨i,d,h1,_,h2⟩:=pS.known (P:=P) (t:=f.type) (.inl (hf f List.mem_cons_self))
      rw [List.mapM_cons,h1,ih (λg hg=>hf g (List.mem_cons_of_mem _ hg))]
      simp [h2]
   have hbuilt : P.built t vs.toList=some us'.toArray:=by
    unfold Program.built
    rw [hi,hu]
    simp only [hinfo]
    rw [hplaces fa.toList (λf hf=>by
     rw [List.all_eq_true] at hsz
     have:=hsz (f.offset,f.type) (List.mem_map.2 ⟨f,hf,rfl⟩)
     intro e
     simp [e] at this)]
    simp only
    have hcells : (gI (aM P) t).cells=((zeroCells (aM P) 20 t).map uU).toArray:=by
     rw [← sO hzl ha]
    rw [hcells,← hfill]
    congr 1
    funext i
    simp
    rfl
   exact ⟨_,run_build m.w t vs _ hbuilt,.agg _ _ hR.len.symm hR.one hR.rd⟩
end
variable {o : OTy} {xs ys : R} {cv : Nat → Nat → Value} {fp : Nat → Nat → Nat → Prop} {v : Value}
structure Els (w : World) (Z : NP) (o : OTy) (xs : R) (cv : Nat→Nat→Value) (fp : Nat→Nat→Nat→Prop) : Prop where
 el : ∀ (i : Nat) x,xs[i]? = some x→x.isEl o.s o.g=true
 one : ∀ i j : Nat,i<xs.length→j<o.s→eN (cv i j)
 rep : ∀ (i j : Nat) x,xs[i]? = some x→j<o.s→eO w Z (o.ct j) (gF o.g x j) (cv i j) (fp i j)
 fd : ∀ i j i' j' r : Nat,i<xs.length→j<o.s→i'<xs.length→j'<o.s→fp i j r→fp i' j' r→i=i'∧j=j'
section
variable {P : Program} {X : Cx} {w : World} {Z : NP}
theorem Els.frame {w' : World} {Z' : NP} {o : OTy} {xs : R} {cv : Nat→Nat→Value} {fp : Nat→Nat→Nat→Prop} (E : Els w Z o xs cv fp)
 (hZ : ∀ r,Z r→Z' r) (hw : ∀ r,Z r→w'.heap[r]? = w.heap[r]?) (hF : ∀ i j r : Nat,i<xs.length→j<o.s→fp i j r→w'.heap[r]? = w.heap[r]?∧¬ Z' r) : Els w' Z' o xs cv fp where
 el:=E.el
 one:=E.one
 rep:=λi j x hx hj=>by
  have hi : i<xs.length:=(List.getElem?_eq_some_iff.1 hx).1
  exact (E.rep i j x hx hj).frame hZ hw (λr hr=>(hF i j r hi hj hr).1) (λr hr=>(hF i j r hi hj hr).2)
 fd:=E.fd
theorem Els.congr {cv' : Nat→Nat→Value} (E : Els w Z o xs cv fp) (h : ∀ i j : Nat,i<xs.length→j<o.s→cv' i j=cv i j) : Els w Z o xs cv' fp where
 el:=E.el
 one:=λi j hi hj=>by rw [h i j hi hj];exact E.one i j hi hj
 rep:=λi j x hx hj=>by
  rw [h i j (List.getElem?_eq_some_iff.1 hx).1 hj];exact E.rep i j x hx hj
 fd:=E.fd
theorem Els.repO {o : OTy} {xs : R} {cv : Nat→Nat→Value} {fp : Nat→Nat→Nat→Prop} (E : Els w Z o xs cv fp) (hlf : o.isLeaf=false) (hs : 0<o.s) {b off cap : Nat} {cells : Array Value} {ety : TypeId}
 (hh : w.heap[b]? = some (.cells cells ety (0,0))) (hroom : off+cap*o.s≤cells.size) (hlen : xs.length≤cap) (hz : ¬ Z b)
 (hc : ∀ i j : Nat,i<xs.length→j<o.s→cells[off+i*o.s+j]? = some (cv i j)) (hb : ∀ i j : Nat,i<xs.length→j<o.s→¬ fp i j b) :
 eO w Z o (.lst xs) (.slice (some ⟨b,off,none⟩) xs.length cap) (λr=>r=b∨∃ i j : Nat,i<xs.length∧j<o.s∧fp i j r):=
 yT.repO ⟨hlf,hh,hs,hroom,hlen,hz,E.el,hc,E.one,E.rep,λ_=>Iff.rfl,hb,E.fd⟩
theorem eO.els {F : NP} (h : eO w Z o (.lst xs) v F) (ho : o.isLeaf=false) :
 (xs = []∧∃ a,v = .slice a 0 0)∨∃ (b off cap : Nat) (cells : Array Value) (ety : TypeId) (cv : Nat→Nat→Value) (fp : Nat→Nat→Nat→Prop),
  v = .slice (some ⟨b,off,none⟩) xs.length cap∧w.heap[b]? = some (.cells cells ety (0,0))∧0<o.s∧off+cap*o.s≤cells.size∧xs.length≤cap∧¬ Z b∧F b∧
  (∀ i j : Nat,i<xs.length→j<o.s→cells[off+i*o.s+j]? = some (cv i j))∧Els w Z o xs cv fp∧
  (∀ i j r : Nat,i<xs.length→j<o.s→fp i j r→F r∧r≠b):=by
 cases h with
 | leaf=>cases ho
 | nil s e g cts F a=>exact .inl ⟨rfl,a,rfl⟩
 | own s e g cts _ b off cap cells ety cv fp F hh hs hroom hl hz he hc hv hr hf hb hd=>
   exact .inr ⟨b,off,cap,cells,ety,cv,fp,rfl,hh,hs,hroom,hl,hz,(hf b).2 (.inl rfl),hc,⟨he,hv,hr,hd⟩,λi j r hi hj h=>⟨(hf r).2 (.inr ⟨i,j,hi,hj,h⟩),λe=>hb i j hi hj (e▸h)⟩⟩
theorem Els.nil (o : OTy) (cv : Nat→Nat→Value) (fp : Nat→Nat→Nat→Prop) : Els w Z o [] cv fp:=
 ⟨λi x h=>by simp at h,λi j h=>by simp at h,λi j x h=>by simp at h,λi j i' j' r h=>by simp at h⟩
theorem Els.append {dv : Nat→Nat→Value} {gp : Nat→Nat→Nat→Prop} (E : Els w Z o xs cv fp) (D : Els w Z o ys dv gp)
 (hd : ∀ i j i' j' r : Nat,i<xs.length→j<o.s→i'<ys.length→j'<o.s→fp i j r→¬ gp i' j' r) :
 Els w Z o (xs++ys) (λi j=>if i<xs.length then cv i j else dv (i - xs.length) j) (λi j r=>if i<xs.length then fp i j r else gp (i - xs.length) j r) where
 el:=λi x hx=>by
  by_cases hi : i<xs.length
  ·rw [List.getElem?_append_left hi] at hx;exact E.el i x hx
  ·rw [List.getElem?_append_right (by omega)] at hx;exact D.el _ x hx
 one:=λi j hi hj=>by
  rw [List.length_append] at hi
  by_cases h : i<xs.length
  ·simp only [h,if_true];exact E.one i j h hj
  ·simp only [h,if_false];exact D.one _ j (by omega) hj
 rep:=λi j x hx hj=>by
  by_cases h : i<xs.length
  ·simp only [h,if_true]
   rw [List.getElem?_append_left h] at hx;exact E.rep i j x hx hj
  ·simp only [h,if_false]
   rw [List.getElem?_append_right (by omega)] at hx;exact D.rep _ j x hx hj
 fd:=λi j i' j' r hi hj hi' hj' h1 h2=>by
  rw [List.length_append] at hi hi'
  by_cases h : i<xs.length<;>by_cases h' : i'<xs.length<;>simp only [h,h',if_true,if_false] at h1 h2
  ·exact E.fd i j i' j' r h hj h' hj' h1 h2
  ·exact (hd i j _ j' r h hj (by omega) hj' h1 h2).elim
  ·exact (hd i' j' _ j r h' hj' (by omega) hj h2 h1).elim
  ·have:=D.fd _ j _ j' r (by omega) hj (by omega) hj' h1 h2
   omega
theorem Src.els {y : PV} (h : Src w Z y v) (hy : eK y=some ys) (hp : o.plain=true) (hel : ys.all (PV.isEl o.s o.g)=true) (hs : 0<o.s) :
 ∃ cv : Nat→Nat→Value,Els w Z o ys cv (λ_ _ _=>False)∧(∀ (w' : World),(Builtin.lenOf v).run P w' = .ok ys.length w')∧
   (∀ (w' : World),w'.heap=w.heap→∀ n,n≤ys.length→(Builtin.firstCells o.s n v).run P w' = .ok ((List.range (n*o.s)).map λk=>cv (k / o.s) (k % o.s)).toArray w'):=by
 have hel : ∀ (i : Nat) x,ys[i]? = some x→x.isEl o.s o.g=true:=λi x hx=>by
  rw [List.all_eq_true] at hel;exact hel x (List.mem_of_getElem? hx)
 have leafy : ∀ {x : PV} {j : Nat} {u : Value},kX w Z x u→eO w Z (o.ct j) x u (λ_=>False):=by
  intro x j u hr
  rw [OTy.plain_ct hp]
  exact .leaf _ _ _ hr (λ_ h=>h)
 cases h with
 | str s0=>
   simp only [eK] at hy
   cases hy
   have hlen : (s0.data.toList.map λb=>PV.int .u8 b.toNat).length=s0.size:=by simp
   have hget : ∀ (i : Nat) x,(s0.data.toList.map λb=>PV.int .u8 b.toNat)[i]? = some x→∃ b : UInt8,s0.data.toList[i]? = some b∧x = .int .u8 b.toNat:=by
    intro i x hx
    rw [List.getElem?_map] at hx
    cases hb : s0.data.toList[i]? with
    | none=>rw [hb] at hx;cases hx
    | some b=>rw [hb] at hx;cases hx;exact ⟨b,rfl,rfl⟩
   refine ⟨λi _=>.int .u8 ((s0.data.toList.getD i 0).toNat : Int),⟨hel,λ_ _ _ _=>trivial,λi j x hx hj=>?_,λ_ _ _ _ _ _ _ _ _ h=>h.elim⟩,λw'=>by rw [hlen];rfl,λw' _ n hn=>?_⟩
   ·obtain ⟨b,hb,rfl⟩:=hget i x hx
    have hgf : o.g=false:=by
     have:=hel i _ hx
     simp [PV.isEl] at this
     exact this.1
    simp only [List.getD,hb,Option.getD_some]
    unfold gF
    rw [hgf]
    exact leafy (.int _ _)
   ·by_cases h0 : n=0
    ·subst h0
     simp [Builtin.firstCells]
    ·have hx : ∃ x,(s0.data.toList.map λb=>PV.int .u8 b.toNat)[0]? = some x:=⟨_,List.getElem?_eq_getElem (by omega)⟩
     obtain ⟨x,hx⟩:=hx
     obtain ⟨b,hb,rfl⟩:=hget 0 x hx
     have hs1 : o.s=1:=by
      have:=hel 0 _ hx
      simp [PV.isEl] at this
      exact this.2
     simp only [Builtin.firstCells,Sem.run_pure]
     congr 1
     apply Array.ext'
     rw [hs1,Nat.mul_one]
     apply List.ext_getElem?
     intro k
     rw [hlen] at hn
     have hx : (s0.extract 0 n).data=s0.data.extract 0 n:=by
      rw [ByteArray.data_extract]
     have hsz : s0.data.size=s0.size:=rfl
     rw [hx,Array.toList_map,Array.toList_extract,List.getElem?_map,List.getElem?_map]
     simp only [Nat.div_one]
     by_cases hk : k<n
     ·rw [List.getElem?_range hk]
      have hk' : k<s0.data.toList.length:=by simp;omega
      simp only [List.extract_eq_drop_take,Nat.sub_zero,List.drop_zero,List.getElem?_take,if_pos hk,List.getD,List.getElem?_eq_getElem hk',Option.map_some,Option.getD_some]
     ·rw [List.getElem?_eq_none (by simp;omega),List.getElem?_eq_none (by simp;omega)]
      rfl
 | empty a cap=>
   have hys : ys = []:=by simp only [eK] at hy;cases hy;rfl
   subst hys
   refine ⟨λ_ _=>undef,Els.nil _ _ _,λ_=>rfl,λw' _ n hn=>?_⟩
   have hn0 : n=0:=by simpa using hn
   subst hn0
   cases a with
   | none=>simp [Builtin.firstCells]
   | some a=>
     have:=run_firstCells_some (P:=P) w' o.s 0 a 0 cap [] (by simp) (by simp)
     simpa using this
 | lst xs b off s cap g cells e fz cv hh hs' hcap he hc hv hr=>
   have hys : xs=ys:=by simp only [eK] at hy;cases hy;rfl
   subst hys
   by_cases h0 : xs = []
   ·subst h0
    refine ⟨λ_ _=>undef,Els.nil _ _ _,λ_=>rfl,λw' _ n hn=>?_⟩
    have hn0 : n=0:=by simpa using hn
    subst hn0
    have:=run_firstCells_some (P:=P) w' o.s 0 ⟨b,off,none⟩ 0 cap [] (by simp) (by simp)
    simpa using this
   ·have hsg : s=o.s∧g=o.g:=by
     cases xs with
     | nil=>exact absurd rfl h0
     | cons x r=>exact aIT (he 0 x rfl) (hel 0 x rfl)
    obtain ⟨rfl,rfl⟩:=hsg
    refine ⟨cv,⟨hel,hv,λi j x hx hj=>leafy (hr i j x hx hj),λ_ _ _ _ _ _ _ _ _ h=>h.elim⟩,λ_=>rfl,λw' hw n hn=>?_⟩
    refine run_firstCells_some (P:=P) w' o.s n ⟨b,off,none⟩ _ cap _ (by simp) (λj v hj=>?_)
    have hj':=gS hj
    obtain ⟨hjn,rfl⟩:=hj'
    have hdiv : j / o.s<xs.length:=Nat.lt_of_lt_of_le ((Nat.div_lt_iff_lt_mul hs).2 hjn) hn
    have:=hc (j / o.s) (j % o.s) hdiv (Nat.mod_lt _ hs)
    rw [Nat.add_assoc,Nat.mul_comm,Nat.div_add_mod] at this
    rw [nF]
    exact aA4 (by rw [hw];exact hh) this
end
variable {w : World} {t u ty e : TypeId} {i : TypeInfo} {sLen sCap n : Nat} {x : Value} {news : List Value}
section
variable {P : Program} {X : Cx}
theorem yU (ht : P.underlying t=some (.slice e)) (hu : (∃ f,P.underlying u=some (.slice f))∨P.underlying u=some .string) (hi : P.info? e=some i)
 {b off : Nat} (hlen : (Builtin.lenOf x).run P w = .ok n w) (hf : (Builtin.firstCells i.size n x).run P w = .ok news.toArray w) (hroom : sLen+n≤sCap)
 (hst : (storeCells ⟨b,off+sLen*i.size,none⟩ news).run P w = .ok () (w.setCells b (off+sLen*i.size) news)) :
 (Builtin.append_ #[t,u] ty #[.slice (some ⟨b,off,none⟩) sLen sCap,x]).run P w = .ok (.slice (some ⟨b,off,none⟩) (sLen+n) sCap) (w.setCells b (off+sLen*i.size) news):=by
 rcases hu with ⟨f,hu⟩ | hu<;>simp [Builtin.append_,run_underlying ht,run_underlying hu,sizeOf,typeInfo,hi,hlen,hf,hroom,nF,hst]
theorem aFO (ht : P.underlying t=some (.slice e)) (hu : (∃ f,P.underlying u=some (.slice f))∨P.underlying u=some .string) (hi : P.info? e=some i)
 {a : Option Addr} (hlen : (Builtin.lenOf x).run P w = .ok 0 w) (hn : news = []) (hf : (Builtin.firstCells i.size 0 x).run P w = .ok news.toArray w) :
 (Builtin.append_ #[t,u] ty #[.slice a 0 0,x]).run P w = .ok (.slice a 0 0) w:=by
 subst hn
 have hst : ∀ a : Addr,(storeCells a []).run P w = .ok () w:=λa=>by unfold storeCells;simp
 cases a<;>rcases hu with ⟨f,hu⟩ | hu<;>simp [hst,Builtin.append_,run_underlying ht,run_underlying hu,sizeOf,typeInfo,hi,hlen,hf]
theorem yV {z : Value} (ht : P.underlying t=some (.slice e)) (hu : (∃ f,P.underlying u=some (.slice f))∨P.underlying u=some .string) (hi : P.info? e=some i) (hz : i.zero=some z)
 {base : Option Addr} {olds : List Value} (hlen : (Builtin.lenOf x).run P w = .ok n w) (hf : (Builtin.firstCells i.size n x).run P w.drew = .ok news.toArray w.drew)
 (ho : (Builtin.firstCells i.size sLen (.slice base sLen sCap)).run P w.drew = .ok olds.toArray w.drew)
 (hg : sCap<sLen+n) (h63 : ((sLen+n : Nat) : Int)≤9223372036854775807) (hfit : Builtin.nextslicecap (sLen+n) sCap*i.bytes≤281474976710656) :
 (Builtin.append_ #[t,u] ty #[.slice base sLen sCap,x]).run P w = .ok (.slice (some ⟨w.heap.size,0,none⟩) (sLen+n) (grownCap w (sLen+n) sCap e))
  (w.drew.alloc (.cells (olds.toArray++news.toArray++Builtin.zeroCells z.cells (grownCap w (sLen+n) sCap e - (sLen+n))) e)):=by
 have hn : ¬ (sLen+n≤sCap):=by omega
 have h63' : ¬ (9223372036854775807<((sLen : Int)+(n : Int))):=by omega
 have h48' : ¬ (281474976710656<Builtin.nextslicecap (sLen+n) sCap*i.bytes):=by omega
 rcases hu with ⟨f,hu⟩ | hu<;>(
  simp [Builtin.append_,run_underlying ht,run_underlying hu,sizeOf,typeInfo,zeroValue,hi,hz,hlen,hn,h63',h48',Question.forced,hf,ho,newRow,grownCap]
  try (congr 2;apply Array.ext';simp [List.append_assoc]))
end
variable {n s i j len cap t te l : Nat} {cv : Nat → Nat → Value} {k : PV → OR} {v c y : PV} {w : World} {o : OTy} {d : DV} {r : R} {e : gJ} {g : Bool} {B WL : NP} {q : Option (PV × PV)} {path : jW}
def kR (n s : Nat) (cv : Nat→Nat→Value) : List Value:=(List.range (n*s)).map λk=>cv (k / s) (k % s)
theorem kE (n s : Nat) (cv : Nat→Nat→Value) : (kR n s cv).length=n*s:=by simp [kR]
theorem aA9 (hi : i<n) (hj : j<s) : i*s+j<n*s:=by
 have : (i+1)*s≤n*s:=Nat.mul_le_mul_right _ hi
 rw [Nat.succ_mul] at this
 omega
theorem aB9 (hi : i<n) (hj : j<s) : (kR n s cv)[i*s+j]? = some (cv i j):=by
 have hlt:=aA9 hi hj
 unfold kR
 rw [List.getElem?_map,List.getElem?_range hlt]
 have hs : 0<s:=by omega
 have h1 : (i*s+j) / s=i:=by
  rw [Nat.mul_comm,Nat.mul_add_div hs,Nat.div_eq_of_lt hj,Nat.add_zero]
 have h2 : (i*s+j) % s=j:=by
  rw [Nat.mul_comm,Nat.mul_add_mod,Nat.mod_eq_of_lt hj]
 simp [h1,h2]
theorem aIY {k : Nat} {v : Value} (h : (kR n s cv)[k]? = some v) : ∃ i j,i<n∧j<s∧k=i*s+j∧v=cv i j:=by
 have hk:=(List.getElem?_eq_some_iff.1 h).1
 rw [kE] at hk
 have hs : 0<s:=by
  cases s with
  | zero=>simp at hk
  | succ s=>omega
 have h1 : k / s<n:=(Nat.div_lt_iff_lt_mul hs).2 hk
 have h2 : k % s<s:=Nat.mod_lt _ hs
 have h3 : k=k / s*s+k % s:=by rw [Nat.mul_comm,Nat.div_add_mod]
 refine ⟨k / s,k % s,h1,h2,h3,?_⟩
 rw [h3,aB9 h1 h2] at h
 exact (Option.some.inj h).symm
section
variable {P : Program} {X : Cx}
theorem aNM {w' : World} {b off : Nat} {cells : Array Value} {ety : TypeId} {fz : Nat × Nat} (hw : w'.heap=w.heap) (hh : w.heap[b]? = some (.cells cells ety fz))
 (hc : ∀ i j : Nat,i<len→j<s→cells[off+i*s+j]? = some (cv i j)) (hn : n≤len) :
 (Builtin.firstCells s n (.slice (some ⟨b,off,none⟩) len cap)).run P w' = .ok (kR n s cv).toArray w':=by
 refine run_firstCells_some (P:=P) w' s n ⟨b,off,none⟩ _ cap _ (kE _ _ _) (λk v hk=>?_)
 obtain ⟨i,j,hi,hj,rfl,rfl⟩:=aIY hk
 rw [nF]
 exact aA4 (by rw [hw];exact hh) (by rw [← Nat.add_assoc];exact hc i j (by omega) hj)
theorem aJU {x : Option Addr} : (Builtin.firstCells s 0 (.slice x len cap)).run P w = .ok (kR 0 s cv).toArray w:=by
 have : kR 0 s cv = []:=by simp [kR]
 rw [this]
 cases x with
 | none=>simp [Builtin.firstCells]
 | some a=>simpa using run_firstCells_some (P:=P) w s 0 a len cap [] (by simp) (by simp)
structure aXZ (P : Program) (m m1 : bY) (o : OTy) (ys : R) (vd : Value) (dv : Nat→Nat→Value) (gp : Nat→Nat→Nat→Prop) : Prop where
 w : m1.w=m.w
 els : Els m1.w m1.Z o ys dv gp
 len : ∀ w' : World,(Builtin.lenOf vd).run P w' = .ok ys.length w'
 first : ∀ w' : World,w'.heap=m.w.heap→(Builtin.firstCells o.s ys.length vd).run P w' = .ok (kR ys.length o.s dv).toArray w'
 own : ∀ i j r : Nat,i<ys.length→j<o.s→gp i j r→m1.L r
theorem aKh (ho : o.isLeaf=false) (hs : 0<o.s) {s : St} {k : PV→St→OR} (h : uE o d s k=some r) :
 ∃ y s1,k y s1=some r∧s1.nl=s.nl∧∀ ys,eK y=some ys→ys.all (PV.isEl o.s o.g)=true→∀ (n : Nat) (m : bY) (B L WB WL : NP),tT m s B L n→(∀ l∈dX (cU+1) d,L l∧WL l)→∀ vd,m.rd d vd→
   ∃ m1 dv gp,dF m m1 s s1 B L WB WL n id∧aXZ P m m1 o ys vd dv gp:=by
 unfold uE at h
 split at h
 ·rename_i hp
  obtain ⟨y,hk,H⟩:=aCK h
  refine ⟨y,s,hk,rfl,λys hy hall n m B L WB WL sit hL vd hvd=>?_⟩
  have hfoot : ∀ l∈(eP d).rl,l∈dX (cU+1) d:=by
   intro l hl
   cases d<;>simp [eP,iR.none] at hl
   ·subst hl;exact aCE _ _ _
   ·subst hl;exact aAo _ _ _ _ _
   ·subst hl;exact aLk _ _ _ _ _
  obtain ⟨dv,E,h1,h2⟩:=(H m sit.inv (λl hl=>sit.al l (.inl (hL l (hfoot l hl)).1)) (by rw [hy];simp) vd hvd).els (P:=P) hy hp hall hs
  exact ⟨m,dv,_,dF.refl WB WL sit,⟨rfl,E,h1,λw' hw=>h2 w' hw _ (Nat.le_refl _),λ_ _ _ _ _ h=>h.elim⟩⟩
 ·obtain ⟨y,ls,hk,hls,H⟩:=lB h
  refine ⟨y,_,hk,xQ _ _,λys hy hall n m B L WB WL sit hL vd hvd=>?_⟩
  have hin : ∀ l∈dX cU d,l∈dX (cU+1) d:=λl hl=>wI cU hl
  obtain ⟨m1,F,sk,hro,hF⟩:=H n m L sit.inv (λl h=>sit.al l (.inl h)) (λl hl=>(hL l (hin l hl)).1) vd hvd
  have G:=sk.goes (B:=B) (L:=L) (WL:=WL) WB sit (λl hl=>.inl (hL l (hin l (hls l hl))).1) (λl hl=>.inl (hL l (hin l (hls l hl))).2)
  have hyl : y = .lst ys:=by
   cases hy' : y with
   | lst xs=>rw [hy'] at hy;simp [eK] at hy;rw [hy]
   | str b=>
     exfalso
     rw [hy'] at hro
     cases hro
     cases ho
   | _=>rw [hy'] at hy;simp [eK] at hy
  subst hyl
  rcases hro.els ho with ⟨rfl,_,rfl⟩ | ⟨b,off,cap,cells,ety,cv,fp,rfl,hh,_,_,_,_,_,hc,E,hfp⟩
  ·exact ⟨m1,λ_ _=>undef,λ_ _ _=>False,G,⟨sk.w,Els.nil _ _ _,λ_=>rfl,λw' _=>aJU,λ_ _ _ hi=>by simp at hi⟩⟩
  ·exact ⟨m1,cv,fp,G,⟨sk.w,E,λ_=>rfl,λw' hw=>aNM hw (by rw [← sk.w];exact hh) hc (Nat.le_refl _),λi j r hi hj h=>(hF r (hfp i j r hi hj h).1).1⟩⟩
theorem aLu (hT : X.T=aM P) (h : aRv X o t=true) : o.isLeaf=false∧o.s=((aM P).at t).size∧o.e=((aM P).at t).bytes∧o.g=((aM P).at t).isAgg∧0<o.s∧0<o.e∧
 X.zok t=true∧(zeroCells (aM P) 20 t).length=((aM P).at t).size∧(((aM P).at t).isAgg=true∨((aM P).at t).size=1):=by
 unfold aRv at h
 simp only [Bool.and_eq_true,Bool.or_eq_true,Bool.not_eq_true',beq_iff_eq,hT] at h
 obtain ⟨⟨⟨⟨⟨⟨⟨⟨h1,h2⟩,h3⟩,h4⟩,h5⟩,h6⟩,h7⟩,h8⟩,h9⟩:=h
 exact ⟨h1,dH h2,dH h3,h4,tU h5,tU h6,h7,dH h8,h9.imp id dH⟩
theorem aCa (hz : qC P X.zok) (hk : X.zok t=true) (hl : (zeroCells (aM P) 20 t).length=((aM P).at t).size) (h1 : ((aM P).at t).isAgg=true∨((aM P).at t).size=1) (hs : ((aM P).at t).size≠0) :
 ∃ i,P.info? t=some i∧i.zero=some (gI (aM P) t)∧i.size=((aM P).at t).size∧i.bytes=((aM P).at t).bytes∧(gI (aM P) t).cells.size=((aM P).at t).size:=by
 obtain ⟨i,d,hi,_,hr⟩:=pS.known (P:=P) (t:=t) (.inl hs)
 have h:=hz t hk
 rw [hi] at h
 refine ⟨i,hi,h,by rw [hr],by rw [hr],?_⟩
 have:=sO (T:=aM P) hl h1
 rw [← Array.length_toList,this,List.length_map,hl]
theorem aOO {e : Nat} {d : PV} (h : aN s e g c d=some y) : ∃ xs ys,eK c=some xs∧eK d=some ys∧(xs.length+ys.length)*e≤2 ^ 47∧ys.all (PV.isEl s g)=true∧y = .lst (xs++ys):=by
 unfold aN at h
 split at h
 ·rename_i xs ys h1 h2
  split at h
  ·rename_i hc
   cases h
   exact ⟨xs,ys,h1,h2,hc.1,hc.2,rfl⟩
  ·cases h
 ·cases h
theorem pV (z : Array Value) (n : Nat) : (Builtin.zeroCells z n).size=n*z.size:=by simp [Builtin.zeroCells]
theorem aLv (hz : qC P X.zok) (hlf : o.isLeaf=false) (hos : o.s=((aM P).at te).size) (hoe : o.e=((aM P).at te).bytes) (hspos : 0<o.s) (hepos : 0<o.e) (hzk : X.zok te=true)
 (hzl : (zeroCells (aM P) 20 te).length=((aM P).at te).size) (hz1 : ((aM P).at te).isAgg=true∨((aM P).at te).size=1) {xs ys : R} {vb vd : Value} {dv : Nat→Nat→Value} {gp : Nat→Nat→Nat→Prop} {F : NP}
 {L WB : NP} {m2 : bY} {s2 : St} {w0 : World} (hw2 : m2.w=w0) (sit2 : tT m2 s2 B L n) (hn' : s2.nl<n+16) (hro : eO m2.w m2.Z o (.lst xs) vb F) (hF : ∀ r,F r→m2.L r)
    (hD : Els m2.w m2.Z o ys dv gp) (hgF : ∀ i j r : Nat,i<ys.length→j<o.s→gp i j r→m2.L r∧¬ F r) (hlenS : ∀ w' : World,(Builtin.lenOf vd).run P w' = .ok ys.length w')
    (hfirstS : ∀ w' : World,w'.heap=w0.heap→(Builtin.firstCells o.s ys.length vd).run P w' = .ok (kR ys.length o.s dv).toArray w') (hbound : (xs.length+ys.length)*o.e≤2 ^ 47)
    {t u ty : TypeId} (ht : P.underlying t=some (.slice te)) (hu : (∃ f,P.underlying u=some (.slice f))∨P.underlying u=some .string) :
    ∃ v m',(Builtin.append_ #[t,u] ty #[vb,vd]).run P w0 = .ok v m'.w∧dF m2 m' s2 (s2.addList ⟨o,.lst (xs++ys)⟩) B L WB WL n id∧m'.rd (.ref s2.nl []) v:=by
  have hszne : ((aM P).at te).size≠0:=by rw [← hos];omega
  obtain ⟨i,hi,hiz,his,hib,hizs⟩:=aCa hz hzk hzl hz1 hszne
  rw [← hos] at his hizs
  rw [← hoe] at hib
  have hlenw:=hlenS w0
  have hle1 : (xs.length+ys.length)≤2 ^ 47:=Nat.le_trans (Nat.le_mul_of_pos_right _ hepos) hbound
  have grow : ∀ (cv : Nat→Nat→Value) (fp : Nat→Nat→Nat→Prop) (base : Option Addr) (cap : Nat),vb = .slice base xs.length cap→cap<xs.length+ys.length→Els m2.w m2.Z o xs cv fp→
   (∀ i j r : Nat,i<xs.length→j<o.s→fp i j r→F r)→(∀ w' : World,w'.heap=w0.heap→(Builtin.firstCells o.s xs.length vb).run P w' = .ok (kR xs.length o.s cv).toArray w')→
   ∃ v m',(Builtin.append_ #[t,u] ty #[vb,vd]).run P w0 = .ok v m'.w∧dF m2 m' s2 (s2.addList ⟨o,.lst (xs++ys)⟩) B L WB WL n id∧m'.rd (.ref s2.nl []) v:=by
   intro cv fp base cap hvb' hcap E hfp hfirst
   subst hvb'
   have hrun:=yV (P:=P) (w:=w0) (ty:=ty) (z:=gI (aM P) te) ht hu hi hiz (base:=base) (sLen:=xs.length) (sCap:=cap) (x:=vd) (n:=ys.length) (olds:=kR xs.length o.s cv) (news:=kR ys.length o.s dv) hlenw
    (by rw [his];exact hfirstS _ rfl) (by rw [his];exact hfirst _ rfl) hcap (by omega) (growslice_fits hcap (by rw [hib];exact hbound))
   generalize hcp : grownCap w0 (xs.length+ys.length) cap te=cp at hrun
   have hge : xs.length+ys.length≤cp:=by rw [← hcp];exact grownCap_ge _ _ _ _
   generalize hcl : ((kR xs.length o.s cv).toArray++(kR ys.length o.s dv).toArray++Builtin.zeroCells (gI (aM P) te).cells (cp - (xs.length+ys.length)) : Array Value)=cells at hrun
   have hcs : cells.size=cp*o.s:=by
    rw [← hcl]
    simp only [Array.size_append,List.size_toArray,kE,pV,hizs,← Nat.add_mul]
    congr 1
    omega
   have hold : ∀ r,r<m2.w.heap.size→(w0.drew.alloc (.cells cells te)).heap[r]? = m2.w.heap[r]?:=λr hr=>by
    rw [hw2] at hr ⊢
    exact heap_alloc_old w0.drew _ r hr
   have hnew : (w0.drew.alloc (.cells cells te)).heap[w0.heap.size]? = some (.cells cells te (0,0)):=heap_alloc_new w0.drew _
   have hEE:=(E.append hD (λi j i' j' r h1 h2 h3 h4 h5 h6=>(hgF i' j' r h3 h4 h6).2 (hfp i j r h1 h2 h5))).frame (w':=w0.drew.alloc (.cells cells te)) (Z':=m2.Z) (λ_ h=>h) (λr hr=>hold r (sit2.inv.zlt r hr))
    (λi j r hi' hj hr=>by
     have hLr : m2.L r:=by
      by_cases h : i<xs.length
      ·simp only [h,if_true] at hr;exact hF r (hfp i j r h hj hr)
      ·simp only [h,if_false] at hr
       exact (hgF _ j r (by rw [List.length_append] at hi';omega) hj hr).1
     exact ⟨hold r (sit2.inv.Lz r hLr).2,(sit2.inv.Lz r hLr).1⟩)
   have hro':=hEE.repO hlf hspos (b:=w0.heap.size) (off:=0) (cap:=cp) hnew (by omega) (by rw [List.length_append];exact hge) (λhzr=>by have:=sit2.inv.zlt _ hzr;rw [hw2] at this;omega)
    (λi j hi' hj=>by
     rw [List.length_append] at hi'
     rw [← hcl,Nat.zero_add]
     by_cases h : i<xs.length
     ·simp only [h,if_true]
      rw [Array.append_assoc,Array.getElem?_append_left (by simp [kE];exact aA9 h hj)]
      simpa using aB9 h hj
     ·simp only [h,if_false]
      obtain ⟨q,rfl⟩ : ∃ q,i=xs.length+q:=⟨i - xs.length,by omega⟩
      rw [Nat.add_mul]
      rw [Array.append_assoc,Array.getElem?_append_right (by simp [kE];omega),Array.getElem?_append_left (by simp [kE];have:=aA9 (show q<ys.length by omega) hj;omega)]
      simp only [List.size_toArray,kE]
      rw [show xs.length*o.s+q*o.s+j - xs.length*o.s=q*o.s+j by omega,show xs.length+q - xs.length=q by omega]
      simpa using aB9 (show q<ys.length by omega) hj)
    (λi j hi' hj hr=>by
     have hLr : m2.L w0.heap.size:=by
      by_cases h : i<xs.length
      ·simp only [h,if_true] at hr;exact hF _ (hfp i j _ h hj hr)
      ·simp only [h,if_false] at hr
       exact (hgF _ j _ (by rw [List.length_append] at hi';omega) hj hr).1
     have:=(sit2.inv.Lz _ hLr).2
     rw [hw2] at this
     omega)
   have G3:=dF.addRow (B:=B) (L:=L) WB WL sit2 hn' (w':=w0.drew.alloc (.cells cells te)) (own:=⟨o,.lst (xs++ys)⟩) (hdr:=.slice (some ⟨w0.heap.size,0,none⟩) (xs++ys).length cp) hlf hro'
    (λr hr=>by
     rcases hr with rfl | ⟨i,j,hi',hj,hr⟩
     ·right;rw [hw2];exact Nat.le_refl _
     ·left
      by_cases h : i<xs.length
      ·simp only [h,if_true] at hr;exact hF r (hfp i j r h hj hr)
      ·simp only [h,if_false] at hr
       exact (hgF _ j r (by rw [List.length_append] at hi';omega) hj hr).1)
    (λr hr _=>hold r hr) (by rw [hw2];simp) (by rw [hw2];rfl) (by rw [hw2];rfl) (by rw [hw2];rfl)
   refine ⟨_,_,?_,G3,bY.addRow_rd trivial⟩
   rw [hrun,List.length_append]
   rfl
  rcases hro.els hlf with ⟨rfl,adr,rfl⟩ | ⟨b,off,cap,cells,ety,cv,fp,rfl,hh,_,hroom,hlen,hnz,hbF,hc,E,hfp⟩
  ·by_cases hy0 : ys.length=0
   ·have hys : ys = []:=List.eq_nil_of_length_eq_zero hy0
    subst hys
    have hrun:=aFO (P:=P) (w:=w0) (ty:=ty) (a:=adr) ht hu hi (news:=kR 0 o.s dv) hlenw (by simp [kR]) (by rw [his];exact hfirstS _ rfl)
    have hro0 : eO m2.w m2.Z o (.lst ([]++[])) (.slice adr 0 0) (λ_=>False):=by
     cases o with
     | leaf=>cases hlf
     | own s e g cts=>exact .nil s e g cts _ adr (λ_ h=>h)
    have G3:=dF.addRow (B:=B) (L:=L) WB WL sit2 hn' (w':=m2.w) (own:=⟨o,.lst ([]++[])⟩) (hdr:=.slice adr 0 0) hlf hro0 (λ_ h=>h.elim) (λ_ _ _=>rfl) (Nat.le_refl _) rfl rfl rfl
    refine ⟨_,_,?_,G3,bY.addRow_rd trivial⟩
    rw [hrun]
    show _=Result.ok _ m2.w
    rw [hw2]
   ·exact grow (λ_ _=>undef) (λ_ _ _=>False) adr 0 rfl (by simp;omega) (Els.nil _ _ _) (λ_ _ _ _ _ h=>h.elim) (λw' _=>aJU)
  ·by_cases hroom' : xs.length+ys.length≤cap
   ·have hcap2 : (xs.length+ys.length)*o.s≤cap*o.s:=Nat.mul_le_mul_right _ hroom'
    have hadd : (xs.length+ys.length)*o.s=xs.length*o.s+ys.length*o.s:=Nat.add_mul _ _ _
    have hhw : w0.heap[b]? = some (.cells cells ety (0,0)):=by rw [← hw2];exact hh
    have hst:=run_storeCells_cells (P:=P) b (off+xs.length*i.size) (kR ys.length o.s dv) 0 w0 (λj hj=>by
     rw [kE] at hj
     have hlt : off+xs.length*o.s+j<cells.size:=by omega
     have : w0.cell? ⟨b,off+xs.length*i.size+0+j,none⟩=some cells[off+xs.length*o.s+j]:=aA4 hhw (by rw [his];exact Array.getElem?_eq_getElem hlt)
     rw [this];rfl) (λj _=>by simp [World.frozen?,hhw]) (λv hv=>by
     obtain ⟨k,hk⟩:=List.getElem?_of_mem hv
     obtain ⟨i',j',h1,h2,_,rfl⟩:=aIY hk
     exact aCF (hD.one i' j' h1 h2))
    simp only [Nat.add_zero] at hst
    have hrun:=yU (P:=P) (w:=w0) (ty:=ty) (b:=b) (off:=off) (sCap:=cap) ht hu hi hlenw (by rw [his];exact hfirstS _ rfl) hroom' hst
    rw [his] at hrun
    obtain ⟨cells',c1,c2,c3,c4⟩:=gO (kR ys.length o.s dv) (off+xs.length*o.s) w0 cells hhw (by rw [kE];omega)
    obtain ⟨e1,e2,e3,e4⟩:=iQ (kR ys.length o.s dv) b (off+xs.length*o.s) w0
    have hne : ∀ r,r≠b→(w0.setCells b (off+xs.length*o.s) (kR ys.length o.s dv)).heap[r]? = m2.w.heap[r]?:=λr hr=>by rw [hw2];exact eG hr _ _ w0
    have hbL:=hF b hbF
    have fpne : ∀ i j r : Nat,i<(xs++ys).length→j<o.s→(if i<xs.length then fp i j r else gp (i - xs.length) j r)→m2.L r∧r≠b:=by
     intro i j r hi' hj hr
     by_cases h : i<xs.length
     ·simp only [h,if_true] at hr
      exact ⟨hF r (hfp i j r h hj hr).1,(hfp i j r h hj hr).2⟩
     ·simp only [h,if_false] at hr
      have:=hgF _ j r (by rw [List.length_append] at hi';omega) hj hr
      exact ⟨this.1,λe=>this.2 (e▸hbF)⟩
    have hEE:=(E.append hD (λi j i' j' r h1 h2 h3 h4 h5 h6=>(hgF i' j' r h3 h4 h6).2 (hfp i j r h1 h2 h5).1)).frame (w':=w0.setCells b (off+xs.length*o.s) (kR ys.length o.s dv)) (Z':=m2.Z) (λ_ h=>h)
     (λr hr=>hne r (λe=>hnz (e▸hr)))
     (λi j r hi' hj hr=>⟨hne r (fpne i j r hi' hj hr).2,(sit2.inv.Lz r (fpne i j r hi' hj hr).1).1⟩)
    have hro':=hEE.repO hlf hspos (b:=b) (off:=off) (cap:=cap) c1 (by rw [c2];exact hroom) (by rw [List.length_append];exact hroom') hnz
     (λi j hi' hj=>by
      rw [List.length_append] at hi'
      by_cases h : i<xs.length
      ·simp only [h,if_true]
       rw [c4 _ (.inl (by have:=aA9 h hj;omega))]
       exact hc i j h hj
      ·simp only [h,if_false]
       obtain ⟨q,rfl⟩ : ∃ q,i=xs.length+q:=⟨i - xs.length,by omega⟩
       rw [Nat.add_mul,show off+(xs.length*o.s+q*o.s)+j=off+xs.length*o.s+(q*o.s+j) by omega,
        c3 _ (by rw [kE];exact aA9 (by omega) hj),show xs.length+q - xs.length=q by omega]
       exact aB9 (by omega) hj)
     (λi j hi' hj hr=>(fpne i j b hi' hj hr).2 rfl)
    have G3:=dF.addRow (B:=B) (L:=L) WB WL sit2 hn' (w':=w0.setCells b (off+xs.length*o.s) (kR ys.length o.s dv)) (own:=⟨o,.lst (xs++ys)⟩) (hdr:=.slice (some ⟨b,off,none⟩) (xs++ys).length cap) hlf hro'
     (λr hr=>by
      rcases hr with rfl | ⟨i,j,hi',hj,hr⟩
      ·exact .inl hbL
      ·exact .inl (fpne i j r hi' hj hr).1)
     (λr hr hnL=>hne r (λe=>hnL (e▸hbL))) (by rw [e1,hw2];exact Nat.le_refl _) (by rw [e2,hw2]) (by rw [e3,hw2]) (by rw [e4,hw2])
    refine ⟨_,_,?_,G3,bY.addRow_rd trivial⟩
    rw [hrun,List.length_append]
    rfl
   ·exact grow cv fp (some ⟨b,off,none⟩) cap rfl (by omega) E (λi j r h1 h2 h3=>(hfp i j r h1 h2 h3).1) (λw' hw=>aNM hw (by rw [← hw2];exact hh) hc (Nat.le_refl _))
theorem dF.setRowH {m : bY} {s : St} {L : NP} (WB : NP) (h : tT m s B L n) (hL : L l) (hW : WL l) {w0 : tN} {root : PV} {F' : NP} (hl : s.list l=some w0)
 (hsh : w0.o.shallow=true) (hro : eO m.w m.Z w0.o root (m.ρ.hdr l) F') (hF' : ∀ r,F' r→m.ρ.fp l r∨m.L r)
 (hne : ∀ b o' len cap,0<len→m.ρ.hdr l = .slice (some ⟨b,o',none⟩) len cap→F' b) :
 dF m (m.setRow l m.w ⟨w0.o,root⟩ F') s (s.setList l ⟨w0.o,root⟩) B L WB WL n id where
 step:=by
  have hml:=(h.al l (.inl hL)).trans hl
  refine jH.rowSet h.inv hml hro hF' (λ_ _ _=>rfl) rfl rfl rfl rfl rfl rfl (λb=>pK _) (λd v hd=>?_)
  have hd : fG m.w m.Z m.ρ m.s.live d v:=hd
  show fG m.w m.Z (m.setRow l m.w ⟨w0.o,root⟩ F').ρ (m.setRow l m.w ⟨w0.o,root⟩ F').s.live d v
  refine fG.carryH (ρ:=m.ρ) (ρ':=(m.setRow l m.w ⟨w0.o,root⟩ F').ρ) (live:=m.s.live) (live':=(m.setRow l m.w ⟨w0.o,root⟩ F').s.live) (λ_ h=>h) (λ_ _=>rfl) (λb hb=>⟨hb,rfl⟩) (λl h=>h) (λl' hu hv=>?_) hd
  by_cases e : l'=l
  ·subst e
   refine ⟨bY.live_of hml,rfl,λpath v hh=>?_⟩
   show fY m.w ((m.setRow l' m.w ⟨w0.o,root⟩ F').ρ.fp l') (m.ρ.ty l') (m.ρ.hdr l') path v
   have hfp : (m.setRow l' m.w ⟨w0.o,root⟩ F').ρ.fp l'=F':=by simp [bY.setRow]
   rw [hfp]
   have hty : w0.o=m.ρ.ty l':=(h.inv.row l' w0 hml).1
   rw [← hty] at hh ⊢
   cases path with
   | nil=>exact hh
   | cons p q=>
     obtain ⟨i,j⟩:=p
     obtain ⟨b,o',len,cap,nn,kk,cells,ety,fz,u,h1,h2,h3,h4,h5,h6,h7,h8⟩:=hh
     refine ⟨b,o',len,cap,nn,kk,cells,ety,fz,u,h1,h2,h3,h4,h5,hne b o' len cap (by omega) h1,h7,?_⟩
     cases q with
     | nil=>exact h8
     | cons p2 q2=>
       exfalso
       obtain ⟨i2,j2⟩:=p2
       obtain ⟨_,_,_,_,_,_,_,_,_,_,_,_,_,_,_,_,g7,_⟩:=h8
       rw [OTy.shallow_ct hsh] at g7
       cases g7
  ·have hv' : m.s.live l':=by unfold Sx.live bY.setRow at hv;unfold Sx.live;simpa [e] using hv
   refine ⟨hv',rfl,λpath v hh=>?_⟩
   show fY m.w ((m.setRow l m.w ⟨w0.o,root⟩ F').ρ.fp l') (m.ρ.ty l') (m.ρ.hdr l') path v
   have hfp : (m.setRow l m.w ⟨w0.o,root⟩ F').ρ.fp l'=m.ρ.fp l':=by simp [bY.setRow,e]
   rw [hfp]
   exact hh
 after:=by
  refine ⟨h.ab,λx hx=>?_,λ_ _ _=>rfl,λx hx _=>?_,λ_ _ _=>rfl,λx hx _=>?_⟩
  ·show (if x=l then some _ else m.s.list x)=_
   rw [jT,h.al x hx]
  ·show (if x=l then some _ else m.s.list x)=_
   rw [if_neg (by rintro rfl;exact hx hL)]
  ·rw [jT,if_neg (by rintro rfl;exact hx hW)]
 nb:=Nat.le_refl _
 nl:=Nat.le_refl _
 ub:=λ_ _ h=>h
 ul:=λ_ _ h=>h
theorem aJV (h : aIJ o c q k=some r) :
 ∃ c1,k c1=some r∧((q=none∧c1=c)∨∃ lo hi,q=some (lo,hi)∧bA o.s o.g c lo hi=some c1):=by
 unfold aIJ at h
 split at h
 ·exact ⟨_,h,.inl ⟨rfl,rfl⟩⟩
 ·obtain ⟨c1,h1,h2⟩:=bH h
  exact ⟨c1,h2,.inr ⟨_,_,rfl,h1⟩⟩
def aXo (l : Nat) (path : jW) : Option (PV × PV)→DV
 | none=>.ref l path
 | some (lo,hi)=>.sref l path lo hi
def aHB (k : PV→OR) (c : PV) : OR:=match c with
 | .lst xs=>k (.lst xs)
 | _=>none
theorem zF (h : aHB k c=some r) : ∃ xs,c = .lst xs∧k c=some r:=by
 unfold aHB at h
 split at h
 ·exact ⟨_,rfl,h⟩
 ·cases h
theorem aOP {i : PV} : bd (aC n c i j v) k=bd (aC n c i j v) (aHB k):=by
 cases h : aC n c i j v with
 | none=>rfl
 | some y=>
   unfold aC at h
   repeat (first | (cases h;rfl) | split at h | (simp only at h))
   all_goals cases h
theorem aRG {i : PV} : bd (aX n g c i v) k=bd (aX n g c i v) (aHB k):=by
 cases h : aX n g c i v with
 | none=>rfl
 | some y=>
   unfold aX at h
   split at h
   ·split at h
    ·cases h;rfl
    ·cases h
   ·cases h
theorem aFp {p : PV × Nat} : aDH o c (p::path) y k=aDH o c (p::path) y (aHB k):=by
 obtain ⟨i,j⟩:=p
 unfold aDH
 simp only [← aOP,← aRG]
theorem aLw (hT : X.T=aM P) (hz : qC P X.zok) {s : St} {k : DV→gJ→St→OR} (hpath : path≠[]) (h : xE.nest X d te e s k l path q=some r) :
 ∃ d' s',k d' e s'=some r∧∀ (n : Nat) (m : bY) (B L WB WL : NP),tT m s B L n→s'.nl≤n+16→L l∧WL l→(∀ l∈dX (cU+1) d,L l∧WL l)→
   ∀ (t u ty : TypeId),P.underlying t=some (.slice te)→((∃ f,P.underlying u=some (.slice f))∨P.underlying u=some .string)→∀ vb vd,m.rd (aXo l path q) vb→m.rd d vd→
     ∃ v m',(Builtin.append_ #[t,u] ty #[vb,vd]).run P m.w = .ok v m'.w∧dF m m' s s' B L WB WL n id∧m'.rd d' v:=by
 unfold xE.nest at h
 split at h
 rotate_left
 ·cases h
 rename_i w hw
 obtain ⟨c1,hg,h⟩:=uH h
 split at h
 rotate_left
 ·cases h
 rename_i hfp
 simp only [Bool.and_eq_true] at hfp
 obtain ⟨⟨hfit,hplain⟩,hsh⟩:=hfp
 obtain ⟨hlf,hos,hoe,hog,hspos,hepos,hzk,hzl,hz1⟩:=aLu hT hfit
 obtain ⟨y,h,HSrc⟩:=aCK h
 obtain ⟨c3,h,hq⟩:=aJV h
 obtain ⟨p0,path0,hpe⟩ : ∃ p0 q0,path=p0::q0:=by
  cases path with
  | nil=>exact absurd rfl hpath
  | cons a b=>exact ⟨a,b,rfl⟩
 rw [hpe,aFp,← hpe] at h
 obtain ⟨c',c2,h,hp2,HS⟩:=qT h
 obtain ⟨zs,hzs,h⟩:=zF h
 rw [hg] at hp2
 cases hp2
 obtain ⟨c4,hcat,hk⟩:=bH h
 obtain ⟨xs,ys,hx,hy,hbound,hall,rfl⟩:=aOO hcat
 refine ⟨_,_,hk,λn m B L WB WL sit hn hLl hLd t u ty ht hu vb vd hvb hvd=>?_⟩
 have hml : m.s.list l=some w:=(sit.al l (.inl hLl.1)).trans hw
 obtain ⟨hty,hlf0,hro⟩:=sit.inv.row l w hml
 obtain ⟨v1,F1,hh,hr1,hF1,HW⟩:=HS m.w m.Z _ _ hro hlf
 obtain ⟨xs0,hc1⟩ : ∃ xs0,c1 = .lst xs0:=by
  rcases hq with ⟨rfl,rfl⟩ | ⟨lo,hi,rfl,hcut⟩
  ·cases hc2 : c3 with
   | lst zs=>exact ⟨zs,rfl⟩
   | str b=>
     exfalso
     rw [hc2] at hr1
     cases ho : w.o.along path with
     | leaf=>rw [ho] at hlf;cases hlf
     | own=>rw [ho] at hr1;cases hr1
   | _=>rw [hc2] at hx;simp [eK] at hx
  ·obtain ⟨xs1,_,_,_,_,h1,_⟩:=rM hcut
   exact ⟨xs1,h1⟩
 subst hc1
 have hcv : eN v1:=by
  rcases hr1.els hlf with ⟨_,_,h1⟩ | ⟨b,off,cap,cells,ety,cv,fp,h1,_⟩
  ·rw [h1];exact trivial
  ·rw [h1];exact trivial
 have hhole : eO m.w m.Z (w.o.along path) .hole v1 (λ_=>False):=by
  cases ho : w.o.along path with
  | leaf=>rw [ho] at hlf;cases hlf
  | own s e g cts=>exact .hole s e g cts v1 _ hcv (λ_ h=>h)
 obtain ⟨F',hro',hF'⟩:=HW m.w (λ_=>False) hhole (λ_ _=>rfl) (λ_ h=>h.elim)
 have G1:=dF.setRowH (B:=B) (L:=L) (WL:=WL) WB sit hLl.1 hLl.2 hw hsh hro' (λr hr=>by
  rcases hF' r hr with h | h
  ·exact .inl h.1
  ·exact h.elim) (λb o' len cap hlen hh0=>by
  rw [hh0,hzs] at hro'
  generalize w.o=ow at hro' hlf0
  cases hro' with
  | leaf=>cases hlf0
  | nil=>omega
  | own s0 e0 g0 cts0 xs0 b0 o0 cap0 cells0 ety0 cv0 fp0 F0 _ _ _ _ _ _ _ _ _ hfoot _ _=>exact (hfoot b).2 (.inl rfl))
 have hw2 : (m.setRow l m.w ⟨w.o,c'⟩ F').w=m.w:=rfl
 have hZ2 : (m.setRow l m.w ⟨w.o,c'⟩ F').Z=m.Z:=rfl
 have hL2 : ∀ r,m.ρ.fp l r→¬ F' r→(m.setRow l m.w ⟨w.o,c'⟩ F').L r:=λr h1 h2=>⟨.inr h1,h2⟩
 have sit2:=G1.sit sit
 have hvh : fY m.w (m.ρ.fp l) w.o (m.ρ.hdr l) path v1:=hh
 have hfoot : ∀ l'∈(eP d).rl,l'∈dX (cU+1) d:=by
  intro l' hl
  cases d<;>simp [eP,iR.none] at hl
  ·subst hl;exact aCE _ _ _
  ·subst hl;exact aAo _ _ _ _ _
  ·subst hl;exact aLk _ _ _ _ _
 obtain ⟨dv,E,hlenS,hfirstS⟩:=(HSrc m sit.inv (λl' hl=>sit.al l' (.inl (hLd l' (hfoot l' hl)).1)) (by rw [hy];simp) vd hvd).els (P:=P) hy hplain hall hspos
 have fin : ∀ F,(∀ r,F r→F1 r)→eO m.w m.Z (w.o.along path) (.lst xs) vb F→∃ v m',(Builtin.append_ #[t,u] ty #[vb,vd]).run P m.w = .ok v m'.w∧
  dF (m.setRow l m.w ⟨w.o,c'⟩ F') m' (s.setList l ⟨w.o,c'⟩) ((s.setList l ⟨w.o,c'⟩).addList ⟨w.o.along path,.lst (xs++ys)⟩) B L WB WL n id∧m'.rd (.ref (s.setList l ⟨w.o,c'⟩).nl []) v:=by
  intro F hFF hrF
  refine aLv (WB:=WB) (WL:=WL) (ty:=ty) (gp:=λ_ _ _=>False) hz hlf hos hoe hspos hepos hzk hzl hz1 hw2 sit2 ?_ (by rw [hw2,hZ2];exact hrF) (λr hr=>?_) (by rw [hw2,hZ2];exact E) (λ_ _ _ _ _ h=>h.elim) hlenS (λw' hw'=>hfirstS w' hw' _ (Nat.le_refl _)) hbound ht hu
  ·have : (s.setList l ⟨w.o,c'⟩).nl+1≤n+16:=hn
   omega
  ·refine hL2 r (hF1 r (hFF r hr)) (λhf=>?_)
   rcases hF' r hf with h | h
   ·exact h.2 (hFF r hr)
   ·exact h
 rcases hq with ⟨rfl,rfl⟩ | ⟨lo,hi,rfl,hcut⟩
 ·have hvb : m.rd (.ref l path) vb:=hvb
  have hx : xs0=xs:=by simpa [eK] using hx
  subst hx
  cases hvb with
  | ref _ _ _ _ _ hd=>
    have hd:=hd (bY.live_of hml)
    rw [← hty] at hd
    cases hh.unique hd
    obtain ⟨v,m',hrun,G2,hd'⟩:=fin F1 (λ_ h=>h) hr1
    exact ⟨v,m',hrun,G1.trans G2,hd'⟩
 ·have hvb : m.rd (.sref l path lo hi) vb:=hvb
  obtain ⟨xs2,m2',n2,k3,k4,hc,h5,h6,h7,h8,rfl,hhd⟩:=rM hcut
  cases hc
  have hx : (xs0.take n2).drop m2'=xs:=by simpa [eK] using hx
  cases hvb with
  | sref _ _ _ _ _ _ _ hd=>
    obtain ⟨a,len,cap,k1,k2,m1,n1,h9,h10,h11,h12,h13,rfl⟩:=hd (bY.live_of hml)
    rw [h5] at h10;cases h10
    rw [h6] at h11;cases h11
    rw [← hty] at h9
    cases hh.unique h9
    obtain ⟨a',len',cap',F2,h14,h15,h16,h17⟩:=hr1.cut hlf hhd h7 h8
    cases h14
    rw [hx] at h16
    rw [← hty] at fin
    obtain ⟨v,m',hrun,G2,hd'⟩:=fin F2 h17 h16
    rw [← hty]
    exact ⟨v,m',hrun,G1.trans G2,hd'⟩
theorem aMW (hT : X.T=aM P) (hz : qC P X.zok) {base : DV} {s : St} {k : DV→gJ→St→OR} (h : xE X base d te e s k=some r) :
 ∃ d' s',k d' e s'=some r∧∀ (n : Nat) (m : bY) (B L WB WL : NP),tT m s B L n→s'.nl≤n+16→(∀ l∈dX (cU+1) base++dX (cU+1) d,L l∧WL l)→
   ∀ (t u ty : TypeId),P.underlying t=some (.slice te)→((∃ f,P.underlying u=some (.slice f))∨P.underlying u=some .string)→∀ vb vd,m.rd base vb→m.rd d vd→
     ∃ v m',(Builtin.append_ #[t,u] ty #[vb,vd]).run P m.w = .ok v m'.w∧dF m m' s s' B L WB WL n id∧m'.rd d' v:=by
 unfold xE at h
 split at h
 ·rename_i l p path
  obtain ⟨d',s',hk,H⟩:=aLw hT hz (by simp) h
  exact ⟨d',s',hk,λn m B L WB WL sit hn hL t u ty ht hu vb vd hvb hvd=>H n m B L WB WL sit hn (hL l (List.mem_append_left _ (aCE _ _ _))) (λl' hl'=>hL l' (List.mem_append_right _ hl')) t u ty ht hu vb vd hvb hvd⟩
 ·rename_i l p path lo hi
  obtain ⟨d',s',hk,H⟩:=aLw hT hz (by simp) h
  exact ⟨d',s',hk,λn m B L WB WL sit hn hL t u ty ht hu vb vd hvb hvd=>H n m B L WB WL sit hn (hL l (List.mem_append_left _ (aAo _ _ _ _ _))) (λl' hl'=>hL l' (List.mem_append_right _ hl')) t u ty ht hu vb vd hvb hvd⟩
 split at h
 rotate_left
 ·cases h
 rename_i o hbt
 split at h
 rotate_left
 ·cases h
 rename_i hfit
 obtain ⟨hlf,hos,hoe,hog,hspos,hepos,hzk,hzl,hz1⟩:=aLu hT hfit
 obtain ⟨y,s1,hk1,hnl1,HR⟩:=aKh (P:=P) hlf hspos h
 obtain ⟨c,ls,hk2,hls,HB⟩:=lB hk1
 obtain ⟨c',hc',hk⟩:=bH hk2
 obtain ⟨xs,ys,hx,hy,hbound,hall,rfl⟩:=aOO hc'
 refine ⟨_,_,hk,λn m B L WB WL sit hn hL t u ty ht hu vb vd hvb hvd=>?_⟩
 obtain ⟨m1,dv,gp,G1,RD⟩:=HR ys hy hall n m B L WB WL sit (λl hl=>hL l (List.mem_append_right _ hl)) vd hvd
 have sit1:=G1.sit sit
 have hin : ∀ l∈dX cU base,l∈dX (cU+1) base:=λl hl=>wI cU hl
 obtain ⟨m2,F,sk,hro,hF⟩:=HB n m1 L sit1.inv (λl h=>sit1.al l (.inl h)) (λl hl=>(hL l (List.mem_append_left _ (hin l hl))).1) vb (G1.step.rd _ _ hvb)
 have G2:=sk.goes (B:=B) (L:=L) (WL:=WL) WB sit1 (λl hl=>.inl (hL l (List.mem_append_left _ (hin l (hls l hl)))).1) (λl hl=>.inl (hL l (List.mem_append_left _ (hin l (hls l hl)))).2)
 have sit2:=G2.sit sit1
 have hw2 : m2.w=m.w:=sk.w.trans RD.w
 have hcl : c = .lst xs:=by
  cases hc2 : c with
  | lst zs=>rw [hc2] at hx;simp [eK] at hx;rw [hx]
  | str b=>
    exfalso
    rw [hc2] at hro
    cases hro
    cases hlf
  | _=>rw [hc2] at hx;simp [eK] at hx
 subst hcl
 have hn' : (s1.killL ls).nl<n+16:=by
  have : (s1.killL ls).nl+1≤n+16:=hn
  omega
 have hD : Els m2.w m2.Z o ys dv gp:=RD.els.frame (λr h=>sk.step.zz r h) (λr hr=>by rw [sk.w]) (λi j r hi hj hr=>⟨by rw [sk.w],(sit2.inv.Lz r (sk.L r (RD.own i j r hi hj hr))).1⟩)
 have hgF : ∀ i j r : Nat,i<ys.length→j<o.s→gp i j r→m2.L r∧¬ F r:=λi j r hi hj hr=>⟨sk.L r (RD.own i j r hi hj hr),λhf=>(hF r hf).2 (RD.own i j r hi hj hr)⟩
 obtain ⟨v,m',hrun,G3,hd⟩:=aLv (WB:=WB) (WL:=WL) (ty:=ty) hz hlf hos hoe hspos hepos hzk hzl hz1 hw2 sit2 hn' hro (λr hr=>(hF r hr).1) hD hgF RD.len RD.first hbound ht hu
 exact ⟨v,m',hrun,(G1.trans G2).trans G3,hd⟩
end
variable {w : World} {t u ty e : TypeId} {i : TypeInfo} {dLen dCap ny l te : Nat} {x : Value} {c lo hi d : PV} {s : St} {xs ys : R} {k : DV → St → OR} {src : DV} {r : R}
section
variable {P : Program} {X : Cx}
theorem Els.plain {w : World} {Z : NP} {o : OTy} {xs : R} {cv : Nat→Nat→Value} {fp : Nat→Nat→Nat→Prop} (E : Els w Z o xs cv fp) (hp : o.plain=true) : Els w Z o xs cv (λ_ _ _=>False) where
 el:=E.el
 one:=E.one
 rep:=λi j x hx hj=>by
  have:=E.rep i j x hx hj
  rw [OTy.plain_ct hp] at this ⊢
  exact .leaf _ _ _ this.leaf_inv (λ_ h=>h)
 fd:=λ_ _ _ _ _ _ _ _ _ h=>h.elim
theorem uZ (ht : P.underlying t=some (.slice e)) (hi : P.info? e=some i)
 {b off : Nat} {news : List Value} (hlen : (Builtin.lenOf x).run P w = .ok ny w) (hf : (Builtin.firstCells i.size (Nat.min ny dLen) x).run P w = .ok news.toArray w)
 (hst : (storeCells ⟨b,off,none⟩ news).run P w = .ok () (w.setCells b off news)) :
 (Builtin.copy_ #[t,u] ty #[.slice (some ⟨b,off,none⟩) dLen dCap,x]).run P w = .ok (goInt (Nat.min ny dLen)) (w.setCells b off news):=by
 simp [Builtin.copy_,run_underlying ht,sizeOf,typeInfo,hi,hlen,hf,hst]
theorem aMX (ht : P.underlying t=some (.slice e)) (hi : P.info? e=some i)
 {a : Option Addr} (hlen : (Builtin.lenOf x).run P w = .ok ny w) (h0 : Nat.min ny dLen=0) (hf : (Builtin.firstCells i.size 0 x).run P w = .ok #[] w) :
 (Builtin.copy_ #[t,u] ty #[.slice a dLen dCap,x]).run P w = .ok (goInt 0) w:=by
 cases a<;>simp [Builtin.copy_,run_underlying ht,sizeOf,typeInfo,hi,hlen,h0,hf,storeCells]
theorem aTv {n : PV} (h : bM c lo hi d=some n) : ∃ (xs ys : R) (l h : Nat) (k k' : IntKind),eK c=some xs∧eK d=some ys∧lo = .int k l∧hi = .int k' h∧l≤h∧h≤xs.length∧n = .int .i64 (min (h - l) ys.length : Nat):=by
 unfold bM at h
 split at h
 ·rename_i l h' xs ys h1 h2 h3 h4
  split at h
  ·rename_i hc
   cases h
   obtain ⟨k,e1,_⟩:=uI h1
   obtain ⟨k',e2,_⟩:=uI h2
   exact ⟨xs,ys,l,h',k,k',h3,h4,e1,e2,hc.1,hc.2,rfl⟩
  ·cases h
 ·cases h
theorem aRH {s : Nat} {g : Bool} {y : PV} (h : bC s g c lo hi d=some y) {h' : Nat} {k k' : IntKind} (h1 : eK c=some xs) (h2 : eK d=some ys) (h3 : lo = .int k l) (h4 : hi = .int k' h') :
 ys.all (PV.isEl s g)=true∧y = .lst (xs.take l++ys.take (h' - l)++xs.drop (l+min (h' - l) ys.length)):=by
 unfold bC at h
 split at h
 ·rename_i l2 h2' xs2 ys2 e1 e2 e3 e4
  rw [h1] at e3;rw [h2] at e4
  cases e3;cases e4
  obtain ⟨_,f1,_⟩:=uI e1
  obtain ⟨_,f2,_⟩:=uI e2
  rw [h3] at f1;rw [h4] at f2
  cases f1;cases f2
  split at h
  ·rename_i hc
   cases h
   exact ⟨hc.2.2,rfl⟩
  ·cases h
 ·cases h
theorem aGu {h : Nat} (hl : l≤h) (hh : h≤xs.length) (i : Nat) :
 (xs.take l++ys.take (h - l)++xs.drop (l+min (h - l) ys.length))[i]? = if l≤i∧i<l+min (h - l) ys.length then ys[i - l]? else xs[i]?:=by
 have e1 : (xs.take l).length=l:=by simp;omega
 have e2 : (ys.take (h - l)).length=min (h - l) ys.length:=by simp
 by_cases h1 : i<l
 ·rw [if_neg (by omega),List.append_assoc,List.getElem?_append_left (by omega),List.getElem?_take,if_pos h1]
 ·by_cases h2 : i<l+min (h - l) ys.length
  ·rw [if_pos ⟨by omega,h2⟩,List.getElem?_append_left (by rw [List.length_append];omega),List.getElem?_append_right (by omega),e1,List.getElem?_take,if_pos (by omega)]
  ·rw [if_neg (by omega),List.getElem?_append_right (by rw [List.length_append];omega),List.length_append,e1,e2,List.getElem?_drop]
   congr 1
   omega
theorem aHC (hT : X.T=aM P) (hz : qC P X.zok) {w : tN} (hw : s.list l=some w) (h : aD2.go X te src s k l w lo hi=some r) :
 ∃ d' s',k d' s'=some r∧∃ (xs ys : R) (l0 h0 : Nat) (k1 k2 : IntKind),eK w.c=some xs∧lo = .int k1 l0∧hi = .int k2 h0∧l0≤h0∧h0≤xs.length∧∀ (n : Nat) (m : bY) (B L WB WL : NP),tT m s B L n→L l→WL l→(∀ l∈dX (cU+1) src,L l)→
   ∀ (t u ty : TypeId),P.underlying t=some (.slice te)→∀ (a a' : Option Addr) (len cap cap' : Nat),m.ρ.hdr l = .slice a len cap→(∀ b off,a=some ⟨b,off,none⟩→l0<h0→a'=some ⟨b,off+l0*w.o.s,none⟩)→∀ vs,m.rd src vs→
     ∃ v m',(Builtin.copy_ #[t,u] ty #[.slice a' (h0 - l0) cap',vs]).run P m.w = .ok v m'.w∧dF m m' s s' B L WB WL n id∧m'.rd d' v:=by
 unfold aD2.go at h
 split at h
 rotate_left
 ·cases h
 rename_i hc
 simp only [Bool.and_eq_true] at hc
 obtain ⟨hp,hfit⟩:=hc
 obtain ⟨hlf,hos,hoe,hog,hspos,hepos,hzk,hzl,hz1⟩:=aLu hT hfit
 obtain ⟨y,h1,HS⟩:=aCK h
 obtain ⟨nn,hnn,h2⟩:=bH h1
 obtain ⟨c',hc',hk⟩:=bH h2
 obtain ⟨xs,ys,l0,h0,k1,k2,hx,hy,hlo,hhi,hlh,hhx,rfl⟩:=aTv hnn
 obtain ⟨hall,rfl⟩:=aRH hc' hx hy hlo hhi
 have hszne : ((aM P).at te).size≠0:=by rw [← hos];omega
 obtain ⟨i,hi',_,his,_,_⟩:=aCa hz hzk hzl hz1 hszne
 rw [← hos] at his
 refine ⟨_,_,hk,xs,ys,l0,h0,k1,k2,hx,hlo,hhi,hlh,hhx,λn m B L WB WL sit hL hWL hLs t u ty ht a a' len cap cap' hhdr ha vs hvs=>?_⟩
 have hfoot : ∀ l∈(eP src).rl,l∈dX (cU+1) src:=by
  intro l hl
  cases src<;>simp [eP,iR.none] at hl
  ·subst hl;exact aCE _ _ _
  ·subst hl;exact aAo _ _ _ _ _
  ·subst hl;exact aLk _ _ _ _ _
 obtain ⟨dv,D,hlenS,hfirst⟩:=(HS m sit.inv (λl hl=>sit.al l (.inl (hLs l (hfoot l hl)))) (by rw [hy];simp) vs hvs).els (P:=P) hy hp hall hspos
 have hml:=(sit.al l (.inl hL)).trans hw
 obtain ⟨hty,_,hro⟩:=sit.inv.row l w hml
 have hcx : w.c = .lst xs:=by
  cases hc2 : w.c with
  | lst zs=>rw [hc2] at hx;simp [eK] at hx;rw [hx]
  | str b=>
    exfalso
    rw [hc2] at hro
    generalize w.o=o at *
    cases hro
    cases hlf
  | _=>rw [hc2] at hx;simp [eK] at hx
 rw [hcx,hhdr] at hro
 have hmin : Nat.min ys.length (h0 - l0)=min (h0 - l0) ys.length:=Nat.min_comm _ _
 have hlen' : (xs.take l0++ys.take (h0 - l0)++xs.drop (l0+min (h0 - l0) ys.length)).length=xs.length:=by simp;omega
 by_cases hn0 : min (h0 - l0) ys.length=0
 ·have hxs : xs.take l0++ys.take (h0 - l0)++xs.drop (l0+min (h0 - l0) ys.length)=xs:=by
   apply List.ext_getElem?
   intro i
   rw [aGu hlh hhx,if_neg (by omega)]
  have hrun:=aMX (P:=P) (w:=m.w) (u:=u) (ty:=ty) (a:=a') (dCap:=cap') ht hi' (hlenS m.w) (by rw [hmin];exact hn0) (by
   rw [his]
   have:=hfirst m.w rfl 0 (Nat.zero_le _)
   simpa using this)
  rw [hxs,hn0]
  have hr2 : eO m.w m.Z w.o (.lst xs) (m.ρ.hdr l) (m.ρ.fp l):=by rw [hhdr];exact hro
  have G:=dF.setRow (B:=B) (L:=L) WB sit hL hWL hw hp (root:=.lst xs) (w':=m.w) hr2 (λr h=>.inl h) (λ_ _ _=>rfl) rfl rfl rfl rfl
  exact ⟨_,m.setRow l m.w ⟨w.o,.lst xs⟩ (m.ρ.fp l),hrun,G,.p _ _ (.int _ _)⟩
 ·rcases hro.els hlf with ⟨rfl,_⟩ | ⟨b,off,cap0,cells,ety,cv,fp,hv,hh,_,hroom,hlen,hnz,hbF,hcl,E,hfp⟩
  ·simp at hhx;omega
  ·cases hv
   have ha':=ha b off rfl (by omega)
   subst ha'
   have hle : (l0+min (h0 - l0) ys.length)*w.o.s≤cap*w.o.s:=Nat.mul_le_mul_right _ (by omega)
   rw [Nat.add_mul] at hle
   have hst:=run_storeCells_cells (P:=P) b (off+l0*w.o.s) (kR (min (h0 - l0) ys.length) w.o.s dv) 0 m.w (λj hj=>by
    rw [kE] at hj
    have hlt : off+l0*w.o.s+j<cells.size:=by omega
    have : m.w.cell? ⟨b,off+l0*w.o.s+0+j,none⟩=some cells[off+l0*w.o.s+j]:=aA4 hh (Array.getElem?_eq_getElem hlt)
    rw [this];rfl) (λj _=>by simp [World.frozen?,hh]) (λv hv=>by
    obtain ⟨k,hk⟩:=List.getElem?_of_mem hv
    obtain ⟨i',j',h1,h2,_,rfl⟩:=aIY hk
    exact aCF (D.one i' j' (by omega) h2))
   simp only [Nat.add_zero] at hst
   have hrun:=uZ (P:=P) (w:=m.w) (u:=u) (ty:=ty) (b:=b) (off:=off+l0*w.o.s) (dLen:=h0 - l0) (dCap:=cap') (news:=kR (min (h0 - l0) ys.length) w.o.s dv) ht hi' (hlenS m.w) (by
    rw [his,hmin]
    exact hfirst m.w rfl _ (by omega)) hst
   rw [hmin] at hrun
   obtain ⟨cells',c1,c2,c3,c4⟩:=gO (kR (min (h0 - l0) ys.length) w.o.s dv) (off+l0*w.o.s) m.w cells hh (by rw [kE];omega)
   obtain ⟨e1,e2,e3,e4⟩:=iQ (kR (min (h0 - l0) ys.length) w.o.s dv) b (off+l0*w.o.s) m.w
   have hne : ∀ r,r≠b→(m.w.setCells b (off+l0*w.o.s) (kR (min (h0 - l0) ys.length) w.o.s dv)).heap[r]? = m.w.heap[r]?:=λr hr=>eG hr _ _ m.w
   have hmono : ∀ r,m.Z r→(m.w.setCells b (off+l0*w.o.s) (kR (min (h0 - l0) ys.length) w.o.s dv)).heap[r]? = m.w.heap[r]?:=λr hr=>hne r (λe=>hnz (e▸hr))
   have E':=(E.plain hp).frame (w':=m.w.setCells b (off+l0*w.o.s) (kR (min (h0 - l0) ys.length) w.o.s dv)) (Z':=m.Z) (λ_ h=>h) hmono (λ_ _ _ _ _ h=>h.elim)
   have D':=D.frame (w':=m.w.setCells b (off+l0*w.o.s) (kR (min (h0 - l0) ys.length) w.o.s dv)) (Z':=m.Z) (λ_ h=>h) hmono (λ_ _ _ _ _ h=>h.elim)
   have EE : Els (m.w.setCells b (off+l0*w.o.s) (kR (min (h0 - l0) ys.length) w.o.s dv)) m.Z w.o (xs.take l0++ys.take (h0 - l0)++xs.drop (l0+min (h0 - l0) ys.length))
    (λi j=>if l0≤i∧i<l0+min (h0 - l0) ys.length then dv (i - l0) j else cv i j) (λ_ _ _=>False):=by
    refine ⟨λi x hx=>?_,λi j hi hj=>?_,λi j x hx hj=>?_,λ_ _ _ _ _ _ _ _ _ h=>h.elim⟩
    ·rw [aGu hlh hhx] at hx
     split at hx
     ·exact D.el _ x hx
     ·exact E.el _ x hx
    ·rw [hlen'] at hi
     show eN (if l0≤i∧i<l0+min (h0 - l0) ys.length then dv (i - l0) j else cv i j)
     split
     ·exact D.one _ j (by omega) hj
     ·exact E.one _ j hi hj
    ·rw [aGu hlh hhx] at hx
     split at hx
     ·rename_i hc;simp only [hc,and_self,if_true];exact D'.rep _ j x hx hj
     ·rename_i hc;simp only [hc,if_false];exact E'.rep _ j x hx hj
   have hro':=EE.repO hlf hspos (b:=b) (off:=off) (cap:=cap) c1 (by rw [c2];exact hroom) (by rw [hlen'];exact hlen) hnz (λi j hi hj=>by
    rw [hlen'] at hi
    by_cases hc : l0≤i∧i<l0+min (h0 - l0) ys.length
    ·simp only [hc,and_self,if_true]
     obtain ⟨q,rfl⟩ : ∃ q,i=l0+q:=⟨i - l0,by omega⟩
     rw [Nat.add_mul,show off+(l0*w.o.s+q*w.o.s)+j=off+l0*w.o.s+(q*w.o.s+j) by omega,
      c3 _ (by rw [kE];exact aA9 (by omega) hj),show l0+q - l0=q by omega]
     exact aB9 (by omega) hj
    ·simp only [hc,if_false]
     rw [c4 _ (by
      rw [kE]
      rcases Nat.lt_or_ge i l0 with h | h
      ·left;have:=aA9 h hj;omega
      ·right
       have : (l0+min (h0 - l0) ys.length)*w.o.s≤i*w.o.s:=Nat.mul_le_mul_right _ (by omega)
       rw [Nat.add_mul] at this
       omega)]
     exact hcl i j hi hj) (λ_ _ _ _ h=>h)
   rw [hlen',← hhdr] at hro'
   have G:=dF.setRow (B:=B) (L:=L) WB sit hL hWL hw hp hro' (λr hr=>by
    rcases hr with rfl | ⟨_,_,_,_,h⟩
    ·exact .inl hbF
    ·exact h.elim) (λr hr hnf=>hne r (λe=>hnf (e▸hbF))) e1 e2 e3 e4
   exact ⟨_,_,hrun,G,.p _ _ (.int _ _)⟩
theorem aPY (hT : X.T=aM P) (hz : qC P X.zok) {dst : DV} (h : aD2 X te dst src s k=some r) :
 ∃ d' s',k d' s'=some r∧∀ (n : Nat) (m : bY) (B L WB WL : NP),tT m s B L n→(∀ l∈dX (cU+1) dst++dX (cU+1) src,L l∧WL l)→
   ∀ (t u ty : TypeId),P.underlying t=some (.slice te)→∀ vd vs,m.rd dst vd→m.rd src vs→
     ∃ v m',(Builtin.copy_ #[t,u] ty #[vd,vs]).run P m.w = .ok v m'.w∧dF m m' s s' B L WB WL n id∧m'.rd d' v:=by
 unfold aD2 at h
 split at h
 ·rename_i l
  split at h
  rotate_left
  ·cases h
  rename_i w hw
  obtain ⟨nn,hnn,h'⟩:=bH h
  obtain ⟨zs,hzs,rfl⟩:=PV.len_inv hnn
  obtain ⟨d',s',hk,xs,ys,l0,h0,k1,k2,hx,hlo,hhi,_,_,H⟩:=aHC hT hz hw h'
  rw [hzs] at hx
  simp only [eK] at hx
  cases hx
  unfold aOs at hlo
  cases hlo
  cases hhi
  refine ⟨d',s',hk,λn m B L WB WL sit hL t u ty ht vd vs hvd hvs=>?_⟩
  have hLl:=hL l (List.mem_append_left _ (aCE _ _ _))
  have hml:=(sit.al l (.inl hLl.1)).trans hw
  obtain ⟨hty,hlf,hro⟩:=sit.inv.row l w hml
  cases hvd with
  | ref _ _ _ _ _ hd=>
    have hd : m.ρ.hdr l=vd:=hd (bY.live_of hml)
    rw [hzs] at hro
    obtain ⟨a,cap,hv,_,_⟩:=hro.lst_slice hlf
    rw [hd] at hv
    subst hv
    exact H n m B L WB WL sit hLl.1 hLl.2 (λl hl=>(hL l (List.mem_append_right _ hl)).1) t u ty ht a a _ cap cap hd (λb off ha _=>by rw [ha];simp) vs hvs
 ·rename_i l lo hi
  split at h
  rotate_left
  ·cases h
  rename_i w hw
  obtain ⟨d',s',hk,xs,ys,l0,h0,k1,k2,hx,hlo,hhi,hlh,hhx,H⟩:=aHC hT hz hw h
  subst hlo;subst hhi
  refine ⟨d',s',hk,λn m B L WB WL sit hL t u ty ht vd vs hvd hvs=>?_⟩
  have hLl:=hL l (List.mem_append_left _ (aAo _ _ _ _ _))
  have hml:=(sit.al l (.inl hLl.1)).trans hw
  obtain ⟨hty,hlf,hro⟩:=sit.inv.row l w hml
  cases hvd with
  | sref _ _ _ _ _ _ _ hd=>
    obtain ⟨a,len,cap,_,_,m1,n1,hh,e1,e2,h1,h2,rfl⟩:=hd (bY.live_of hml)
    cases e1;cases e2
    have hh : m.ρ.hdr l = .slice a len cap:=hh
    have hcl : w.c = .lst xs:=by
     cases hc2 : w.c with
     | lst zs=>rw [hc2] at hx;simp [eK] at hx;rw [hx]
     | str b=>
       exfalso
       rw [hc2] at hro
       generalize w.o=o at *
       cases hro
       cases hlf
     | _=>rw [hc2] at hx;simp [eK] at hx
    have hlc : len=xs.length∧len≤cap:=by
     rw [hcl] at hro
     obtain ⟨a',cap',hv,h5,_⟩:=hro.lst_slice hlf
     rw [hh] at hv
     cases hv
     exact ⟨rfl,h5⟩
    have e : ((m.ρ.ty l).along []).s=w.o.s:=by rw [hty];rfl
    rw [e]
    exact H n m B L WB WL sit hLl.1 hLl.2 (λl hl=>(hL l (List.mem_append_right _ hl)).1) t u ty ht a _ _ cap _ hh (λb off ha hlt=>by
     rw [if_neg (by omega),ha]
     simp [nF]) vs hvs
 ·cases h
end
end
end Go.Proofs.YtllmobkkbpdchaaGreatDoor
