/-
  Texts of the proof, part 4: a value-level evaluator and its soundness, what the functions compute, laws about it.
  Conditions: none.
-/
import Derived.Test.YtllmobkkbpdchaaGreatDoorC
import Derived.Shelf.Spec.SlicesGrow
import Derived.Shelf.Strconv.Itoa3
import Derived.Shelf.SlGeneric
import Derived.Ground.NamesProg
import Derived.Ground.Names8Prog
import Derived.Shelf.Spec.SlicesInsertGrow
set_option linter.all false
namespace Go.Proofs.YtllmobkkbpdchaaGreatDoor
noncomputable section
open Go
variable {t : eX} {s : St}
def aLN (P : Program) (mode : Nat→Option eX) (S : Nat→List DV→St→OR) : Prop:=∀ g t args s l,mode g=some t→S g args s=some l→pW P g∧∀ (m : bY) (bI : Array Value),kC m s s.base→args.length=bI.size→
 (∀ (i : Nat) d v,args[i]? = some d→bI[i]? = some v→m.rd d v)→Calls P g bI m.w (λe w'=>∃ v,e = .returned v∧wN m s.boxes.length (if t.keep then s.lists.length else 0) (some (t.fit s)) l v w')
theorem aHO : ∀ (ts : List (Option tN)) (ks : List (Option OTy)) (n : Nat),aKe (aOy ts ks) n=aKe ts n
 | [],[],_=>rfl
 | [],_::_,_=>rfl
 | some w::r,some o::q,n=>by
   simp only [aOy,aKe]
   cases w.c<;>simp only [aHO r q]
 | some w::r,none::q,n=>by
   simp only [aOy,aKe]
   cases w.c<;>simp only [aHO r q]
 | none::r,_::q,n=>by simp only [aOy,aKe,aHO r q]
 | some _::_,[],_=>rfl
 | none::_,[],_=>rfl
theorem aBG : ∀ (ts : List (Option (List DV))) (n : Nat),wE ts n [] = []
 | [],_=>rfl
 | none::r,n=>by unfold wE;exact aBG r (n+1)
 | some ts::r,n=>by unfold wE;simp only [oG];exact aBG r (n+1)
theorem eX.fitB_keep {bs : List (Nat × Option (List DV))} : (t.fitB bs).keep=t.keep:=by
 unfold eX.fitB
 split
 ·rfl
 ·dsimp only
  split<;>rfl
theorem eX.fit_keep : (t.fit s).keep=t.keep:=by
 unfold eX.fit
 split
 ·unfold eX.fitK
  split
  ·rfl
  ·rfl
 ·exact eX.fitB_keep
theorem eX.fit_wf (h : t.wf=true) : (t.fit s).wf=true:=by
 unfold eX.fit
 split
 ·unfold eX.fitK
  split
  ·unfold eX.wf at h ⊢
   simp only [aHO]
   exact h
  ·exact h
 ·unfold eX.fitB
  split
  ·exact h
  ·dsimp only
   split
   ·rename_i hw;exact hw
   ·exact h
theorem eX.fit_nil (h : s.lists = []) (hb : s.boxes = []) : t.fit s=t:=by
 unfold eX.fit
 split
 ·unfold eX.fitK
  split
  ·rw [h]
   show ({ t with lists:=aOy t.lists []} : eX)=t
   have : aOy t.lists []=t.lists:=by
    cases t.lists with
    | nil=>rfl
    | cons a r=>cases a<;>rfl
   rw [this]
  ·rfl
 ·unfold eX.fitB
  rw [hb,aBG]
theorem aI7 (l : R) : ∀ (bs : List (Option (List DV))),(vS l bs).length=bs.length
 | []=>rfl
 | some _::r=>by simp [vS,aI7 l r]
 | none::r=>by simp [vS,aI7 l r]
theorem zZ (l : R) : ∀ (bs : List (Option tN)),(iP l bs).length=bs.length
 | []=>rfl
 | some _::r=>by simp [iP,zZ l r]
 | none::r=>by simp [iP,zZ l r]
theorem aGx (l : R) : ∀ {bs : List (Option (List DV))} {i : Nat} {fs : List DV},(vS l bs)[i]? = some (some fs)→∃ ts,bs[i]? = some (some ts)
 | [],i,fs,h=>by simp [vS] at h
 | some t::r,i,fs,h=>by
   cases i with
   | zero=>exact ⟨t,rfl⟩
   | succ i=>simpa using aGx l (bs:=r) (i:=i) (by simpa [vS] using h)
 | none::r,i,fs,h=>by
   cases i with
   | zero=>simp [vS] at h
   | succ i=>simpa using aGx l (bs:=r) (i:=i) (by simpa [vS] using h)
theorem aAr (l : R) : ∀ {bs : List (Option tN)} {i : Nat} {w : tN},(iP l bs)[i]? = some (some w)→∃ ts,bs[i]? = some (some ts)
 | [],i,fs,h=>by simp [iP] at h
 | some t::r,i,fs,h=>by
   cases i with
   | zero=>exact ⟨t,rfl⟩
   | succ i=>simpa using aAr l (bs:=r) (i:=i) (by simpa [iP] using h)
 | none::r,i,fs,h=>by
   cases i with
   | zero=>simp [iP] at h
   | succ i=>simpa using aAr l (bs:=r) (i:=i) (by simpa [iP] using h)
theorem aJZ {α : Type} : ∀ {l : List (Option α)},aKO l=true→∀ (i : Nat) o,l[i]? = some o→∃ a,o=some a
 | [],_,i,o,h=>by simp at h
 | some a::r,h,i,o,hi=>by
   cases i with
   | zero=>simp at hi;exact ⟨a,hi.symm⟩
   | succ i=>exact aJZ (l:=r) h i o (by simpa using hi)
 | none::r,h,_,_,_=>by simp [aKO] at h
theorem getD_some {α : Type} {l : List (Option α)} {i : Nat} {x : α} (h : l.getD i none=some x) : l[i]? = some (some x):=by
 rw [List.getD] at h
 cases hi : l[i]? with
 | none=>rw [hi] at h;cases h
 | some o=>rw [hi] at h;simp at h;rw [h]
theorem aEp {m : bY} {a : aKd} {r : Nat} (h : (m.pick a.bs a.ls (s.pick a)).owned r) : aLM m a.bs a.ls r:=by
 rcases h with ⟨i,cs,h,rfl⟩ | ⟨l,o,h,hr⟩ | h
 ·have h : (s.pick a).box i=some cs:=h
  rw [aEi] at h
  cases hbi : a.bs[i]? with
  | none=>rw [hbi] at h;cases h
  | some b=>
    refine .inl ⟨b,List.mem_of_getElem? hbi,?_⟩
    show m.ρ.box (a.bs.getD i 0)=_
    rw [fZ hbi]
 ·have h : (s.pick a).list l=some o:=h
  rw [aCc] at h
  cases hbi : a.ls[l]? with
  | none=>rw [hbi] at h;cases h
  | some l0=>
    refine .inr ⟨l0,List.mem_of_getElem? hbi,?_⟩
    have hr : m.ρ.fp (a.ls.getD l 0) r:=hr
    rw [fZ hbi] at hr
    exact hr
 ·exact h.elim
section
variable {P : Program} {X : Cx} {O : Orc}
theorem aJ0 (hS : aLN P X.mode O.S) {ft : iR} {n0 : Nat} {f : Nat} (hm : X.mode f=some t) (hwf : t.wf=true) {args : List DV} {k : DV→St→List Nat→OR} {r : R} (h : aLd O ft n0 t f args s k=some r) :
 pW P f∧∃ d' s' kl,k d' s' kl=some r∧s.nl≤s'.nl∧∀ (n : Nat) (m : bY) (B L WB WL : NP),tT m s B L n→s'.nb≤n+16→s'.nl≤n+16→n≤n0→(∀ b∈ft.rb,B b∧WB b)→(∀ l∈ft.rl,L l∧WL l)→(t.keep=true→∀ x,(B x∧WB x)∧(L x∧WL x))→
  ∀ vs : Array Value,args.length=vs.size→(∀ (i : Nat) d v,args[i]? = some d→vs[i]? = some v→m.rd d v)→
    Calls P f vs m.w (λe w'=>∃ v,e = .returned v∧∃ m',m'.w=w'∧dF m m' s s' B L WB WL n (eE t.keep kl)∧m'.rd d' v):=by
 unfold aLd at h
 generalize ha : iA s aAf args ⟨[],[]⟩=a at h
 simp only at h
 have hkp : (t.fit (s.pick a)).keep=t.keep:=eX.fit_keep
 have hwf : (t.fit (s.pick a)).wf=true:=eX.fit_wf hwf
 have hS':=λl=>hS f t (args.map (ren (yR · a.bs 0) (yR · a.ls 0) cU)) (s.pick a) l hm
 rw [← hkp] at hS' ⊢
 generalize t.fit (s.pick a)=t at h hwf hS' ⊢
 generalize hkd : (if t.keep=true then a.ls else [])=kl at h
 split at h
 rotate_left
 ·cases h
 rename_i hc
 simp only [Bool.and_eq_true,List.all_eq_true,Bool.or_eq_true,Nat.blt_eq] at hc
 obtain ⟨⟨⟨⟨hlen,hsome⟩,hbs⟩,hls⟩,hkl⟩:=hc
 have hkl:=tU hkl
 have hlen:=tU hlen
 obtain ⟨l,hl,hk⟩:=bH h
 obtain ⟨hcb,HS⟩:=hS' l hl
 have nod:=lS (s:=s) aAf args ⟨[],[]⟩ List.nodup_nil List.nodup_nil
 have liv:=iV (s:=s) aAf args ⟨[],[]⟩ (by simp) (by simp)
 rw [ha] at nod liv
 refine ⟨hcb,_,_,_,hk,Nat.le_add_right _ _,λn m B L WB WL sit hnb hnl hn0 hB hL hall vs hvl hrd=>?_⟩
 have hnl : s.nl+(t.lists.length - kl.length)≤n+16:=hnl
 have hks : ∀ l∈kl,l∈a.ls:=λl hl=>by rw [← hkd] at hl;split at hl;exact hl;cases hl
 have hkn : kl.Nodup:=by rw [← hkd];split;exact nod.2.1;exact List.nodup_nil
 have hkk : t.keep=false→kl = []:=λhf=>by rw [← hkd,hf];rfl
 have hlists : (s.pick a).lists.length=a.ls.length:=xH
 have hnb : s.nb+(t.boxes.length - a.bs.length)≤n+16:=hnb
 have sn1:=sit.nb
 have sn2:=sit.nl
 have lin : ∀ l∈a.ls,l∈ft.rl∨(n≤l∧l<n+16):=λl hl=>by
  rcases hls l hl with h | ⟨h1,h2⟩
  ·exact .inl (xF.1 h)
  ·have:=tU h1;exact .inr (by omega)
 have hb : ∀ b∈a.bs,m.s.box b=s.box b:=λb hb=>sit.ab b (.inl (hB b (xF.1 (hbs b hb))).1)
 have hl' : ∀ l∈a.ls,m.s.list l=s.list l:=λl hl=>sit.al l ((lin l hl).imp (λh=>(hL l h).1) id)
 have pf:=aFr (a:=a) sit.inv hb hl' nod.1 nod.2.1
 have hboxes : (s.pick a).boxes.length=a.bs.length:=aBF
 refine (HS (m.pick a.bs a.ls (s.pick a)) vs pf (by simpa using hvl) (λi d v hd hv=>?_)).mono ?_
 ·rw [List.getElem?_map] at hd
  cases hdi : args[i]? with
  | none=>rw [hdi] at hd;cases hd
  | some d0=>rw [hdi] at hd;cases hd;exact aLG hl' cU (hrd i d0 v hdi hv)
 ·rintro e w' ⟨v,rfl,c,hw,cinv,fw,d,s0,a0,hread,hdv,hfull,hub,hul⟩
  rw [hboxes,hlists] at fw
  obtain ⟨hless,lenB,lenL,HB,HO⟩:=eX.read_sound hread hwf
  have lenB : t.boxes.length=a0.bs.length:=lenB.trans aBF
  have lenL : t.lists.length=a0.ls.length:=lenL.trans xH
  refine ⟨v,rfl,?_⟩
  generalize hcsB : ((vS l t.boxes).map λo=>o.map λcs=>cs.map (ren (uW a.bs s.nb) (uW kl s.nl) cU))=csB
  have hcsBl : csB.length=t.boxes.length:=by rw [← hcsB,List.length_map,aI7]
  have hab : ∀ b∈a.bs,∃ cs,m.s.box b=some cs:=λb hbm=>by
   rw [hb b hbm]
   exact Option.ne_none_iff_exists'.1 (liv.1 b hbm)
  have hal : ∀ l∈a.ls,∃ o,m.s.list l=some o:=λl hlm=>by
   rw [hl' l hlm]
   exact Option.ne_none_iff_exists'.1 (liv.2 l hlm)
  have freshB : ∀ x,s.nb≤x→x<s.nb+(t.boxes.length - a.bs.length)→¬ m.ρ.ub x:=λx h1 h2=>sit.fb x h1 (by omega)
  have freshL : ∀ x,s.nl≤x→x<s.nl+(t.lists.length - kl.length)→¬ m.ρ.ul x:=λx h1 h2=>sit.fl x h1 (by omega)
  have hout : ∀ b∈a.bs,¬ (s.nb≤b∧b<s.nb+(csB.length - a.bs.length)):=λb hbm hr=>by
   obtain ⟨cs,hcs⟩:=hab b hbm
   rw [hcsBl] at hr
   exact freshB b hr.1 hr.2 (sit.inv.ub b cs hcs)
  have scrL : ∀ x,oG x (wC t.keep kl s.boxes)=(s.box x).map (·.map (eE t.keep kl)):=λx=>by
   unfold wC eE
   cases t.keep with
   | true=>exact aFo kl x s.boxes
   | false=>
     rw [if_neg (by simp),if_neg (by simp)]
     exact pK _
  have boxL : ∀ x,oG x (aAg a.bs s.nb csB (wC t.keep kl s.boxes))=match gP a.bs s.nb (t.boxes.length - a.bs.length) x with | some i=>csB.getD i none | none=>(s.box x).map (·.map (eE t.keep kl)):=λx=>by
   have:=aGw (x:=x) (cs:=csB) (bs:=a.bs) (n:=s.nb) (old:=wC t.keep kl s.boxes) nod.1 (by rw [hcsBl];exact hlen) hout
   rw [hcsBl,scrL] at this
   exact this
  have houtL : ∀ l0∈kl,¬ (s.nl≤l0∧l0<s.nl+((iP l t.lists).length - kl.length)):=λl0 hlm hr=>by
   obtain ⟨o,ho⟩:=hal l0 (hks l0 hlm)
   rw [zZ] at hr
   exact freshL l0 hr.1 hr.2 (sit.inv.ul l0 o ho)
  have listL : ∀ x,oG x (aAg kl s.nl (iP l t.lists) (s.killL a.ls).lists)=match gP kl s.nl (t.lists.length - kl.length) x with | some i=>(iP l t.lists).getD i none | none=>(s.killL a.ls).list x:=λx=>by
   have:=aGw (x:=x) (cs:=iP l t.lists) (bs:=kl) (n:=s.nl) (old:=(s.killL a.ls).lists) hkn (by rw [zZ];exact hkl) houtL
   rw [zZ] at this
   exact this
  let S : Sx:={ box:=λx=>match gP a.bs s.nb (t.boxes.length - a.bs.length) x with | some i=>csB.getD i none | none=>(m.s.box x).map (·.map (eE t.keep kl))
                list:=λx=>match gP kl s.nl (t.lists.length - kl.length) x with | some i=>(iP l t.lists).getD i none | none=>if x∈a.ls then none else m.s.list x}
  have hbn : ∀ x,(∃ cs,m.s.box x=some cs)→¬ (s.nb≤x∧x<s.nb+(t.boxes.length - a.bs.length)):=λx ⟨cs,hcs⟩ hr=>freshB x hr.1 hr.2 (sit.inv.ub x cs hcs)
  have cb_fb : ∀ b b',b<t.boxes.length→uW a.bs s.nb b=some b'→gP a.bs s.nb (t.boxes.length - a.bs.length) b'=some b∧(m.ρ.ub b'∨(s.nb≤b'∧b'<s.nb+(t.boxes.length - a.bs.length))):=by
   intro b b' hlt hbb
   unfold uW at hbb
   split at hbb
   ·rename_i x hx
    cases hbb
    obtain ⟨cs,hcs⟩:=hab b' (List.mem_of_getElem? hx)
    refine ⟨?_,.inl (sit.inv.ub b' cs hcs)⟩
    unfold gP
    rw [aOW (n:=0) nod.1 hx,Nat.zero_add]
   ·rename_i hx
    cases hbb
    have hge : a.bs.length≤b:=by
     rcases Nat.lt_or_ge b a.bs.length with h | h
     ·rw [List.getElem?_eq_getElem h] at hx;cases hx
     ·exact h
    have hnot : s.nb+(b - a.bs.length)∉a.bs:=λhm'=>hbn _ (hab _ hm') ⟨by omega,by omega⟩
    refine ⟨?_,.inr ⟨by omega,by omega⟩⟩
    unfold gP
    rw [aHM hnot]
    simp only
    rw [if_pos ⟨by omega,by omega⟩]
    congr 1
    omega
  have cl_fl : ∀ b b',b<t.lists.length→uW kl s.nl b=some b'→gP kl s.nl (t.lists.length - kl.length) b'=some b∧(m.ρ.ul b'∨(s.nl≤b'∧b'<s.nl+(t.lists.length - kl.length))):=by
   intro b b' hlt hbb
   unfold uW at hbb
   split at hbb
   ·rename_i x hx
    cases hbb
    obtain ⟨o,ho⟩:=hal b' (hks b' (List.mem_of_getElem? hx))
    refine ⟨?_,.inl (sit.inv.ul b' o ho)⟩
    unfold gP
    rw [aOW (n:=0) hkn hx,Nat.zero_add]
   ·rename_i hx
    cases hbb
    have hge : kl.length≤b:=by
     rcases Nat.lt_or_ge b kl.length with h | h
     ·rw [List.getElem?_eq_getElem h] at hx;cases hx
     ·exact h
    have hnot : s.nl+(b - kl.length)∉kl:=λhm'=>by
     obtain ⟨o,ho⟩:=hal _ (hks _ hm')
     exact freshL _ (by omega) (by omega) (sit.inv.ul _ o ho)
    refine ⟨?_,.inr ⟨by omega,by omega⟩⟩
    unfold gP
    rw [aHM hnot]
    simp only
    rw [if_pos ⟨by omega,by omega⟩]
    congr 1
    omega
  have ren_ok : ∀ {d : DV} {v : Value},c.rd d v→(m.back c a.bs kl s.nb (t.boxes.length - a.bs.length) s.nl (t.lists.length - kl.length) S).rd (ren (uW a.bs s.nb) (uW kl s.nl) cU d) v:=by
   intro d v hd
   refine fG.renum (λb b' hu hbb=>?_) (λl0 l' hu hll=>?_) cU hd
   ·obtain ⟨h1,h2⟩:=cb_fb b b' (by rw [lenB];exact hub b hu) hbb
    refine ⟨h2,?_⟩
    show (match gP a.bs s.nb (t.boxes.length - a.bs.length) b' with | some i=>c.ρ.box i | none=>m.ρ.box b')=_
    rw [h1]
   ·have hlt:=hul l0 hu
    rw [← lenL] at hlt
    obtain ⟨hcl,hcu⟩:=cl_fl l0 l' hlt hll
    refine ⟨hcu,λhv=>⟨?_,?_,?_,?_⟩⟩
    ·have hv : (match gP kl s.nl (t.lists.length - kl.length) l' with | some i=>(iP l t.lists).getD i none | none=>if l'∈a.ls then none else m.s.list l')≠none:=hv
     rw [hcl] at hv
     obtain ⟨w1,hw1⟩:=Option.ne_none_iff_exists'.1 hv
     have hg:=getD_some hw1
     obtain ⟨ts,hts⟩:=aAr l hg
     obtain ⟨x,w2,g1,_⟩:=HO l0 ts hts
     have g1 : (s0.pick a0).list l0=some w2:=by
      have:=sP (n:=0) g1
      rw [Nat.zero_add] at this
      exact this
     rw [← hfull.list l0] at g1
     exact bY.live_of g1
    ·show (match gP kl s.nl (t.lists.length - kl.length) l' with | some i=>c.ρ.hdr i | none=>_)=_
     rw [hcl]
    ·show (match gP kl s.nl (t.lists.length - kl.length) l' with | some i=>c.ρ.ty i | none=>_)=_
     rw [hcl]
    ·show (match gP kl s.nl (t.lists.length - kl.length) l' with | some i=>c.ρ.fp i | none=>_)=_
     rw [hcl]
  have came : aAW m c t.keep a.bs a.ls kl s.nb (t.boxes.length - a.bs.length) s.nl (t.lists.length - kl.length) S:={
   kk:=hkk
   kn:=hkn
   ks:=hks
   row:=λi l0 hi hlv=>by
    have hkt : t.keep=true:=by
     cases hk2 : t.keep with
     | true=>rfl
     | false=>rw [hkk hk2] at hi;simp at hi
    have hkl2 : kl=a.ls:=by rw [← hkd,hkt];rfl
    rw [hkl2] at hi
    obtain ⟨o,ho⟩:=hal l0 (List.mem_of_getElem? hi)
    have hlt : i<a.ls.length:=(List.getElem?_eq_some_iff.1 hi).1
    rw [hkt] at fw
    have hu : (m.pick a.bs a.ls (s.pick a)).ρ.ul i:=⟨hlt,by rw [fZ hi];exact sit.inv.ul l0 o ho⟩
    obtain ⟨_,q⟩:=fw.row i (by simpa using hlt) hu
    obtain ⟨_,q1,q2⟩:=q hlv
    rw [q1,q2]
    show m.ρ.hdr (a.ls.getD i 0)=_∧m.ρ.ty (a.ls.getD i 0)=_
    rw [fZ hi]
    exact ⟨rfl,rfl⟩
   inv:=sit.inv
   cinv:=cinv
   nb:=nod.1
   ab:=hab
   al:=hal
   size:=fw.size
   os:=fw.os
   tape:=fw.tape
   output:=fw.output
   keep:=λr hr hn=>fw.keep r hr (λho=>hn (aEp ho))
   own:=λr hr=>(fw.own r hr).imp (λh=>aEp h) id
   z:=λr hr=>(fw.z r hr).imp id (λh=>h.imp (λh=>aEp h) id)
   zz:=fw.zz
   box:=λi b hbi=>by
    obtain ⟨cs,hcs⟩:=hab b (List.mem_of_getElem? hbi)
    have:=fw.box i (List.getElem?_eq_some_iff.1 hbi).1 (cs.map (ren (yR · a.bs 0) (yR · a.ls 0) cU)) (by
     show (s.pick a).box i=_
     rw [aEi,hbi,Option.bind_some,← hb b (List.mem_of_getElem? hbi),hcs];rfl)
    rw [this.1]
    show m.ρ.box (a.bs.getD i 0)=_
    rw [fZ hbi]
   freshB:=freshB
   freshL:=freshL
   sb:=λx cs hx=>by
    have hx : (match gP a.bs s.nb (t.boxes.length - a.bs.length) x with | some i=>csB.getD i none | none=>(m.s.box x).map (·.map (eE t.keep kl)))=some cs:=hx
    cases hcb : gP a.bs s.nb (t.boxes.length - a.bs.length) x with
    | none=>
      rw [hcb] at hx
      simp only at hx
      cases hmx : m.s.box x with
      | none=>rw [hmx] at hx;cases hx
      | some cs0=>rw [hmx] at hx;cases hx;exact .inr ⟨rfl,cs0,rfl,rfl⟩
    | some i=>
      rw [hcb] at hx
      have hg:=getD_some hx
      rw [← hcsB,List.getElem?_map] at hg
      cases hfi : (vS l t.boxes)[i]? with
      | none=>rw [hfi] at hg;cases hg
      | some o=>
        rw [hfi] at hg
        simp only [Option.map_some,Option.some.injEq] at hg
        cases o with
        | none=>cases hg
        | some fs=>
          simp only [Option.map_some,Option.some.injEq] at hg
          obtain ⟨ts,hts⟩:=aGx l hfi
          obtain ⟨g1,x',cs0,g2,g3⟩:=HB i ts hts
          rw [hfi] at g1
          cases g1
          have g2 : (s0.pick a0).box i=some cs0:=by
           have:=aF9 (n:=0) g2
           rw [Nat.zero_add] at this
           exact this
          rw [← hfull.box i] at g2
          refine .inl ⟨i,cs0,rfl,g2,by rw [← hg,List.length_map];exact g3.1,λj d0 d1 v0 h1 h2 h3=>?_⟩
          rw [← hg,List.getElem?_map] at h2
          cases hj : (tQ l ts)[j]? with
          | none=>rw [hj] at h2;cases h2
          | some d2=>
            rw [hj] at h2
            cases h2
            exact ren_ok (g3.2 j d0 d2 h1 hj c v0 h3)
   sbx:=λx hx=>by
    show ∃ cs,(match gP a.bs s.nb (t.boxes.length - a.bs.length) x with | some i=>csB.getD i none | none=>(m.s.box x).map (·.map (eE t.keep kl)))=some cs
    rcases iD a.bs s.nb (t.boxes.length - a.bs.length) x with ⟨i,h1,h2⟩ | ⟨i,h1,h2,h3,h4⟩ | ⟨h1,_⟩
    ·rw [h1]
     have hlt : i<a.bs.length:=(List.getElem?_eq_some_iff.1 h2).1
     have hti : (t.boxes.take a.bs.length)[i]? = some (t.boxes[i]'(by omega)):=by rw [List.getElem?_take,if_pos hlt,List.getElem?_eq_getElem]
     obtain ⟨ts,hts⟩:=aJZ hsome i _ hti
     obtain ⟨g1,_⟩:=HB i ts (by rw [List.getElem?_eq_getElem (by omega),hts])
     refine ⟨(tQ l ts).map (ren (uW a.bs s.nb) (uW kl s.nl) cU),?_⟩
     simp only
     rw [List.getD,← hcsB,List.getElem?_map,g1]
     rfl
    ·exact absurd ⟨by omega,by omega⟩ (hbn x hx)
    ·rw [h1]
     obtain ⟨cs,hcs⟩:=hx
     exact ⟨_,by simp only [hcs,Option.map_some];rfl⟩
   sl:=λx o hx=>by
    have hx : (match gP kl s.nl (t.lists.length - kl.length) x with | some i=>(iP l t.lists).getD i none | none=>if x∈a.ls then none else m.s.list x)=some o:=hx
    cases hcl : gP kl s.nl (t.lists.length - kl.length) x with
    | none=>
      rw [hcl] at hx
      simp only at hx
      split at hx
      ·cases hx
      ·rename_i hn;exact .inr ⟨rfl,hn,hx⟩
    | some i=>
      rw [hcl] at hx
      have hg:=getD_some hx
      obtain ⟨ts,hts⟩:=aAr l hg
      obtain ⟨x',w2,g1,g2,_⟩:=HO i ts hts
      rw [hg] at g2
      cases g2
      have g1 : (s0.pick a0).list i=some o:=by
       have:=sP (n:=0) g1
       rw [Nat.zero_add] at this
       exact this
      rw [← hfull.list i] at g1
      exact .inl ⟨i,rfl,g1⟩}
  have wbs : ∀ b∈a.bs,B b∧WB b:=λb hbm=>hB b (xF.1 (hbs b hbm))
  refine ⟨m.back c a.bs kl s.nb (t.boxes.length - a.bs.length) s.nl (t.lists.length - kl.length) S,hw,?_,ren_ok (hless c v hdv)⟩
  refine {
   step:=came.step sn1 hnb sn2 hnl
   after:=⟨λx hx=>?_,λx hx=>?_,λx h1 h2=>?_,λx h1 h2=>?_,λx h1 h2=>?_,λx h1 h2=>?_⟩
   nb:=Nat.le_add_right _ _
   nl:=Nat.le_add_right _ _
   ub:=λx hx hu=>hu.elim id (λh=>by have hx : s.nb+(t.boxes.length - a.bs.length)≤x:=hx;omega)
   ul:=λx hx hu=>hu.elim id (λh=>by have hx : s.nl+(t.lists.length - kl.length)≤x:=hx;omega)}
  ·show (match gP a.bs s.nb (t.boxes.length - a.bs.length) x with | some i=>csB.getD i none | none=>(m.s.box x).map (·.map (eE t.keep kl)))=oG x (aAg a.bs s.nb _ (wC t.keep kl s.boxes))
   rw [boxL x]
   cases gP a.bs s.nb (t.boxes.length - a.bs.length) x with
   | some i=>rfl
   | none=>simp only;rw [sit.ab x hx]
  ·show (match gP kl s.nl (t.lists.length - kl.length) x with | some i=>(iP l t.lists).getD i none | none=>if x∈a.ls then none else m.s.list x)=oG x (aAg kl s.nl (iP l t.lists) (s.killL a.ls).lists)
   rw [listL x]
   cases gP kl s.nl (t.lists.length - kl.length) x with
   | some i=>rfl
   | none=>
     simp only
     rw [iC,sit.al x hx]
  ·by_cases hkt : t.keep=true
   ·exact absurd ((hall hkt x).1.1) h1
   ·have hkt : t.keep=false:=by simpa using hkt
    show (match gP a.bs s.nb (t.boxes.length - a.bs.length) x with | some i=>csB.getD i none | none=>(m.s.box x).map (λcs : List DV=>cs.map (eE t.keep kl)))=_
    rcases iD a.bs s.nb (t.boxes.length - a.bs.length) x with ⟨i,g1,g2⟩ | ⟨i,g1,g2,g3,g4⟩ | ⟨g1,_⟩
    ·exact absurd (wbs x (List.mem_of_getElem? g2)).1 h1
    ·exact absurd ⟨by omega,by omega⟩ h2
    ·rw [g1,hkt]
     exact (pK _).symm
  ·by_cases hkt : t.keep=true
   ·exact absurd ((hall hkt x).2.1) h1
   ·have hkt : t.keep=false:=by simpa using hkt
    show (match gP kl s.nl (t.lists.length - kl.length) x with | some i=>(iP l t.lists).getD i none | none=>if x∈a.ls then none else m.s.list x)=_
    rw [hkk hkt]
    rcases iD [] s.nl (t.lists.length - ([] : List Nat).length) x with ⟨i,g1,g2⟩ | ⟨i,g1,g2,g3,_⟩ | ⟨g1,_⟩
    ·simp at g2
    ·exact absurd ⟨by omega,by rw [hkk hkt] at hnl;omega⟩ h2
    ·rw [g1]
     simp only
     rw [if_neg]
     intro hxm
     rcases lin x hxm with h | h
     ·exact h1 (hL x h).1
     ·exact h2 h
  ·by_cases hkt : t.keep=true
   ·exact absurd ((hall hkt x).1.2) h1
   ·have hkt : t.keep=false:=by simpa using hkt
    show oG x (aAg a.bs s.nb _ (wC t.keep kl s.boxes))=_
    rw [boxL x]
    rcases iD a.bs s.nb (t.boxes.length - a.bs.length) x with ⟨i,g1,g2⟩ | ⟨i,g1,g2,g3,g4⟩ | ⟨g1,_⟩
    ·exact absurd (wbs x (List.mem_of_getElem? g2)).2 h1
    ·exact absurd ⟨by omega,by omega⟩ h2
    ·rw [g1,hkt]
     exact (pK _).symm
  ·by_cases hkt : t.keep=true
   ·exact absurd ((hall hkt x).2.2) h1
   ·have hkt : t.keep=false:=by simpa using hkt
    show oG x (aAg kl s.nl (iP l t.lists) (s.killL a.ls).lists)=_
    rw [listL x,hkk hkt]
    rcases iD [] s.nl (t.lists.length - ([] : List Nat).length) x with ⟨i,g1,g2⟩ | ⟨i,g1,g2,g3,_⟩ | ⟨g1,_⟩
    ·simp at g2
    ·exact absurd ⟨by omega,by rw [hkk hkt] at hnl;omega⟩ h2
    ·rw [g1]
     simp only
     rw [iC,if_neg]
     intro hxm
     rcases lin x hxm with h | h
     ·exact h1 (hL x h).2
     ·exact h2 h
end
variable {l r : R} {d : DV}
theorem aLO : ∀ {cs : R} {cts : List OTy},PV.flatCs cts cs=true→∀ (j : Nat) c,cs[j]? = some c→PV.flatO (cts.getD j .leaf) c=true∨c.flat=true
 | [],_,_,j,c,h=>by simp at h
 | x::r,cts,h,j,c,hj=>by
   have tail : ∀ {b : Bool},(b&&PV.flatCs cts.tail r)=true→j≠0→PV.flatO (cts.getD j .leaf) c=true∨c.flat=true:=by
    intro b hb hj0
    simp only [Bool.and_eq_true] at hb
    obtain ⟨q,rfl⟩ : ∃ q,j=q+1:=⟨j - 1,by omega⟩
    have:=aLO hb.2 q c (by simpa using hj)
    cases cts with
    | nil=>simpa [List.getD] using this
    | cons o os=>simpa [List.getD] using this
   by_cases hj0 : j=0
   ·subst hj0
    simp at hj
    subst hj
    cases x with
    | lst xs=>
      unfold PV.flatCs at h
      simp only [Bool.and_eq_true] at h
      cases cts with
      | nil=>simp at h
      | cons o os=>
        cases o with
        | leaf=>simp at h
        | own s e g cts'=>exact .inl (by simpa [List.getD,PV.flatO] using h.1)
    | _=>unfold PV.flatCs at h;simp only [Bool.and_eq_true] at h;exact .inr h.1
   ·cases x<;>(unfold PV.flatCs at h;exact tail h hj0)
theorem aLP : ∀ {xs : R} {g : Bool} {cts : List OTy},PV.flatEs g cts xs=true→∀ (i : Nat) x,xs[i]? = some x→PV.flatE g cts x=true
 | [],_,_,_,i,x,h=>by simp at h
 | y::r,g,cts,h,i,x,hi=>by
   unfold PV.flatEs at h
   simp only [Bool.and_eq_true] at h
   cases i with
   | zero=>simp at hi;subst hi;exact h.1
   | succ i=>exact aLP h.2 i x (by simpa using hi)
theorem eO.flat {w : World} {Z Z' : NP} {o : OTy} {x : PV} {v : Value} {F : NP} (h : eO w Z o x v F) (hf : PV.flatO o x=true∨x.flat=true) (hn : ∀ r,F r→¬ Z' r) : eO w Z' o x v F:=by
 induction h with
 | leaf x v F h hF=>
   rcases hf with hf | hf
   ·simp [PV.flatO] at hf
   ·exact .leaf x v F (h.flat hf) hF
 | hole s e g cts v F h hF=>exact .hole s e g cts v F h hF
 | nil s e g cts F a hF=>exact .nil s e g cts F a hF
 | own s e g cts xs b o cap cells ety cv fp F hh hs ho hl hz he hc hv hr hF hb hd ih=>
   have hf : PV.flatEs g cts xs=true:=by
    rcases hf with hf | hf
    ·simpa [PV.flatO] using hf
    ·simp [PV.flat] at hf
   refine .own s e g cts xs b o cap cells ety cv fp F hh hs ho hl (hn b ((hF b).2 (.inl rfl))) he hc hv (λi j x hx hj=>?_) hF hb hd
   have hi : i<xs.length:=(List.getElem?_eq_some_iff.1 hx).1
   refine ih i j x hx hj ?_ (λr hr=>hn r ((hF r).2 (.inr ⟨i,j,hi,hj,hr⟩)))
   have hfe:=aLP hf i x hx
   have hel:=he i x hx
   cases g with
   | true=>
     obtain ⟨cs,rfl,hlen⟩:=aEa hel
     rw [jO]
     unfold PV.flatE at hfe
     simp only [Bool.true_and] at hfe
     have hj' : cs[j]? = some (cs[j]'(by omega)):=List.getElem?_eq_getElem (by omega)
     have hg : cs.getD j .hole=cs[j]'(by omega):=by rw [List.getD,hj'];rfl
     rw [hg]
     exact aLO hfe j _ hj'
   | false=>
     have hs1:=aHv hel
     have hj0 : j=0:=by omega
     subst hj0
     show PV.flatO (cts.getD 0 .leaf) x=true∨x.flat=true
     cases x with
     | lst ys=>
       unfold PV.flatE at hfe
       cases cts with
       | nil=>simp at hfe
       | cons o os=>
         cases o with
         | leaf=>simp at hfe
         | own s' e' g' cts'=>exact .inl (by simpa [List.getD,PV.flatO] using hfe)
     | agg cs=>unfold PV.flatE at hfe;simp at hfe
     | _=>unfold PV.flatE at hfe;simp only [Bool.not_false,Bool.true_and] at hfe;exact .inr hfe
inductive aDs (l : R) : DV→Prop
 | p (k : IntKind) (i : Int) : (gd l i.toNat).flat=true→aDs l (.p (.int k i))
 | ref (n : Nat) (path : jW) : aDs l (.ref n path)
 | agg (cs : List DV) : (∀ c∈cs,aDs l c)→aDs l (.agg cs)
 | tup (cs : List DV) : (∀ c∈cs,aDs l c)→aDs l (.tup cs)
theorem vB {l : R} : ∀ {cs : List DV} {k : OR} {r : R},cP l cs k=some r→(∀ c∈cs,aDs l c)∧k=some r
 | [],k,r,h=>⟨by simp,h⟩
 | .p (.int kk i)::cs,k,r,h=>by
  unfold cP at h
  obtain ⟨hf,h'⟩:=aEm h
  obtain ⟨h1,h2⟩:=vB h'
  refine ⟨λc hc=>?_,h2⟩
  rcases List.mem_cons.1 hc with rfl | hc
  ·exact .p _ _ hf
  ·exact h1 c hc
 | .ref n path::cs,k,r,h=>by
  unfold cP at h
  obtain ⟨h1,h2⟩:=vB h
  refine ⟨λc hc=>?_,h2⟩
  rcases List.mem_cons.1 hc with rfl | hc
  ·exact .ref _ _
  ·exact h1 c hc
 | .p (.bool _)::_,_,_,h=>by simp [cP] at h
 | .p (.str _)::_,_,_,h=>by simp [cP] at h
 | .p .nil::_,_,_,h=>by simp [cP] at h
 | .p .nilf::_,_,_,h=>by simp [cP] at h
 | .p (.agg _)::_,_,_,h=>by simp [cP] at h
 | .p (.lst _)::_,_,_,h=>by simp [cP] at h
 | .p (.bx _)::_,_,_,h=>by simp [cP] at h
 | .p (.fn _ _)::_,_,_,h=>by simp [cP] at h
 | .p (.tup _)::_,_,_,h=>by simp [cP] at h
 | .p .hole::_,_,_,h=>by simp [cP] at h
 | .nils::_,_,_,h=>by simp [cP] at h
 | .agg _::_,_,_,h=>by simp [cP] at h
 | .tup _::_,_,_,h=>by simp [cP] at h
 | .fn _ _::_,_,_,h=>by simp [cP] at h
 | .ptr _ _::_,_,_,h=>by simp [cP] at h
 | .sref _ _ _ _::_,_,_,h=>by simp [cP] at h
 | .eptr _ _ _ _::_,_,_,h=>by simp [cP] at h
 | .fptr _ _ _ _::_,_,_,h=>by simp [cP] at h
 | .bptr _ _::_,_,_,h=>by simp [cP] at h
 | .gptr _ _ _ _::_,_,_,h=>by simp [cP] at h
 | .nilq _ _::_,_,_,h=>by simp [cP] at h
 | .bsl _ _::_,_,_,h=>by simp [cP] at h
 | .dead::_,_,_,h=>by simp [cP] at h
theorem xI {l : R} : ∀ {cs : List DV} {k : OR} {r : R},oP l cs k=some r→(∀ c∈cs,aDs l c)∧k=some r
 | [],k,r,h=>⟨by simp,h⟩
 | d::cs,k,r,h=>by
   have one : ∀ {d : DV},cP l [d] (oP l cs k)=some r→(∀ c∈d::cs,aDs l c)∧k=some r:=by
    intro d h
    obtain ⟨h1,h2⟩:=vB h
    obtain ⟨h3,h4⟩:=xI h2
    refine ⟨λc hc=>?_,h4⟩
    rcases List.mem_cons.1 hc with rfl | hc
    ·exact h1 _ List.mem_cons_self
    ·exact h3 c hc
   cases d with
   | agg ds=>
     unfold oP at h
     obtain ⟨h1,h2⟩:=vB h
     obtain ⟨h3,h4⟩:=xI h2
     refine ⟨λc hc=>?_,h4⟩
     rcases List.mem_cons.1 hc with rfl | hc
     ·exact .agg _ h1
     ·exact h3 c hc
   | _=>exact one (by simpa only [oP] using h)
theorem aOX {k : OR} (h : aBY l d k=some r) : aDs l d∧k=some r:=by
 unfold aBY at h
 split at h
 ·obtain ⟨h1,h2⟩:=xI h
  exact ⟨.tup _ h1,h2⟩
 ·obtain ⟨h1,h2⟩:=xI h
  exact ⟨h1 _ List.mem_cons_self,h2⟩
theorem aGa {l : R} : ∀ {cs : List (Option tN)} {k : OR} {r : R},mW l cs k=some r→(∀ (i : Nat) w kk j,cs[i]? = some (some w)→w.c = .int kk j→PV.flatO w.o (gd l j.toNat)=true)∧k=some r
 | [],k,r,h=>⟨λi w kk j hi=>by simp at hi,h⟩
 | none::_,_,_,h=>by simp [mW] at h
 | some w::cs,k,r,h=>by
   unfold mW at h
   split at h
   ·rename_i kk j hc
    unfold aH at h
    split at h
    ·rename_i hf
     obtain ⟨h1,h2⟩:=aGa h
     refine ⟨λi w' kk' j' hi hc'=>?_,h2⟩
     cases i with
     | zero=>
       simp at hi
       subst hi
       rw [hc] at hc'
       cases hc'
       exact hf
     | succ i=>exact h1 i w' kk' j' (by simpa using hi) hc'
    ·cases h
   ·cases h
mutual
theorem aGy (l : R) : ∀ (ds : List DV),tQ l ds=ds.map (oN l)
 | []=>rfl
 | d::r=>by simp only [tQ,List.map_cons,aGy l r]
end
theorem aDs.rd {w : World} {Z Z' : NP} {ρ : Loc} {live live' : NP} (hl : ∀ x,live' x→live x) (hf : aDs l d) : ∀ {v : Value},fG w Z ρ live (oN l d) v→fG w Z' ρ live' (oN l d) v:=by
 induction hf with
 | p k i hfl=>
   intro v h
   simp only [oN] at h ⊢
   cases h with
   | p _ _ h=>exact .p _ _ (h.flat hfl)
 | ref n path=>
   intro v h
   simp only [oN] at h ⊢
   cases h with
   | ref _ _ _ h1 h2 h3=>exact .ref _ _ _ h1 h2 (λhv=>h3 (hl _ hv))
 | agg cs _ ih=>
   intro v h
   simp only [oN,aGy] at h ⊢
   cases h with
   | agg _ vs h1 h2 h3=>
     refine .agg _ vs h1 h2 (λi d v hd hv=>?_)
     rw [List.getElem?_map] at hd
     cases hc : cs[i]? with
     | none=>rw [hc] at hd;cases hd
     | some c=>
       rw [hc] at hd
       cases hd
       exact ih c (List.mem_of_getElem? hc) (h3 i _ v (by rw [List.getElem?_map,hc];rfl) hv)
 | tup cs _ ih=>
   intro v h
   simp only [oN,aGy] at h ⊢
   cases h with
   | tup _ vs h1 h3=>
     refine .tup _ vs h1 (λi d v hd hv=>?_)
     rw [List.getElem?_map] at hd
     cases hc : cs[i]? with
     | none=>rw [hc] at hd;cases hd
     | some c=>
       rw [hc] at hd
       cases hd
       exact ih c (List.mem_of_getElem? hc) (h3 i _ v (by rw [List.getElem?_map,hc];rfl) hv)
section
variable {P : Program} {X : Cx} {O : Orc}
theorem aQc (hS : aLN P X.mode O.S) {t : eX} {f : Nat} (hm : X.mode f=some t) (hwf : t.wf=true) {args : List DV} {s : St} {k : DV→St→OR} (h : aNB O t f args s k=some r) :
 pW P f∧∃ d' s',k d' s'=some r∧∀ (n : Nat) (m : bY) (B L WB WL : NP),tT m s B L n→s'.nb≤n+16→s'.nl≤n+16→aKS m s args→
  ∀ vs : Array Value,args.length=vs.size→(∀ (i : Nat) d v,args[i]? = some d→vs[i]? = some v→m.rd d v)→
    Calls P f vs m.w (λe w'=>∃ v,e = .returned v∧∃ m',m'.w=w'∧dF m m' s s' B L WB WL n id∧m'.rd d' v):=by
 unfold aNB at h
 obtain ⟨ps,h1,hpl,H⟩:=aBa h
 obtain ⟨l,hl,h2⟩:=bH h1
 obtain ⟨hflat,h3⟩:=aOX h2
 obtain ⟨hrows,hk⟩:=aGa h3
 obtain ⟨hcb,HS⟩:=hS f t _ _ l hm hl
 rw [eX.fit_nil rfl rfl] at HS
 refine ⟨hcb,_,_,hk,λn m B L WB WL sit hnb hnl hM vs hvl hrd=>?_⟩
 have hnl : s.nl+t.lists.length≤n+16:=hnl
 have sn1:=sit.nb
 have sn2:=sit.nl
 let m0 : bY:={ w:=m.w,Z:=λx=>m.Z x∨m.owned x,s:={ box:=λ_=>none,list:=λ_=>none},L:=λ_=>False,
                ρ:={ box:=λ_=>0,hdr:=λ_=>.nilFunc,fp:=λ_ _=>False,ty:=λ_=>.leaf,ub:=λ_=>False,ul:=λ_=>False}}
 have full0 : kC m0 ⟨[],[],0,0,0⟩ 0:={
  inv:={
   ub:=λ_ _ h=>by cases h
   ul:=λ_ _ h=>by cases h
   zlt:=sit.inv.zlt.next (λ_ h=>.inl h) (λ_ _=>rfl) λr hr=>hr.elim (sit.inv.zlt r) (λh=>sit.inv.owned_lt h)
   box:=λ_ _ h=>by cases h
   row:=λ_ _ h=>by cases h
   bz:=λ_ _ h=>by cases h
   bb:=λ_ _ _ _ h=>by cases h
   bl:=λ_ _ _ _ h=>by cases h
   ll:=λ_ _ _ _ _ h=>by cases h
   Lz:=λ_ h=>h.elim
   Lb:=λ_ _ _ h=>h
   Ll:=λ_ _ _ _ _ h=>h}
  box:=λ_=>rfl
  list:=λ_=>rfl
  ub:=λ_ h=>h.elim
  ul:=λ_ h=>h.elim}
 have own0 : ∀ r,¬ m0.owned r:=by
  rintro r (⟨_,_,h,_⟩ | ⟨_,_,h,_⟩ | h)
  ·cases h
  ·cases h
  ·exact h
 have hreps:=H m (λx=>m.Z x∨m.owned x) sit.inv hM (.inl λr hr=>.inr hr) (λr hr=>.inl hr) vs hvl hrd
 refine (HS m0 vs full0 (by rw [List.length_map];omega) (λi d v hd hv=>?_)).mono ?_
 ·rw [List.getElem?_map] at hd
  cases hp : ps[i]? with
  | none=>rw [hp] at hd;cases hd
  | some p=>rw [hp] at hd;cases hd;exact .p _ _ (hreps i p v hp hv)
 ·rintro e w' ⟨v,rfl,c,hw,cinv,fw,d,s0,a0,hread,hdv,hfull,hub,hul⟩
  obtain ⟨hless,lenB,lenL,HB,HO⟩:=eX.read_sound hread hwf
  have lenL : t.lists.length=a0.ls.length:=lenL.trans xH
  refine ⟨v,rfl,?_⟩
  have rowC : ∀ i w,c.s.list i=some w→∃ w0,t.lists[i]? = some (some w0)∧(iP l t.lists)[i]? = some (some w)∧PV.flatO w.o w.c=true:=by
   intro i w hi
   have hlt : i<t.lists.length:=by rw [lenL];exact hul i (cinv.ul i w hi)
   have hi':=hi
   rw [hfull.list i] at hi'
   cases hti : t.lists[i]'hlt with
   | none=>
     exfalso
     have : ∀ {cs : List (Option tN)} {k : OR} {r : R},mW l cs k=some r→∀ (j : Nat),cs[j]?≠some none:=by
      intro cs
      induction cs with
      | nil=>intro k r _ j;simp
      | cons x xs ih=>
        intro k r h j
        cases x with
        | none=>simp [mW] at h
        | some w=>
          unfold mW at h
          split at h
          ·unfold aH at h
           split at h
           ·cases j with
            | zero=>simp
            | succ j=>simpa using ih h j
           ·cases h
          ·cases h
     exact this h3 i (by rw [List.getElem?_eq_getElem hlt,hti])
   | some w0=>
     have ht : t.lists[i]? = some (some w0):=by rw [List.getElem?_eq_getElem hlt,hti]
     obtain ⟨x,w1,g1,g2,⟨kk,j,g3,g4⟩,g5⟩:=HO i w0 ht
     have g1 : (s0.pick a0).list i=some w1:=by
      have:=sP (n:=0) g1
      rw [Nat.zero_add] at this
      exact this
     rw [g1] at hi'
     cases hi'
     refine ⟨w0,ht,g2,?_⟩
     have:=hrows i w0 kk j ht g3
     rw [g4,g5] at this
     exact this
  let c1 : bY:={ w:=c.w,Z:=λx=>c.Z x∧(m.Z x∨m.w.heap.size≤x),s:={ box:=λ_=>none,list:=c.s.list},L:=λ_=>False,ρ:=c.ρ}
  have c1inv : sN c1:={
   ub:=λ_ _ h=>by cases h
   ul:=λl o h=>cinv.ul l o h
   zlt:=⟨λr hr=>cinv.zlt r hr.1,sit.inv.zlt.glob.mono (λr h=>⟨fw.zz r (.inl h),.inl h⟩) (λr h=>fw.keep r (Nat.lt_of_lt_of_le (sit.inv.zlt r h) (Nat.le_refl _)) (own0 r))⟩
   box:=λ_ _ h=>by cases h
   row:=λi o hi=>by
    have hi : c.s.list i=some o:=hi
    obtain ⟨g1,g2,g3⟩:=cinv.row i o hi
    obtain ⟨w0,_,_,hf⟩:=rowC i o hi
    exact ⟨g1,g2,g3.flat (.inl hf) (λr hr hz=>g3.notZ r hr hz.1)⟩
   bz:=λ_ _ h=>by cases h
   bb:=λ_ _ _ _ h=>by cases h
   bl:=λ_ _ _ _ h=>by cases h
   ll:=λl o l' o' r h h'=>cinv.ll l o l' o' r h h'
   Lz:=λ_ h=>h.elim
   Lb:=λ_ _ _ h=>h
   Ll:=λ_ _ _ _ _ h=>h}
  have c1own : ∀ r,c1.owned r→c.owned r:=by
   rintro r (⟨_,_,h,_⟩ | ⟨l,o,h,hr⟩ | h)
   ·cases h
   ·exact .inr (.inl ⟨l,o,h,hr⟩)
   ·exact h.elim
  let S : Sx:={ box:=m.s.box
                list:=λx=>match aCP s.nl t.lists.length x with | some i=>(iP l t.lists).getD i none | none=>m.s.list x}
  have freshL : ∀ x,s.nl≤x→x<s.nl+t.lists.length→¬ m.ρ.ul x:=λx h1 h2=>sit.fl x h1 (by omega)
  have cb0 : ∀ x,gP [] s.nb 0 x=none:=λx=>by
   unfold gP
   simp only [yR]
   rw [if_neg (by omega)]
  have listC : ∀ i w,(iP l t.lists)[i]? = some (some w)→c.s.list i=some w:=by
   intro i w hi
   obtain ⟨ts,hts⟩:=aAr l hi
   obtain ⟨x',w2,g1,g2,_⟩:=HO i ts hts
   rw [hi] at g2
   cases g2
   have g1 : (s0.pick a0).list i=some w:=by
    have:=sP (n:=0) g1
    rw [Nat.zero_add] at this
    exact this
   rw [← hfull.list i] at g1
   exact g1
  have came : aAW m c1 false [] [] [] s.nb 0 s.nl t.lists.length S:={
   kk:=λ_=>rfl
   kn:=List.nodup_nil
   ks:=by simp
   row:=λi l0 h=>by simp at h
   inv:=sit.inv
   cinv:=c1inv
   nb:=List.nodup_nil
   ab:=by simp
   al:=by simp
   size:=fw.size
   os:=fw.os
   tape:=fw.tape
   output:=fw.output
   keep:=λr hr _=>fw.keep r hr (own0 r)
   own:=λr hr=>.inr ((fw.own r (c1own r hr)).resolve_left (own0 r))
   z:=λr hr=>hr.2.imp id (λh=>.inr h)
   zz:=λr hr=>⟨fw.zz r (.inl hr),.inl hr⟩
   box:=λi b h=>by simp at h
   freshB:=λx h1 h2=>by omega
   freshL:=freshL
   sb:=λx cs hx=>.inr ⟨cb0 x,cs,hx,(List.map_id _).symm⟩
   sbx:=λx hx=>hx
   sl:=λx o hx=>by
    have hx : (match aCP s.nl t.lists.length x with | some i=>(iP l t.lists).getD i none | none=>m.s.list x)=some o:=hx
    rw [aHN]
    cases hcl : aCP s.nl t.lists.length x with
    | none=>rw [hcl] at hx;exact .inr ⟨rfl,by simp,hx⟩
    | some i=>
      rw [hcl] at hx
      exact .inl ⟨i,rfl,listC i o (getD_some hx)⟩}
  have listL : ∀ x,oG x (aLb s.nl (iP l t.lists) s.lists)=match aCP s.nl t.lists.length x with | some i=>(iP l t.lists).getD i none | none=>s.list x:=λx=>by
   have:=aLK (x:=x) (cs:=iP l t.lists) (n:=s.nl) (old:=s.lists)
   rw [zZ] at this
   exact this
  have hres : c1.rd (oN l t.res) v:=hflat.rd (λ_ h=>h) (hless c v hdv)
  refine ⟨m.back c1 [] [] s.nb 0 s.nl t.lists.length S,hw,?_,?_⟩
  ·refine {
    step:=by have:=came.step sn1 (by omega) sn2 hnl;exact this
    after:=⟨λx hx=>sit.ab x hx,λx hx=>?_,λ_ _ _=>rfl,λx h1 h2=>?_,λ_ _ _=>rfl,λx h1 h2=>?_⟩
    nb:=Nat.le_refl _
    nl:=Nat.le_add_right _ _
    ub:=λx hx hu=>hu.elim id (λh=>by omega)
    ul:=λx hx hu=>hu.elim id (λh=>by have hx : s.nl+t.lists.length≤x:=hx;omega)}
   ·show (match aCP s.nl t.lists.length x with | some i=>(iP l t.lists).getD i none | none=>m.s.list x)=oG x (aLb s.nl (iP l t.lists) s.lists)
    rw [listL x]
    cases aCP s.nl t.lists.length x with
    | some i=>rfl
    | none=>exact sit.al x hx
   ·show (match aCP s.nl t.lists.length x with | some i=>(iP l t.lists).getD i none | none=>m.s.list x)=_
    rcases aLL s.nl t.lists.length x with ⟨i,g1,g2,g3⟩ | ⟨g1,_⟩
    ·exact absurd ⟨by omega,by omega⟩ h2
    ·rw [g1]
   ·show oG x (aLb s.nl (iP l t.lists) s.lists)=_
    rw [listL x]
    rcases aLL s.nl t.lists.length x with ⟨i,g1,g2,g3⟩ | ⟨g1,_⟩
    ·exact absurd ⟨by omega,by omega⟩ h2
    ·rw [g1]
  ·refine fG.renum (ρ:=c1.ρ) (live:=c1.s.live) (λb b' hu hbb=>by cases hbb) (λl0 l' hu hll=>?_) cU hres
   unfold aUD at hll
   cases hll
   have hlt:=hul l0 hu
   rw [← lenL] at hlt
   have hcl : aCP s.nl t.lists.length (s.nl+l0)=some l0:=by
    unfold aCP
    rw [if_pos ⟨by omega,by omega⟩]
    congr 1
    omega
   refine ⟨.inr ⟨by omega,by omega⟩,λhv=>⟨?_,?_,?_,?_⟩⟩
   ·have hv : (match aCP s.nl t.lists.length (s.nl+l0) with | some i=>(iP l t.lists).getD i none | none=>m.s.list (s.nl+l0))≠none:=hv
    rw [hcl] at hv
    obtain ⟨w1,hw1⟩:=Option.ne_none_iff_exists'.1 hv
    have:=listC l0 w1 (getD_some hw1)
    show c.s.list l0≠none
    rw [this];simp
   ·show (match gP [] s.nl t.lists.length (s.nl+l0) with | some i=>c.ρ.hdr i | none=>_)=_
    rw [aHN,hcl]
   ·show (match gP [] s.nl t.lists.length (s.nl+l0) with | some i=>c.ρ.ty i | none=>_)=_
    rw [aHN,hcl]
   ·show (match gP [] s.nl t.lists.length (s.nl+l0) with | some i=>c.ρ.fp i | none=>_)=_
    rw [aHN,hcl]
end
variable {f l n nb nl : Nat} {args : List DV} {path : jW} {b : Bool} {kl : List Nat} {e : gJ} {s : St} {r : R} {m : bY} {vs : Array Value} {fn : Func} {c : Code} {out : Option eX}
section
variable {P : Program} {X : Cx} {O : Orc}
theorem aGz : ∀ (ds : List DV) (ts : List Nat) (s : St) (k : List DV→St→OR),aHs X ds ts s k=nD X ds (ts.map (kY X)) s k
 | [],ts,s,k=>by cases ts<;>rfl
 | d::ds,[],s,k=>rfl
 | d::ds,t::ts,s,k=>by
   unfold aHs nD
   simp only [List.map_cons]
   cases d<;>cases kY X t<;>simp only [aGz ds ts]
theorem aM1 (hP : aI6 P O.C) : ∀ ps r,O.C f ps=some r→pW P f∧∀ (w : World) (Z : NP) (bI us : Array Value),ZOk w Z→ps.length=bI.size→
 (∀ (i : Nat) x v,ps[i]? = some x→bI[i]? = some v→kX w Z x v)→([] : R).length=us.size→(∀ (i : Nat) x v,([] : R)[i]? = some x→us[i]? = some v→kX w Z x v)→
 Calls P f (bI++us) w (λe w'=>∃ v,e = .returned v∧∃ Z',aHL w w' Z Z'∧kX w' Z' (hd r) v):=by
 intro ps r h
 obtain ⟨h1,h2⟩:=hP f ps r h
 refine ⟨h1,λw Z bI us hz hl hr hu _=>?_⟩
 have : us = #[]:=Array.eq_empty_of_size_eq_zero hu.symm
 subst this
 rw [Array.append_empty]
 exact h2 w Z bI hz hl hr
theorem aEq (kp : Bool) (kl : List Nat) (t : Nat) (e : gJ) : (wD kp kl e).get t=eE kp kl (e.get t):=by
 unfold wD eE
 cases kp with
 | true=>exact aCI kl t e
 | false=>rfl
theorem aLQ {t : eX} {rest : List DV} (h : aFl t args=some (l,path,rest)) : args = .ref l path::rest∧path≠[]∧t.keep=true:=by
 unfold aFl at h
 split at h
 ·split at h
  ·rename_i hc
   cases h
   simp only [Bool.and_eq_true] at hc
   exact ⟨rfl,by simp,hc.1⟩
  ·cases h
 ·cases h
theorem aM2 (h : mem l kl=false) : eE b kl (.ref l path) = .ref l path:=by
 unfold eE
 cases b<;>simp [cU,scrub,aCv,h]
theorem aM3 : eE b kl (.ref l []) = .ref l []:=by
 unfold eE
 cases b<;>simp [cU,scrub,aCv]
theorem aQd (hP : aI6 P O.C) (hS : aLN P X.mode O.S) (hwf : ∀ g t,X.mode g=some t→t.wf=true) {ts : List Nat} {k : DV→gJ→St→OR} (h : aNC X O f args ts e s k=some r) :
 pW P f∧∃ d' e' s' scr,k d' e' s'=some r∧(∀ t,e'.get t=scr (e.get t))∧((match X.mode f with | some t=>{ eD s args (!t.lent) with last:=!t.lent&&t.keep} | none=>eD s args false).last=false→scr=_root_.id)∧∀ (n : Nat) (m : bY) (B L WB WL : NP),tT m s B L n→s'.nb≤n+16→s'.nl≤n+16→
  (∀ ft,ft=(match X.mode f with | some t=>{ eD s args (!t.lent) with last:=!t.lent&&t.keep} | none=>eD s args false)→ft.Cov B L WB WL∧(ft.ok=true∨∀ x,B x∧L x))→
  ∀ vs : Array Value,args.length=vs.size→(∀ (i : Nat) d v,args[i]? = some d→vs[i]? = some v→m.rd d v)→
    Calls P f vs m.w (λe w'=>∃ v,e = .returned v∧∃ m',m'.w=w'∧dF m m' s s' B L WB WL n scr∧m'.rd d' v):=by
 unfold aNC at h
 split at h
 ·rename_i hmode
  unfold aPH at h
  obtain ⟨hcb,d',hk,H⟩:=aP9 (caps:=[]) (k:=λd s=>k d e s) (aM1 hP) h
  refine ⟨hcb,d',e,s,_root_.id,hk,λ_=>rfl,λ_=>rfl,λn m B L WB WL sit _ _ hft vs hl hr=>?_⟩
  obtain ⟨C,hok⟩:=hft _ rfl
  rw [hmode] at C hok
  have:=H n m B L WB WL sit (aOV sit C hok) vs #[] hl hr rfl (λi x v h=>by simp at h)
  rwa [Array.append_empty] at this
 ·rename_i t hmode
  split at h
  ·rename_i hlent
   obtain ⟨hcb,d',s',hk,H⟩:=aQc hS hmode (hwf f t hmode) h
   refine ⟨hcb,d',e,s',_root_.id,hk,λ_=>rfl,λ_=>rfl,λn m B L WB WL sit hnb hnl hft vs hl hr=>?_⟩
   obtain ⟨C,hok⟩:=hft _ rfl
   rw [hmode] at C hok
   simp only [hlent,Bool.not_true,Bool.false_and] at C hok
   exact H n m B L WB WL sit hnb hnl (aOV sit C hok) vs hl hr
  ·rename_i hlent
   have hlent : t.lent=false:=by simpa using hlent
   split at h
   ·rename_i l path rest hna
    obtain ⟨hargs,hpath,hkeep⟩:=aLQ hna
    subst hargs
    obtain ⟨s1,h1,hs1,_,HLV⟩:=aDr hpath h
    obtain ⟨hcb,d',s2,kl,hk2,hs2,H⟩:=aJ0 hS hmode (hwf f t hmode) h1
    split at hk2
    ·cases hk2
    rename_i hnk
    obtain ⟨s3,hk3,hnl3,hnb3,HB⟩:=aLy hpath hk2
    refine ⟨hcb,d',wD t.keep kl e,s3,eE t.keep kl,hk3,λt'=>aEq t.keep kl t' e,λhla=>?_,λn m B L WB WL sit hnb hnl hft vs hl hr=>?_⟩
    ·rw [hmode] at hla
     simp only [hlent,Bool.not_false,Bool.true_and] at hla
     rw [hkeep] at hla;cases hla
    obtain ⟨C,hok⟩:=hft _ rfl
    rw [hmode] at C hok
    simp only [hlent,Bool.not_false,Bool.true_and] at C hok
    have hall:=C.all hkeep
    have hsz : 0<vs.size:=by rw [← hl];simp
    have hv0:=hr 0 _ vs[0] rfl (Array.getElem?_eq_getElem hsz)
    obtain ⟨m1,hw1,G1,hd1⟩:=HLV n m B L WB WL sit (by omega) ⟨(hall l).2.1,(hall l).2.2.2⟩ _ hv0
    have sit1:=G1.sit sit
    have:=H n m1 B L WB WL sit1 (by omega) (by omega) sit.nl (λb _=>⟨(hall b).1,(hall b).2.2.1⟩) (λl _=>⟨(hall l).2.1,(hall l).2.2.2⟩) (λ_ x=>⟨⟨(hall x).1,(hall x).2.2.1⟩,⟨(hall x).2.1,(hall x).2.2.2⟩⟩) vs (by simpa using hl) (λi d v h1 h2=>by
     cases i with
     | zero=>
       rw [Array.getElem?_eq_getElem hsz] at h2
       cases h1;cases h2;exact hd1
     | succ i=>exact G1.step.rd _ _ (hr (i+1) d v h1 h2))
    rw [hw1] at this
    refine this.mono ?_
    rintro e w' ⟨v,rfl,m',hw,G,hd⟩
    have sit2:=G.sit sit1
    have g1 : m'.rd (.ref l path) vs[0]:=by
     have : m'.rd (eE t.keep kl (.ref l path)) vs[0]:=G.step.rd _ _ (G1.step.rd _ _ hv0)
     rwa [aM2 (by simpa using hnk)] at this
    have g2 : m'.rd (.ref s.nl []) vs[0]:=by
     have : m'.rd (eE t.keep kl (.ref s.nl [])) vs[0]:=G.step.rd _ _ hd1
     rwa [aM3] at this
    obtain ⟨m3,hw3,G3⟩:=HB n m' B L WB WL sit2 ⟨(hall l).2.1,(hall l).2.2.2⟩ ⟨(hall _).2.1,(hall _).2.2.2⟩ _ g1 g2
    exact ⟨v,rfl,m3,hw3.trans hw,(G1.trans G).trans G3,G3.step.rd _ _ hd⟩
   rw [aGz] at h
   obtain ⟨ds',s1,h1,hlen,hms,HM⟩:=qU h
   obtain ⟨hcb,d',s',kl,hk,hs1,H⟩:=aJ0 hS hmode (hwf f t hmode) h1
   refine ⟨hcb,d',wD t.keep kl e,s',eE t.keep kl,hk,λt'=>aEq t.keep kl t' e,λhla=>?_,λn m B L WB WL sit hnb hnl hft vs hl hr=>?_⟩
   ·rw [hmode] at hla
    simp only [hlent,Bool.not_false,Bool.true_and] at hla
    unfold eE
    rw [hla];rfl
   obtain ⟨C,hok⟩:=hft _ rfl
   rw [hmode] at C hok
   simp only [hlent,Bool.not_false,Bool.true_and] at C hok
   obtain ⟨m1,M1,hr1⟩:=HM n m sit.inv sit.nl (by omega) sit.fl vs.toList (λi d u h1 h2=>hr i d u h1 (by simpa using h2))
   have G1:=M1.goes WB WL sit hms (by omega)
   have sit1:=G1.sit sit
   have hwb : (eD s args true).wb=(eD s args true).rb:=rfl
   have hwl : (eD s args true).wl=(eD s args true).rl:=rfl
   have:=H n m1 B L WB WL sit1 hnb hnl sit.nl (λb hb=>⟨C.rb b hb,C.wb b (by show b∈(eD s args true).wb;rw [hwb];exact hb)⟩) (λl hl=>⟨C.rl l hl,C.wl l (by show l∈(eD s args true).wl;rw [hwl];exact hl)⟩) (λhkp x=>⟨⟨(C.all hkp x).1,(C.all hkp x).2.2.1⟩,⟨(C.all hkp x).2.1,(C.all hkp x).2.2.2⟩⟩) vs (by omega) (λi d v h1 h2=>hr1 i d v h1 (by simpa using h2))
   rw [M1.w] at this
   refine this.mono ?_
   rintro e w' ⟨v,rfl,m',hw,G,hd⟩
   exact ⟨v,rfl,m',hw,G1.trans G,hd⟩
theorem aRQ (hP : aI6 P O.C) (hS : aLN P X.mode O.S) (hwf : ∀ g t,X.mode g=some t→t.wf=true) : aHH P X O:=by
 intro d args ts e s k r h
 unfold aIL at h
 split at h
 ·rename_i f caps
  obtain ⟨hcb,d',e',s',scr,hk,he,hid,H⟩:=aQd hP hS hwf h
  have hfeq : aAh X (.fn f caps) args s=(match X.mode f with | some t=>{ eD s (args++caps) (!t.lent) with last:=!t.lent&&t.keep} | none=>eD s (args++caps) false):=by
   unfold aAh
   simp only
   cases X.mode f<;>rfl
  refine ⟨d',e',s',scr,hk,he,λhla=>hid (by rw [← hfeq];exact hla),λn m B L WB WL sit hnb hnl C hok vf vs hvf hl hr=>?_⟩
  cases hvf with
  | fn _ _ us hul hur=>
    have e1 : (do let df ← Deferred.ofValue (.func (.func f) #[] us.toArray) vs;invoke df.target df.args : Sem Next).run P m.w = .ok (.enter f (vs++us.toArray)) m.w:=by
     simp [Deferred.ofValue,invoke,aHK hcb]
    rw [e1]
    refine (H n m B L WB WL sit hnb hnl (λft hft=>?_) (vs++us.toArray) (by simp;omega) (λi d v hd hv=>?_))
    ·rw [hfeq,← hft] at C hok
     exact ⟨C,hok⟩
    ·rw [Array.getElem?_append] at hv
     split at hv
     ·rename_i hi
      rw [List.getElem?_append_left (by omega)] at hd
      exact hr i d v hd hv
     ·rename_i hi
      rw [List.getElem?_append_right (by omega)] at hd
      refine hur (i - args.length) d v hd ?_
      rw [hl]
      simpa using hv
 ·rename_i v
  cases v with
  | fn f caps=>
    obtain ⟨hcb,d',hk,H⟩:=aP9 (P:=P) (f:=f) (C:=λvs=>PV.apply O.C (.fn f caps) vs) (caps:=caps) (k:=λd s=>k d e s) (λps r0 h0=>by
     have h0 : O.C f (ps++caps)=some r0:=h0
     obtain ⟨h1,h2⟩:=hP f _ _ h0
     refine ⟨h1,λw Z bI us hz hl hr hul hur=>h2 w Z (bI++us) hz (by simp;omega) (λi x v hx hv=>?_)⟩
     rw [Array.getElem?_append] at hv
     split at hv
     ·rw [List.getElem?_append_left (by omega)] at hx
      exact hr i x v hx hv
     ·rw [List.getElem?_append_right (by omega)] at hx
      exact hur (i - ps.length) x v hx (by rw [hl];exact hv)) h
    refine ⟨d',e,s,id,hk,λ_=>rfl,λ_=>rfl,λn m B L WB WL sit hnb hnl C hok vf vs hvf hl hr=>?_⟩
    cases hvf with
    | p _ _ hvf=>cases hvf with
      | fn _ _ us hul hur=>
        have e1 : (do let df ← Deferred.ofValue (.func (.func f) #[] us.toArray) vs;invoke df.target df.args : Sem Next).run P m.w = .ok (.enter f (vs++us.toArray)) m.w:=by
         simp [Deferred.ofValue,invoke,aHK hcb]
        rw [e1]
        exact H n m B L WB WL sit (aOV (ds:=args) (wr:=false) sit C hok) vs us.toArray hl hr (by simpa using hul) (λi x v hx hv=>hur i x v hx (by simpa using hv))
  | _=>
    exfalso
    split at h<;>
    ·obtain ⟨ps,h1,_⟩:=aBa (s:=s) h
     obtain ⟨r0,hr0,_⟩:=bH h1
     simp [PV.apply] at hr0
 ·cases h
end
structure Hyp (P : Program) (T : pS) (H : aF3) : Prop where
 tab : T=aM P
 zero : qC P H.zok
 mixed : P.follows .mixedOrders=true
 code : ∀ (f : Nat) (fn : Func) (c : Code),P.funcs[f]? = some fn→fn.body=some c→lP fn.ntmps c=true∧fn.name≠ "runtime.NumGoroutine"
 prim : aI6 P λg args=>(H.prim g).bind λp=>p args
 primS : ∀ g h,H.primS g=some h→∀ t args s l,H.mode g=some t→h args s=some l→pW P g∧∀ (m : bY) (bI : Array Value),kC m s s.base→args.length=bI.size→
  (∀ (i : Nat) d v,args[i]? = some d→bI[i]? = some v→m.rd d v)→Calls P g bI m.w (λe w'=>∃ v,e = .returned v∧wN m s.boxes.length (if t.keep then s.lists.length else 0) (some (t.fit s)) l v w')
 glob : ∀ g,H.glob g=none
 wf : ∀ g t,H.mode g=some t→t.wf=true
section
variable {P : Program} {T : pS} {H : aF3}
theorem aLR : ∀ (ds : List DV) (n t : Nat),(qB n ds).get t=if n≤t then ds.getD (t - n) .dead else .dead
 | [],n,t=>by simp [qB,gJ.get]
 | d::r,n,t=>by
   unfold qB
   simp only [gJ.get]
   by_cases h : t=n
   ·subst h;simp
   ·have hb : Nat.beq t n=false:=by
     cases hb : Nat.beq t n with
     | false=>rfl
     | true=>exact absurd (dH hb) h
    rw [hb]
    simp only [Bool.false_eq_true,if_false]
    rw [aLR]
    by_cases h2 : n≤t
    ·rw [if_pos h2,if_pos (by omega),show t - n=t - (n+1)+1 by omega]
     simp [List.getD]
    ·rw [if_neg h2,if_neg (by omega)]
theorem aQe (hl : args.length=vs.size) (hr : ∀ (i : Nat) d v,args[i]? = some d→vs[i]? = some v→m.rd d v) :
 lI m (qB 0 args).get ⟨vs++Array.replicate n undef,[]⟩:=by
 intro t
 rw [aLR,if_pos (Nat.zero_le _),Nat.sub_zero]
 by_cases h : t<args.length
 ·have hd : args[t]? = some args[t]:=List.getElem?_eq_getElem h
  have hv : vs[t]? = some (vs[t]'(by omega)):=Array.getElem?_eq_getElem (by omega)
  have e1 : args.getD t .dead=args[t]:=by rw [List.getD,hd];rfl
  have e2 : Act.eval ⟨vs++Array.replicate n undef,[]⟩ (.tmp t)=vs[t]'(by omega):=by
   show (vs++Array.replicate n undef).getD t undef=_
   rw [Array.getD_eq_getD_getElem?,Array.getElem?_append_left (by omega),hv];rfl
  rw [e1,e2]
  exact hr t _ _ hd hv
 ·have e1 : args.getD t .dead = .dead:=by rw [List.getD,List.getElem?_eq_none (by omega)];rfl
  rw [e1]
  exact .dead _
theorem aGb (hfn : P.funcs[f]? = some fn) (hc : fn.body=some c) (hg : aWd P f nb nl out [.code c] (qB 0 args) s r)
 (hf : kC m s s.base) (hl : args.length=vs.size) (hr : ∀ (i : Nat) d v,args[i]? = some d→vs[i]? = some v→m.rd d v) :
   Calls P f vs m.w (λe w'=>∃ v,e = .returned v∧wN m nb nl out r v w'):=by
  intro cs
  let b : Frame:={ (default : Frame) with fn:=f,kind:=.normal}
  have henter : Frame.enter P f vs .normal=b.at ⟨vs++Array.replicate (fn.ntmps - vs.size) undef,[]⟩ [.code c]:=by
   simp [Frame.enter,Frame.at,hfn,hc,b]
  obtain ⟨v,w',fr,h1,h2,h3,h4⟩:=hg m ⟨vs++Array.replicate (fn.ntmps - vs.size) undef,[]⟩ fn hfn hf (aQe hl hr) (by simp;omega) rfl b cs rfl rfl
  rw [← henter] at h2
  exact ⟨.returned v,w',fr,⟨v,rfl,h1⟩,h2,h3,h4⟩
theorem aGA (h : zD P T H n f nb nl out (kD P f) e s=some r) : ∃ fn c,P.funcs[f]? = some fn∧fn.body=some c∧kD P f = [.code c]:=by
 cases hb : aOA P f with
 | none=>
   exfalso
   cases n with
   | zero=>simp [zD] at h
   | succ n=>
     unfold zD at h
     have hs : kD P f = [.code (.refuse "")]:=by unfold kD;rw [hb]
     rw [hs] at h
     unfold jY eval at h
     simp at h
 | some c=>
   have hs : kD P f = [.code c]:=by unfold kD;rw [hb]
   unfold aOA at hb
   cases hf : P.funcs[f]? with
   | none=>rw [hf] at hb;cases hb
   | some fn=>rw [hf] at hb;exact ⟨fn,c,rfl,hb,hs⟩
theorem aW5 (hy : Hyp P T H) {g : Nat} (hg : P.funcs[g]? = some fn) (hc : fn.body=some c) : sF fn.ntmps [.code c]:=λx hx=>by
 simp at hx;subst hx;exact (hy.code _ _ _ hg hc).1
def aSG (P : Program) (run : Nat→Nat→Nat→Option eX→List Item→gJ→St→OR) : Prop:=∀ (f nb nl : Nat) (out : Option eX) (todo : List Item) (e : gJ) (s : St) (r : R) (fn : Func),run f nb nl out todo e s=some r→P.funcs[f]? = some fn→sF fn.ntmps todo→aWd P f nb nl out todo e s r
def aUS (P : Program) (run : Nat→Nat→Nat→Option eX→List Item→gJ→St→OR) : Prop:=∀ {f nb nl : Nat} {out : Option eX} {e : gJ} {s : St} {r : R},run f nb nl out (kD P f) e s=some r→∃ fn c,P.funcs[f]? = some fn∧fn.body=some c∧kD P f = [.code c]
variable {run : Nat → Nat → Nat → Option eX → List Item → gJ → St → OR}
theorem aQf (hy : Hyp P T H) (hrun : aSG P run) (hst : aUS P run) (f nb nl : Nat) (out : Option eX) : aI6 P (yS P H run f nb nl out).C:=by
 intro g args r h
 have h : (match H.prim g with | some h=>h args | none=>run g 0 0 none (kD P g) (qB 0 (args.map .p)) ⟨[],[],0,0,0⟩)=some r:=h
 cases hpr : H.prim g with
 | some p=>
   rw [hpr] at h
   exact hy.prim g args r (by simp only [hpr,Option.bind_some];exact h)
 | none=>
 rw [hpr] at h
 simp only at h
 obtain ⟨fg,c,hfg,hc,hst'⟩:=hst h
 rw [hst'] at h
 have good:=hrun g 0 0 none _ _ _ r fg h hfg (aW5 hy hfg hc)
 refine ⟨⟨fg,c,hfg,hc,(hy.code _ _ _ hfg hc).2⟩,λw Z bI hz hl hr=>?_⟩
 let m0 : bY:={ w:=w,Z:=Z,s:={ box:=λ_=>none,list:=λ_=>none},L:=λ_=>False,
                ρ:={ box:=λ_=>0,hdr:=λ_=>.nilFunc,fp:=λ_ _=>False,ty:=λ_=>.leaf,ub:=λ_=>False,ul:=λ_=>False}}
 have full0 : kC m0 ⟨[],[],0,0,0⟩ 0:={
  inv:={
   ub:=λ_ _ h=>by cases h
   ul:=λ_ _ h=>by cases h
   zlt:=hz
   box:=λ_ _ h=>by cases h
   row:=λ_ _ h=>by cases h
   bz:=λ_ _ h=>by cases h
   bb:=λ_ _ _ _ h=>by cases h
   bl:=λ_ _ _ _ h=>by cases h
   ll:=λ_ _ _ _ _ h=>by cases h
   Lz:=λ_ h=>h.elim
   Lb:=λ_ _ _ h=>h
   Ll:=λ_ _ _ _ _ h=>h}
  box:=λ_=>rfl
  list:=λ_=>rfl
  ub:=λ_ h=>h.elim
  ul:=λ_ h=>h.elim}
 have own0 : ∀ r,¬ m0.owned r:=by
  rintro r (⟨_,_,h,_⟩ | ⟨_,_,h,_⟩ | h)
  ·cases h
  ·cases h
  ·exact h
 refine (aGb hfg hc good (m:=m0) (vs:=bI) full0 (by simpa using hl) (λi d v hd hv=>?_)).mono ?_
 ·rw [List.getElem?_map] at hd
  cases hp : args[i]? with
  | none=>rw [hp] at hd;cases hd
  | some p=>rw [hp] at hd;cases hd;exact .p _ _ (hr i p v hp hv)
 ·rintro e w' ⟨v,rfl,m',rfl,inv',fw,pv,rfl,hrep⟩
  refine ⟨v,rfl,λx=>m'.Z x∨m'.owned x,⟨fw.size,fw.os,fw.tape,fw.output,λr hr=>fw.keep r hr (own0 r),λr hr=>.inl (fw.zz r hr),λr hr=>?_⟩,hrep⟩
  rcases hr with hr | hr
  ·rcases fw.z r hr with h | h | h
   ·exact .inl h
   ·exact (own0 r h).elim
   ·exact .inr ⟨h,inv'.zlt r hr⟩
  ·exact .inr ⟨(fw.own r hr).resolve_left (own0 r),inv'.owned_lt hr⟩
theorem aUT (hy : Hyp P T H) (hrun : aSG P run) (hst : aUS P run) (f nb nl : Nat) (out : Option eX) : aLN P H.mode (yS P H run f nb nl out).S:=by
 intro g t args s l hmode h
 have h : (match H.mode g with | some t=>(match H.primS g with | some h=>h args s | none=>run g s.boxes.length (if t.keep then s.lists.length else 0) (some (t.fit s)) (kD P g) (qB 0 args) s) | none=>none)=some l:=h
 rw [hmode] at h
 simp only at h
 cases hps : H.primS g with
 | some p=>
   rw [hps] at h
   exact hy.primS g p hps t args s l hmode h
 | none=>
 rw [hps] at h
 simp only at h
 obtain ⟨fg,c,hfg,hc,hst'⟩:=hst h
 rw [hst'] at h
 have good:=hrun g s.boxes.length (if t.keep then s.lists.length else 0) (some (t.fit s)) _ _ _ l fg h hfg (aW5 hy hfg hc)
 exact ⟨⟨fg,c,hfg,hc,(hy.code _ _ _ hfg hc).2⟩,λm bI hf hl hr=>aGb hfg hc good hf hl hr⟩
theorem aNV (hy : Hyp P T H) : ∀ (n : Nat),aSG P (zD P T H n)
 | 0,_,_,_,_,_,_,_,_,_,h,_,_=>by simp [zD] at h
 | n+1,f,nb,nl,out,todo,e,s,r,fn,h,hfn,hok=>by
   unfold zD at h
   have ih:=aNV hy n
   have hP:=aQf hy ih aGA f nb nl out
   have hS:=aUT hy ih aGA f nb nl out
   refine aLI (X:=aIP P T H f nb nl out) (O:=yS P H (zD P T H n) f nb nl out) hy.tab hy.zero hy.glob (aRQ hP hS hy.wf) hy.mixed hfn ?_ (λtodo e s r h hk=>ih f nb nl out todo e s r fn h hfn hk) jY true todo e s r h hok
   show ((P.funcs[f]?).map (·.results.toList)).getD []=_
   rw [hfn];rfl
end
variable {c r : PV} {o : OTy} {m off t b l f te : Nat} {d x a v i src : DV} {k : DV → OR} {k' : Nat → DV → OR} {s : St} {ds : List DV} {e : gJ} {path : jW} {w : tN} {ps : List (Nat × DV)} {op : BinOp} {lo hi : Option DV} {q : Option (PV × PV)}
def aY {β : Type} (a : Option β) (b : Nat→Option β) : Prop:=∀ r,a=some r→∃ N,∀ n,N≤n→b n=some r
section
variable {α β : Type}
theorem aY.none {b : Nat→Option β} : aY (Option.none : Option β) b:=λr h=>by cases h
theorem aY.rfl (a : Option β) : aY a (λ_=>a):=λr h=>⟨0,λ_ _=>h⟩
theorem aY.bd {o : Option α} {k : α→Option β} {k' : Nat→α→Option β} (h : ∀ a,aY (k a) (λn=>k' n a)) : aY (bd o k) (λn=>bd o (k' n)):=by
 cases o with
 | none=>exact aY.none
 | some a=>exact h a
theorem aY.bd2 {o : Option α} {o' : Nat→Option α} {k : α→Option β} {k' : Nat→α→Option β} (ho : aY o o') (h : ∀ a,aY (k a) (λn=>k' n a)) : aY (Go.Proofs.YtllmobkkbpdchaaGreatDoor.bd o k) (λn=>Go.Proofs.YtllmobkkbpdchaaGreatDoor.bd (o' n) (k' n)):=by
 intro r hr
 obtain ⟨a,ha,hk⟩:=bH hr
 obtain ⟨N,hN⟩:=ho a ha
 obtain ⟨M,hM⟩:=h a r hk
 refine ⟨max N M,λn hn=>?_⟩
 show Go.Proofs.YtllmobkkbpdchaaGreatDoor.bd (o' n) (k' n)=some r
 rw [hN n (by omega)]
 exact hM n (by omega)
theorem aY.pvite {a b : Option β} {a' b' : Nat→Option β} (ha : aY a a') (hb : aY b b') : aY (aV c a b) (λn=>aV c (a' n) (b' n)):=by
 intro r hr
 rcases aB8 hr with ⟨rfl,h⟩ | ⟨rfl,h⟩
 ·obtain ⟨N,hN⟩:=ha r h
  exact ⟨N,λn hn=>hN n hn⟩
 ·obtain ⟨N,hN⟩:=hb r h
  exact ⟨N,λn hn=>hN n hn⟩
theorem aY.nilT {c : PV} {a b : Option β} {a' b' : Nat→Option β} (ha : aY a a') (hb : aY b b') : aY (cC c a b) (λn=>cC c (a' n) (b' n)):=by
 intro r hr
 obtain ⟨h1,h2⟩:=aNS hr
 obtain ⟨M,hM⟩:=hb r h2
 cases c with
 | lst xs=>
   cases xs with
   | nil=>
     obtain ⟨N,hN⟩:=ha r (h1 (Eq.refl _))
     refine ⟨max N M,λn hn=>?_⟩
     show @_root_.ite _ (a' n=b' n) (Classical.propDecidable _) (a' n) Option.none=some r
     rw [hN n (by omega),hM n (by omega),if_pos (Eq.refl _)]
   | cons x xs=>exact ⟨M,λn hn=>hM n hn⟩
 | _=>cases hr
theorem aY.ite {c : Prop} [Decidable c] {a b : Option β} {a' b' : Nat→Option β} (ha : aY a a') (hb : aY b b') : aY (if c then a else b) (λn=>if c then a' n else b' n):=by
 by_cases h : c
 ·simp only [h,if_true];exact ha
 ·simp only [h,if_false];exact hb
theorem aY.flat {a : Option β} {a' : Nat→Option β} (ha : aY a a') : aY (aE r a) (λn=>aE r (a' n)):=by
 unfold aE;exact aY.ite ha aY.none
theorem aY.own {a : Option β} {a' : Nat→Option β} (ha : aY a a') : aY (aH o r a) (λn=>aH o r (a' n)):=by
 unfold aH;exact aY.ite ha aY.none
end
section
variable {X : Cx}
theorem aHP {v : PV} : ∀ {m : Nat} {k : R→OR} {k' : Nat→R→OR},(∀ l,aY (k l) (λn=>k' n l))→aY (pJ.go v m k) (λn=>pJ.go v m (k' n))
 | 0,_,_,h=>h []
 | _+1,_,_,h=>by
   unfold pJ.go
   exact aHP λl=>aY.bd λc=>h _
theorem uK {k : List DV→OR} {k' : Nat→List DV→OR} (h : ∀ l,aY (k l) (λn=>k' n l)) : aY (pJ m d k) (λn=>pJ m d (k' n)):=by
 cases d<;>simp only [pJ]<;>first
  | exact aY.none
  | exact aY.ite (h _) aY.none
  | exact aY.bd λv=>aHP λl=>h _
theorem oT : ∀ {path : jW} {o : OTy} {c : PV} {k : OTy→PV→OR} {k' : Nat→OTy→PV→OR},(∀ o c,aY (k o c) (λn=>k' n o c))→aY (aCu o c path k) (λn=>aCu o c path (k' n))
 | [],_,_,_,_,h=>h _ _
 | (i,j)::r,o,c,k,k',h=>by
   unfold aCu
   exact aY.bd λx=>aY.ite (aY.bd λy=>oT h) (aY.ite (oT h) aY.none)
theorem wO : ∀ {path : jW} {o : OTy} {c y : PV} {k : PV→OR} {k' : Nat→PV→OR},(∀ c,aY (k c) (λn=>k' n c))→aY (aDH o c path y k) (λn=>aDH o c path y (k' n))
 | [],_,_,_,_,_,h=>h _
 | (i,j)::r,o,c,y,k,k',h=>by
   unfold aDH
   exact aY.bd λx=>aY.ite (aY.bd λz=>wO λz'=>aY.bd h) (aY.ite (wO λz'=>aY.bd h) aY.none)
theorem aAa {k : OTy→PV→OR} {k' : Nat→OTy→PV→OR} (h : ∀ o c,aY (k o c) (λn=>k' n o c)) : aY (aFM s d k) (λn=>aFM s d (k' n)):=by
 cases d<;>simp only [aFM]<;>try exact aY.none
 ·rename_i l path
  cases s.list l with
  | none=>exact aY.none
  | some w=>exact oT h
 ·rename_i l path lo hi
  cases s.list l with
  | none=>exact aY.none
  | some w=>exact oT λo c=>aY.bd λc=>h _ _
theorem aI8 {α β : Type} {f : α→(β→OR)→OR} (hf : ∀ a k (k' : Nat→β→OR),(∀ b,aY (k b) (λn=>k' n b))→aY (f a k) (λn=>f a (k' n))) :
 ∀ {l : List α} {k : List β→OR} {k' : Nat→List β→OR},(∀ b,aY (k b) (λn=>k' n b))→aY (aIH f l k) (λn=>aIH f l (k' n))
 | [],_,_,h=>h _
 | d::r,k,k',h=>by
   unfold aIH
   exact hf _ _ _ λv=>aI8 hf λvs=>h _
theorem aGB {s : St} : ∀ {m : Nat} {d : DV} {k : PV→OR} {k' : Nat→PV→OR},(∀ v,aY (k v) (λn=>k' n v))→aY (uV s m d k) (λn=>uV s m d (k' n))
 | 0,_,_,_,_=>by simp only [uV];exact aY.none
 | m+1,d,k,k',h=>by
   have mp:=λ{ds : List DV} {k : R→OR} {k' : Nat→R→OR} (h : ∀ v,aY (k v) (λn=>k' n v))=>aI8 (f:=uV s m) (λa k k' h=>aGB h) (l:=ds) h
   cases d<;>simp only [uV]<;>first
    | exact aY.none
    | exact h _
    | exact mp λvs=>h _
    | exact aAa λ_ c=>h _
    | skip
   ·rename_i b off
    cases off with
    | zero=>
      cases s.box b with
      | none=>exact aY.none
      | some cs=>exact mp λvs=>h _
    | succ n=>exact aY.none
   ·rename_i b n
    cases s.box b with
    | none=>exact aY.none
    | some cs=>exact aY.ite (mp λvs=>aY.bd λc=>h _) aY.none
theorem aAs {k : R→OR} {k' : Nat→R→OR} (h : ∀ v,aY (k v) (λn=>k' n v)) : aY (aDk s m ds k) (λn=>aDk s m ds (k' n)):=by
 unfold aDk
 exact aI8 (f:=uV s m) (λa k k' h=>aGB h) h
theorem aRR {k : PV→St→OR} {k' : Nat→PV→St→OR} (h : ∀ v s,aY (k v s) (λn=>k' n v s)) : aY (aJF s d k) (λn=>aJF s d (k' n)):=by
 unfold aJF
 cases pT cU d with
 | nil=>exact aGB λv=>h _ _
 | cons=>exact aY.none
theorem xR {ct : OTy} {k : PV→St→OR} {k' : Nat→PV→St→OR} (h : ∀ v s,aY (k v s) (λn=>k' n v s)) : aY (nU ct s d k) (λn=>nU ct s d (k' n)):=by
 cases ct with
 | leaf=>exact aRR h
 | own a b c e=>
   cases d<;>simp only [nU]<;>first
    | exact aY.none
    | exact h _ _
    | skip
   ·rename_i l path
    cases path with
    | nil=>
      dsimp only
      cases s.list l with
      | none=>exact aY.none
      | some w=>exact aY.ite (h _ _) aY.none
    | cons=>exact aY.none
   ·rename_i l path lo hi
    cases path with
    | nil=>
      dsimp only
      cases s.list l with
      | none=>exact aY.none
      | some w=>exact aY.ite (aY.bd λc=>h _ _) aY.none
    | cons=>exact aY.none
theorem aAt {o : OTy} : ∀ {ds : List DV} {s : St} {j : Nat} {k : R→St→OR} {k' : Nat→R→St→OR},(∀ v s,aY (k v s) (λn=>k' n v s))→aY (uD o s j ds k) (λn=>uD o s j ds (k' n))
 | [],_,_,_,_,h=>h _ _
 | d::r,s,j,k,k',h=>by
   unfold uD
   exact xR λv s=>aAt λvs s=>h _ _
theorem aLS {k : PV→St→OR} {k' : Nat→PV→St→OR} (h : ∀ v s,aY (k v s) (λn=>k' n v s)) : aY (aK8 o s d k) (λn=>aK8 o s d (k' n)):=by
 unfold aK8
 cases o.g with
 | true=>
   cases d<;>simp only [if_true]<;>first
    | exact aY.none
    | exact aY.ite (h _ _) aY.none
    | exact aY.ite (aAt λvs s=>h _ _) aY.none
 | false=>
   cases d<;>simp only [Bool.false_eq_true,if_false]<;>first
    | exact aY.none
    | exact xR h
theorem qA : ∀ {ds : List DV} {ts : List (Option Nat)} {s : St} {k : List DV→St→OR} {k' : Nat→List DV→St→OR},(∀ v s,aY (k v s) (λn=>k' n v s))→aY (nD X ds ts s k) (λn=>nD X ds ts s (k' n))
 | [],ts,s,k,k',h=>by cases ts<;>exact h _ _
 | d::ds,[],s,k,k',h=>h _ _
 | d::ds,t::ts,s,k,k',h=>by
   unfold nD
   cases d<;>cases t<;>exact qA λvs s=>h _ _
theorem aEr {l : Nat} {path : jW} {i : PV} {o : OTy} {x : PV} : ∀ {m off : Nat} {k : List DV→OR} {k' : Nat→List DV→OR},(∀ v,aY (k v) (λn=>k' n v))→aY (aD0 l path i o x m off k) (λn=>aD0 l path i o x m off (k' n))
 | 0,_,_,_,h=>h _
 | m+1,off,k,k',h=>by
   unfold aD0
   exact aY.ite (aY.bd λy=>aEr λds=>h _) (aEr λds=>h _)
theorem aLT {x : PV} {s : Nat} {g : Bool} {r : TyR} (h : ∀ v,aY (k v) (λn=>k' n v)) : aY (aLa x s g off r k) (λn=>aLa x s g off r (k' n)):=by
 unfold aLa
 exact aY.ite (aY.ite (h _) (aY.bd λy=>h _)) (aY.ite (aY.bd λy=>h _) (aY.ite (h _) aY.none))
theorem aJ1 {c : PV} : ∀ {m off : Nat} {k : R→OR} {k' : Nat→R→OR},(∀ v,aY (k v) (λn=>k' n v))→aY (aA1.cellsB c m off k) (λn=>aA1.cellsB c m off (k' n))
 | 0,_,_,_,h=>h _
 | m+1,off,k,k',h=>by
   unfold aA1.cellsB
   exact aY.bd λv=>aJ1 λl=>h _
theorem aRS (h : ∀ v,aY (k v) (λn=>k' n v)) : aY (aA1 X t a s k) (λn=>aA1 X t a s (k' n)):=by
 unfold aA1
 refine aY.ite aY.none ?_
 cases a<;>(try simp only)<;>first
  | exact aY.none
  | exact aY.ite (aJ1 λl=>h _) (aY.bd λy=>h _)
  | exact aLT h
  | skip
 ·rename_i b off
  cases s.box b with
  | none=>exact aY.none
  | some cs=>
    refine aY.ite (aY.ite (h _) aY.none) ?_
    cases cs[off]? with
    | none=>exact aY.none
    | some d=>exact h _
 ·rename_i l path i off
  cases s.list l with
  | none=>exact aY.none
  | some w=>
    exact oT λo c=>aY.bd λx=>aY.ite (aLT h) (aY.ite (aY.ite (aEr λds=>h _) aY.none)
     (aY.ite (aY.ite (aY.bd λy=>h _) (aY.ite (h _) aY.none)) (aY.ite (h _) aY.none)))
theorem aFs (h : ∀ v,aY (k v) (λn=>k' n v)) : aY (aOx d k) (λn=>aOx d (k' n)):=by
 cases d<;>simp only [aOx]<;>first
  | exact aY.none
  | exact h _
  | exact aY.bd λx=>h _
theorem aQg {k : St→OR} {k' : Nat→St→OR} (h : ∀ v,aY (k v) (λn=>k' n v)) : aY (aII X t b off v s k) (λn=>aII X t b off v s (k' n)):=by
 unfold aII
 simp only
 cases s.box b with
 | none=>exact aY.none
 | some cs=>
   refine aY.ite (aY.ite (uK λvs=>qA λvs s=>h _) (aY.ite (aFs λv=>?_) aY.none)) aY.none
   cases v<;>(try simp only)<;>first
    | exact h _
    | skip
   ·cases kY X t with
    | none=>exact aY.none
    | some u=>exact h _
   ·rename_i l path lo hi
    cases path with
    | cons=>exact h _
    | nil=>
      cases cs[off]? with
      | none=>exact h _
      | some d=>
        cases d<;>(try simp only)<;>first
         | exact h _
         | skip
        rename_i l' path'
        cases path' with
        | cons=>exact h _
        | nil=>
          refine aY.ite ?_ (h _)
          cases s.list l with
          | none=>exact aY.none
          | some w=>exact aY.bd λc=>h _
theorem aJ2 {m : Nat} {c i : PV} : ∀ {ys : R} {c : PV} {off : Nat} {k : PV→OR} {k' : Nat→PV→OR},(∀ v,aY (k v) (λn=>k' n v))→aY (jX.setAll m c i off ys k) (λn=>jX.setAll m c i off ys (k' n))
 | [],_,_,_,_,h=>h _
 | y::ys,c,off,k,k',h=>by
   unfold jX.setAll
   exact aY.bd λc=>aJ2 (c:=c) h
theorem aQh {k : gJ→St→OR} {k' : Nat→gJ→St→OR} (h : ∀ e s,aY (k e s) (λn=>k' n e s)) : aY (jX.fin e k l path w c s) (λn=>jX.fin e (k' n) l path w c s):=by
 unfold jX.fin
 refine wO λc'=>?_
 unfold aOv
 exact aY.ite (h _ _) (h _ _)
theorem aLU {i : PV} {k : gJ→St→OR} {k' : Nat→gJ→St→OR} (h : ∀ e s,aY (k e s) (λn=>k' n e s)) : aY (jX.setIn e k o ds off l path i s) (λn=>jX.setIn e (k' n) o ds off l path i s):=by
 unfold jX.setIn
 refine aAt λys s=>?_
 cases s.list l with
 | none=>exact aY.none
 | some w=>exact oT λo c=>aJ2 (c:=c) λc=>aQh h
theorem aEs {k : gJ→St→OR} {k' : Nat→gJ→St→OR} (h : ∀ e s,aY (k e s) (λn=>k' n e s)) : aY (jX X t a v e s k) (λn=>jX X t a v e s (k' n)):=by
 unfold jX
 refine aY.ite aY.none ?_
 cases a<;>(try simp only)<;>first
  | exact aY.none
  | exact aQg λs=>h _ _
  | skip
 rename_i l path i off
 cases s.list l with
 | none=>exact aY.none
 | some w=>
   refine oT λo c=>aY.ite (aLS λx s=>?_) (aY.ite (uK λds=>aLU h) (aY.ite (aFs λv=>aLU h) aY.none))
   cases s.list l with
   | none=>exact aY.none
   | some w=>exact oT λo c=>aY.bd λc=>aQh h
theorem aEt {fs : List (Nat × Nat)} : ∀ {ps : List (Nat × DV)} {cs : List DV} {k : List DV→OR} {k' : Nat→List DV→OR},(∀ v,aY (k v) (λn=>k' n v))→aY (aBz X fs ps cs k) (λn=>aBz X fs ps cs (k' n))
 | [],_,_,_,h=>h _
 | (i,v)::r,cs,k,k',h=>by
   unfold aBz
   cases fs[i]? with
   | none=>exact aY.none
   | some p=>exact aY.ite (aY.ite (uK λvs=>aEt h) (aY.ite (aFs λv=>aEt h) aY.none)) aY.none
theorem aJ3 {o : OTy} : ∀ {ds : List DV} {s : St} {k : R→St→OR} {k' : Nat→R→St→OR},(∀ v s,aY (k v s) (λn=>k' n v s))→aY (aGo o s ds k) (λn=>aGo o s ds (k' n))
 | [],_,_,_,h=>h _ _
 | d::r,s,k,k',h=>by
   unfold aGo
   exact aLS λv s=>aJ3 λvs s=>h _ _
theorem aCQ {dst : Option Nat} {k : DV→St→OR} {k' : Nat→DV→St→OR} (h : ∀ v s,aY (k v s) (λn=>k' n v s)) : aY (aJH X dst t d e s k) (λn=>aJH X dst t d e s (k' n)):=by
 cases d<;>simp only [aJH]<;>first
  | exact aY.none
  | exact h _ _
  | skip
 ·cases kY X t with
  | none=>exact h _ _
  | some u=>exact h _ _
 ·rename_i l path lo hi
  cases path with
  | cons=>exact h _ _
  | nil=>
    cases dst with
    | none=>exact h _ _
    | some t=>
      dsimp only
      generalize e.get t=d0
      cases d0<;>(try simp only)<;>first
       | exact h _ _
       | skip
      rename_i l' path'
      cases path' with
      | cons=>exact h _ _
      | nil=>
        refine aY.ite ?_ (h _ _)
        cases s.list l with
        | none=>exact aY.none
        | some w=>exact aY.bd λc=>h _ _
theorem aRT {c b : DV} {k : DV→St→OR} {k' : Nat→DV→St→OR} (h : ∀ v s,aY (k v s) (λn=>k' n v s)) : aY (aNE X c a b e s k) (λn=>aNE X c a b e s (k' n)):=by
 cases c<;>simp only [aNE]<;>first
  | exact aY.none
  | exact aY.pvite (aCQ h) (aCQ h)
theorem aQi {k : DV→St→OR} {k' : Nat→DV→St→OR} (h : ∀ v s,aY (k v s) (λn=>k' n v s)) : aY (aIN X t s k) (λn=>aIN X t s (k' n)):=by
 unfold aIN
 exact aY.ite (qA λcs s=>h _ _) aY.none
theorem aTD {k : DV→St→OR} {k' : Nat→DV→St→OR} (h : ∀ v s,aY (k v s) (λn=>k' n v s)) : aY (aTj X t x s k) (λn=>aTj X t x s (k' n)):=by
 unfold aTj
 exact aY.ite (uK λcs=>qA λcs s=>h _ _) (aFs λd=>qA λcs s=>h _ _)
theorem aOY (h : ∀ v,aY (k v) (λn=>k' n v)) : aY (aFm X t ps k) (λn=>aFm X t ps (k' n)):=by
 unfold aFm
 cases (X.T.at t).d<;>(try simp only)<;>first
  | exact aY.none
  | exact aY.ite (aEt λcs=>h _) aY.none
theorem aI9 {k : DV→St→OR} {k' : Nat→DV→St→OR} (h : ∀ v s,aY (k v s) (λn=>k' n v s)) : aY (uF X t m ps s k) (λn=>uF X t m ps s (k' n)):=by
 unfold uF aSw
 cases kY X t with
 | none=>exact aY.none
 | some u=>exact aY.ite (aY.ite (h _ _) aY.none) (aY.ite (aJ3 λvs s=>aY.bd λc=>h _ _) aY.none)
theorem aKi {l c : DV} {k : DV→St→OR} {k' : Nat→DV→St→OR} (h : ∀ v s,aY (k v s) (λn=>k' n v s)) : aY (wH X t l c s k) (λn=>wH X t l c s (k' n)):=by
 unfold wH
 cases kY X t with
 | none=>exact aY.none
 | some u=>
   cases l<;>cases c<;>(try simp only)<;>first
    | exact aY.none
    | exact aY.ite (aY.bd λ_=>aY.bd λy=>aY.pvite (aY.bd λc=>h _ _) aY.none) aY.none
theorem aLV (h : ∀ v,aY (k v) (λn=>k' n v)) : aY (zW x s k) (λn=>zW x s (k' n)):=by
 cases x<;>simp only [zW]<;>first
  | exact aY.none
  | exact h _
  | exact aY.bd λv=>h _
  | skip
 rename_i l path i off
 cases s.list l with
 | none=>exact aY.none
 | some w=>exact h _
theorem aRU {op : UnOp} (h : ∀ v,aY (k v) (λn=>k' n v)) : aY (aNF op x k) (λn=>aNF op x (k' n)):=by
 cases op<;>cases x<;>simp only [aNF]<;>first
  | exact aY.none
  | exact aY.bd λv=>h _
theorem aQj (h : ∀ v,aY (k v) (λn=>k' n v)) : aY (aIO X t x i k) (λn=>aIO X t x i (k' n)):=by
 unfold aIO
 cases (X.T.at t).d<;>cases x<;>cases i<;>(try simp only)<;>first
  | exact aY.none
  | exact aY.bd λv=>h _
  | skip
 refine aY.ite ?_ aY.none
 split
 ·exact aY.bd λv=>h _
 ·exact aY.none
theorem aLW (h : ∀ v,aY (k v) (λn=>k' n v)) : aY (soK d k) (λn=>soK d (k' n)):=by
 cases d<;>simp only [soK]<;>first
  | exact aY.bd λv=>h _
  | exact h _
theorem aM4 {i : Nat} (h : ∀ v,aY (k v) (λn=>k' n v)) : aY (aB1 x i k) (λn=>aB1 x i (k' n)):=by
 cases x<;>simp only [aB1]<;>first
  | exact aY.none
  | exact aY.bd λv=>h _
  | skip
 rename_i cs
 cases cs[i]? with
 | none=>exact aY.none
 | some d=>exact h _
theorem aQk (h : ∀ v,aY (k v) (λn=>k' n v)) : aY (aIM X t x f k) (λn=>aIM X t x f (k' n)):=by
 unfold aIM
 cases (X.T.at t).d<;>(try simp only)<;>first
  | exact aY.none
  | skip
 rename_i fs
 cases fs[f]? with
 | none=>exact aY.none
 | some p=>
   refine aY.ite aY.none ?_
   cases x<;>(try simp only)<;>first
    | exact aY.none
    | exact aY.ite (aY.bd λy=>h _) (aY.bd λy=>h _)
    | skip
   rename_i cs
   refine aY.ite (aY.ite (h _) aY.none) ?_
   cases cs[p.1]? with
   | none=>exact aY.none
   | some d=>exact h _
theorem aKj (h : ∀ v,aY (k v) (λn=>k' n v)) : aY (wG X t x f s k) (λn=>wG X t x f s (k' n)):=by
 unfold wG
 cases (X.T.at t).d<;>(try simp only)<;>first
  | exact aY.none
  | skip
 rename_i fs
 cases fs[f]? with
 | none=>exact aY.none
 | some p=>
   refine aY.ite aY.none ?_
   cases x<;>(try simp only)<;>first
    | exact aY.none
    | exact h _
    | exact aY.bd λy=>h _
    | skip
   rename_i l path i off
   cases s.list l with
   | none=>exact aY.none
   | some w=>exact h _
theorem aKk (h : ∀ v,aY (k v) (λn=>k' n v)) : aY (wF X t x i s k) (λn=>wF X t x i s (k' n)):=by
 unfold wF
 cases (X.T.at t).d<;>cases i<;>(try simp only)<;>first
  | exact aY.none
  | skip
 ·refine aY.ite aY.none ?_
  cases x<;>(try simp only)<;>first
   | exact aY.none
   | exact aY.bd λy=>h _
   | exact aAa λo c=>aY.ite (aY.bd λ_=>h _) aY.none
   | exact aAa λo c=>aY.ite (aY.bd λ_=>aY.bd λj=>h _) aY.none
 ·rename_i i
  refine aY.ite aY.none ?_
  cases x<;>cases i<;>(try simp only)<;>first
   | exact aY.none
   | exact aY.ite (h _) aY.none
   | exact aY.ite (aY.bd λv=>h _) aY.none
theorem aOZ {mx : DV} {k : DV→St→OR} {k' : Nat→DV→St→OR} (h : ∀ v s,aY (k v s) (λn=>k' n v s)) : aY (aA2 X t x lo hi mx s k) (λn=>aA2 X t x lo hi mx s (k' n)):=by
 unfold aA2
 cases kY X t with
 | none=>exact aY.none
 | some u=>
   cases x<;>cases lo<;>(try exact aY.none)
   cases hi with
   | none=>exact aY.none
   | some d=>
     cases d<;>cases mx<;>first
      | exact aY.none
      | exact aY.ite (aY.bd λ_=>h _ _) aY.none
theorem aQl (h : ∀ v,aY (k v) (λn=>k' n v)) : aY (aCx X t x lo hi s k) (λn=>aCx X t x lo hi s (k' n)):=by
 unfold aCx
 cases aCx.lowOf lo with
 | none=>exact aY.none
 | some l=>
   cases (X.T.at t).d<;>(try simp only)<;>first
    | exact aY.none
    | skip
   ·cases x<;>(try simp only)<;>first
     | exact aY.none
     | skip
    cases hi with
    | none=>exact aY.bd λ_=>aY.bd λy=>h _
    | some d=>
      cases d<;>(try simp only)<;>first
       | exact aY.none
       | exact aY.bd λy=>h _
   ·refine aY.ite aY.none ?_
    cases x<;>(try simp only)<;>first
     | exact aY.none
     | skip
    ·cases hi with
     | none=>exact aY.bd λ_=>aY.bd λy=>h _
     | some d=>
       cases d<;>(try simp only)<;>first
        | exact aY.none
        | exact aY.bd λy=>h _
    ·refine aAa λo c=>aY.ite ?_ aY.none
     cases hi with
     | none=>exact aY.bd λ_=>aY.bd λy=>h _
     | some d=>
       cases d<;>(try simp only)<;>first
        | exact aY.none
        | exact aY.bd λy=>h _
theorem aTE (h : ∀ v,aY (k v) (λn=>k' n v)) : aY (aTh X t d s k) (λn=>aTh X t d s (k' n)):=by
 unfold aTh
 cases (X.T.at t).d<;>cases d<;>(try simp only)<;>first
  | exact aY.none
  | exact h _
  | exact aY.bd λy=>h _
  | exact aAa λ_ c=>aY.bd λy=>h _
theorem aGC : ∀ {ds : List DV} {k : R→OR} {k' : Nat→R→OR},(∀ v,aY (k v) (λn=>k' n v))→aY (eqK.trees ds k) (λn=>eqK.trees ds (k' n))
 | [],_,_,h=>h _
 | d::ds,k,k',h=>by
   cases d<;>simp only [eqK.trees]<;>first
    | exact aY.none
    | exact aGC λvs=>h _
theorem aTF (h : ∀ v,aY (k v) (λn=>k' n v)) : aY (aUF op x k) (λn=>aUF op x (k' n)):=by
 unfold aUF
 cases op<;>cases x<;>(try simp only)<;>first
  | exact aY.none
  | exact aY.bd λv=>h _
theorem aTG {y : DV} (h : ∀ v,aY (k v) (λn=>k' n v)) : aY (aTi X op t x y k) (λn=>aTi X op t x y (k' n)):=by
 unfold aTi
 cases (X.T.at t).d<;>(try simp only)<;>first
  | exact aY.none
  | skip
 ·cases x<;>cases y<;>(try simp only)<;>first
  | exact aY.none
  | exact aY.bd λv=>h _
 ·cases x<;>cases y<;>(try simp only)<;>first
  | exact aY.none
  | exact aY.bd λv=>h _
 ·cases x<;>cases y<;>(try simp only)<;>first
  | exact aY.none
  | exact aY.bd λv=>h _
 ·cases x<;>cases y<;>(try simp only)<;>first
   | exact aY.none
   | exact aY.bd λv=>h _
   | skip
  rename_i v
  cases v<;>cases op<;>(try simp only)<;>first
   | exact aY.none
   | exact h _
 ·cases y<;>(try simp only)<;>first
  | exact aY.none
  | exact aTF h
 ·unfold eqK
  cases jS X 10 t with
  | none=>exact aY.none
  | some qs=>exact uK λas_=>uK λbs=>aGC λas_=>aGC λbs=>aY.bd λv=>h _
theorem aFt {k : PV→OR} {k' : Nat→PV→OR} (h : ∀ v,aY (k v) (λn=>k' n v)) : aY (aOz d s k) (λn=>aOz d s (k' n)):=by
 cases d<;>simp only [aOz]<;>first
  | exact aY.none
  | exact h _
  | exact aAa λo c=>aY.ite (h _) aY.none
theorem aRV {a : Nat} (h : ∀ v,aY (k v) (λn=>k' n v)) : aY (aND X a b x s k) (λn=>aND X a b x s (k' n)):=by
 unfold aND
 cases (X.T.at a).d<;>cases (X.T.at b).d<;>(try simp only)<;>first
  | exact aY.none
  | skip
 ·cases x<;>(try simp only)<;>first
  | exact aY.none
  | exact aY.bd λv=>h _
 ·cases x<;>(try simp only)<;>first
  | exact aY.none
  | exact aY.bd λv=>h _
 ·rename_i e
  cases x<;>(try simp only)<;>first
   | exact aY.none
   | skip
  cases (X.T.at e).d<;>(try simp only)<;>first
   | exact aY.none
   | skip
  rename_i kk
  cases kk<;>(try simp only)<;>first
   | exact aY.none
   | exact aY.bd λv=>h _
 ·rename_i e
  cases (X.T.at e).d<;>(try simp only)<;>first
   | exact aY.none
   | skip
  rename_i kk
  cases kk<;>(try simp only)<;>first
   | exact aY.none
   | exact aFt λc=>aY.bd λy=>h _
theorem aLX {k : PV→St→OR} {k' : Nat→PV→St→OR} (h : ∀ v s,aY (k v s) (λn=>k' n v s)) : aY (uE o d s k) (λn=>uE o d s (k' n)):=by
 unfold uE
 exact aY.ite (aFt λy=>h _ _) (xR h)
theorem aJ4 {k : PV→OR} {k' : Nat→PV→OR} (h : ∀ v,aY (k v) (λn=>k' n v)) : aY (aIJ o c q k) (λn=>aIJ o c q (k' n)):=by
 cases q with
 | none=>exact h _
 | some p=>exact aY.bd h
theorem aQm {k : DV→St→OR} {k' : Nat→DV→St→OR} (h : ∀ d s,aY (k d s) (λn=>k' n d s)) : aY (aIK l path q s k) (λn=>aIK l path q s (k' n)):=by
 unfold aIK
 cases s.list l with
 | none=>exact aY.none
 | some w=>exact oT λo c=>aY.ite (aJ4 λc1=>wO λc'=>h _ _) aY.none
theorem aEu {k : Nat→St→OR} {k' : Nat→Nat→St→OR} (h : ∀ x s,aY (k x s) (λn=>k' n x s)) : aY (wA l path s k) (λn=>wA l path s (k' n)):=by
 unfold wA
 cases s.list l with
 | none=>exact aY.none
 | some w=>exact oT λ_ _=>aY.ite (wO λ_=>h _ _) aY.none
theorem tC {l : Nat} : ∀ {ds : List DV} {s : St} {k : List DV→St→OR} {k' : Nat→List DV→St→OR},(∀ ds s,aY (k ds s) (λn=>k' n ds s))→aY (nV l ds s k) (λn=>nV l ds s (k' n))
 | [],s,k,k',h=>h _ _
 | d::r,s,k,k',h=>by
   unfold nV
   split
   ·exact aY.ite (aEu λx s1=>tC λ_ _=>h _ _) (tC λ_ _=>h _ _)
   ·exact tC λ_ _=>h _ _
theorem aO0 {k : gJ→St→OR} {k' : Nat→gJ→St→OR} (h : ∀ e s,aY (k e s) (λn=>k' n e s)) : aY (aFk X t a v e s k) (λn=>aFk X t a v e s (k' n)):=by
 unfold aFk
 split
 ·exact tC λ_ _=>aEs λ_ _=>aY.ite (h _ _) aY.none
 ·exact aQm λ_ _=>aEs λ_ _=>aY.ite (h _ _) aY.none
 ·exact aEs h
theorem aNW {k : DV→gJ→St→OR} {k' : Nat→DV→gJ→St→OR} (h : ∀ v e s,aY (k v e s) (λn=>k' n v e s)) : aY (xE.nest X d te e s k l path q) (λn=>xE.nest X d te e s (k' n) l path q):=by
 unfold xE.nest
 cases s.list l with
 | none=>exact aY.none
 | some w=>
   exact oT λo c=>aY.ite (aFt λy=>aJ4 λc=>wO λc'=>aY.bd λc2=>h _ _ _) aY.none
theorem aO1 {base : DV} {k : DV→gJ→St→OR} {k' : Nat→DV→gJ→St→OR} (h : ∀ v e s,aY (k v e s) (λn=>k' n v e s)) : aY (xE X base d te e s k) (λn=>xE X base d te e s (k' n)):=by
 have plain : ∀ (q : Option OTy) (base : DV),aY (match q with
  | some o=>if aRv X o te then uE o d s λy s=>nU o s base λc s=>bd (aN o.s o.e o.g c y) λc'=>k (.ref s.nl []) e (s.addList ⟨o,c'⟩) else none
  | none=>none) (λn=>match q with
  | some o=>if aRv X o te then uE o d s λy s=>nU o s base λc s=>bd (aN o.s o.e o.g c y) λc'=>k' n (.ref s.nl []) e (s.addList ⟨o,c'⟩) else none
  | none=>none):=by
  intro q base
  cases q with
  | none=>exact aY.none
  | some o=>exact aY.ite (aLX λy s=>xR λc s=>aY.bd λc'=>h _ _ _) aY.none
 cases base with
 | ref l path=>
   cases path with
   | nil=>exact plain (sD X te s (.ref l [])) (.ref l [])
   | cons p r=>exact aNW h
 | sref l path lo hi=>
   cases path with
   | nil=>exact plain (sD X te s (.sref l [] lo hi)) (.sref l [] lo hi)
   | cons p r=>exact aNW h
 | p v=>exact plain (sD X te s (.p v)) (.p v)
 | nils=>exact plain (sD X te s .nils) .nils
 | agg cs=>exact plain (sD X te s (.agg cs)) (.agg cs)
 | tup cs=>exact plain (sD X te s (.tup cs)) (.tup cs)
 | fn f cs=>exact plain (sD X te s (.fn f cs)) (.fn f cs)
 | ptr b off=>exact plain (sD X te s (.ptr b off)) (.ptr b off)
 | bsl b n=>exact plain (sD X te s (.bsl b n)) (.bsl b n)
 | eptr l path i off=>exact plain (sD X te s (.eptr l path i off)) (.eptr l path i off)
 | fptr x s' g off=>exact plain (sD X te s (.fptr x s' g off)) (.fptr x s' g off)
 | bptr c off=>exact plain (sD X te s (.bptr c off)) (.bptr c off)
 | gptr l path i off=>exact plain (sD X te s (.gptr l path i off)) (.gptr l path i off)
 | nilq c neg=>exact plain (sD X te s (.nilq c neg)) (.nilq c neg)
 | dead=>exact plain (sD X te s .dead) .dead
theorem aNX {k : gJ→St→OR} {k' : Nat→gJ→St→OR} (h : ∀ e s,aY (k e s) (λn=>k' n e s)) : aY (aPG d e s k) (λn=>aPG d e s (k' n)):=by
 unfold aPG
 split
 ·split
  ·exact h _ _
  ·exact h _ _
 ·exact h _ _
theorem aCd : ∀ {fs : List (Nat × Option Nat)} {e : gJ} {s : St} {k : gJ→St→OR} {k' : Nat→gJ→St→OR},(∀ e s,aY (k e s) (λn=>k' n e s))→aY (aK9 fs e s k) (λn=>aK9 fs e s (k' n))
 | [],_,_,_,_,h=>h _ _
 | (t,none)::r,e,s,k,k',h=>aNX λe s=>aCd h
 | (t,some j)::r,e,s,k,k',h=>by
   unfold aK9
   generalize e.get t=d0
   cases d0<;>(try simp only)<;>first
    | exact aCd h
    | skip
   rename_i b off
   cases s.box b with
   | none=>exact aCd h
   | some cs=>exact aNX λe s=>aCd h
theorem aJ5 {lo hi : PV} {k : DV→St→OR} {k' : Nat→DV→St→OR} (h : ∀ v s,aY (k v s) (λn=>k' n v s)) : aY (aD2.go X te src s k l w lo hi) (λn=>aD2.go X te src s (k' n) l w lo hi):=by
 unfold aD2.go
 exact aY.ite (aFt λy=>aY.bd λn=>aY.bd λc=>h _ _) aY.none
theorem aRW {dst : DV} {k : DV→St→OR} {k' : Nat→DV→St→OR} (h : ∀ v s,aY (k v s) (λn=>k' n v s)) : aY (aD2 X te dst src s k) (λn=>aD2 X te dst src s (k' n)):=by
 unfold aD2
 cases dst<;>(try simp only)<;>first
  | exact aY.none
  | skip
 ·rename_i l path
  cases path with
  | cons=>exact aY.none
  | nil=>
    dsimp only
    cases s.list l with
    | none=>exact aY.none
    | some w=>exact aY.bd λn=>aJ5 h
 ·rename_i l path lo hi
  cases path with
  | cons=>exact aY.none
  | nil=>
    dsimp only
    cases s.list l with
    | none=>exact aY.none
    | some w=>exact aJ5 h
end
variable {d : DV} {f n nb nl : Nat} {args : List DV} {s : St} {k : DV → gJ → St → OR} {k' : Nat → DV → gJ → St → OR} {t : eX} {ts : List Nat} {e : gJ} {β : Type} {out : Option eX} {todo : List Item} {r : R}
structure EvO (O : Orc) (O' : Nat→Orc) : Prop where
 L : ∀ todo e s,aY (O.L todo e s) (λn=>(O' n).L todo e s)
 C : ∀ g args,aY (O.C g args) (λn=>(O' n).C g args)
 S : ∀ g args s,aY (O.S g args s) (λn=>(O' n).S g args s)
section
variable {X : Cx} {O : Orc} {O' : Nat → Orc}
theorem aDt {l : R} : ∀ {cs : List DV} {a : OR} {a' : Nat→OR},aY a a'→aY (cP l cs a) (λn=>cP l cs (a' n))
 | [],_,_,h=>h
 | d::cs,a,a',h=>by
   have ih:=aDt (l:=l) (cs:=cs) h
   cases d with
   | ref=>simp only [cP];exact ih
   | p v=>
     cases v with
     | int=>simp only [cP];exact aY.flat ih
     | _=>simp only [cP];exact aY.none
   | _=>simp only [cP];exact aY.none
theorem aEv {l : R} : ∀ {cs : List DV} {a : OR} {a' : Nat→OR},aY a a'→aY (oP l cs a) (λn=>oP l cs (a' n))
 | [],_,_,h=>h
 | d::cs,a,a',h=>by
   have ih:=aEv (l:=l) (cs:=cs) h
   cases d<;>(try simp only [oP])<;>exact aDt ih
theorem aM5 {l : R} {a : OR} {a' : Nat→OR} (h : aY a a') : aY (aBY l d a) (λn=>aBY l d (a' n)):=by
 cases d<;>(try simp only [aBY])<;>exact aEv h
theorem aEw {l : R} : ∀ {cs : List (Option tN)} {a : OR} {a' : Nat→OR},aY a a'→aY (mW l cs a) (λn=>mW l cs (a' n))
 | [],_,_,h=>h
 | none::_,_,_,_=>by simp only [mW];exact aY.none
 | some w::cs,a,a',h=>by
   simp only [mW]
   cases w.c<;>(try simp only)<;>first
    | exact aY.none
    | exact aY.own (aEw h)
theorem aRX (hO : EvO O O') {k : DV→St→OR} {k' : Nat→DV→St→OR} (h : ∀ v s,aY (k v s) (λn=>k' n v s)) : aY (aPH O f args s k) (λn=>aPH (O' n) f args s (k' n)):=by
 unfold aPH
 exact aY.ite (aAs λvs=>aY.bd2 (hO.C _ _) λr=>aY.flat (h _ _)) (aAs λvs=>aY.bd2 (hO.C _ _) λr=>h _ _)
theorem aRY (hO : EvO O O') {k : DV→St→OR} {k' : Nat→DV→St→OR} (h : ∀ v s,aY (k v s) (λn=>k' n v s)) : aY (aNB O t f args s k) (λn=>aNB (O' n) t f args s (k' n)):=by
 unfold aNB
 exact aAs λvs=>aY.bd2 (hO.S _ _ _) λl=>aM5 (aEw (h _ _))
theorem aLY (hO : EvO O O') {ft : iR} {n0 : Nat} {k : DV→St→List Nat→OR} {k' : Nat→DV→St→List Nat→OR} (h : ∀ v s l,aY (k v s l) (λn=>k' n v s l)) : aY (aLd O ft n0 t f args s k) (λn=>aLd (O' n) ft n0 t f args s (k' n)):=by
 unfold aLd
 exact aY.ite (aY.bd2 (hO.S _ _ _) λl=>h _ _ _) aY.none
theorem aM6 {l : Nat} {path : jW} {x : Nat} {k : St→OR} {k' : Nat→St→OR} (h : ∀ s,aY (k s) (λn=>k' n s)) : aY (aBZ l path x s k) (λn=>aBZ l path x s (k' n)):=by
 unfold aBZ
 cases s.list l with
 | none=>exact aY.none
 | some w=>
   refine aY.ite (xR λy s1=>?_) aY.none
   cases s1.list l with
   | none=>exact aY.none
   | some w1=>exact wO λ_=>h _
theorem aRZ (hO : EvO O O') (h : ∀ v e s,aY (k v e s) (λn=>k' n v e s)) : aY (aNC X O f args ts e s k) (λn=>aNC X (O' n) f args ts e s (k' n)):=by
 unfold aNC
 cases X.mode f with
 | none=>exact aRX hO λ_ _=>h _ _ _
 | some t=>
   refine aY.ite (aRY hO λ_ _=>h _ _ _) ?_
   cases aFl t args with
   | none=>
     simp only [aGz]
     exact qA λargs s=>aLY hO λ_ _ _=>h _ _ _
   | some q=>
     obtain ⟨l,path,rest⟩:=q
     exact aEu λx s1=>aLY hO λ_ _ _=>aY.ite aY.none (aM6 λ_=>h _ _ _)
theorem aLZ (hO : EvO O O') {v : PV} {vs : R} : aY (PV.apply O.C v vs) (λn=>PV.apply (O' n).C v vs):=by
 unfold PV.apply
 cases v<;>(try simp only)<;>first
  | exact aY.none
  | exact hO.C _ _
theorem aQn (hO : EvO O O') (h : ∀ v e s,aY (k v e s) (λn=>k' n v e s)) : aY (aIL X O d args ts e s k) (λn=>aIL X (O' n) d args ts e s (k' n)):=by
 cases d<;>(try simp only [aIL])<;>first
  | exact aY.none
  | exact aRZ hO h
  | exact aY.ite (aAs λvs=>aY.bd2 (aLZ hO) λr=>aY.flat (h _ _ _)) (aAs λvs=>aY.bd2 (aLZ hO) λr=>h _ _ _)
theorem aM7 {b : Builtin} (h : ∀ v e s,aY (k v e s) (λn=>k' n v e s)) : aY (aB0 X b ts args e s k) (λn=>aB0 X b ts args e s (k' n)):=by
 unfold aB0
 split
 ·exact aTE λn=>h _ _ _
 ·rename_i t u a d
  cases kY X t with
  | none=>exact aY.none
  | some te=>exact aY.ite (aO1 h) aY.none
 ·rename_i t u a d
  cases kY X t with
  | none=>exact aY.none
  | some te=>exact aRW λd s=>h _ _ _
 ·exact aY.bd λc=>h _ _ _
 ·exact aY.bd λc=>h _ _ _
 ·exact aY.none
theorem aJa (hO : EvO O O') {o : Oper} {k : aOt} {k' : Nat→aOt} (h : ∀ e s,aY (k e s) (λn=>k' n e s)) : aY (exec X O o e s k) (λn=>exec X (O' n) o e s (k' n)):=by
 obtain ⟨dst,op,type,pos,after,guard⟩:=o
 cases op<;>simp only [exec]<;>try exact aY.none
 case move=>exact aCQ λ_ _=>h _ _
 case assign=>exact aCQ λ_ _=>h _ _
 case pick=>exact aRT λ_ _=>h _ _
 case alloc=>exact aQi λ_ _=>h _ _
 case box=>exact aTD λ_ _=>h _ _
 case build=>exact aOY λ_=>h _ _
 case buildSlice=>exact aI9 λ_ _=>h _ _
 case makeSlice=>exact aKi λ_ _=>h _ _
 case load=>exact aLW λ_=>aRS λ_=>h _ _
 case store=>exact aLW λ_=>aO0 λ_ _=>h _ _
 case nilCheck=>exact aLW λ_=>aLV λ_=>h _ _
 case binOp=>exact aTG λ_=>h _ _
 case unOp=>exact aRU λ_=>h _ _
 case convert=>exact aRV λ_=>h _ _
 case makeFunc fn first caps=>
  cases fn<;>(try simp only)<;>first
   | exact aY.none
   | exact aY.ite (h _ _) aY.none
 case slice t x lo hi mx=>
  cases mx with
  | none=>exact aQl λ_=>h _ _
  | some _=>exact aOZ λ_ _=>h _ _
 case fieldAddr=>exact aKj λ_=>h _ _
 case field=>exact aQk λ_=>h _ _
 case indexAddr=>exact aKk λ_=>h _ _
 case index=>exact aQj λ_=>h _ _
 case extract=>exact aM4 λ_=>h _ _
 case call c=>
  cases c.callee with
  | value f=>exact aQn hO λ_ _ _=>h _ _
  | builtin b=>exact aM7 λ_ _ _=>h _ _
  | invoke _ _=>exact aY.none
theorem nH (hO : EvO O O') {ops : Array Oper} {draw : Bool} : ∀ {r : List Oper} {i : Nat} {acc : List (Nat × iR)} {e : gJ} {s : St} {k : aOt} {k' : Nat→aOt},(∀ e s,aY (k e s) (λn=>k' n e s))→aY (qG X O ops draw i acc r e s k) (λn=>qG X (O' n) ops draw i acc r e s (k' n))
 | [],i,acc,e,s,k,k',h=>by
  unfold qG
  exact aY.ite aY.none (h _ _)
 | o::r,i,acc,e,s,k,k',h=>by
   unfold qG
   simp only [stf,stp]
   cases o.guard with
   | none=>exact aJa hO λe s'=>aY.ite (nH hO h) aY.none
   | some p=>
     obtain ⟨j,want⟩:=p
     simp only
     cases aD3 ops.toList j with
     | none=>exact aY.none
     | some t=>
       simp only
       generalize e.get t=d0
       have hskip:=nH (ops:=ops) (draw:=draw) (r:=r) (i:=i+1) (acc:=if draw then (i,iR.none)::acc else []) (e:=put o.dst (.tup []) e) (s:={ s with nb:=s.base+16*i,nl:=s.base+16*i}) hO h
       cases d0<;>(try simp only)<;>first
        | exact aY.none
        | (rename_i cs;cases cs with
           | nil=>exact hskip
           | cons=>exact aY.none)
        | exact aY.pvite (aY.ite (aJa hO λe s'=>aY.ite (nH hO h) aY.none) (nH hO h)) (aY.ite (nH hO h) (aJa hO λe s'=>aY.ite (nH hO h) aY.none))
theorem aFu (hO : EvO O O') : ∀ (m : Nat) (first : Bool) (todo : List Item) (e : gJ) (s : St),aY (eval X O m first todo e s) (λn=>eval X (O' n) m first todo e s)
 | 0,_,_,_,_=>by simp only [eval];exact aY.none
 | m+1,first,todo,e,s=>by
   have ih:=aFu hO m
   cases todo with
   | nil=>simp only [eval];exact aY.rfl _
   | cons x k=>
   cases x with
   | inBlock id=>simp only [eval];exact ih _ _ _ _
   | inScope c=>simp only [eval];exact ih _ _ _ _
   | inLoop c=>simp only [eval];exact ih _ _ _ _
   | code c=>
     cases c<;>simp only [eval]<;>first
      | exact aY.none
      | exact aY.rfl _
      | exact ih _ _ _ _
      | skip
     case exit id=>
      cases exitTo id k with
      | none=>exact aY.none
      | some k'=>exact ih _ _ _ _
     case goto l=>
      cases gotoIn l k with
      | none=>exact aY.none
      | some k'=>exact ih _ _ _ _
     case cond c a b=>
      generalize ev X e c=d0
      cases d0<;>(try simp only)<;>first
       | exact aY.none
       | exact aY.nilT (ih _ _ _ _) (ih _ _ _ _)
       | skip
      cases c<;>(try simp only)<;>exact aY.pvite (ih _ _ _ _) (ih _ _ _ _)
     case region id ops draw=>
      refine aCd λe s=>?_
      cases first with
      | true=>exact nH hO λe s=>ih _ _ _ _
      | false=>
        cases X.cut id with
        | none=>exact nH hO λe s=>ih _ _ _ _
        | some keep=>exact hO.L _ _ _
   | _=>simp only [eval];exact aY.none
end
section
variable (P : Program) (T : pS) (H : aF3)
def aAX (f nb nl : Nat) (out : Option eX) (todo : List Item) (e : gJ) (s : St) : OR:=
 open Classical in if h : ∃ r,∃ n,zD P T H n f nb nl out todo e s=some r then some h.choose else none
end
section
variable {P : Program} {T : pS} {H : aF3}
theorem aY.le {a b : Option β} (h : ∀ r,a=some r→b=some r) : aY a (λ_=>b):=λr hr=>⟨0,λ_ _=>h r hr⟩
theorem aY.of {a b : Option β} (h : aY a (λ_=>b)) : ∀ r,a=some r→b=some r:=λr hr=>let ⟨N,hN⟩:=h r hr;hN N (Nat.le_refl _)
theorem aL0 {run : Nat→Nat→Nat→Option eX→List Item→gJ→St→OR} {run' : Nat→Nat→Nat→Nat→Option eX→List Item→gJ→St→OR}
 (h : ∀ f nb nl out todo e s,aY (run f nb nl out todo e s) (λn=>run' n f nb nl out todo e s)) (f nb nl : Nat) (out : Option eX) : EvO (yS P H run f nb nl out) (λn=>yS P H (run' n) f nb nl out) where
 L:=λtodo e s=>h _ _ _ _ _ _ _
 C:=λg args=>by
  simp only [yS]
  cases H.prim g with
  | none=>exact h _ _ _ _ _ _ _
  | some p=>exact aY.rfl _
 S:=λg args s=>by
  simp only [yS]
  cases H.mode g with
  | none=>exact aY.none
  | some t=>cases H.primS g with
    | none=>exact h _ _ _ _ _ _ _
    | some p=>exact aY.rfl _
theorem aNY : ∀ (n f nb nl : Nat) (out : Option eX) (todo : List Item) (e : gJ) (s : St) (r : R),zD P T H n f nb nl out todo e s=some r→zD P T H (n+1) f nb nl out todo e s=some r
 | 0,_,_,_,_,_,_,_,_,h=>by simp [zD] at h
 | n+1,f,nb,nl,out,todo,e,s,r,h=>by
   have ih:=aNY n
   unfold zD at h ⊢
   exact (aFu (aL0 (run':=λ_=>zD P T H (n+1)) (λf nb nl out todo e s=>aY.le (ih f nb nl out todo e s)) f nb nl out) jY true todo e s).of r h
theorem aO2 {n' : Nat} (h : zD P T H n f nb nl out todo e s=some r) (hn : n≤n') : zD P T H n' f nb nl out todo e s=some r:=by
 induction hn with
 | refl=>exact h
 | step _ ih=>exact aNY _ _ _ _ _ _ _ _ _ ih
theorem aSH (h : zD P T H n f nb nl out todo e s=some r) : aAX P T H f nb nl out todo e s=some r:=by
 unfold aAX
 have hex : ∃ r,∃ n,zD P T H n f nb nl out todo e s=some r:=⟨r,n,h⟩
 rw [dif_pos hex]
 obtain ⟨n',h'⟩:=hex.choose_spec
 have h1:=aO2 h (Nat.le_max_left n n')
 have h2:=aO2 h' (Nat.le_max_right n n')
 rw [h1] at h2
 exact h2.symm
theorem aFv (h : aAX P T H f nb nl out todo e s=some r) : ∃ n,zD P T H n f nb nl out todo e s=some r:=by
 unfold aAX at h
 split at h
 ·rename_i hex
  cases h
  exact hex.choose_spec
 ·cases h
theorem aTH (f nb nl : Nat) (out : Option eX) (todo : List Item) (e : gJ) (s : St) : aY (aAX P T H f nb nl out todo e s) (λn=>zD P T H n f nb nl out todo e s):=by
 intro r hr
 obtain ⟨n,hn⟩:=aFv hr
 exact ⟨n,λn' h'=>aO2 hn h'⟩
theorem aSI (f nb nl : Nat) (out : Option eX) (todo : List Item) (e : gJ) (s : St) :
 aAX P T H f nb nl out todo e s=eval (aIP P T H f nb nl out) (yS P H (aAX P T H) f nb nl out) jY true todo e s:=by
 cases h : eval (aIP P T H f nb nl out) (yS P H (aAX P T H) f nb nl out) jY true todo e s with
 | some r=>
   obtain ⟨N,hN⟩:=aFu (aL0 (run':=λn=>zD P T H n) aTH f nb nl out) jY true todo e s r h
   refine aSH (n:=N+1) ?_
   unfold zD
   exact hN N (Nat.le_refl _)
 | none=>
   cases h' : aAX P T H f nb nl out todo e s with
   | none=>rfl
   | some r=>
     exfalso
     obtain ⟨n,hn⟩:=aFv h'
     cases n with
     | zero=>simp [zD] at hn
     | succ n=>
       unfold zD at hn
       have:=(aFu (aL0 (run':=λ_=>aAX P T H) (λf nb nl out todo e s=>aY.le (λr h=>aSH h)) f nb nl out) jY true todo e s).of r hn
       rw [h] at this
       cases this
def aUU (P : Program) (T : pS) (H : aF3) (f : Nat) (args : R) : OR:=(yS P H (aAX P T H) 0 0 0 none).C f args
def aW6 (P : Program) (T : pS) (H : aF3) (f : Nat) (args : List DV) (s : St) : OR:=(yS P H (aAX P T H) 0 0 0 none).S f args s
theorem aWf (hy : Hyp P T H) : aSG P (aAX P T H):=by
 intro f nb nl out todo e s r fn h hfn hok
 obtain ⟨n,hn⟩:=aFv h
 exact aNV hy n f nb nl out todo e s r fn hn hfn hok
theorem aWg : aUS P (aAX P T H):=by
 intro f nb nl out e s r h
 obtain ⟨n,hn⟩:=aFv h
 exact aGA hn
theorem aQo (hy : Hyp P T H) {args : R} (h : aUU P T H f args=some r) {w : World} {bI : Array Value} {Z : NP} (hz : ZOk w Z) (hl : args.length=bI.size)
 (hr : ∀ (i : Nat) x v,args[i]? = some x→bI[i]? = some v→kX w Z x v) : Calls P f bI w (λe w'=>∃ v,e = .returned v∧∃ Z',aHL w w' Z Z'∧kX w' Z' (hd r) v):=
 (aQf hy (aWf hy) aWg 0 0 0 none f args r h).2 w Z bI hz hl hr
theorem aSJ (f nb nl : Nat) (out : Option eX) (todo : List Item) (e : gJ) (s : St) (r : OR) (h : eval (aIP P T H f nb nl out) (yS P H (aAX P T H) f nb nl out) jY true todo e s=r) : aAX P T H f nb nl out todo e s=r:=
 (aSI f nb nl out todo e s).trans h
theorem aUV (f : Nat) (hp : H.prim f=none) (args : R) (r : OR) (h : eval (aIP P T H f 0 0 none) (yS P H (aAX P T H) f 0 0 none) jY true (kD P f) (qB 0 (args.map .p)) ⟨[],[],0,0,0⟩=r) : aUU P T H f args=r:=by
 show (match H.prim f with | some h=>h args | none=>aAX P T H f 0 0 none (kD P f) (qB 0 (args.map .p)) ⟨[],[],0,0,0⟩)=r
 rw [hp]
 exact aSJ _ _ _ _ _ _ _ _ h
theorem aUW (f : Nat) (hp : H.primS f=none) (args : List DV) (s : St) (r : OR) (h : (match H.mode f with | some t=>eval (aIP P T H f s.boxes.length (if t.keep then s.lists.length else 0) (some (t.fit s))) (yS P H (aAX P T H) f s.boxes.length (if t.keep then s.lists.length else 0) (some (t.fit s))) jY true (kD P f) (qB 0 args) s | none=>none)=r) : aW6 P T H f args s=r:=by
 show (match H.mode f with | some t=>(match H.primS f with | some h=>h args s | none=>aAX P T H f s.boxes.length (if t.keep then s.lists.length else 0) (some (t.fit s)) (kD P f) (qB 0 args) s) | none=>none)=r
 rw [← h,hp]
 cases H.mode f with
 | none=>rfl
 | some t=>exact aSI _ _ _ _ _ _ _
end
def aXq (f nb nl : Nat) (out : Option eX) (todo : List Item) (e : gJ) (s : St) : OR:=aAX Tryz.prog T lR f nb nl out todo e s
def aU (f : Nat) (args : R) : OR:=aUU Tryz.prog T lR f args
def dK (f : Nat) (args : List DV) (s : St) : OR:=aW6 Tryz.prog T lR f args s
def orc (f nb nl : Nat) (out : Option eX) : Orc:=yS Tryz.prog lR (aAX Tryz.prog T lR) f nb nl out
theorem aXr (f nb nl : Nat) (out : Option eX) (todo : List Item) (e : gJ) (s : St) (r : OR) (h : eval (aIP Tryz.prog T lR f nb nl out) (orc f nb nl out) jY true todo e s=r) : aXq f nb nl out todo e s=r:=aSJ f nb nl out todo e s r h
theorem aWh (f : Nat) (args : R) (r : OR) (h : (match lR.prim f with | some p=>p args | none=>eval (aIP Tryz.prog T lR f 0 0 none) (orc f 0 0 none) jY true (kD Tryz.prog f) (qB 0 (args.map .p)) ⟨[],[],0,0,0⟩)=r) : aU f args=r:=by
 cases hp : lR.prim f with
 | none=>rw [hp] at h;exact aUV f hp args r h
 | some p=>rw [hp] at h;rw [← h];show (match lR.prim f with | some h=>h args | none=>_)=_;rw [hp]
theorem aWi (f : Nat) (args : List DV) (s : St) (r : OR) (h : (match lR.mode f with | some t=>(match lR.primS f with | some p=>p args s | none=>eval (aIP Tryz.prog T lR f s.boxes.length (if t.keep then s.lists.length else 0) (some (t.fit s))) (orc f s.boxes.length (if t.keep then s.lists.length else 0) (some (t.fit s))) jY true (kD Tryz.prog f) (qB 0 args) s) | none=>none)=r) : dK f args s=r:=by
 cases hp : lR.primS f with
 | none=>simp only [hp] at h;exact aUW f hp args s r h
 | some p=>
   simp only [hp] at h
   rw [← h]
   show (match lR.mode f with | some t=>(match lR.primS f with | some h=>h args s | none=>_) | none=>none)=_
   rw [hp]
theorem pE {f : Nat} {args : R} {r : OR} (h : (match lR.prim f with | some p=>p args | none=>eval (aIP Tryz.prog T lR f 0 0 none) (orc f 0 0 none) jY true (kD Tryz.prog f) (qB 0 (args.map .p)) ⟨[],[],0,0,0⟩)=r:=by kernel_rfl) : aU f args=r:=aWh f args r h
theorem gE {f nb nl : Nat} {out : Option eX} {todo : List Item} {e : gJ} {s : St} {r : OR} (h : eval (aIP Tryz.prog T lR f nb nl out) (orc f nb nl out) jY true todo e s=r:=by kernel_rfl) : aXq f nb nl out todo e s=r:=aXr f nb nl out todo e s r h
theorem sE {f : Nat} {args : List DV} {s : St} {r : OR} (h : (match lR.mode f with | some t=>(match lR.primS f with | some p=>p args s | none=>eval (aIP Tryz.prog T lR f s.boxes.length (if t.keep then s.lists.length else 0) (some (t.fit s))) (orc f s.boxes.length (if t.keep then s.lists.length else 0) (some (t.fit s))) jY true (kD Tryz.prog f) (qB 0 args) s) | none=>none)=r:=by kernel_rfl) : dK f args s=r:=aWi f args s r h
set_option maxRecDepth 100000 in
theorem aSK : (Tryz.prog.funcs.toList.all λf=>match f.body with | some c=>lP f.ntmps c&&(f.name != "runtime.NumGoroutine") | none=>true)=true:=by kernel_rfl
theorem aWj : Tryz.prog.follows .mixedOrders=true:=by kernel_rfl
theorem aX1 : (aSz.all λp=>p.2.wf)=true:=by kernel_rfl
variable {m : bY} {s : St} {t : eX} {P : Program} {ρ : Go.Shelf.Ren} {r : R} {bI : Array Value}
theorem aQp {m' : bY} {s' : St} {l : Nat} {scr : DV→DV} {w : tN} {v : Value} (hf : kC m s s.base)
 (G : dF m m' (s.at s.base) s' (λ_=>True) (λ_=>True) (λb=>b∈([] : List Nat)∨true=true) (λl=>l∈([] : List Nat)∨true=true) s.base scr) (hl : s'.list l=some w) (hv : m'.rd (.ref l []) v)
 (ht : t.res = .ref 0 []∧t.boxes = []∧t.lists = [some ⟨w.o,.int .i64 0⟩]) : wN m 0 0 (some t) [w.c] v m'.w:=by
 have hf':=(dF.full (f:=⟨[],[],[],[],true,true⟩) hf G).1
 have hb : ∀ b∈([] : List Nat),m'.s.box b=s'.box b:=λb _=>hf'.box b
 have hl' : ∀ x∈[l],m'.s.list x=s'.list x:=λx _=>hf'.list x
 have pf:=aFr (a:=⟨[],[l]⟩) hf'.inv hb hl' List.nodup_nil (by simp)
 have fw:=aLH (a:=⟨[],[l]⟩) hf' 0 0 (λb h=>by omega) (λb h=>by omega)
 refine ⟨m'.pick [] [l] (s'.pick ⟨[],[l]⟩),rfl,pf.inv,(G.step.fwd hf.inv 0 0).trans fw,?_⟩
 refine ⟨.ref 0 [],s',⟨[],[l]⟩,?_,?_,pf,λx hx=>hx.1,λx hx=>hx.1⟩
 ·unfold eX.read
  rw [ht.1,ht.2.1,ht.2.2]
  have e1 : (s'.pick ⟨[],[l]⟩).boxes = []:=rfl
  have e2 : (s'.pick ⟨[],[l]⟩).lists = [(0,some w)]:=by
   show [(0,s'.list l)]=_
   rw [hl]
  rw [e1,e2]
  simp [nE,aDl,aDm,OTy.same_refl]
 ·have:=aLG (a:=⟨[],[l]⟩) hl' cU hv
  have e : ren (yR · [] 0) (yR · [l] 0) cU (.ref l []) = .ref 0 []:=by
   simp [cU,ren,aDX,yR]
  rw [e] at this
  exact this
theorem aQq (L : Lays8.n4 P ρ) {i0 : TypeInfo} {z : Value} (hi0 : P.info? (ρ.t 25)=some i0) (hz0 : i0.zero=some z) (hzs : z.cells.size=i0.size) (hs0 : 0<i0.size) {e : Nat} (hby : i0.bytes=e)
 {args : List DV} (h : aAl e args s=some r) (hf : kC m s s.base) (hl : args.length=bI.size) (hr : ∀ (i : Nat) d v,args[i]? = some d→bI[i]? = some v→m.rd d v)
 {eb : Nat} {g : Bool} (ht : t.res = .ref 0 []∧t.boxes = []∧t.lists = [some ⟨.own i0.size eb g [],.int .i64 0⟩]) :
   Calls P (ρ.f 4) bI m.w (λe w'=>∃ v,e = .returned v∧wN m 0 0 (some t) r v w'):=by
  unfold aAl at h
  split at h
  rotate_left
  ·cases h
  rename_i n _
  split at h
  rotate_left
  ·cases h
  rename_i hc
  obtain ⟨hn,hbound,hlen⟩:=hc
  cases h
  obtain ⟨v0,v1,rfl⟩ : ∃ v0 v1,bI = #[v0,v1]:=by
   match bI,hl with
   | ⟨[a,b]⟩,_=>exact ⟨a,b,rfl⟩
   | ⟨[]⟩,h=>simp at h
   | ⟨[_]⟩,h=>simp at h
   | ⟨_::_::_::_⟩,h=>simp at h
  have h0:=hr 0 _ _ rfl rfl
  have h1:=hr 1 _ _ rfl rfl
  obtain rfl : v1 = .int .i64 n:=by
   cases h1 with
   | p _ _ h1=>cases h1;rfl
  obtain rfl : v0 = .slice none 0 0:=by cases h0;rfl
  obtain ⟨k,rfl⟩:=Int.eq_ofNat_of_zero_le hn
  simp only [Int.toNat_natCast] at hbound
  have sit:=hf.sit (Nat.le_refl s.base)
  have hlf : (OTy.own i0.size eb g []).isLeaf=false:=rfl
  have hmw : m.w.heap.size=m.w.heap.size:=rfl
  have fin : ∀ {w' : World} {v : Value} {F' : NP},eO w' m.Z (.own i0.size eb g []) (.lst []) v F'→eN v→(∀ r,F' r→m.w.heap.size≤r)→(∀ r,r<m.w.heap.size→w'.heap[r]? = m.w.heap[r]?)→
   m.w.heap.size≤w'.heap.size→w'.os=m.w.os→w'.tape=m.w.tape→w'.output=m.w.output→wN m 0 0 (some t) [.lst []] v w':=by
   intro w' v F' hro' hcv hF' hw hsize hos htape hout
   have G2:=dF.addRow (B:=λ_=>True) (L:=λ_=>True) (λb=>b∈([] : List Nat)∨true=true) (λl=>l∈([] : List Nat)∨true=true) sit (show s.base<s.base+16 by omega) (own:=⟨.own i0.size eb g [],.lst []⟩) hlf hro' (λr hr=>.inr (hF' r hr)) (λr hr _=>hw r hr) hsize hos htape hout
   exact aQp (l:=s.base) hf G2 (w:=⟨.own i0.size eb g [],.lst []⟩) (by simp [St.list,St.addList,St.at,oG]) (bY.addRow_rd hcv) ht
  by_cases hroom : 0+k≤0
  ·refine (Any8.slices_Grow_room L none 0 0 k m.w (Nat.le_refl _) (by omega) (by omega) hroom).mono ?_
   rintro e w' ⟨rfl,rfl⟩
   exact ⟨_,rfl,fin (F':=λ_=>False) (.nil _ _ _ _ _ _ (λ_ h=>h)) trivial (λ_ h=>h.elim) (λ_ _=>rfl) (Nat.le_refl _) rfl rfl rfl⟩
  ·refine (Any8.slices_Grow_grow L i0 z hi0 hz0 hs0 none 0 0 k [] m.w (Nat.le_refl _) (by omega) (by rw [hby,Nat.zero_add];exact hbound) (by omega) (by simp) (λ_=>rfl) (λa h=>by cases h)).mono ?_
   rintro e w' ⟨rfl,rfl⟩
   refine ⟨_,rfl,?_⟩
   generalize hcp : grownCap m.w (0+k) 0 (ρ.t 25)=cp
   have hge : 0+k≤cp:=by rw [← hcp];exact grownCap_ge _ _ _ _
   generalize hcells : (([] : List Value).toArray++Builtin.zeroCells z.cells (0+k - 0)++Builtin.zeroCells z.cells (cp - (0+k)) : Array Value)=cells
   have hcsz : cp*i0.size≤cells.size:=by
    rw [← hcells]
    simp only [Array.size_append,List.size_toArray,List.length_nil,pV,hzs,← Nat.add_mul]
    rw [Nat.zero_add,← Nat.add_mul]
    exact Nat.mul_le_mul_right _ (by omega)
   have hnew : (m.w.drew.alloc (.cells cells (ρ.t 25))).heap[m.w.heap.size]? = some (.cells cells (ρ.t 25) (0,0)):=heap_alloc_new m.w.drew _
   have hro':=(Els.nil (w:=m.w.drew.alloc (.cells cells (ρ.t 25))) (Z:=m.Z) (.own i0.size eb g []) (λ_ _=>.nilFunc) (λ_ _ _=>False)).repO hlf hs0 (b:=m.w.heap.size) (off:=0) (cap:=cp) hnew (by rw [Nat.zero_add];exact hcsz) (by simp) (λhzr=>by have:=hf.inv.zlt _ hzr;omega)
    (λi j hi=>by simp at hi) (λi j hi=>by simp at hi)
   refine fin hro' trivial (λr hr=>?_) (λr hr=>heap_alloc_old m.w.drew _ hr) (by simp) rfl rfl rfl
   rcases hr with rfl | ⟨i,j,hi,_⟩
   ·exact Nat.le_refl _
   ·simp at hi
theorem aQr (L : LaysM.n171 P ρ) {args : R} (h : aD8 args=some r) {w : World} {Z : NP} (htab : Lib.TabIs P w "internal/strconv.uint64pow10" .u64 Lib.pow10Tab) (hl : args.length=bI.size)
 (hr : ∀ (i : Nat) x v,args[i]? = some x→bI[i]? = some v→kX w Z x v) : Calls P (ρ.f 171) bI w (λe w'=>∃ v,e = .returned v∧∃ Z',aHL w w' Z Z'∧kX w' Z' (hd r) v):=by
 unfold aD8 at h
 split at h
 rotate_left
 ·cases h
 rename_i n
 split at h
 rotate_left
 ·cases h
 rename_i hc
 cases h
 obtain ⟨v0,rfl⟩ : ∃ v0,bI = #[v0]:=by
  match bI,hl with
  | ⟨[a]⟩,_=>exact ⟨a,rfl⟩
  | ⟨[]⟩,h=>simp at h
  | ⟨_::_::_⟩,h=>simp at h
 obtain rfl : v0 = .int .i64 n:=by
  have:=hr 0 _ _ rfl rfl
  cases this;rfl
 refine (Any.strconv_Itoa L n hc.1 hc.2 w htab).mono ?_
 rintro e w' ⟨rfl,k,os,rfl⟩
 have e0 : (Sort.grow (w.drewN k) os).heap=w.heap++os:=rfl
 refine ⟨_,rfl,Z,⟨by rw [e0];simp,rfl,rfl,rfl,λr hr=>?_,λ_ h=>h,λ_ h=>.inl h⟩,.str _⟩
 rw [e0,Array.getElem?_append_left hr]
end
noncomputable section
open Go Go.Shelf
def Tryz.laysM171_ren : Go.Shelf.Ren:=⟨λ| 171=>165 | 243=>193 | 246=>202 | 283=>204 | 284=>205 | 285=>206 | 286=>207 | 129=>209 | 317=>208 | 318=>210 | 319=>211 | 320=>212 | 337=>213 | 338=>214 | n=>n,λ| 3=>3 | 9=>9 | 2=>2 | 4=>4 | 171=>214 | 0=>0 | 53=>209 | 37=>22 | 5=>5 | 173=>217 | 212=>220 | 51=>206 | 20=>20 | 213=>221 | 46=>131 | 232=>224 | 233=>225 | n=>n,λ| 17=>0 | 18=>1 | 19=>2 | n=>n⟩
theorem Tryz.laysM171 : Go.Proofs.LaysM.n171 Tryz.prog Tryz.laysM171_ren:={
 mixed:=by kernel_rfl
 f129:=Tryz.func209.trans (congrArg some (by kernel_rfl))
 f171:=Tryz.func165.trans (congrArg some (by kernel_rfl))
 f243:=Tryz.func193.trans (congrArg some (by kernel_rfl))
 f246:=Tryz.func202.trans (congrArg some (by kernel_rfl))
 f283:=Tryz.func204.trans (congrArg some (by kernel_rfl))
 f284:=Tryz.func205.trans (congrArg some (by kernel_rfl))
 f285:=Tryz.func206.trans (congrArg some (by kernel_rfl))
 f286:=Tryz.func207.trans (congrArg some (by kernel_rfl))
 f317:=Tryz.func208.trans (congrArg some (by kernel_rfl))
 f318:=Tryz.func210.trans (congrArg some (by kernel_rfl))
 f319:=Tryz.func211.trans (congrArg some (by kernel_rfl))
 f320:=Tryz.func212.trans (congrArg some (by kernel_rfl))
 f337:=Tryz.func213.trans (congrArg some (by kernel_rfl))
 f338:=Tryz.func214.trans (congrArg some (by kernel_rfl))
 t0:=Tryz.underlying0
 a0:=Tryz.isAgg0
 z0:=Tryz.sizeOf0
 v0:=Tryz.zeroValue0
 t2:=Tryz.underlying2
 a2:=Tryz.isAgg2
 z2:=Tryz.sizeOf2
 v2:=Tryz.zeroValue2
 t3:=Tryz.underlying3
 a3:=Tryz.isAgg3
 z3:=Tryz.sizeOf3
 v3:=Tryz.zeroValue3
 t4:=Tryz.underlying4
 a4:=Tryz.isAgg4
 z4:=Tryz.sizeOf4
 v4:=Tryz.zeroValue4
 t5:=Tryz.underlying5
 a5:=Tryz.isAgg5
 z5:=Tryz.sizeOf5
 v5:=Tryz.zeroValue5
 t9:=Tryz.underlying9
 a9:=Tryz.isAgg9
 z9:=Tryz.sizeOf9
 v9:=Tryz.zeroValue9
 t20:=Tryz.underlying20
 a20:=Tryz.isAgg20
 z20:=Tryz.sizeOf20
 v20:=Tryz.zeroValue20
 t37:=Tryz.underlying22
 a37:=Tryz.isAgg22
 z37:=Tryz.sizeOf22
 v37:=Tryz.zeroValue22
 t46:=Tryz.underlying131
 a46:=Tryz.isAgg131
 z46:=Tryz.sizeOf131
 v46:=Tryz.zeroValue131
 t51:=Tryz.underlying206
 a51:=Tryz.isAgg206
 z51:=Tryz.sizeOf206
 v51:=Tryz.zeroValue206
 t53:=Tryz.underlying209
 a53:=Tryz.isAgg209
 z53:=Tryz.sizeOf209
 v53:=Tryz.zeroValue209
 t171:=Tryz.underlying214
 a171:=Tryz.isAgg214
 z171:=Tryz.sizeOf214
 v171:=Tryz.zeroValue214
 t173:=Tryz.underlying217
 a173:=Tryz.isAgg217
 z173:=Tryz.sizeOf217
 v173:=Tryz.zeroValue217
 t212:=Tryz.underlying220
 a212:=Tryz.isAgg220
 z212:=Tryz.sizeOf220
 v212:=Tryz.zeroValue220
 t213:=Tryz.underlying221
 a213:=Tryz.isAgg221
 z213:=Tryz.sizeOf221
 t232:=Tryz.underlying224
 a232:=Tryz.isAgg224
 z232:=Tryz.sizeOf224
 v232:=Tryz.zeroValue224
 t233:=Tryz.underlying225
 a233:=Tryz.isAgg225
 z233:=Tryz.sizeOf225
 v233:=Tryz.zeroValue225
 g17:=by kernel_rfl
 g18:=by kernel_rfl
 g19:=by kernel_rfl
 i0:=by kernel_rfl
 i2:=by kernel_rfl
 i3:=by kernel_rfl
 i4:=by kernel_rfl
 i5:=by kernel_rfl
 i9:=by kernel_rfl
 i20:=by kernel_rfl
 i37:=by kernel_rfl
 i46:=by kernel_rfl
 i51:=by kernel_rfl
 i53:=by kernel_rfl
 i171:=by kernel_rfl
 i173:=by kernel_rfl
 i212:=by kernel_rfl
 i232:=by kernel_rfl
 i233:=by kernel_rfl
 m17:=by kernel_rfl
 m18:=by kernel_rfl
 m19:=by kernel_rfl}
def Tryz.lays8n4_ren : Go.Shelf.Ren:=⟨λ| 4=>186 | n=>n,λ| 22=>38 | 25=>31 | 3=>3 | 4=>4 | 9=>9 | 20=>20 | 0=>0 | n=>n,λ| n=>n⟩
theorem Tryz.lays8n4 : Go.Proofs.Lays8.n4 Tryz.prog Tryz.lays8n4_ren:={
 mixed:=by kernel_rfl
 f4:=⟨Tryz.f186.name,by decide,Tryz.func186.trans (congrArg some (by kernel_rfl))⟩
 t0:=Tryz.underlying0
 a0:=Tryz.isAgg0
 z0:=Tryz.sizeOf0
 v0:=Tryz.zeroValue0
 t3:=Tryz.underlying3
 a3:=Tryz.isAgg3
 z3:=Tryz.sizeOf3
 v3:=Tryz.zeroValue3
 t4:=Tryz.underlying4
 a4:=Tryz.isAgg4
 z4:=Tryz.sizeOf4
 v4:=Tryz.zeroValue4
 t9:=Tryz.underlying9
 a9:=Tryz.isAgg9
 z9:=Tryz.sizeOf9
 v9:=Tryz.zeroValue9
 t20:=Tryz.underlying20
 a20:=Tryz.isAgg20
 z20:=Tryz.sizeOf20
 v20:=Tryz.zeroValue20
 t22:=Tryz.underlying38
 a22:=Tryz.isAgg38
 z22:=Tryz.sizeOf38
 v22:=Tryz.zeroValue38}
end
noncomputable section
open Go Go.Lib
variable {o k : Nat} {e : TypeId} {fz : Nat × Nat} {P : Program} {xs : R} {y : PV}
section
variable {w : World} {b off n c i vb voff vc : Nat} {cells vcells : Array Value} {ety vty : TypeId}
theorem aSL {w : World} {b : Nat} {cells : Array Value} (h : w.heap[b]? = some (.cells cells e fz)) : w.cell? ⟨b,o,none⟩=cells[o]?:=by
 simp [World.cell?,h]
def yH (cells : Array Value) (o k : Nat) : List Value:=(cells.toList.drop o).take k
theorem fI {cells : Array Value} (h : o+k≤cells.size) : (yH cells o k).length=k:=by
 simp [yH];omega
theorem rO {cells : Array Value} {j : Nat} (hj : j<k) : (yH cells o k)[j]? = cells[o+j]?:=by
 unfold yH
 rw [List.getElem?_take_of_lt hj,List.getElem?_drop,Array.getElem?_toList]
theorem aKU {cells : Array Value} {v : Value} (h : v∈yH cells o k) : ∃ j : Nat,j<k∧cells[o+j]? = some v:=by
 obtain ⟨j,hj⟩:=List.getElem?_of_mem h
 by_cases hk : j<k
 ·exact ⟨j,hk,by rw [← hj,rO hk]⟩
 ·exfalso
  have:=(List.getElem?_eq_some_iff.1 hj).1
  simp [yH] at this
  omega
theorem qV {w : World} {b s len cap : Nat} {cells : Array Value} (hh : w.heap[b]? = some (.cells cells e fz)) (hl : o+k*s≤cells.size) :
 (Builtin.firstCells s k (.slice (some ⟨b,o,none⟩) len cap)).run P w = .ok (yH cells o (k*s)).toArray w:=
 run_firstCells_some w s k ⟨b,o,none⟩ len cap _ (fI hl) λj v hj=>by
  have hlt:=(List.getElem?_eq_some_iff.1 hj).1
  rw [fI hl] at hlt
  rw [nF,aSL hh,← rO hlt]
  exact hj
theorem aAu {w : World} {b : Nat} {vs : List Value} {cells : Array Value} (hh : w.heap[b]? = some (.cells cells e (0,0))) (hl : o+vs.length≤cells.size) (h1 : ∀ v∈vs,eN v) :
 (storeCells ⟨b,o,none⟩ vs).run P w = .ok () (w.setCells b o vs):=by
 have:=run_storeCells_cells (P:=P) b o vs 0 w (λj hj=>by
  rw [Nat.add_zero,aSL hh,Array.getElem?_eq_getElem (by omega)];rfl) (λj _=>by simp [World.frozen?,hh]) (λv hv=>aCF (h1 v hv))
 simpa using this
end
def aR0 (w' : World) (b : Nat) (old : Nat→Option Value) (vcells : Array Value) (voff n i : Nat) (v : Value) : Prop:=∃ (o' cap : Nat) (cells' : Array Value) (ety : TypeId),
 v = .slice (some ⟨b,o',none⟩) (n+1) cap∧w'.heap[b]? = some (.cells cells' ety (0,0))∧o'+cap*4≤cells'.size∧n+1≤cap∧
 (∀ q,q<i*4→cells'[o'+q]? = old q)∧(∀ q,q<4→cells'[o'+i*4+q]? = vcells[voff+q]?)∧(∀ q,q<(n - i)*4→cells'[o'+(i+1)*4+q]? = old (i*4+q))
def aL1 (w w' : World) (b : NP) : Prop:=(∀ r,r<w.heap.size→¬ b r→w'.heap[r]? = w.heap[r]?)∧w.heap.size≤w'.heap.size∧w'.os=w.os∧w'.tape=w.tape∧w'.output=w.output
theorem aSM {i : Nat} (hi : i≤xs.length) (k : Nat) : (xs.take i++y::xs.drop i)[k]? = if k<i then xs[k]? else if k=i then some y else xs[k - 1]?:=by
 have hl : (xs.take i).length=i:=by rw [List.length_take];omega
 by_cases h : k<i
 ·rw [if_pos h,List.getElem?_append_left (by omega),List.getElem?_take_of_lt h]
 ·rw [if_neg h,List.getElem?_append_right (by omega),hl]
  by_cases h2 : k=i
  ·subst h2;rw [if_pos rfl,Nat.sub_self];rfl
  ·rw [if_neg h2]
   obtain ⟨q,rfl⟩ : ∃ q,k=i+(q+1):=⟨k - i - 1,by omega⟩
   rw [show i+(q+1) - i=q+1 by omega,List.getElem?_cons_succ,List.getElem?_drop,show i+(q+1) - 1=i+q by omega]
theorem Els.ins {w : World} {Z : NP} {o : OTy} {cv dv : Nat→Nat→Value} {i : Nat} (E : Els w Z o xs cv (λ_ _ _=>False)) (D : Els w Z o [y] dv (λ_ _ _=>False)) (hi : i≤xs.length) :
 Els w Z o (xs.take i++y::xs.drop i) (λk j=>if k<i then cv k j else if k=i then dv 0 j else cv (k - 1) j) (λ_ _ _=>False) where
 el:=λk x hx=>by
  rw [aSM hi] at hx
  split at hx
  ·exact E.el _ _ hx
  ·split at hx
   ·exact D.el 0 _ hx
   ·exact E.el _ _ hx
 one:=λk j hk hj=>by
  simp only [List.length_append,List.length_cons,List.length_take,List.length_drop] at hk
  split
  ·exact E.one _ _ (by omega) hj
  ·split
   ·exact D.one 0 _ (by simp) hj
   ·exact E.one _ _ (by omega) hj
 rep:=λk j x hx hj=>by
  rw [aSM hi] at hx
  split at hx
  ·rename_i h;rw [if_pos h];exact E.rep _ _ _ hx hj
  ·rename_i h;rw [if_neg h]
   split at hx
   ·rename_i h2;rw [if_pos h2];exact D.rep 0 _ _ hx hj
   ·rename_i h2;rw [if_neg h2];exact E.rep _ _ _ hx hj
 fd:=λ_ _ _ _ _ _ _ _ _ h=>h.elim
theorem aUX {i : Int} {c d : PV} {r : R} (h : aUJ i c d=some r) : ∃ xs y,c = .lst xs∧d = .lst [y]∧0≤i∧i≤xs.length∧xs.length≤1000000∧r = [.lst (xs.take i.toNat++y::xs.drop i.toNat)]:=by
 unfold aUJ at h
 split at h
 ·rename_i xs y
  split at h
  ·rename_i hc;cases h;exact ⟨xs,y,rfl,rfl,hc.1,hc.2.1,hc.2.2,rfl⟩
  ·cases h
 ·cases h
variable {base : Option Addr}
section
variable {w : World} {b off n c i vb voff vc : Nat} {cells vcells : Array Value} {ety vty : TypeId} {olds : List Value}
set_option maxRecDepth 100000 in
theorem aFw : ∃ i0 : TypeInfo,Tryz.prog.info? 57=some i0∧i0.size=4∧i0.bytes=32∧i0.zero=some (.agg #[.int .i64 0,.int .i64 0,.int .i64 0,.int .i64 0]):=by
 have h : (Tryz.prog.info? 57).map (λi=>(i.size,i.bytes,i.zero))=some (4,32,some (.agg #[.int .i64 0,.int .i64 0,.int .i64 0,.int .i64 0])):=by kernel_rfl
 cases hi : Tryz.prog.info? 57 with
 | none=>rw [hi] at h;cases h
 | some i=>rw [hi] at h;simp at h;exact ⟨i,rfl,h.1,h.2.1,h.2.2⟩
set_option maxHeartbeats 4000000 in
set_option maxRecDepth 100000 in
theorem aO3 (hroom : n+1≤c) (hb : w.heap[b]? = some (.cells cells ety (0,0))) (hc : off+c*4≤cells.size)
 (hv : w.heap[vb]? = some (.cells vcells vty (0,0))) (hvc : voff+1*4≤vcells.size) (h1 : ∀ v∈yH vcells voff (1*4),eN v) :
 Calls Tryz.prog 49 #[.slice (some ⟨b,off,none⟩) n c,.int .i64 n,.slice (some ⟨vb,voff,none⟩) 1 vc] w λe w'=>
  e = .returned (.slice (some ⟨b,off,none⟩) (n+1) c)∧w'=w.setCells b (off+n*4) (yH vcells voff (1*4)):=by
 obtain ⟨i0,hi0,his,hib,hiz⟩:=aFw
 have hrun : ∀ ty,(Builtin.append_ #[41,41] ty #[.slice (some ⟨b,off,none⟩) n c,.slice (some ⟨vb,voff,none⟩) 1 vc]).run Tryz.prog w = .ok (.slice (some ⟨b,off,none⟩) (n+1) c) (w.setCells b (off+n*i0.size) (yH vcells voff (1*4))):=λty=>
  yU Tryz.underlying41 (.inl ⟨_,Tryz.underlying41⟩) hi0 rfl (by rw [his];exact qV hv hvc) hroom (aAu hb (by rw [fI hvc,his];omega) h1)
 rw [his] at hrun
 go_enter Tryz.func49,Tryz.ntmps49
 go_wp2_with (at_builtin;refine Lib.wpList_append_run _ rfl _ _ _ _ rfl _ _ rfl rfl _ _ (hrun _) ?_)
 go_ret
 exact ⟨rfl,rfl⟩
set_option maxHeartbeats 4000000 in
set_option maxRecDepth 100000 in
theorem aHQ (hroom : c<n+1) (hbig : (n+1)*32≤140737488355328)
 (hold : olds = []∧n=0∨∃ a cells ety,base=some ⟨b,a,none⟩∧w.heap[b]? = some (.cells cells ety (0,0))∧olds=yH cells a (n*4)∧a+n*4≤cells.size)
 (hv : w.heap[vb]? = some (.cells vcells vty (0,0))) (hvc : voff+1*4≤vcells.size) :
 Calls Tryz.prog 49 #[.slice base n c,.int .i64 n,.slice (some ⟨vb,voff,none⟩) 1 vc] w λe w'=>
  e = .returned (.slice (some ⟨w.heap.size,0,none⟩) (n+1) (grownCap w (n+1) c 57))∧
  w'=w.drew.alloc (.cells ((olds++yH vcells voff (1*4)).toArray++Builtin.zeroCells (Value.agg #[.int .i64 0,.int .i64 0,.int .i64 0,.int .i64 0]).cells (grownCap w (n+1) c 57 - (n+1))) 57):=by
 obtain ⟨i0,hi0,his,hib,hiz⟩:=aFw
 have ho : (Builtin.firstCells i0.size n (.slice base n c)).run Tryz.prog w.drew = .ok olds.toArray w.drew:=by
  rcases hold with ⟨h1,h2⟩ | ⟨a,cells,ety,h1,h2,h3,h4⟩
  ·rw [h1,h2]
   cases base with
   | none=>simp [Builtin.firstCells]
   | some a=>exact run_firstCells_some w.drew i0.size 0 a 0 c [] (by simp) (by simp)
  ·rw [h1,h3,his];exact qV (w:=w.drew) h2 h4
 have hrun : ∀ ty,(Builtin.append_ #[41,41] ty #[.slice base n c,.slice (some ⟨vb,voff,none⟩) 1 vc]).run Tryz.prog w=_:=λty=>
  yV (w:=w) Tryz.underlying41 (.inl ⟨_,Tryz.underlying41⟩) hi0 hiz (sCap:=c) (x:=.slice (some ⟨vb,voff,none⟩) 1 vc) (n:=1) rfl (by rw [his];exact qV (w:=w.drew) hv hvc) ho hroom (by omega) (by rw [hib];exact growslice_fits hroom hbig)
 simp only [List.append_toArray] at hrun
 clear hold ho
 cases base with
 | none=>
   go_enter Tryz.func49,Tryz.ntmps49
   go_wp2_with (at_builtin;refine Lib.wpList_append_run _ rfl _ _ _ _ rfl _ _ rfl rfl _ _ (hrun _) ?_)
   all_goals (go_ret;exact ⟨rfl,rfl⟩)
 | some a=>
   obtain ⟨ab,ao,asp⟩:=a
   go_enter Tryz.func49,Tryz.ntmps49
   go_wp2_with (at_builtin;refine Lib.wpList_append_run _ rfl _ _ _ _ rfl _ _ rfl rfl _ _ (hrun _) ?_)
   all_goals (go_ret;exact ⟨rfl,rfl⟩)
set_option maxHeartbeats 4000000 in
set_option maxRecDepth 100000 in
theorem aTI (hi : i<n) (hbig : n≤1000000) (hroom : n+1≤c) (hb : w.heap[b]? = some (.cells cells ety (0,0))) (hc : off+c*4≤cells.size) (hvb : vb≠b)
 (hv : w.heap[vb]? = some (.cells vcells vty (0,0))) (hvc : voff+1*4≤vcells.size) (h1 : ∀ v∈yH vcells voff (1*4),eN v) (h2 : ∀ v∈yH cells off (n*4),eN v) :
 Calls Tryz.prog 49 #[.slice (some ⟨b,off,none⟩) n c,.int .i64 i,.slice (some ⟨vb,voff,none⟩) 1 vc] w λe w'=>
  e = .returned (.slice (some ⟨b,off,none⟩) (n+1) c)∧w'=(w.drew.setCells b (off+(i+1)*4) (yH cells (off+i*4) ((n - i)*4))).setCells b (off+i*4) (yH vcells voff (1*4)):=by
 obtain ⟨i0,hi0,his,hib,hiz⟩:=aFw
 have hz2 : ¬ ((i : Int)=(n : Int)):=by omega
 have mixed : Tryz.prog.follows Departure.mixedOrders=true:=by kernel_rfl
 have hcells : (n+1)*4≤c*4:=Nat.mul_le_mul_right _ hroom
 have hov : ∀ lb cb,(callFunc 92 #[.slice (some ⟨vb,voff,none⟩) 1 vc,.slice (some ⟨b,off+(i+1)*4,none⟩) lb cb]).run Tryz.prog w = .ok (.value (.bool false)) w:=λlb cb=>by
  rw [run_callFunc_extern Tryz.func92 (by kernel_rfl) (by kernel_rfl) (by kernel_rfl) (e:=Extern.SlicesOverlaps.overlaps #[41,41] #[4]) (by kernel_rfl),
   Lib.run_overlaps_apart w 41 4 57 Tryz.underlying41 4 Tryz.sizeOf57 ⟨vb,voff,none⟩ ⟨b,off+(i+1)*4,none⟩ 1 vc lb cb hvb vty ety vcells.size cells.size (by simp [World.shape?,hv]) (by simp [World.shape?,hb]) (by omega) (by simp [World.frozen?,hv]) (by simp [World.frozen?,hv])]
  rfl
 have hw1 : IntKind.i64.wrap ((i : Int)+(1 : Int))=(i : Int)+(1 : Int):=by rw [IntKind.wrap_i64];omega
 have hb1 : (0 : Int)≤(i : Int)+(1 : Int):=by omega
 have hin : i≤n:=by omega
 have htn : ((i : Int)+(1 : Int)).toNat=i+1:=by omega
 have hb2 : ¬ (c=i+1):=by omega
 have hb3 : (i : Int)≤(n : Int)+(1 : Int):=by omega
 have hb4 : ¬ (c=i):=by omega
 have hsl : off+i*4+(n - i)*4≤cells.size:=by omega
 have hcp1 : ∀ ty dc sc,(Builtin.copy_ #[41,41] ty #[.slice (some ⟨b,off+(i+1)*4,none⟩) (n - i) dc,.slice (some ⟨b,off+i*4,none⟩) (n+1 - i) sc]).run Tryz.prog w.drew = .ok (goInt (Nat.min (n+1 - i) (n - i))) (w.drew.setCells b (off+(i+1)*4) (yH cells (off+i*4) ((n - i)*4))):=λty dc sc=>by
  refine uZ (w:=w.drew) Tryz.underlying41 hi0 rfl ?_ (aAu (w:=w.drew) hb (by rw [fI hsl];omega) (λv hv=>?_))
  ·rw [his,show Nat.min (n+1 - i) (n - i)=n - i by simp only [Nat.min_def];split<;>omega]
   exact qV (w:=w.drew) hb hsl
  ·obtain ⟨j,hj,hx⟩:=aKU hv
   refine h2 v (List.mem_of_getElem? (i:=i*4+j) ?_)
   rw [rO (by omega),← Nat.add_assoc];exact hx
 obtain ⟨W1,hW1⟩ : ∃ W1,W1=w.drew.setCells b (off+(i+1)*4) (yH cells (off+i*4) ((n - i)*4)):=⟨_,rfl⟩
 obtain ⟨cells',c1,c2,c3,c4⟩:=gO (yH cells (off+i*4) ((n - i)*4)) (off+(i+1)*4) w.drew cells hb (by rw [fI hsl];omega)
 have hWv : W1.heap[vb]? = some (.cells vcells vty (0,0)):=by rw [hW1,eG hvb];exact hv
 rw [← hW1] at c1
 have hcp2 : ∀ (W : World),W.heap=W1.heap→∀ ty dc,(Builtin.copy_ #[41,41] ty #[.slice (some ⟨b,off+i*4,none⟩) (n+1 - i) dc,.slice (some ⟨vb,voff,none⟩) 1 vc]).run Tryz.prog W = .ok (goInt (Nat.min 1 (n+1 - i))) (W.setCells b (off+i*4) (yH vcells voff (1*4))):=λW hW ty dc=>by
  refine uZ (w:=W) Tryz.underlying41 hi0 rfl ?_ (aAu (cells:=cells') (e:=ety) (by rw [hW];exact c1) (by rw [fI hvc,c2];omega) h1)
  rw [his,show Nat.min 1 (n+1 - i)=1 by simp only [Nat.min_def];split<;>omega]
  exact qV (by rw [hW];exact hWv) hvc
 rw [← hW1] at hcp1
 go_enter Tryz.func49,Tryz.ntmps49
 go_wp2_with (simp only [hov])
 go_region_law_o (refine step_copy_runI rfl _ _ 41 41 rfl _ _ (by simp [Act.eval,Act.put]) (by simp [Act.eval,Act.put]) (hcp1 _ _ _) ?_)
 go_wp2_with (at_builtin;refine wpList_copy_runI _ rfl _ _ 41 41 rfl _ _ rfl rfl (hcp2 _ rfl _ _) ?_)
 go_ret
 first | exact ⟨rfl,rfl⟩ | exact ⟨rfl,by rw [hW1]⟩
set_option maxHeartbeats 4000000 in
set_option maxRecDepth 100000 in
theorem aUY (hi : i<n) (hnc : n≤c) (hroom : c<n+1) (hbig : (n+1)*32≤140737488355328) (hb : w.heap[b]? = some (.cells cells ety (0,0))) (hc : off+c*4≤cells.size)
 (hv : w.heap[vb]? = some (.cells vcells vty (0,0))) (hvc : voff+1*4≤vcells.size) (h1 : ∀ v∈yH vcells voff (1*4),eN v) (h2 : ∀ v∈yH cells off (n*4),eN v) :
 Calls Tryz.prog 49 #[.slice (some ⟨b,off,none⟩) n c,.int .i64 i,.slice (some ⟨vb,voff,none⟩) 1 vc] w λe w'=>∃ G ROW,
  e = .returned (.slice (some ⟨w.heap.size,0,none⟩) (n+1) G)∧n+1≤G∧ROW.size=G*4∧(∀ q,q<i*4→ROW[q]? = cells[off+q]?)∧
  w'=(((w.alloc (.cells ROW 57)).drew.setCells w.heap.size (i*4) (yH vcells voff (1*4))).drew).setCells w.heap.size ((i+1)*4) (yH cells (off+i*4) ((n - i)*4)):=by
 obtain ⟨i0,hi0,his,hib,hiz⟩:=aFw
 have mixed : Tryz.prog.follows Departure.mixedOrders=true:=by kernel_rfl
 have hz2 : ¬ ((i : Int)=(n : Int)):=by omega
 have hz3 : (c : Int)<(n : Int)+(1 : Int):=by omega
 have hbw : b<w.heap.size:=(Array.getElem?_eq_some_iff.1 hb).1
 have hvw : vb<w.heap.size:=(Array.getElem?_eq_some_iff.1 hv).1
 have hkk : (n : Int)+(1 : Int) - (i : Int)=((n+1 - i : Nat) : Int):=by omega
 have hik : i+(n+1 - i)=n+1:=by omega
 have hnc4 : n*4≤c*4:=Nat.mul_le_mul_right _ hnc
 have hsi : off+i*4≤cells.size:=by omega
 have hsl : off+i*4+(n - i)*4≤cells.size:=by omega
 have hold : (Builtin.firstCells i0.size i (.slice (some ⟨b,off,none⟩) i c)).run Tryz.prog w.drew = .ok (yH cells off (i*4)).toArray w.drew:=by
  rw [his];exact qV (w:=w.drew) hb hsi
 have hrz : ∀ ty,(Builtin.append_ #[41,3] ty #[.slice (some ⟨b,off,none⟩) i c,.int .i64 ((n : Int)+(1 : Int) - (i : Int))]).run Tryz.prog w =
  .ok (.slice (some ⟨w.heap.size,0,none⟩) (n+1) (grownCap w (n+1) c 57)) (w.drew.alloc (.cells ((yH cells off (i*4)).toArray++Builtin.zeroCells (Value.agg #[.int .i64 0,.int .i64 0,.int .i64 0,.int .i64 0]).cells (n+1 - i)++Builtin.zeroCells (Value.agg #[.int .i64 0,.int .i64 0,.int .i64 0,.int .i64 0]).cells (grownCap w (n+1) c 57 - (n+1))) 57)):=λty=>by
  have h:=Lib.run_append_grow_zeros w 41 3 ty 57 i0 _ .i64 .i64 Tryz.underlying41 Tryz.underlying3 hi0 hiz (some ⟨b,off,none⟩) i c _ hold (n+1 - i) (by omega) (by omega) (by omega) (by omega) (by rw [hib];omega) (by rw [hib,hik];exact growslice_fits hroom hbig)
  rw [hik] at h
  rw [hkk]
  exact h
 obtain ⟨G,hG⟩ : ∃ G,G=grownCap w (n+1) c 57:=⟨_,rfl⟩
 obtain ⟨ROW,hROW⟩ : ∃ ROW : Array Value,ROW=(yH cells off (i*4)).toArray++Builtin.zeroCells (Value.agg #[.int .i64 0,.int .i64 0,.int .i64 0,.int .i64 0]).cells (n+1 - i)++Builtin.zeroCells (Value.agg #[.int .i64 0,.int .i64 0,.int .i64 0,.int .i64 0]).cells (G - (n+1)):=⟨_,rfl⟩
 have hGn : n+1≤G:=by rw [hG];exact grownCap_ge w _ _ _
 rw [← hG] at hrz
 rw [← hROW] at hrz
 have hRs : ROW.size=G*4:=by
  rw [hROW]
  simp only [Array.size_append,List.size_toArray,fI (show off+i*4≤cells.size by omega),pV]
  show i*4+(n+1 - i)*4+(G - (n+1))*4=G*4
  omega
 have hRp : ∀ q,q<i*4→ROW[q]? = cells[off+q]?:=λq hq=>by
  have hl:=fI hsi
  rw [hROW,Array.append_assoc,Array.getElem?_append_left (by simp [hl];exact hq)]
  rw [← rO (cells:=cells) (o:=off) hq]
  simp
 obtain ⟨W1,hW1⟩ : ∃ W1,W1=w.drew.alloc (.cells ROW 57):=⟨_,rfl⟩
 rw [← hW1] at hrz
 have hN : W1.heap[w.heap.size]? = some (.cells ROW 57 (0,0)):=by rw [hW1];exact heap_alloc_new w.drew _
 have hO : ∀ r,r<w.heap.size→W1.heap[r]? = w.heap[r]?:=λr hr=>by rw [hW1];exact heap_alloc_old w.drew _ hr
 have hcpA : ∀ (W : World),W.heap=W1.heap→∀ ty dc,(Builtin.copy_ #[41,41] ty #[.slice (some ⟨w.heap.size,i*4,none⟩) (n+1 - i) dc,.slice (some ⟨vb,voff,none⟩) 1 vc]).run Tryz.prog W = .ok (goInt (Nat.min 1 (n+1 - i))) (W.setCells w.heap.size (i*4) (yH vcells voff (1*4))):=λW hW ty dc=>by
  refine uZ (w:=W) Tryz.underlying41 hi0 rfl ?_ (aAu (cells:=ROW) (e:=57) (by rw [hW];exact hN) (by rw [fI hvc,hRs];omega) h1)
  rw [his,show Nat.min 1 (n+1 - i)=1 by simp only [Nat.min_def];split<;>omega]
  exact qV (by rw [hW,hO _ hvw];exact hv) hvc
 obtain ⟨ROW',d1,d2,d3,d4⟩:=gO (yH vcells voff (1*4)) (i*4) W1 ROW hN (by rw [fI hvc,hRs];omega)
 have hcpB : ∀ (W : World),W.heap=(W1.setCells w.heap.size (i*4) (yH vcells voff (1*4))).heap→∀ ty dc sc,(Builtin.copy_ #[41,41] ty #[.slice (some ⟨w.heap.size,(i+1)*4,none⟩) (n - i) dc,.slice (some ⟨b,off+i*4,none⟩) (n - i) sc]).run Tryz.prog W = .ok (goInt (Nat.min (n - i) (n - i))) (W.setCells w.heap.size ((i+1)*4) (yH cells (off+i*4) ((n - i)*4))):=λW hW ty dc sc=>by
  refine uZ (w:=W) Tryz.underlying41 hi0 rfl ?_ (aAu (cells:=ROW') (e:=57) (by rw [hW];exact d1) (by rw [fI hsl,d2,hRs];omega) (λv hv=>?_))
  ·rw [his,show Nat.min (n - i) (n - i)=n - i by simp only [Nat.min_def];split<;>omega]
   exact qV (by rw [hW,eG (by omega),hO _ hbw];exact hb) hsl
  ·obtain ⟨j,hj,hx⟩:=aKU hv
   refine h2 v (List.mem_of_getElem? (i:=i*4+j) ?_)
   rw [rO (by omega),← Nat.add_assoc];exact hx
 have hG63 : G≤9223372036854775807:=by
  have:=grownCap_le_maxLen w (n+1) c 57 (by unfold maxLen;omega)
  rw [← hG] at this
  unfold maxLen at this
  omega
 have hGi : ¬ (G=i):=by omega
 have hGim : ¬ (G=i+1):=by omega
 have hci : ¬ (c=i):=by omega
 subst hW1
 have hE1 : ((w.alloc (.cells ROW 57)).drew).heap=(w.drew.alloc (.cells ROW 57)).heap:=rfl
 have hF1 : (((w.alloc (.cells ROW 57)).drew.setCells w.heap.size (i*4) (yH vcells voff (1*4))).drew).heap=((w.drew.alloc (.cells ROW 57)).setCells w.heap.size (i*4) (yH vcells voff (1*4))).heap:=rfl
 have hw1 : IntKind.i64.wrap ((i : Int)+(1 : Int))=(i : Int)+(1 : Int):=by rw [IntKind.wrap_i64];omega
 have hb1 : (0 : Int)≤(i : Int)+(1 : Int):=by omega
 have hin : i≤n:=by omega
 have htn : ((i : Int)+(1 : Int)).toNat=i+1:=by omega
 have hb3 : (i : Int)≤(n : Int):=by omega
 clear hkk hik hold hROW hG
 go_enter Tryz.func49,Tryz.ntmps49
 go_wp2_with (first
  | (at_builtin;refine Lib.wpList_append_run _ rfl _ _ _ _ rfl _ _ rfl rfl _ _ (hrz _) ?_)
  | (at_builtin;refine wpList_copy_runI _ rfl _ _ 41 41 rfl _ _ rfl rfl (hcpA _ hE1 _ _) ?_)
  | (at_builtin;refine wpList_copy_runI _ rfl _ _ 41 41 rfl _ _ rfl rfl (hcpB _ rfl _ _ _) ?_))
 go_region_law_o (refine step_copy_runI rfl _ _ 41 41 rfl (.slice (some ⟨w.heap.size,(i+1)*4,none⟩) (n - i) (G - (i+1))) (.slice (some ⟨b,off+i*4,none⟩) (n - i) (c - i)) (by simp [Act.eval,Act.put]) (by simp [Act.eval,Act.put]) (hcpB _ hF1 3 (G - (i+1)) (c - i)) ?_)
 go_wp2
 go_ret
 exact ⟨G,ROW,rfl,hGn,hRs,hRp,rfl⟩
theorem aWk (hv : w.heap[vb]? = some (.cells vcells vty (0,0))) (hvc : voff+1*4≤vcells.size) {old : Nat→Option Value} :
 Calls Tryz.prog 49 #[.slice base 0 0,.int .i64 (0 : Nat),.slice (some ⟨vb,voff,none⟩) 1 vc] w λe w'=>∃ v,e = .returned v∧aL1 w w' (λ_=>False)∧aR0 w' w.heap.size old vcells voff 0 0 v:=by
 refine (aHQ (olds:=[]) (b:=0) (n:=0) (c:=0) (by omega) (by omega) (.inl ⟨rfl,rfl⟩) hv hvc).mono ?_
 rintro e w' ⟨rfl,rfl⟩
 have hge:=grownCap_ge w (0+1) 0 57
 refine ⟨_,rfl,⟨λr hr _=>heap_alloc_old w.drew _ hr,by simp,rfl,rfl,rfl⟩,0,_,_,57,rfl,heap_alloc_new w.drew _,?_,hge,λq hq=>by omega,λq hq=>?_,λq hq=>by omega⟩
 ·simp only [Array.size_append,List.size_toArray,List.nil_append,fI hvc,pV]
  show 0+_*4≤1*4+(_ - (0+1))*4
  omega
 ·rw [Array.getElem?_append_left (by simp [fI hvc];omega)]
  rw [← rO (cells:=vcells) (o:=voff) (k:=1*4) (by omega : q<1*4)]
  simp
theorem aWl (hi : i≤n) (hnc : n≤c) (hbig : n≤1000000) (hb : w.heap[b]? = some (.cells cells ety (0,0))) (hc : off+c*4≤cells.size) (hvb : vb≠b)
 (hv : w.heap[vb]? = some (.cells vcells vty (0,0))) (hvc : voff+1*4≤vcells.size) (h1 : ∀ v∈yH vcells voff (1*4),eN v) (h2 : ∀ v∈yH cells off (n*4),eN v) :
 Calls Tryz.prog 49 #[.slice (some ⟨b,off,none⟩) n c,.int .i64 i,.slice (some ⟨vb,voff,none⟩) 1 vc] w λe w'=>∃ v b',e = .returned v∧aL1 w w' (λr=>r=b)∧(b'=b∨b'=w.heap.size)∧
  aR0 w' b' (λq=>cells[off+q]?) vcells voff n i v:=by
 have hbw : b<w.heap.size:=(Array.getElem?_eq_some_iff.1 hb).1
 have hnc4 : n*4≤c*4:=Nat.mul_le_mul_right _ hnc
 have hsl : off+i*4+(n - i)*4≤cells.size:=by omega
 by_cases hroom : n+1≤c
 ·have hcells : (n+1)*4≤c*4:=Nat.mul_le_mul_right _ hroom
  by_cases hin : i=n
  ·subst hin
   refine (aO3 hroom hb hc hv hvc h1).mono ?_
   rintro e w' ⟨rfl,rfl⟩
   obtain ⟨cells',c1,c2,c3,c4⟩:=gO (yH vcells voff (1*4)) (off+i*4) w cells hb (by rw [fI hvc];omega)
   obtain ⟨e1,e2,e3,e4⟩:=iQ (yH vcells voff (1*4)) b (off+i*4) w
   refine ⟨_,b,rfl,⟨λr hr hb=>eG hb _ _ _,by rw [e1];exact Nat.le_refl _,e2,e3,e4⟩,.inl rfl,off,c,cells',ety,rfl,c1,by rw [c2];exact hc,hroom,λq hq=>c4 _ (.inl (by omega)),λq hq=>?_,λq hq=>by omega⟩
   rw [c3 q (by rw [fI hvc];omega),rO (by omega)]
  ·have hlt : i<n:=by omega
   refine (aTI hlt hbig hroom hb hc hvb hv hvc h1 h2).mono ?_
   rintro e w' ⟨rfl,rfl⟩
   obtain ⟨cells',c1,c2,c3,c4⟩:=gO (yH cells (off+i*4) ((n - i)*4)) (off+(i+1)*4) w.drew cells hb (by rw [fI hsl];omega)
   obtain ⟨e1,e2,e3,e4⟩:=iQ (yH cells (off+i*4) ((n - i)*4)) b (off+(i+1)*4) w.drew
   obtain ⟨cells2,d1,d2,d3,d4⟩:=gO (yH vcells voff (1*4)) (off+i*4) _ cells' c1 (by rw [fI hvc,c2];omega)
   obtain ⟨f1,f2,f3,f4⟩:=iQ (yH vcells voff (1*4)) b (off+i*4) (w.drew.setCells b (off+(i+1)*4) (yH cells (off+i*4) ((n - i)*4)))
   rw [fI hsl] at c3 c4
   rw [fI hvc] at d3 d4
   refine ⟨_,b,rfl,⟨λr hr hb=>by rw [eG hb,eG hb];rfl,by rw [f1,e1];exact Nat.le_refl _,by rw [f2,e2];rfl,by rw [f3,e3];rfl,by rw [f4,e4];rfl⟩,.inl rfl,off,c,cells2,ety,rfl,d1,by rw [d2,c2];exact hc,hroom,λq hq=>?_,λq hq=>?_,λq hq=>?_⟩
   ·rw [d4 _ (.inl (by omega)),c4 _ (.inl (by omega))]
   ·rw [d3 q (by omega),rO (by omega)]
   ·rw [d4 _ (.inr (by omega)),c3 q hq,rO hq,Nat.add_assoc]
 ·by_cases hin : i=n
  ·subst hin
   refine (aHQ (olds:=yH cells off (i*4)) (base:=some ⟨b,off,none⟩) (b:=b) (by omega) (by omega) (.inr ⟨off,cells,ety,rfl,hb,rfl,by omega⟩) hv hvc).mono ?_
   rintro e w' ⟨rfl,rfl⟩
   have hge:=grownCap_ge w (i+1) c 57
   have hsi : off+i*4≤cells.size:=by omega
   refine ⟨_,_,rfl,⟨λr hr _=>heap_alloc_old w.drew _ hr,by simp,rfl,rfl,rfl⟩,.inr rfl,0,_,_,57,rfl,heap_alloc_new w.drew _,?_,hge,λq hq=>?_,λq hq=>?_,λq hq=>by omega⟩
   ·simp only [Array.size_append,List.size_toArray,List.length_append,fI hvc,fI hsi,pV]
    show 0+_*4≤i*4+1*4+(_ - (i+1))*4
    omega
   ·rw [Array.getElem?_append_left (by simp [fI hvc,fI hsi];omega)]
    show _=cells[off+q]?
    rw [← rO (cells:=cells) (o:=off) (k:=i*4) hq,List.getElem?_toArray,Nat.zero_add,List.getElem?_append_left (by rw [fI hsi];exact hq)]
   ·rw [Array.getElem?_append_left (by simp [fI hvc,fI hsi];omega)]
    rw [← rO (cells:=vcells) (o:=voff) (k:=1*4) (by omega : q<1*4),List.getElem?_toArray,Nat.zero_add,List.getElem?_append_right (by rw [fI hsi];omega),fI hsi,Nat.add_sub_cancel_left]
  ·have hlt : i<n:=by omega
   refine (aUY hlt hnc (by omega) (by omega) hb hc hv hvc h1 h2).mono ?_
   rintro e w' ⟨G,ROW,rfl,hG,hRs,hRp,rfl⟩
   have hN : ((w.alloc (.cells ROW 57)).drew).heap[w.heap.size]? = some (.cells ROW 57 (0,0)):=heap_alloc_new w _
   obtain ⟨cells',c1,c2,c3,c4⟩:=gO (yH vcells voff (1*4)) (i*4) ((w.alloc (.cells ROW 57)).drew) ROW hN (by rw [fI hvc,hRs];omega)
   obtain ⟨e1,e2,e3,e4⟩:=iQ (yH vcells voff (1*4)) w.heap.size (i*4) ((w.alloc (.cells ROW 57)).drew)
   obtain ⟨cells2,d1,d2,d3,d4⟩:=gO (yH cells (off+i*4) ((n - i)*4)) ((i+1)*4) (((w.alloc (.cells ROW 57)).drew.setCells w.heap.size (i*4) (yH vcells voff (1*4))).drew) cells' c1 (by rw [fI hsl,c2,hRs];omega)
   obtain ⟨f1,f2,f3,f4⟩:=iQ (yH cells (off+i*4) ((n - i)*4)) w.heap.size ((i+1)*4) (((w.alloc (.cells ROW 57)).drew.setCells w.heap.size (i*4) (yH vcells voff (1*4))).drew)
   rw [fI hvc] at c3 c4
   rw [fI hsl] at d3 d4
   refine ⟨_,_,rfl,⟨λr hr _=>?_,?_,?_,?_,?_⟩,.inr rfl,0,G,cells2,57,rfl,d1,by rw [d2,c2,hRs];omega,hG,λq hq=>?_,λq hq=>?_,λq hq=>?_⟩
   ·rw [eG (by omega)]
    show ((w.alloc (.cells ROW 57)).drew.setCells w.heap.size (i*4) (yH vcells voff (1*4))).heap[r]? = _
    rw [eG (by omega)]
    exact heap_alloc_old w _ hr
   ·rw [f1]
    show _≤((w.alloc (.cells ROW 57)).drew.setCells w.heap.size (i*4) (yH vcells voff (1*4))).heap.size
    rw [e1]
    show _≤(w.alloc (.cells ROW 57)).heap.size
    simp
   ·rw [f2];exact e2
   ·rw [f3];exact e3
   ·rw [f4];exact e4
   ·rw [d4 _ (.inl (by omega)),c4 _ (.inl (by omega)),Nat.zero_add,hRp q hq]
   ·rw [d4 _ (.inl (by omega)),Nat.zero_add,c3 q (by omega),rO (by omega)]
   ·rw [Nat.zero_add,d3 q hq,rO hq,Nat.add_assoc]
end
theorem aR1 {args : List DV} {s : St} {r : R} (h : qS args s=some r) {m : bY} {bI : Array Value} (hf : kC m s s.base) (hl : args.length=bI.size) (hr : ∀ (i : Nat) d v,args[i]? = some d→bI[i]? = some v→m.rd d v)
 {t : eX} (ht : t.res = .ref 0 []∧t.boxes = []∧t.lists = [some ⟨aFN,.int .i64 0⟩]) :
 Calls Tryz.prog 49 bI m.w (λe w'=>∃ v,e = .returned v∧wN m 0 0 (some t) r v w'):=by
 unfold qS at h
 split at h
 rotate_left
 ·cases h
 rename_i i _
 obtain ⟨pv,ls,hk,_,H0⟩:=lB h
 obtain ⟨pv',ls',hk',_,H1⟩:=lB hk
 obtain ⟨xs,y,rfl,rfl,hi0,hi1,hlen,rfl⟩:=aUX hk'
 obtain ⟨v0,v1,v2,rfl⟩ : ∃ v0 v1 v2,bI = #[v0,v1,v2]:=by
  match bI,hl with
  | ⟨[a,b,c]⟩,_=>exact ⟨a,b,c,rfl⟩
  | ⟨[]⟩,h=>simp at h
  | ⟨[_]⟩,h=>simp at h
  | ⟨[_,_]⟩,h=>simp at h
  | ⟨_::_::_::_::_⟩,h=>simp at h
 have h0:=hr 0 _ _ rfl rfl
 have h1:=hr 1 _ _ rfl rfl
 have h2:=hr 2 _ _ rfl rfl
 obtain rfl : v1 = .int .i64 i:=by
  cases h1 with
  | p _ _ h1=>cases h1;rfl
 obtain ⟨i,rfl⟩:=Int.eq_ofNat_of_zero_le hi0
 rw [Int.toNat_natCast]
 have hin : i≤xs.length:=by omega
 have sit:=hf.sit (Nat.le_refl s.base)
 obtain ⟨m2,F0,sk0,hro0,hF0⟩:=H0 s.base m (λ_=>True) hf.inv (λl _=>hf.list l) (λ_ _=>trivial) v0 h0
 have G0:=sk0.goes (B:=λ_=>True) (L:=λ_=>True) (WL:=λl=>l∈([] : List Nat)∨true=true) (λb=>b∈([] : List Nat)∨true=true) sit (λ_ _=>.inl trivial) (λ_ _=>.inl (.inr rfl))
 have sit2:=G0.sit sit
 obtain ⟨m3,F1,sk1,hro1,hF1⟩:=H1 s.base m2 (λ_=>True) sit2.inv (λl _=>by rw [sk0.list,iC,hf.list]) (λ_ _=>trivial) v2 (sk0.step.rd _ _ h2)
 have G1:=sk1.goes (B:=λ_=>True) (L:=λ_=>True) (WL:=λl=>l∈([] : List Nat)∨true=true) (λb=>b∈([] : List Nat)∨true=true) sit2 (λ_ _=>.inl trivial) (λ_ _=>.inl (.inr rfl))
 have sit3:=G1.sit sit2
 have hw3 : m3.w=m.w:=sk1.w.trans sk0.w
 have hro0' : eO m3.w m3.Z aFN (.lst xs) v0 F0:=hro0.frame (λr h=>sk1.step.zz r h) (λr _=>by rw [sk1.w]) (λr _=>by rw [sk1.w]) (λr hr=>(sit3.inv.Lz r (sk1.L r (hF0 r hr).1)).1)
 have hp : aFN.plain=true:=rfl
 rcases hro1.els rfl with ⟨h,_⟩ | ⟨vb,voff,vc,vcells,vty,dv,gp,rfl,hvh,_,hvr,hvl,_,hvF,hvc,D,_⟩
 ·cases h
 have D:=D.plain hp
 have hvc4 : 1*4≤vc*4:=Nat.mul_le_mul_right _ hvl
 have hvr : voff+vc*4≤vcells.size:=hvr
 have h1v : ∀ v∈yH vcells voff (1*4),eN v:=λv hv=>by
  obtain ⟨j,hj,hx⟩:=aKU hv
  have:=hvc 0 j (by simp) (by show j<4;omega)
  rw [show voff+0*aFN.s+j=voff+j by omega] at this
  rw [this] at hx
  cases hx
  exact D.one 0 j (by simp) (by show j<4;omega)
 have fin : ∀ {w' : World} {v : Value} {b : Nat} {bb : NP} {old : Nat→Option Value} {cv : Nat→Nat→Value},aL1 m.w w' bb→(∀ r,bb r→m3.L r)→(b=m.w.heap.size∨(m3.L b))→aR0 w' b old vcells voff xs.length i v→
  Els m3.w m3.Z aFN xs cv (λ_ _ _=>False)→(∀ k j : Nat,k<xs.length→j<4→old (k*4+j)=some (cv k j))→wN m 0 0 (some t) [.lst (xs.take i++y::xs.drop i)] v w':=by
  rintro w' v b bb old cv ⟨K1,K2,K3,K4,K5⟩ hbb hb ⟨o',cap,cells',ety,rfl,L1,L2,L3,L4,L5,L6⟩ E hold
  have hzl : (xs.take i++y::xs.drop i).length=xs.length+1:=by simp;omega
  have hbz : ¬ m3.Z b:=by
   rcases hb with rfl | hb
   ·intro hz;have:=sit3.inv.zlt _ hz;rw [hw3] at this;omega
   ·exact (sit3.inv.Lz b hb).1
  have hZ : ∀ r,m3.Z r→w'.heap[r]? = m3.w.heap[r]?:=λr hr=>by
   rw [hw3];exact K1 r (by have:=sit3.inv.zlt _ hr;rw [hw3] at this;exact this) (λhb=>(sit3.inv.Lz r (hbb r hb)).1 hr)
  have EE:=(E.ins D hin).frame (w':=w') (Z':=m3.Z) (λ_ h=>h) hZ (λ_ _ _ _ _ h=>h.elim)
  have hro:=EE.repO (o:=aFN) rfl (by show 0<4;omega) (b:=b) (off:=o') (cap:=cap) L1 L2 (by rw [hzl];exact L3) hbz (λk j hk hj=>by
   rw [hzl] at hk
   have hj : j<4:=hj
   show cells'[o'+k*4+j]? = _
   by_cases h : k<i
   ·rw [if_pos h,Nat.add_assoc,L4 _ (by omega),hold k j (by omega) hj]
   ·rw [if_neg h]
    by_cases h2 : k=i
    ·subst h2
     rw [if_pos rfl,L5 j hj]
     have:=hvc 0 j (by simp) hj
     rwa [show voff+0*aFN.s+j=voff+j by omega] at this
    ·rw [if_neg h2]
     have:=L6 ((k - 1 - i)*4+j) (by omega)
     rw [show o'+(i+1)*4+((k - 1 - i)*4+j)=o'+k*4+j by omega] at this
     rw [this,show i*4+((k - 1 - i)*4+j)=(k - 1)*4+j by omega,hold (k - 1) j (by omega) hj]) (λ_ _ _ _ h=>h.elim)
  rw [hzl] at hro
  have hn : (((s.at s.base).killL ls).killL ls').nl=s.base:=by rw [xQ,xQ];rfl
  have G2:=dF.addRow (B:=λ_=>True) (L:=λ_=>True) (λb=>b∈([] : List Nat)∨true=true) (λl=>l∈([] : List Nat)∨true=true) sit3 (by rw [hn];omega) (w':=w') (own:=⟨aFN,.lst (xs.take i++y::xs.drop i)⟩) rfl hro
   (λr hr=>by
    rcases hr with rfl | ⟨_,_,_,_,h⟩
    ·rcases hb with rfl | hb
     ·right;rw [hw3];exact Nat.le_refl _
     ·exact .inl hb
    ·exact h.elim)
   (λr hr hL=>by rw [hw3] at hr ⊢;exact K1 r hr (λh=>hL (hbb r h))) (by rw [hw3];exact K2) (by rw [hw3];exact K3) (by rw [hw3];exact K4) (by rw [hw3];exact K5)
  exact aQp (l:=_) hf ((G0.trans G1).trans G2) (w:=⟨aFN,.lst (xs.take i++y::xs.drop i)⟩) (by rw [lC,if_pos rfl]) (bY.addRow_rd trivial) ht
 rcases hro0'.els rfl with ⟨rfl,adr,rfl⟩ | ⟨b,off,cap,cells,ety,cv,fp,rfl,hh,_,hroom,hlen',_,hbF,hc,E,_⟩
 ·have : i=0:=by simpa using hin
  subst this
  rw [hw3] at hvh
  refine (aWk (old:=λ_=>none) hvh (by omega)).mono ?_
  rintro e w' ⟨v,rfl,K,Ld⟩
  exact ⟨v,rfl,fin K (λ_ h=>h.elim) (.inl rfl) Ld (Els.nil aFN (λ_ _=>undef) (λ_ _ _=>False)) (λk j hk=>by simp at hk)⟩
 ·have E:=E.plain hp
  have hbL:=sk1.L _ (hF0 b hbF).1
  have hvL:=(hF1 vb hvF).1
  have hne : vb≠b:=λe=>(hF1 vb hvF).2 (e▸(hF0 b hbF).1)
  rw [hw3] at hvh hh
  have hc4 : xs.length*4≤cap*4:=Nat.mul_le_mul_right _ hlen'
  refine (aWl hin hlen' hlen hh hroom hne hvh (by omega) h1v (λv hv=>?_)).mono ?_
  ·obtain ⟨j,hj,hx⟩:=aKU hv
   have:=hc (j / 4) (j % 4) (by omega) (by show j % 4<4;omega)
   rw [show off+j / 4*aFN.s+j % 4=off+j by show off+j / 4*4+j % 4=_;omega] at this
   rw [this] at hx
   cases hx
   exact E.one _ _ (by omega) (by show j % 4<4;omega)
  ·rintro e w' ⟨v,b',rfl,K,hb',Ld⟩
   refine ⟨v,rfl,fin K (λr hr=>by subst hr;exact hbL) (hb'.elim (λe=>.inr (e▸hbL)) .inl) Ld E (λk j hk hj=>?_)⟩
   have:=hc k j hk hj
   rw [Nat.add_assoc] at this
   exact this
end
noncomputable section
open Go
theorem aUZ {α : Type} {n : Nat} : ∀ {l : List (Nat × α)} {a : α},lk n l=some a→∃ p∈l,p.2=a
 | [],a,h=>by simp [lk] at h
 | (m,b)::r,a,h=>by
   unfold lk at h
   split at h
   ·cases h;exact ⟨_,List.mem_cons_self,rfl⟩
   ·obtain ⟨p,h1,h2⟩:=aUZ h
    exact ⟨p,List.mem_cons_of_mem _ h1,h2⟩
theorem aR2 {α : Type} {n : Nat} : ∀ {l : List (Nat × α)} {a : α},lk n l=some a→(n,a)∈l
 | [],a,h=>by simp [lk] at h
 | (m,b)::r,a,h=>by
   unfold lk at h
   split at h
   ·rename_i hb
    cases h
    rw [dH hb]
    exact List.mem_cons_self
   ·exact List.mem_cons_of_mem _ (aR2 h)
theorem aEx {g : Nat} (h : ((Tryz.prog.funcs[g]?).bind (·.body)).isSome=true) : pW Tryz.prog g:=by
 cases hf : Tryz.prog.funcs[g]? with
 | none=>rw [hf] at h;cases h
 | some fn=>
   rw [hf] at h
   cases hb : fn.body with
   | none=>simp [hb] at h
   | some c=>
     have hc:=aSK
     rw [List.all_eq_true] at hc
     have:=hc fn (by rw [← Array.getElem?_toList] at hf;exact List.mem_of_getElem? hf)
     rw [hb] at this
     simp only [Bool.and_eq_true,bne_iff_ne,ne_eq] at this
     exact ⟨fn,c,hf,hb,this.2⟩
set_option maxRecDepth 100000 in
theorem aXs {w : World} {Z : NP} (h : aGr w Z) : Lib.TabIs Tryz.prog w "internal/strconv.uint64pow10" .u64 Lib.pow10Tab:=by
 obtain ⟨_,ty,fz,h⟩:=h
 unfold Lib.TabIs World.var?
 rw [show Tryz.prog.globalNamed "internal/strconv.uint64pow10" = some aUL by kernel_rfl]
 simp only [Option.bind_some,h]
set_option maxRecDepth 100000 in
theorem aXt : aI6 Tryz.prog λg args=>(lR.prim g).bind λp=>p args:=by
 intro g args r h
 have h : ((lR.prim g).bind λp=>p args)=some r:=h
 cases hp : lR.prim g with
 | none=>rw [hp] at h;cases h
 | some p=>
   rw [hp] at h
   have h : p args=some r:=h
   have hm:=aR2 (show lk g aOC=some p from hp)
   simp only [aOC,List.mem_cons,List.not_mem_nil,or_false,Prod.mk.injEq] at hm
   obtain ⟨rfl,rfl⟩:=hm
   exact ⟨aEx (by kernel_rfl),λw Z bI hz hl hr=>aQr Tryz.laysM171 h (aXs hz.glob) hl hr⟩
set_option maxRecDepth 100000 in
theorem aX2 : (Tryz.prog.info? (Tryz.lays8n4_ren.t 25)).map (λi=>(i.size,i.bytes,i.zero.map (·.cells.size)))=some (3,32,some 3):=by kernel_rfl
set_option maxRecDepth 100000 in
theorem aWm : ∀ g h,lR.primS g=some h→∀ t args s l,lR.mode g=some t→h args s=some l→pW Tryz.prog g∧∀ (m : bY) (bI : Array Value),kC m s s.base→args.length=bI.size→
 (∀ (i : Nat) d v,args[i]? = some d→bI[i]? = some v→m.rd d v)→Calls Tryz.prog g bI m.w (λe w'=>∃ v,e = .returned v∧wN m s.boxes.length (if t.keep then s.lists.length else 0) (some (t.fit s)) l v w'):=by
 intro g h hp t args s l ht h
 have hm:=aR2 (show lk g aLh=some _ from hp)
 simp only [aLh,List.mem_cons,List.not_mem_nil,or_false,Prod.mk.injEq] at hm
 rcases hm with ⟨rfl,rfl⟩ | ⟨rfl,rfl⟩
 rotate_left
 ·refine ⟨aEx (by kernel_rfl),λm bI hf hl hr=>?_⟩
  have htt : lR.mode 49=some ⟨false,false,.ref 0 [],[],[some ⟨aFN,.int .i64 0⟩],false⟩:=by kernel_rfl
  rw [htt] at ht
  cases ht
  have hb : s.boxes.length=0:=by
   have : ∀ a,qS args s=some a→s.boxes = []:=λa h=>by
    unfold qS at h
    split at h
    ·assumption
    ·cases h
   rw [this _ h];rfl
  rw [hb]
  exact aR1 h hf hl hr (t:=⟨false,false,.ref 0 [],[],[some ⟨aFN,.int .i64 0⟩],false⟩) ⟨rfl,rfl,rfl⟩
 refine ⟨aEx (by kernel_rfl),λm bI hf hl hr=>?_⟩
 have htt : lR.mode 186=some ⟨false,false,.ref 0 [],[],[some ⟨.own 3 32 true [],.int .i64 0⟩],true⟩:=by kernel_rfl
 rw [htt] at ht
 cases ht
 have tg:=aX2
 cases hi : Tryz.prog.info? (Tryz.lays8n4_ren.t 25) with
 | none=>rw [hi] at tg;cases tg
 | some i0=>
   rw [hi] at tg
   simp only [Option.map_some,Option.some.injEq,Prod.mk.injEq] at tg
   cases hz : i0.zero with
   | none=>rw [hz] at tg;cases tg.2.2
   | some z=>
     rw [hz] at tg
     simp only [Option.map_some,Option.some.injEq] at tg
     have hb : s.boxes.length=0:=by
      have : ∀ a,aAl 32 args s=some a→s.boxes = []:=λa h=>by
       unfold aAl at h
       split at h
       ·assumption
       ·cases h
      rw [this _ h];rfl
     rw [hb]
     exact aQq Tryz.lays8n4 hi hz (by omega) (by omega) tg.2.1 h hf hl hr (g:=true) (eb:=32) (t:=⟨false,false,.ref 0 [],[],[some ⟨.own 3 32 true [],.int .i64 0⟩],true⟩) ⟨rfl,rfl,by rw [tg.1]⟩
theorem aSN : ∀ (l : List Nat),(l.map λt=>(Tryz.prog.info? t).bind (·.zero))=(l.map λt=>some (gI T t))→∀ t,mem t l=true→(Tryz.prog.info? t).bind (·.zero)=some (gI T t)
 | [],_,t,h=>by simp [mem] at h
 | x::r,h,t,hm=>by
   simp only [List.map_cons,List.cons.injEq] at h
   unfold mem at hm
   split at hm
   ·rename_i hx
    rw [dH hx];exact h.1
   ·exact aSN r h.2 t hm
theorem hyp : Hyp Tryz.prog T lR where
 tab:=aW4.symm
 zero:=λt h=>by
  rw [aW4]
  exact aSN aWa aXX t h
 mixed:=aWj
 code:=λf fn c hf hc=>by
  have h:=aSK
  rw [List.all_eq_true] at h
  have:=h fn (by rw [← Array.getElem?_toList] at hf;exact List.mem_of_getElem? hf)
  rw [hc] at this
  simp only [Bool.and_eq_true,bne_iff_ne,ne_eq] at this
  exact this
 prim:=aXt
 primS:=aWm
 glob:=λ_=>rfl
 wf:=λg t h=>by
  obtain ⟨p,hp,rfl⟩:=aUZ h
  have:=aX1
  rw [List.all_eq_true] at this
  exact this p hp
variable (a b c d e f g h i j k l m n o q r s t u v w x y z A B C D : PV)
def gX (f b l t : Nat) (e : gJ) (s : St) : OR:=aXq f b l (lR.mode f) (aXh Tryz.prog f t) e s
def aEy : OR:=aU 4 [a]
def qH : OR:=gX 4 0 0 6 [(3,.ptr 0 0),(4,.p a),(5,.p b)] ⟨[(0,some [.p c,.p d])],[],0,0,1⟩
def iE : OR:=gX 4 0 0 16 [(3,.ptr 0 0),(5,.p a),(6,.ref 0 []),(7,.ptr 1 0),(9,.ref 4 []),(10,.p b)] ⟨[(0,some [.p c,.p d]),(1,some [.ref 1 [],.ref 2 [],.p e,.ref 3 [],.p f,.p g,.p h,.p i,.p j,.p k])],[(0,some ⟨oS,l⟩),(1,some ⟨oF,m⟩),(2,some ⟨oH,n⟩),(3,some ⟨oO,o⟩),(4,some ⟨oS,q⟩)],0,0,7⟩
def jP : OR:=gX 4 0 0 24 [(3,.ptr 0 0),(5,.p a),(6,.ref 0 []),(7,.ptr 1 0),(9,.ref 4 []),(10,.p b),(11,.ptr 2 0),(12,.p c),(13,.ptr 3 0),(14,.p d)] ⟨[(0,some [.p e,.p f]),(1,some [.ref 1 [],.ref 2 [],.p g,.ref 3 [],.p h,.p i,.p j,.p k,.p l,.p m]),(2,some [.p n,.p o,.ref 1 [(q,2)],.ref 1 [(r,3)]]),(3,some [.p s,.p t,.p u,.p v])],[(0,some ⟨oS,w⟩),(1,some ⟨oF,x⟩),(2,some ⟨oH,y⟩),(3,some ⟨oO,z⟩),(4,some ⟨oS,A⟩)],0,0,9⟩
def gL : OR:=gX 4 0 0 27 [(3,.ptr 0 0),(5,.p a),(6,.ref 0 []),(7,.ptr 1 0),(9,.ref 4 []),(10,.p b),(11,.ptr 2 0),(12,.p c),(13,.ptr 3 0),(14,.p d)] ⟨[(0,some [.p e,.p f]),(1,some [.ref 1 [],.ref 2 [],.p g,.ref 3 [],.p h,.p i,.p j,.p k,.p l,.p m]),(2,some [.p n,.p o,.ref 1 [(q,2)],.ref 1 [(r,3)]]),(3,some [.p s,.p t,.p u,.p v])],[(0,some ⟨oS,w⟩),(1,some ⟨oF,x⟩),(2,some ⟨oH,y⟩),(3,some ⟨oO,z⟩),(4,some ⟨oS,A⟩)],0,0,9⟩
def aL2 : OR:=aU 5 [a]
def tV : OR:=aU 10 [a]
def lT : OR:=aU 12 [a,b]
def qI : OR:=gX 12 0 0 4 [(0,.p a),(1,.p b),(5,.p c)] ⟨[],[],0,0,0⟩
def qW : OR:=aU 15 [a,b]
def aEz : OR:=aU 18 [a,b,c]
def qX : OR:=gX 18 0 0 2 [(1,.p a),(2,.p b),(6,.ptr 0 0),(9,.p c),(10,.p d),(11,.p e)] ⟨[(0,some [.p f,.p g,.p h,.p i])],[],0,0,1⟩
def xS : OR:=aU 43 [a]
def vC : OR:=aU 44 [a,b]
def nI : OR:=gX 44 0 0 2 [(1,.p a),(2,.ptr 0 0),(7,.p b),(8,.p c),(9,.p d)] ⟨[(0,some [.p e,.p f])],[],0,0,1⟩
def aEA : OR:=aU 88 [a]
def qY : OR:=gX 88 0 0 4 [(1,.ptr 0 0),(2,.ptr 1 0),(16,.p a),(17,.p b)] ⟨[(0,some [.p c,.p d]),(1,some [.p e,.p f,.p g])],[],0,0,2⟩
def qZ : OR:=gX 88 0 0 8 [(1,.ptr 0 0),(2,.ptr 1 0),(3,.p a),(4,.ptr 2 0),(16,.p b),(17,.p c),(28,.p d),(29,.p e),(30,.p f)] ⟨[(0,some [.p g,.p h]),(1,some [.p i,.p j,.p k]),(2,some [.p l])],[],0,0,3⟩
def aEB : OR:=aU 89 [a,b]
def aEC : OR:=gX 89 0 0 5 [(2,.ptr 0 0),(3,.ptr 1 0)] ⟨[(0,some [.p a,.p b]),(1,some [.p c,.p d,.p e,.p f])],[],0,0,2⟩
def vD : OR:=gX 89 0 0 6 [(3,.ptr 0 0),(5,.ptr 1 0)] ⟨[(0,some [.p a,.p b,.p c,.p d]),(1,some [.p e,.p f])],[],0,0,2⟩
def iW : OR:=aU 47 [a,b]
def aBH : OR:=aU 141 [a]
def rP : OR:=gX 141 0 0 4 [(1,.ptr 0 0),(22,.p a),(23,.p b),(24,.p c)] ⟨[(0,some [.p d,.p e])],[],0,0,1⟩
def aBb : OR:=aU 107 [a,b]
def rA : OR:=gX 107 0 0 5 [(2,.ptr 0 0),(5,.p a),(6,.ref 0 []),(7,.p b)] ⟨[(0,some [.p c,.p d])],[(0,some ⟨(.own 1 8 false []),e⟩)],0,0,2⟩
def lU : OR:=gX 107 0 0 8 [(2,.ptr 0 0),(5,.p a),(6,.ref 0 []),(7,.p b),(27,.p c),(28,.p d),(29,.p e)] ⟨[(0,some [.p f,.p g])],[(0,some ⟨(.own 1 8 false []),h⟩)],0,0,2⟩
def jC : OR:=gX 107 0 0 13 [(2,.ptr 0 0),(5,.p a),(6,.ref 0 []),(7,.p b),(10,.p c),(11,.p d),(27,.p e),(28,.p f),(29,.p g),(51,.p h),(52,.p i),(53,.p j)] ⟨[(0,some [.p k,.p l])],[(0,some ⟨(.own 1 8 false []),m⟩)],0,0,2⟩
def aDu : OR:=gX 107 0 0 16 [(2,.ptr 0 0),(5,.p a),(6,.ref 0 []),(10,.p b),(11,.p c),(13,.p d),(27,.p e),(28,.p f),(29,.p g),(51,.p h),(52,.p i),(53,.p j)] ⟨[(0,some [.p k,.p l])],[(0,some ⟨(.own 1 8 false []),m⟩)],0,0,2⟩
def aBc : OR:=aU 142 [a,b,c]
def zH : OR:=aU 143 [a,b]
def oU : OR:=aU 113 [a,b]
def lD : OR:=aU 144 [a,b]
def aGc : OR:=aU 145 [a,b,c]
def aCR : OR:=aU 146 [a,b,c]
def eB : OR:=aU 147 [a,b]
def zI : OR:=aU 126 [a]
def dP : OR:=aU 78 [a,b,c]
def tD : OR:=aU 91 [a,b]
def aGD : OR:=aU 90 [a]
def aBI : OR:=gX 90 0 0 3 [(3,.p a),(6,.p b),(7,.p c),(8,.p d)] ⟨[],[],0,0,0⟩
def fT : OR:=aU 100 [a,b]
def aDv : OR:=aU 176 [a]
def gQ : OR:=aU 177 [a,b]
def aDw : OR:=aU 178 [a,b,c]
def aBd : OR:=aU 114 [a,b]
def tE : OR:=gX 114 0 0 24 [(2,.ptr 0 0),(3,.ptr 1 0)] ⟨[(0,some [.p a,.p b]),(1,some [.p c,.p d])],[],0,0,2⟩
def aDx : OR:=gX 114 0 0 25 [(2,.ptr 0 0),(3,.ptr 1 0)] ⟨[(0,some [.p a,.p b]),(1,some [.p c,.p d])],[],0,0,2⟩
def rB : OR:=aU 110 [a,b]
def kF : OR:=gX 110 0 0 2 [(0,.p a),(1,.p b),(7,.p c),(8,.p d)] ⟨[],[],0,0,0⟩
def sQ : OR:=aU 180 [a,b]
def iM : OR:=gX 180 0 0 2 [(0,.p a),(1,.p b),(7,.p c),(8,.p d)] ⟨[],[],0,0,0⟩
def xJ : OR:=aU 148 [a]
def oV : OR:=aU 157 [a,b]
def fU : OR:=gX 157 0 0 2 [(0,.p a),(1,.p b),(7,.p c),(8,.p d)] ⟨[],[],0,0,0⟩
def uL : OR:=aU 102 [a]
def vE : OR:=gX 102 0 0 2 [(0,.p a),(5,.p b),(6,.p c)] ⟨[],[],0,0,0⟩
def lV : OR:=aU 197 [a,b]
def fC : OR:=gX 197 0 0 2 [(0,.p a),(1,.p b),(7,.p c),(8,.p d)] ⟨[],[],0,0,0⟩
def aGE : OR:=aU 179 [a,b,c]
def rC : OR:=aU 159 [a]
def aAv : OR:=dK 11 [.p a,.p b,.p c] ⟨[],[],0,0,0⟩
def aAw : OR:=dK 13 [.p a,.p b,.p c] ⟨[],[],0,0,0⟩
def qJ : OR:=gX 13 0 0 6 [(2,.p a),(3,.ptr 0 0),(7,.ref 0 []),(8,.ptr 1 0),(10,.p b)] ⟨[(0,some [.p c,.p d]),(1,some [.ref 1 [],.ref 2 [],.p e,.ref 3 [],.p f,.p g,.p h,.p i,.p j,.p k])],[(0,some ⟨oS,l⟩),(1,some ⟨oF,m⟩),(2,some ⟨oH,n⟩),(3,some ⟨oO,o⟩)],0,0,6⟩
def aR : OR:=aU 38 [a,b,c]
def aCS : OR:=dK 14 [.p a,.p b] ⟨[],[],0,0,0⟩
def sR : OR:=gX 14 0 0 4 [(1,.p a),(2,.ptr 0 0),(4,.ptr 1 0),(6,.p b)] ⟨[(0,some [.p c,.p d]),(1,some [.ref 0 [],.ref 1 [],.p e,.ref 2 [],.p f,.p g,.p h,.p i,.p j,.p k])],[(0,some ⟨oF,l⟩),(1,some ⟨oH,m⟩),(2,some ⟨oO,n⟩)],0,0,5⟩
def rD : OR:=gX 14 0 0 10 [(1,.p a),(4,.ptr 0 0),(7,.ptr 1 0),(8,.p b)] ⟨[(0,some [.ref 0 [],.ref 1 [],.p c,.ref 2 [],.p d,.p e,.p f,.p g,.p h,.p i]),(1,some [.p j,.p k,.ref 3 [],.ref 4 []])],[(0,some ⟨oF,l⟩),(1,some ⟨oH,m⟩),(2,some ⟨oO,n⟩),(3,some ⟨o3,o⟩),(4,some ⟨o3,q⟩)],0,0,7⟩
def vF : OR:=aU 41 [a]
def aAx : OR:=aU 42 [a,b,c]
def aED : OR:=aU 85 [a]
def rE : OR:=gX 85 0 0 4 [(1,.ptr 0 0),(2,.ptr 1 0),(3,.p a)] ⟨[(0,some [.p b,.p c]),(1,some [.p d,.p e,.p f])],[],0,0,2⟩
def oW : OR:=gX 85 0 0 9 [(1,.ptr 0 0),(2,.ptr 1 0),(3,.p a),(4,.p b),(5,.p c),(6,.p d)] ⟨[(0,some [.p e,.p f]),(1,some [.p g,.p h,.p i])],[],0,0,2⟩
def pX : OR:=gX 85 0 0 18 [(1,.ptr 0 0),(2,.ptr 1 0),(3,.p a),(4,.p b),(5,.p c),(6,.p d),(9,.p e),(10,.p f),(11,.p g)] ⟨[(0,some [.p h,.p i]),(1,some [.p j,.p k,.p l])],[],0,0,2⟩
def mX : OR:=gX 85 0 0 23 [(1,.ptr 0 0),(2,.ptr 1 0),(3,.p a),(4,.p b),(5,.p c),(6,.p d),(9,.p e),(10,.p f),(12,.p g)] ⟨[(0,some [.p h,.p i]),(1,some [.p j,.p k,.p l])],[],0,0,2⟩
def lJ : OR:=aU 86 [a]
def rQ : OR:=aU 87 [a]
def tF : OR:=gX 87 0 0 4 [(0,.p a),(3,.p b)] ⟨[],[],0,0,0⟩
def aBJ : OR:=aU 137 [a]
def rR : OR:=gX 137 0 0 4 [(1,.ptr 0 0),(3,.p a)] ⟨[(0,some [.p b,.p c])],[],0,0,1⟩
def oX : OR:=gX 137 0 0 9 [(1,.ptr 0 0),(4,.p a)] ⟨[(0,some [.p b,.p c])],[],0,0,1⟩
def qK : OR:=gX 137 0 0 15 [(1,.ptr 0 0),(4,.p a),(5,.ptr 1 0),(6,.p b)] ⟨[(0,some [.p c,.p d]),(1,some [.p e,.p f,.p g])],[],0,0,2⟩
def oY : OR:=aU 138 [a,b]
def qL : OR:=gX 138 0 0 4 [(2,.ptr 0 0),(5,.p a),(6,.ref 0 []),(7,.p b)] ⟨[(0,some [.p c,.p d])],[(0,some ⟨(.own 1 8 false []),e⟩)],0,0,2⟩
def nJ : OR:=gX 138 0 0 9 [(2,.ptr 0 0),(5,.p a),(6,.ref 0 []),(8,.p b)] ⟨[(0,some [.p c,.p d])],[(0,some ⟨(.own 1 8 false []),e⟩)],0,0,2⟩
def gM : OR:=gX 138 0 0 12 [(2,.ptr 0 0),(5,.p a),(6,.ref 0 []),(8,.p b),(9,.p c)] ⟨[(0,some [.p d,.p e])],[(0,some ⟨(.own 1 8 false []),f⟩)],0,0,2⟩
def iF : OR:=gX 138 0 0 19 [(2,.ptr 0 0),(5,.p a),(6,.ref 0 []),(8,.p b),(9,.p c),(12,.p d),(13,.p e),(14,.p f)] ⟨[(0,some [.p g,.p h])],[(0,some ⟨(.own 1 8 false []),i⟩)],0,0,2⟩
def aAy : OR:=gX 138 0 0 22 [(2,.ptr 0 0),(5,.p a),(6,.ref 0 []),(9,.p b),(12,.p c),(13,.p d),(14,.p e)] ⟨[(0,some [.p f,.p g])],[(0,some ⟨(.own 1 8 false []),h⟩)],0,0,2⟩
def aBe : OR:=aU 139 [a,b]
def zJ : OR:=aU 140 [a,b]
def aDy : OR:=gX 140 0 0 3 [(1,.p a),(2,.ptr 0 0),(5,.ref 0 [])] ⟨[(0,some [.p b,.p c])],[(0,some ⟨(.own 1 8 false []),d⟩)],0,0,2⟩
def tG : OR:=gX 140 0 0 4 [(2,.ptr 0 0),(5,.ref 0 [])] ⟨[(0,some [.p a,.p b])],[(0,some ⟨(.own 1 8 false []),c⟩)],0,0,2⟩
def tH : OR:=gX 140 0 0 5 [(2,.ptr 0 0),(5,.ref 0 [])] ⟨[(0,some [.p a,.p b])],[(0,some ⟨(.own 1 8 false []),c⟩)],0,0,2⟩
def aGF : OR:=aU 175 [a,b,c]
def yK : OR:=dK 16 [.p a,.p b,.p c] ⟨[],[],0,0,0⟩
def lW : OR:=gX 16 0 0 5 [(3,.ptr 0 0),(7,.ref 0 []),(24,.p a),(25,.p b),(26,.p c)] ⟨[(0,some [.p d,.p e])],[(0,some ⟨oS,f⟩)],0,0,2⟩
def cN : OR:=aU 46 [a,b,c]
def cH : OR:=gX 46 0 0 3 [(0,.p a),(2,.p b),(4,.ptr 0 0),(8,.p c),(9,.p d),(10,.p e)] ⟨[(0,some [.p f,.p g,.p h,.p i])],[],0,0,1⟩
def sS : OR:=aU 48 [a,b,c]
def aCT : OR:=dK 17 [.p a,.p b,.p c] ⟨[],[],0,0,0⟩
def aCe : OR:=aU 29 [a,b]
def aCU : OR:=aU 64 [a]
def pY : OR:=gX 64 0 0 3 [(1,.ptr 0 0),(3,.ref 0 []),(8,.p a),(9,.p b)] ⟨[(0,some [.p c,.p d])],[(0,some ⟨(.own 1 24 false []),e⟩)],0,0,2⟩
def aNZ : OR:=aU 63 [a,b,c]
def nK : OR:=gX 63 0 0 8 [(1,.p a),(3,.ptr 0 0),(5,.ptr 1 0),(7,.ptr 2 0),(43,.p b),(44,.p c),(45,.p d)] ⟨[(0,some [.p e,.p f]),(1,some [.p g,.p h,.p i,.p j,.p k,.p l,.p m,.p n,.p o,.p q]),(2,some [.p r])],[],0,0,3⟩
def aBf : OR:=aU 99 [a]
def aEE : OR:=aU 101 [a]
def zK : OR:=aU 106 [a,b,c,d,e,f,g]
def kG : OR:=aU 155 [a,b]
def aBK : OR:=aU 156 [a]
def lX : OR:=aU 185 [a,b]
def cY : OR:=gX 185 0 0 2 [(0,.p a),(1,.p b),(7,.p c),(8,.p d)] ⟨[],[],0,0,0⟩
def aAb : OR:=dK 19 [.p a,.p b] ⟨[],[],0,0,0⟩
def aCf : OR:=aU 24 [a,b]
def aHR : OR:=aU 58 [a,b]
def mY : OR:=gX 58 0 0 5 [(2,.ptr 0 0),(3,.ptr 1 0),(5,.p a),(6,.p b)] ⟨[(0,some [.p c,.p d]),(1,some [.p e,.p f,.p g,.p h,.p i,.p j,.p k,.p l,.p m,.p n])],[],0,0,2⟩
def iJ : OR:=gX 58 0 0 10 [(2,.ptr 0 0),(3,.ptr 1 0),(5,.p a),(7,.p b)] ⟨[(0,some [.p c,.p d]),(1,some [.p e,.p f,.p g,.p h,.p i,.p j,.p k,.p l,.p m,.p n])],[],0,0,2⟩
def cZ : OR:=gX 58 0 0 21 [(2,.ptr 0 0),(3,.ptr 1 0),(5,.p a),(8,.p b)] ⟨[(0,some [.p c,.p d]),(1,some [.p e,.p f,.p g,.p h,.p i,.p j,.p k,.p l,.p m,.p n])],[],0,0,2⟩
def oZ : OR:=aU 96 [a,b,c]
def nL : OR:=gX 96 0 0 2 [(1,.p a),(2,.p b),(3,.ptr 0 0),(7,.p c)] ⟨[(0,some [.p d,.p e])],[],0,0,1⟩
def tI : OR:=aU 97 [a,b,c,d]
def aCV : OR:=dK 20 [.p a] ⟨[],[],0,0,0⟩
def wP : OR:=dK 21 [.ptr 0 0] ⟨[(0,some [.p a,.p b,.p c])],[],0,0,1⟩
def wQ : OR:=dK 34 [.ptr 0 0,.agg [.p a,.p b]] ⟨[(0,some [.p c,.p d,.p e])],[],0,0,1⟩
def oI : OR:=gX 34 1 0 3 [(0,.ptr 0 0),(3,.ptr 1 0),(5,.ref 0 []),(6,.p a)] ⟨[(0,some [.p b,.p c,.p d]),(1,some [.p e,.p f])],[(0,some ⟨o3,g⟩)],0,0,3⟩
def jD : OR:=aU 27 [a]
def jU : OR:=aU 76 [a]
def aG : OR:=dK 26 [.ptr 0 0,.p a] ⟨[(0,some [.p b,.p c,.p d])],[],0,0,1⟩
def kS : OR:=gX 26 1 0 9 [(0,.ptr 0 0),(1,.p a),(5,.p b)] ⟨[(0,some [.p c,.p d,.p e])],[],0,0,1⟩
def qD : OR:=dK 160 [.p a,.p b] ⟨[],[],0,0,0⟩
def sT : OR:=gX 160 0 0 3 [(0,.p a),(1,.p b)] ⟨[],[],0,0,0⟩
def sU : OR:=gX 160 0 0 6 [(0,.p a),(6,.p b)] ⟨[],[],0,0,0⟩
def jV : OR:=gX 160 0 0 8 [(7,.ref 0 []),(8,.p a)] ⟨[],[(0,some ⟨(.own 1 8 false []),b⟩)],0,0,1⟩
def aGd : OR:=aU 187 [a,b]
def aDz : OR:=aU 200 [a,b]
def aQs : OR:=dK 35 [.agg [.p a,.p b],.p c,.p d,.fn 36 [.ptr 0 0,.ptr 1 0]] ⟨[(0,some [.p e,.p f]),(1,some [.ref 0 []])],[(0,some ⟨oS,g⟩)],0,0,3⟩
def aBg : OR:=gX 35 2 0 5 [(3,.fn 36 [.ptr 0 0,.ptr 1 0]),(4,.ptr 2 0),(8,.ptr 3 0),(10,.ptr 4 0),(26,.p a),(27,.p b)] ⟨[(0,some [.p c,.p d]),(1,some [.ref 0 []]),(2,some [.p e,.p f]),(3,some [.ref 1 [],.ref 2 [],.p g,.ref 3 [],.p h,.p i,.p j,.p k,.p l,.p m]),(4,some [.ref 4 [],.ref 5 [],.p n,.ref 6 [],.p o,.p q,.p r,.p s,.p t,.p u])],[(0,some ⟨oS,v⟩),(1,some ⟨oF,w⟩),(2,some ⟨oH,x⟩),(3,some ⟨oO,y⟩),(4,some ⟨oF,z⟩),(5,some ⟨oH,A⟩),(6,some ⟨oO,B⟩)],0,0,12⟩
def yL : OR:=dK 39 [.p a,.p b,.p c] ⟨[],[],0,0,0⟩
def aEF : OR:=aU 80 [a,b]
def aEG : OR:=aU 81 [a,b,c]
def rF : OR:=gX 81 0 0 2 [(0,.p a),(1,.p b),(2,.p c),(6,.ptr 0 0),(7,.p d)] ⟨[(0,some [.p e,.p f,.p g,.p h])],[],0,0,1⟩
def aGG : OR:=aU 128 [a]
def zL : OR:=dK 40 [.p a,.p b] ⟨[],[],0,0,0⟩
def gA : OR:=dK 45 [.p a] ⟨[],[],0,0,0⟩
def eY : OR:=dK 49 [.ref 0 [],.p a,.ref 1 []] ⟨[],[(0,some ⟨oS,b⟩),(1,some ⟨oS,c⟩)],0,0,2⟩
def aBL : OR:=dK 37 [.agg [.p a,.p b],.ref 0 [],.ptr 0 0] ⟨[(0,some [.p c,.p d,.p e,.p f,.p g,.p h,.p i,.p j,.p k,.p l])],[(0,some ⟨oS,m⟩)],0,0,2⟩
def aCW : OR:=aU 79 [a,b]
def uM : OR:=aU 127 [a,b,c]
def vG : OR:=dK 103 [.agg [.p a,.p b,.p c,.p d,.p e,.p f,.p g,.p h,.p i,.p j],.fn 104 [.ptr 0 0,.ptr 1 0,.ptr 2 0]] ⟨[(0,some [.p k]),(1,some [.p l,.p m]),(2,some [.p n,.p o,.p q,.p r,.p s,.p t,.p u,.p v,.p w,.p x])],[],0,0,3⟩
def iX : OR:=gX 103 3 0 2 [(1,.fn 104 [.ptr 0 0,.ptr 1 0,.ptr 2 0]),(2,.ptr 3 0),(13,.p a),(14,.p b),(15,.p c)] ⟨[(0,some [.p d]),(1,some [.p e,.p f]),(2,some [.p g,.p h,.p i,.p j,.p k,.p l,.p m,.p n,.p o,.p q]),(3,some [.p r,.p s,.p t,.p u,.p v,.p w,.p x,.p y,.p z,.p A])],[],0,0,4⟩
def iY : OR:=gX 103 3 0 5 [(1,.fn 104 [.ptr 0 0,.ptr 1 0,.ptr 2 0]),(2,.ptr 3 0),(13,.p a),(14,.p b),(15,.p c),(24,.ref 0 []),(25,.p d),(26,.p e)] ⟨[(0,some [.p f]),(1,some [.p g,.p h]),(2,some [.p i,.p j,.p k,.p l,.p m,.p n,.p o,.p q,.p r,.p s]),(3,some [.p t,.p u,.p v,.p w,.p x,.p y,.p z,.p A,.p B,.p C])],[(0,some ⟨o3,D⟩)],0,0,5⟩
def fM : OR:=gX 103 3 0 11 [(1,.fn 104 [.ptr 0 0,.ptr 1 0,.ptr 2 0]),(2,.ptr 3 0),(36,.p a),(37,.p b),(38,.p c)] ⟨[(0,some [.p d]),(1,some [.p e,.p f]),(2,some [.p g,.p h,.p i,.p j,.p k,.p l,.p m,.p n,.p o,.p q]),(3,some [.p r,.p s,.p t,.p u,.p v,.p w,.p x,.p y,.p z,.p A])],[],0,0,4⟩
def iG : OR:=gX 103 3 0 14 [(1,.fn 104 [.ptr 0 0,.ptr 1 0,.ptr 2 0]),(2,.ptr 3 0),(36,.p a),(37,.p b),(38,.p c),(43,.p d),(44,.p e),(45,.p f)] ⟨[(0,some [.p g]),(1,some [.p h,.p i]),(2,some [.p j,.p k,.p l,.p m,.p n,.p o,.p q,.p r,.p s,.p t]),(3,some [.p u,.p v,.p w,.p x,.p y,.p z,.p A,.p B,.p C,.p D])],[],0,0,4⟩
def fH : OR:=dK 50 [.ptr 0 0,.p a] ⟨[(0,some [.p b,.p c,.p d])],[],0,0,1⟩
def yM : OR:=dK 51 [.ptr 0 0,.p a] ⟨[(0,some [.p b,.p c,.p d])],[],0,0,1⟩
def wR : OR:=dK 52 [.ptr 0 0] ⟨[(0,some [.p a,.p b,.p c])],[],0,0,1⟩
def nM : OR:=dK 55 [.ptr 0 0] ⟨[(0,some [.p a,.p b,.p c])],[],0,0,1⟩
def aGH : OR:=dK 77 [.p a,.p b] ⟨[],[],0,0,0⟩
def aEH : OR:=aU 125 [a,b]
def jE : OR:=aU 167 [a,b]
def aGe : OR:=aU 168 [a,b]
def jZ : OR:=aU 195 [a,b]
def dT : OR:=gX 195 0 0 2 [(0,.p a),(1,.p b),(7,.p c),(8,.p d)] ⟨[],[],0,0,0⟩
def zM : OR:=aU 105 [a,b,c]
def xK : OR:=dK 32 [.p a] ⟨[],[],0,0,0⟩
def aCg : OR:=dK 36 [.ptr 0 0,.ptr 1 0,.ptr 2 0] ⟨[(0,some [.ref 0 [],.ref 1 [],.p a,.ref 2 [],.p b,.p c,.p d,.p e,.p f,.p g]),(1,some [.p h,.p i]),(2,some [.ref 3 []])],[(0,some ⟨oF,j⟩),(1,some ⟨oH,k⟩),(2,some ⟨oO,l⟩),(3,some ⟨oS,m⟩)],0,0,7⟩
def aCX : OR:=dK 33 [.ptr 0 0,.agg [.p a,.p b]] ⟨[(0,some [.ref 0 [],.ref 1 [],.p c,.ref 2 [],.p d,.p e,.p f,.p g,.p h,.p i])],[(0,some ⟨oF,j⟩),(1,some ⟨oH,k⟩),(2,some ⟨oO,l⟩)],0,0,4⟩
def xT : OR:=dK 82 [.p a,.p b,.p c] ⟨[],[],0,0,0⟩
def hH : OR:=gX 82 0 0 4 [(1,.p a),(3,.ptr 0 0),(5,.ptr 1 0),(7,.ref 0 []),(8,.p b),(9,.p c)] ⟨[(0,some [.p d,.p e]),(1,some [.p f,.p g,.p h,.p i])],[(0,some ⟨oS,j⟩)],0,0,3⟩
def aAz : OR:=gX 82 0 0 7 [(1,.p a),(3,.ptr 0 0),(5,.ptr 1 0),(7,.ref 0 []),(9,.p b)] ⟨[(0,some [.p c,.p d]),(1,some [.p e,.p f,.p g,.p h])],[(0,some ⟨oS,i⟩)],0,0,3⟩
def vH : OR:=gX 82 0 0 9 [(1,.p a),(3,.ptr 0 0),(5,.ptr 1 0),(7,.ref 0 []),(8,.p b),(9,.p c)] ⟨[(0,some [.p d,.p e]),(1,some [.p f,.p g,.p h,.p i])],[(0,some ⟨oS,j⟩)],0,0,3⟩
def aDA : OR:=gX 82 0 0 10 [(1,.p a),(3,.ptr 0 0),(5,.ptr 1 0),(7,.ref 0 []),(9,.p b)] ⟨[(0,some [.p c,.p d]),(1,some [.p e,.p f,.p g,.p h])],[(0,some ⟨oS,i⟩)],0,0,3⟩
def aCY : OR:=aU 129 [a,b,c]
def aCZ : OR:=aU 130 [a,b]
def pL : OR:=dK 23 [.p a] ⟨[],[],0,0,0⟩
def tJ : OR:=gX 23 0 0 3 [(1,.ptr 0 0),(2,.ptr 1 0),(3,.ref 3 []),(4,.p a)] ⟨[(0,some [.p b,.p c,.p d,.p e,.p f,.p g,.p h,.p i,.p j,.p k]),(1,some [.ref 0 [],.ref 1 [],.p l,.ref 2 [],.p m,.p n,.p o,.p q,.p r,.p s])],[(0,some ⟨oF,t⟩),(1,some ⟨oH,u⟩),(2,some ⟨oO,v⟩),(3,some ⟨oF,w⟩)],0,0,6⟩
def gT : OR:=dK 83 [.ptr 0 0] ⟨[(0,some [.p a,.p b,.ref 0 [],.ref 1 [],.p c,.ref 2 [],.p d,.p e,.p f,.p g,.p h,.p i,.p j])],[(0,some ⟨oF,k⟩),(1,some ⟨oH,l⟩),(2,some ⟨oO,m⟩)],0,0,4⟩
def aAA : OR:=dK 84 [.ptr 0 0,.agg [.p a,.p b]] ⟨[(0,some [.p c,.p d,.ref 0 [],.ref 1 [],.p e,.ref 2 [],.p f,.p g,.p h,.p i,.p j,.p k,.p l])],[(0,some ⟨oF,m⟩),(1,some ⟨oH,n⟩),(2,some ⟨oO,o⟩)],0,0,4⟩
def tW : OR:=aU 133 [a,b,c]
def aGI : OR:=aU 134 [a]
def aAB : OR:=aU 136 [a,b]
def aGJ : OR:=aU 169 [a,b]
def aGf : OR:=gX 169 0 0 2 [(2,.ptr 0 0),(3,.ptr 1 0),(4,.ptr 2 0)] ⟨[(0,some [.p a,.p b,.p c]),(1,some [.p d,.p e,.p f]),(2,some [.p g,.p h,.p i])],[],0,0,3⟩
def aGK : OR:=aU 170 [a,b]
def aGL : OR:=aU 171 [a,b]
def aEI : OR:=aU 172 [a,b]
def aEJ : OR:=gX 172 0 0 2 [(2,.ptr 0 0),(3,.ptr 1 0),(4,.ptr 2 0)] ⟨[(0,some [.p a,.p b,.p c]),(1,some [.p d,.p e,.p f]),(2,some [.p g,.p h,.p i])],[],0,0,3⟩
def vI : OR:=gX 172 0 0 3 [(2,.ptr 0 0),(3,.ptr 1 0),(4,.ptr 2 0)] ⟨[(0,some [.p a,.p b,.p c]),(1,some [.p d,.p e,.p f]),(2,some [.p g,.p h,.p i])],[],0,0,3⟩
def aEK : OR:=gX 172 0 0 4 [(2,.ptr 0 0),(3,.ptr 1 0),(4,.ptr 2 0)] ⟨[(0,some [.p a,.p b,.p c]),(1,some [.p d,.p e,.p f]),(2,some [.p g,.p h,.p i])],[],0,0,3⟩
def aEL : OR:=aU 173 [a,b]
def hJ : OR:=aU 174 [a]
def mZ : OR:=aU 196 [a,b,c]
def aBM : OR:=aU 203 [a,b,c]
def fJ : OR:=dK 158 [.p a] ⟨[],[],0,0,0⟩
def dN : OR:=gX 158 0 0 3 [(0,.p a),(3,.p b),(9,.p c),(10,.p d),(11,.p e)] ⟨[],[],0,0,0⟩
def dI : OR:=gX 158 0 0 11 [(6,.ref 0 []),(25,.p a),(26,.p b),(27,.p c)] ⟨[],[(0,some ⟨o3,d⟩)],0,0,1⟩
def uN : OR:=dK 104 [.agg [.p a,.p b,.p c],.ptr 0 0,.ptr 1 0,.ptr 2 0] ⟨[(0,some [.p d]),(1,some [.p e,.p f]),(2,some [.p g,.p h,.p i,.p j,.p k,.p l,.p m,.p n,.p o,.p q])],[],0,0,3⟩
def pM : OR:=dK 94 [.ptr 0 0] ⟨[(0,some [.p a,.p b,.p c])],[],0,0,1⟩
def mE : OR:=gX 94 1 0 3 [(0,.ptr 0 0),(2,.ptr 1 0),(3,.ptr 2 0),(4,.p a)] ⟨[(0,some [.p b,.p c,.p d]),(1,some [.ref 0 [],.ref 1 []]),(2,some [.ref 2 [],.ref 3 []])],[(0,some ⟨oO,e⟩),(1,some ⟨(.own 3 40 true []),f⟩),(2,some ⟨oO,g⟩),(3,some ⟨(.own 3 40 true []),h⟩)],0,0,7⟩
def jI : OR:=gX 94 1 0 8 [(0,.ptr 0 0),(2,.ptr 1 0),(3,.ptr 2 0),(5,.ref 4 []),(6,.p a)] ⟨[(0,some [.p b,.p c,.p d]),(1,some [.ref 0 [],.ref 1 []]),(2,some [.ref 2 [],.ref 3 []])],[(0,some ⟨oO,e⟩),(1,some ⟨(.own 3 40 true []),f⟩),(2,some ⟨oO,g⟩),(3,some ⟨(.own 3 40 true []),h⟩),(4,some ⟨(.own 3 40 true []),i⟩)],0,0,8⟩
def lE : OR:=gX 94 1 0 15 [(0,.ptr 0 0),(2,.ptr 1 0),(3,.ptr 2 0),(5,.ref 4 []),(6,.p a),(7,.ptr 3 0),(8,.ptr 4 0)] ⟨[(0,some [.p b,.p c,.p d]),(1,some [.ref 0 [],.ref 1 []]),(2,some [.ref 2 [],.ref 3 []]),(3,some [.p e,.p f,.ref 5 []]),(4,some [.ptr 0 0,.ref 6 [],.p g,.p h,.p i,.p j])],[(0,some ⟨oO,k⟩),(1,some ⟨(.own 3 40 true []),l⟩),(2,some ⟨oO,m⟩),(3,some ⟨(.own 3 40 true []),n⟩),(4,some ⟨(.own 3 40 true []),o⟩),(5,some ⟨(.own 2 16 true []),q⟩),(6,some ⟨(.own 2 16 true []),r⟩)],0,0,12⟩
def aBN : OR:=dK 95 [.ptr 0 0,.agg [.p a,.p b]] ⟨[(0,some [.p c,.p d,.p e])],[],0,0,1⟩
def qM : OR:=gX 95 1 0 21 [(0,.ptr 0 0),(4,.ptr 1 0),(5,.ptr 2 0)] ⟨[(0,some [.p a,.p b,.p c]),(1,some [.ref 0 [],.ref 1 []]),(2,some [.ref 2 [],.ref 3 []])],[(0,some ⟨oO,d⟩),(1,some ⟨(.own 3 40 true [.leaf,.leaf,(.own 2 16 true [])]),e⟩),(2,some ⟨oO,f⟩),(3,some ⟨(.own 3 40 true [.leaf,.leaf,(.own 2 16 true [])]),g⟩)],0,0,7⟩
def rS : OR:=gX 95 1 0 6 [(0,.ptr 0 0),(4,.ptr 1 0),(5,.ptr 2 0),(6,.p a),(8,.ptr 3 0)] ⟨[(0,some [.p b,.p c,.p d]),(1,some [.ref 0 [],.ref 1 []]),(2,some [.ref 2 [],.ref 3 []]),(3,some [.p e,.p f])],[(0,some ⟨oO,g⟩),(1,some ⟨(.own 3 40 true [.leaf,.leaf,(.own 2 16 true [])]),h⟩),(2,some ⟨oO,i⟩),(3,some ⟨(.own 3 40 true [.leaf,.leaf,(.own 2 16 true [])]),j⟩)],0,0,8⟩
def iH : OR:=dK 54 [.ptr 0 0] ⟨[(0,some [.p a,.p b,.p c])],[],0,0,1⟩
def zN : OR:=dK 122 [.p a,.p b,.p c] ⟨[],[],0,0,0⟩
def yN : OR:=dK 72 [.p a] ⟨[],[],0,0,0⟩
def pN : OR:=gX 72 0 0 3 [(3,.ref 0 []),(7,.p a),(8,.p b),(9,.p c)] ⟨[],[(0,some ⟨oF,d⟩)],0,0,1⟩
def aBO : OR:=dK 73 [.p a] ⟨[],[],0,0,0⟩
def rT : OR:=gX 73 0 0 3 [(3,.ref 0 []),(7,.p a),(8,.p b),(9,.p c)] ⟨[],[(0,some ⟨oH,d⟩)],0,0,1⟩
def lY : OR:=dK 74 [.p a] ⟨[],[],0,0,0⟩
def wS : OR:=dK 37 [.agg [.p a,.p b],.ref 0 [],.ptr 0 0] ⟨[(0,some [.ref 1 [],.ref 2 [],.p c,.ref 3 [],.p d,.p e,.p f,.p g,.p h,.p i])],[(0,some ⟨oS,j⟩),(1,some ⟨oF,k⟩),(2,some ⟨oH,l⟩),(3,some ⟨oO,m⟩)],0,0,5⟩
def aGM : OR:=dK 75 [.ptr 0 0,.agg [.p a,.p b]] ⟨[(0,some [.ref 0 [],.ref 1 [],.p c,.ref 2 [],.p d,.p e,.p f,.p g,.p h,.p i])],[(0,some ⟨oF,j⟩),(1,some ⟨oH,k⟩),(2,some ⟨oO,l⟩)],0,0,4⟩
def pA : OR:=gX 75 1 0 74 [(0,.ptr 0 0),(3,.ptr 1 0),(5,.eptr 0 [] a 0),(9,.p b),(10,.ref 3 []),(12,.p c),(21,.p d)] ⟨[(0,some [.ref 0 [],.ref 1 [],.p e,.ref 2 [],.p f,.p g,.p h,.p i,.p j,.p k]),(1,some [.p l,.p m])],[(0,some ⟨oF,n⟩),(1,some ⟨oH,o⟩),(2,some ⟨oO,q⟩),(3,some ⟨o3,r⟩)],0,0,6⟩
def aC0 : OR:=aU 115 [a]
def rG : OR:=aU 116 [a]
def nB : OR:=aU 117 [a]
def aEM : OR:=aU 118 [a,b]
def aGN : OR:=aU 119 [a]
def aAC : OR:=aU 124 [a,b]
def aGO : OR:=aU 161 [a,b]
def aGP : OR:=aU 162 [a,b]
def aGQ : OR:=aU 163 [a,b]
def aEN : OR:=aU 164 [a,b]
def strconv_Itoa : OR:=aU 165 [a]
def tX : OR:=aU 166 [a]
def vJ : OR:=aU 188 [a,b,c]
def aC1 : OR:=aU 189 [a,b]
def aC2 : OR:=aU 190 [a,b]
def aC3 : OR:=aU 191 [a,b]
def yO : OR:=aU 192 [a,b]
def qN : OR:=aU 194 [a]
def rU : OR:=aU 201 [a]
def vK : OR:=dK 56 [.p a] ⟨[],[],0,0,0⟩
def wU : OR:=dK 57 [.p a] ⟨[],[],0,0,0⟩
def oJ : OR:=gX 57 0 0 3 [(0,.p a),(3,.ref 0 []),(4,.p b)] ⟨[],[(0,some ⟨oH,c⟩)],0,0,1⟩
def lN : OR:=dK 131 [.ptr 0 0,.p a] ⟨[(0,some [.p b,.p c,.ref 0 [],.ref 1 [],.p d,.ref 2 [],.p e,.p f,.p g,.p h,.p i,.p j,.p k])],[(0,some ⟨oF,l⟩),(1,some ⟨oH,m⟩),(2,some ⟨oO,n⟩)],0,0,4⟩
def cO : OR:=dK 131 [.ptr 0 0,.agg [.p a,.p b,.p c]] ⟨[(0,some [.p d,.p e,.ref 0 [],.ref 1 [],.p f,.ref 2 [],.p g,.p h,.p i,.p j,.p k,.p l,.p m])],[(0,some ⟨oF,n⟩),(1,some ⟨oH,o⟩),(2,some ⟨oO,q⟩)],0,0,4⟩
def bW : OR:=dK 132 [.ptr 0 0] ⟨[(0,some [.p a,.p b,.ref 0 [],.ref 1 [],.p c,.ref 2 [],.p d,.p e,.p f,.p g,.p h,.p i,.p j])],[(0,some ⟨oF,k⟩),(1,some ⟨oH,l⟩),(2,some ⟨oO,m⟩)],0,0,4⟩
def rV : OR:=dK 135 [.ptr 0 0,.p a,.p b] ⟨[(0,some [.p c,.p d,.ref 0 [],.ref 1 [],.p e,.ref 2 [],.p f,.p g,.p h,.p i,.p j,.p k,.p l])],[(0,some ⟨oF,m⟩),(1,some ⟨oH,n⟩),(2,some ⟨oO,o⟩)],0,0,4⟩
def oK : OR:=gX 135 1 0 5 [(0,.ptr 0 0),(1,.p a),(2,.p b),(7,.ref 3 []),(8,.p c)] ⟨[(0,some [.p d,.p e,.ref 0 [],.ref 1 [],.p f,.ref 2 [],.p g,.p h,.p i,.p j,.p k,.p l,.p m])],[(0,some ⟨oF,n⟩),(1,some ⟨oH,o⟩),(2,some ⟨oO,q⟩),(3,some ⟨o3,r⟩)],0,0,5⟩
def nN : OR:=gX 135 1 0 10 [(0,.ptr 0 0),(1,.p a),(7,.ref 3 [])] ⟨[(0,some [.p b,.p c,.ref 0 [],.ref 1 [],.p d,.ref 2 [],.p e,.p f,.p g,.p h,.p i,.p j,.p k])],[(0,some ⟨oF,l⟩),(1,some ⟨oH,m⟩),(2,some ⟨oO,n⟩),(3,some ⟨o3,o⟩)],0,0,5⟩
def iO : OR:=dK 186 [.nils,.p a] ⟨[],[],0,0,0⟩
def jQ : OR:=dK 150 [.ptr 0 0,.p a,.p b] ⟨[(0,some [.ptr 1 0,.ref 0 [],.p c,.p d,.p e,.p f]),(1,some [.p g,.p h,.p i])],[(0,some ⟨(.own 2 16 true []),j⟩)],0,0,3⟩
def jB : OR:=gX 150 2 0 1 [(0,.ptr 0 0),(1,.p a),(6,.p b)] ⟨[(0,some [.ptr 1 0,.ref 0 [],.p c,.p d,.p e,.p f]),(1,some [.p g,.p h,.p i])],[(0,some ⟨(.own 2 16 true []),j⟩)],0,0,3⟩
def wV : OR:=dK 153 [.ptr 0 0,.p a] ⟨[(0,some [.p b,.p c,.p d])],[],0,0,1⟩
def bB : OR:=dK 151 [.ptr 0 0,.p a] ⟨[(0,some [.ptr 1 0,.ref 0 [],.p b,.p c,.p d,.p e]),(1,some [.p f,.p g,.p h])],[(0,some ⟨(.own 2 16 true []),i⟩)],0,0,3⟩
def kA : OR:=gX 151 2 0 2 [(0,.ptr 0 0),(4,.ptr 1 0)] ⟨[(0,some [.ptr 1 0,.ref 0 [],.p a,.p b,.p c,.p d]),(1,some [.p e,.p f,.p g])],[(0,some ⟨(.own 2 16 true []),h⟩)],0,0,3⟩
def fD : OR:=gX 151 2 0 38 [(0,.ptr 0 0),(1,.p a),(5,.p b),(6,.p c)] ⟨[(0,some [.ptr 1 0,.ref 0 [],.p d,.p e,.p f,.p g]),(1,some [.p h,.p i,.p j])],[(0,some ⟨(.own 2 16 true []),k⟩)],0,0,3⟩
def jJ : OR:=gX 151 2 0 50 [(0,.ptr 0 0),(1,.p a),(7,.p b)] ⟨[(0,some [.ptr 1 0,.ref 0 [],.p c,.p d,.p e,.p f]),(1,some [.p g,.p h,.p i])],[(0,some ⟨(.own 2 16 true []),j⟩)],0,0,3⟩
def gW : OR:=gX 151 2 0 51 [(0,.ptr 0 0),(1,.p a),(7,.p b),(8,.p c)] ⟨[(0,some [.ptr 1 0,.ref 0 [],.p d,.p e,.p f,.p g]),(1,some [.p h,.p i,.p j])],[(0,some ⟨(.own 2 16 true []),k⟩)],0,0,3⟩
def aP : OR:=dK 152 [.ptr 0 0,.p a,.p b] ⟨[(0,some [.ptr 1 0,.ref 0 [],.p c,.p d,.p e,.p f]),(1,some [.p g,.p h,.p i])],[(0,some ⟨(.own 2 16 true []),j⟩)],0,0,3⟩
def tY : OR:=dK 154 [.p a] ⟨[],[],0,0,0⟩
def mG : OR:=gX 154 0 0 3 [(1,.ptr 0 0),(2,.ptr 1 0),(3,.ptr 2 0),(4,.p a)] ⟨[(0,some [.p b,.p c]),(1,some [.ref 0 [],.ref 1 []]),(2,some [.ref 2 [],.ref 3 []])],[(0,some ⟨oO,d⟩),(1,some ⟨(.own 3 40 true [.leaf,.leaf,(.own 2 16 true [])]),e⟩),(2,some ⟨oO,f⟩),(3,some ⟨(.own 3 40 true [.leaf,.leaf,(.own 2 16 true [])]),g⟩)],0,0,7⟩
def aFx : OR:=dK 120 [.p a] ⟨[],[],0,0,0⟩
def eA : OR:=dK 111 [.p a] ⟨[],[],0,0,0⟩
def xL : OR:=dK 121 [.ptr 0 0,.p a,.p b] ⟨[(0,some [.ref 0 [],.ref 1 [],.p c,.ref 2 [],.p d,.p e,.p f,.p g,.p h,.p i])],[(0,some ⟨oF,j⟩),(1,some ⟨oH,k⟩),(2,some ⟨oO,l⟩)],0,0,4⟩
def aAD : OR:=dK 123 [.ptr 0 0,.p a] ⟨[(0,some [.ref 0 [],.ref 1 [],.p b,.ref 2 [],.p c,.p d,.p e,.p f,.p g,.p h])],[(0,some ⟨oF,i⟩),(1,some ⟨oH,j⟩),(2,some ⟨oO,k⟩)],0,0,4⟩
def pB : OR:=dK 182 [.ptr 0 0,.p a] ⟨[(0,some [.ptr 1 0,.ref 0 [],.p b,.p c,.p d,.p e]),(1,some [.p f,.p g,.p h])],[(0,some ⟨(.own 2 16 true []),i⟩)],0,0,3⟩
def kT : OR:=gX 182 2 0 7 [(0,.ptr 0 0),(1,.p a),(4,.ptr 1 0),(6,.p b)] ⟨[(0,some [.ptr 1 0,.ref 0 [],.p c,.p d,.p e,.p f]),(1,some [.p g,.p h,.p i])],[(0,some ⟨(.own 2 16 true []),j⟩)],0,0,3⟩
def lZ : OR:=dK 183 [.ptr 0 0,.p a] ⟨[(0,some [.ptr 1 0,.ref 0 [],.p b,.p c,.p d,.p e]),(1,some [.p f,.p g,.p h])],[(0,some ⟨(.own 2 16 true []),i⟩)],0,0,3⟩
def gY : OR:=gX 183 2 0 3 [(0,.ptr 0 0),(1,.p a),(4,.p b),(5,.p c)] ⟨[(0,some [.ptr 1 0,.ref 0 [],.p d,.p e,.p f,.p g]),(1,some [.p h,.p i,.p j])],[(0,some ⟨(.own 2 16 true []),k⟩)],0,0,3⟩
def pO : OR:=dK 184 [.ptr 0 0,.p a] ⟨[(0,some [.ptr 1 0,.ref 0 [],.p b,.p c,.p d,.p e]),(1,some [.p f,.p g,.p h])],[(0,some ⟨(.own 2 16 true []),i⟩)],0,0,3⟩
def rW : OR:=dK 198 [.ptr 0 0] ⟨[(0,some [.ptr 1 0,.ref 0 [],.p a,.p b,.p c,.p d]),(1,some [.p e,.p f,.p g])],[(0,some ⟨(.own 2 16 true []),h⟩)],0,0,3⟩
variable (a b c d e f g h i j k l m n o p q r s t u v w x y z : PV)
theorem aHS : aEy a=bd (aL2 a) λb=>aV (hd b) (some [.bool true]) (bd (tV a) λc=>c3 (hd c) λd e f=>w2 d λg h=>ib .gtr f (.I 60) (qH e (.I 60) g h) (qH e f g h)):=pE
theorem aEO : qH a b c d=bd (aAv (.agg [c,d]) a b) λe=>aH oS (gd e 0) (bd (aAw (.agg [c,d]) a b) λf=>aH oS (gd f 0) (bd (lT (gd e 0) (gd f 0)) λg=>aE (hd g) (nb (hd g) (some [.bool false]) (bd (aCS (.agg [c,d]) a) λh=>g11 h (nb (gd h 7) (bd (aK (gd e 0)) λi=>bd (aD .eql i (.I 0)) λj=>some [j]) (ib .lss b (.I 0) (bd (aK (gd e 0)) λk=>bd (aD .eql k (.I 0)) λl=>some [l]) (bd (qW (.agg [c,d]) (gd e 0)) λm=>aE (hd m) (nb (hd m) (some [.bool false]) (bd (yK (.agg [c,d]) (gd e 0) (gd e 0)) λn=>aH oS (gd n 0) (bd (lT (gd n 0) (gd e 0)) λo=>aE (hd o) (nb (hd o) (some [.bool false]) (iE b (.I 0) c d (gd h 0) (gd h 1) (gd h 2) (gd h 3) (gd h 4) (gd h 5) (gd h 6) (gd e 0) (gd h 8) (gd h 9) (gd h 10) (.lst []))))))))))))):=gE
theorem vT : iE a b c d e f g h i j k l m n o p=ib .lss b a (ib .eql f (.I 0) (bd (aK m) λq=>bd (aD .sub q (.I 1)) λr=>bd (aT m r) λs=>bd (aB 4 true m r) λt=>bd (PV.cell t 0) λu=>bd (PV.cell t 1) λv=>bd (aB 3 true d u) λw=>bd (PV.cell w 2) λx=>bd (aB 2 true x v) λy=>bd (PV.cell y 0) λz=>bd (aCT (.agg [c,d]) p (.agg [m,n,e,o,f,g,h,i,j,k])) λA=>aH oS (gd A 0) (bd (aEz l u v) λB=>aE (hd B) (w4 (hd B) λC D E F=>bd (aB 4 true m r) λG=>bd (PV.cell G 3) λH=>bd (aK H) λI=>ib .eql z (.I 11) (jP a b z I c d e f g h i j k u v r r C D E F l m n o (gd A 0)) (ib .eql z (.I 12) (jP a b z I c d e f g h i j k u v r r C D E F l m n o (gd A 0)) (ib .eql z (.I 13) (jP a b z I c d e f g h i j k u v r r C D E F l m n o (gd A 0)) (ib .eql z (.I 14) (jP a b z I c d e f g h i j k u v r r C D E F l m n o (gd A 0)) (gL a b z I c d e f g h i j k u v r r C D E F l m n o (gd A 0)))))))) (bd (lT p l) λJ=>aE (hd J) (some [(hd J)]))) (bd (lT p l) λK=>aE (hd K) (some [(hd K)])):=gE
theorem aDJ : jP a b c d e f g h i j k l m n o p q r s t u v w x y z=bd (aD .sub d (.I 1)) λA=>bd (aB 4 true w q) λB=>bd (PV.cell B 3) λC=>bd (aT C A) λD=>bd (aB 4 true w q) λE=>bd (PV.cell E 3) λF=>bd (aB 3 true F A) λG=>bd (PV.cell G 0) λH=>ib .eql H (.I 1) (bd (aD .sub d (.I 2)) λI=>bd (aB 4 true w q) λJ=>bd (PV.cell J 3) λK=>bd (aT K I) λL=>bd (aB 4 true w q) λM=>bd (PV.cell M 3) λN=>bd (aB 3 true N I) λO=>bd (PV.cell O 0) λP=>bd (aD .eql P (.I 1)) λQ=>aV Q (bd (aD .and t (.I 1)) λR=>ib .eql R (.I 0) (some [.bool false]) (nb Q (bd (aD .and t (.I 2)) λS=>ib .eql S (.I 0) (some [.bool false]) (gL a b c d e f g h i j k l m n o p q r s t u v w x y z)) (gL a b c d e f g h i j k l m n o p q r s t u v w x y z))) (nb Q (bd (aD .and t (.I 2)) λT=>ib .eql T (.I 0) (some [.bool false]) (gL a b c d e f g h i j k l m n o p q r s t u v w x y z)) (gL a b c d e f g h i j k l m n o p q r s t u v w x y z))) (bd (aD .and t (.I 2)) λU=>ib .eql U (.I 0) (some [.bool false]) (gL a b c d e f g h i j k l m n o p q r s t u v w x y z)):=gE
theorem aDK : gL a b c d e f g h i j k l m n o p q r s t u v w x y z=ib .eql c (.I 23) (ib .eql t (.I 1) (bd (aD .sub d (.I 1)) λA=>bd (aB 3 true f n) λB=>bd (PV.cell B 2) λC=>bd (aB 2 true C o) λD=>bd (PV.cell D 1) λE=>bd (aD .sub A E) λF=>bd (aB 4 true w q) λG=>bd (PV.cell G 3) λH=>bd (aT H F) λI=>bd (aB 4 true w q) λJ=>bd (PV.cell J 3) λK=>bd (aB 3 true K F) λL=>bd (aS u) λM=>w3 L λN O P=>bd (cQ [1,1,2] .neq (.agg [N,O,P]) (.agg [(.I 5),M,(.str (bs []))])) λQ=>aV Q (some [.bool false]) (bd (aAb (.agg [e,f]) (.agg [w,x,g,y,h,i,j,k,l,m])) λR=>g10 R (bd (aD .add b (.I 1)) λS=>iE a S e f (gd R 0) (gd R 1) (gd R 2) (gd R 3) (gd R 4) (gd R 5) (gd R 6) v (gd R 7) (gd R 8) (gd R 9) z))) (bd (aAb (.agg [e,f]) (.agg [w,x,g,y,h,i,j,k,l,m])) λT=>g10 T (bd (aD .add b (.I 1)) λU=>iE a U e f (gd T 0) (gd T 1) (gd T 2) (gd T 3) (gd T 4) (gd T 5) (gd T 6) v (gd T 7) (gd T 8) (gd T 9) z))) (bd (aAb (.agg [e,f]) (.agg [w,x,g,y,h,i,j,k,l,m])) λV=>g10 V (bd (aD .add b (.I 1)) λW=>iE a W e f (gd V 0) (gd V 1) (gd V 2) (gd V 3) (gd V 4) (gd V 5) (gd V 6) v (gd V 7) (gd V 8) (gd V 9) z)):=gE
theorem aQt : aL2 a=bd (aK a) λb=>bd (aD .gtr b (.I 1048576)) λc=>some [c]:=pE
theorem aDL : tV a=bd (aCV a) λb=>bd (wP (gd b 0) (gd b 1) (gd b 2)) λc=>w2 (gd c 0) λd e=>bd (wQ d e (gd c 1) (gd c 2) (gd c 3)) λf=>bd (aG (.I 250) (gd f 1) (gd f 2) (gd f 3)) λg=>bd (aD .sub (gd g 0) (.I 1)) λh=>some [(.tup [(.agg [d,e]),(gd f 0),h])]:=pE
theorem aHT : lT a b=bd (aK a) λc=>bd (aK b) λd=>ib .neq c d (some [.bool false]) (qI a b (.I 0)):=pE
theorem xU : qI a b c=bd (aK a) λd=>ib .lss c d (bd (aB 4 true a c) λe=>bd (aB 4 true b c) λf=>w4 e λg h i j=>w4 f λk l m n=>bd (cQ [1,1,1,1] .neq (.agg [g,h,i,j]) (.agg [k,l,m,n])) λo=>aV o (some [.bool false]) (bd (aD .add c (.I 1)) λp=>qI a b p)) (some [.bool true]):=gE
theorem aHU : qW a b=w2 a λc d=>bd (xS (.agg [c,d])) λe=>aV (hd e) (bd (vC (.agg [c,d]) b) λf=>some [(hd f)]) (some [.bool false]):=pE
theorem aL3 : aEz a b c=bd (aK a) λd=>qX b c a d (.I 0) (.I 0) (.I 0) (.I 0) (.I 0):=pE
theorem aBh : qX a b c d e f g h i=ib .lss e d (bd (aB 4 true c e) λj=>w4 j λk l m n=>ib .eql k a (ib .eql l b (some [(.agg [k,l,m,n])]) (bd (aD .add e (.I 1)) λo=>qX a b c d o f g h i)) (bd (aD .add e (.I 1)) λp=>qX a b c d p f g h i)) (some [(.agg [(.I 0),(.I 0),(.I 0),(.I 0)])]):=gE
theorem aL4 : xS a=w2 a λb c=>bd (aEA (.agg [b,c])) λd=>w3 (hd d) λe f g=>bd (cQ [1,1,1] .eql (.agg [e,f,g]) (.agg [(.I 0),(.I 0),(.I 0)])) λh=>some [h]:=pE
theorem aHV : vC a b=w2 a λc d=>bd (aK b) λe=>nI b b e (.I 0) c d:=pE
theorem xV : nI a b c d e f=ib .lss d c (bd (aB 4 true b d) λg=>w4 g λh i j k=>bd (aEB (.agg [e,f]) (.agg [h,i,j,k])) λl=>nb (hd l) (some [.bool false]) (ib .gtr d (.I 0) (bd (aD .sub d (.I 1)) λm=>bd (aB 4 true a m) λn=>bd (iW n (.agg [h,i,j,k])) λo=>ib .geq (hd o) (.I 0) (some [.bool false]) (bd (aD .add d (.I 1)) λp=>nI a b c p e f)) (bd (aD .add d (.I 1)) λq=>nI a b c q e f))) (bd (aK a) λr=>bd (aD .leq r (.I 150)) λs=>some [s]):=gE
theorem aL5 : aEA a=w2 a λb c=>bd (aBH (.agg [b,c])) λd=>nb (hd d) (some [(.agg [(.I 1),(.I 0),(.I 0)])]) (bd (aK c) λe=>qY e (.I 0) b c (.I 0) (.I 0) (.I 0)):=pE
theorem aBi : qY a b c d e f g=ib .lss b a (bd (aBb (.agg [c,d]) b) λh=>bd (aS (hd h)) λi=>bd (aB 3 true d b) λj=>bd (PV.cell j 2) λk=>bd (aK k) λl=>qZ b a b k l (.I 0) c d e f g i) (some [(.agg [(.I 0),(.I 0),(.I 0)])]):=gE
theorem aBj : qZ a b c d e f g h i j k l=ib .lss f e (bd (aB 2 true d f) λm=>w2 m λn o=>bd (aB 1 false l f) λp=>ib .lss p (.I 0) (bd (aD .add f (.I 1)) λq=>qZ a b c d e q g h i j k l) (bd (aB 1 false l f) λr=>bd (aBc (.agg [g,h]) (.agg [n,o]) r) λs=>c2 (hd s) λt u=>bd (aS t) λv=>nb u (bd (aS a) λw=>bd (aS f) λx=>some [(.agg [(.I 2),w,x])]) (bd (zH (.agg [n,o]) f) λy=>bd (aK l) λz=>bd (oU (hd y) z) λA=>aV (hd A) (bd (aS a) λB=>bd (aS f) λC=>some [(.agg [(.I 3),B,C])]) (bd (lD (hd y) (.fn 145 [(.bx [l]),(.bx [v])])) λD=>aE (hd D) (aV (hd D) (bd (aS a) λE=>bd (aS f) λF=>some [(.agg [(.I 4),E,F])]) (bd (aD .add f (.I 1)) λG=>qZ a b c d e G g h i j k l)))))) (bd (aD .add c (.I 1)) λH=>qY b H g h i j k):=gE
theorem aL6 : aEB a b=w2 a λc d=>w4 b λe f g h=>bd (aCR (.agg [c,d]) e f) λi=>c2 (hd i) λj k=>w2 j λl m=>nb k (some [.bool false]) (ib .eql l (.I 23) (ib .eql g (.I 1) (aEC c d e f g h) (vD e f g h l m)) (vD e f g h l m)):=pE
theorem aHW : aEC a b c d e f=bd (aK b) λg=>bd (eB f g) λh=>some [(hd h)]:=gE
theorem aHX : vD a b c d e f=ib .eql e (.I 23) (ib .eql c (.I 2) (bd (aD .eql d (.I 0)) λg=>some [g]) (some [.bool false])) (bd (zI (.agg [e,f])) λh=>aV (hd h) (bd (dP c (.I 1) (.I 3)) λi=>aV (hd i) (bd (aD .eql d (.I 0)) λj=>some [j]) (some [.bool false])) (some [.bool false])):=gE
theorem xW : iW a b=w4 a λc d e f=>w4 b λg h i j=>bd (tD c g) λk=>bd (tD d h) λl=>bd (aN 1 8 false (.lst []) (.lst [(hd k),(hd l)])) λm=>bd (aGD m) λn=>aE (hd n) (some [(hd n)]):=pE
theorem aJb : aBH a=w2 a λb c=>bd (aK c) λd=>bd (dP d (.I 1) (.I 12)) λe=>nb (hd e) (some [.bool false]) (bd (aK b) λf=>ib .gtr f (.I 20) (some [.bool false]) (bd (fT b (.fn 176 [])) λg=>aV (hd g) (some [.bool false]) (bd (aK c) λh=>rP c h (.I 0) b c))):=pE
theorem yW : rP a b c d e=ib .lss c b (bd (aB 3 true a c) λf=>w3 f λg h i=>bd (dP g (.I 0) (.I 6)) λj=>nb (hd j) (some [.bool false]) (bd (dP h g (.I 12)) λk=>nb (hd k) (some [.bool false]) (bd (aK i) λl=>bd (dP l (.I 1) (.I 120)) λm=>nb (hd m) (some [.bool false]) (bd (gQ i (.fn 178 [(.bx [d,e]),(.bx [g,h,i])])) λn=>aE (hd n) (aV (hd n) (some [.bool false]) (bd (aD .add c (.I 1)) λo=>rP a b o d e)))))) (some [.bool true]):=gE
theorem aL7 : aBb a b=w2 a λc d=>bd (aB 3 true d b) λe=>bd (PV.cell e 2) λf=>bd (aK f) λg=>bd (qD (.lst [(.I (-1))]) g) λh=>aH (.own 1 8 false []) (gd h 0) (bd (aT (gd h 0) (.I 0)) λi=>bd (aX 1 false (gd h 0) (.I 0) (.I 0)) λj=>rA f (.bool true) c d j):=pE
theorem qO : rA a b c d e=aV b (bd (aK a) λf=>lU a (.bool false) a f (.I 0) c d e) (some [e]):=gE
theorem aBk : lU a b c d e f g h=ib .lss e d (bd (aB 2 true c e) λi=>w2 i λj k=>bd (aT h e) λl=>bd (aB 1 false h e) λm=>ib .lss m (.I 0) (bd (aD .add e (.I 1)) λn=>lU a b c d n f g h) (bd (aT h e) λo=>bd (aB 1 false h e) λp=>bd (aBc (.agg [f,g]) (.agg [j,k]) p) λq=>c2 (hd q) λr s=>bd (zH (.agg [j,k]) e) λt=>bd (aK (hd t)) λu=>jC a b r s c d e (hd t) u (.I 0) f g h)) (rA a b f g h):=gE
theorem aAE : jC a b c d e f g h i j k l m=ib .lss j i (bd (aB 1 false h j) λn=>aV d (bd (aK a) λo=>ib .lss n o (bd (aT m n) λp=>bd (aB 1 false m n) λq=>ib .lss q (.I 0) (aDu a c d n e f g h i j k l m) (bd (aD .add j (.I 1)) λr=>jC a b c d e f g h i r k l m)) (bd (aD .add j (.I 1)) λs=>jC a b c d e f g h i s k l m)) (bd (aD .add j (.I 1)) λt=>jC a b c d e f g h i t k l m)) (bd (aD .add g (.I 1)) λu=>lU a b e f u k l m):=gE
theorem aGR : aDu a b c d e f g h i j k l m=bd (aT m d) λn=>bd (aX 1 false m d b) λo=>bd (aD .add j (.I 1)) λp=>jC a (.bool true) b c e f g h i p k l o:=gE
theorem aL8 : aBc a b c=w2 a λd e=>w2 b λf g=>bd (aBd (.agg [d,e]) (.agg [f,g])) λh=>c2 (hd h) λi j=>bd (aD .sub c i) λk=>bd (aD .add k j) λl=>ib .leq i c (bd (aD .leq l (.I 16)) λm=>some [(.tup [l,m])]) (some [(.tup [l,(.bool false)])]):=pE
theorem aKl : zH a b=w2 a λc d=>ib .eql c (.I 25) (some [(.lst [])]) (ib .eql c (.I 17) (bd (aN 1 8 false (.lst []) (.lst [d])) λe=>some [e]) (ib .eql c (.I 18) (bd (aD .add b (.I 1)) λf=>bd (aN 1 8 false (.lst []) (.lst [f,d])) λg=>some [g]) (ib .eql c (.I 19) (bd (aD .add b (.I 1)) λh=>bd (aN 1 8 false (.lst []) (.lst [h,d])) λi=>some [i]) (bd (aD .add b (.I 1)) λj=>bd (aN 1 8 false (.lst []) (.lst [j])) λk=>some [k])))):=pE
theorem aAF : oU a b=bd (rB a b) λc=>bd (aD .geq (hd c) (.I 0)) λd=>some [d]:=pE
theorem wW : lD a b=bd (sQ a b) λc=>bd (aD .geq (hd c) (.I 0)) λd=>some [d]:=pE
theorem aJc : aGc a b c=bd (PV.deref b 0) λd=>bd (aB 1 false d a) λe=>bd (PV.deref c 0) λf=>bd (aD .neq e f) λg=>some [g]:=pE
theorem aM8 : aCR a b c=w2 a λd e=>bd (aK e) λf=>bd (eB b f) λg=>nb (hd g) (some [(.tup [(.agg [(.I 0),(.I 0)]),(.bool false)])]) (bd (aB 3 true e b) λh=>bd (PV.cell h 2) λi=>bd (aK i) λj=>bd (eB c j) λk=>nb (hd k) (some [(.tup [(.agg [(.I 0),(.I 0)]),(.bool false)])]) (bd (aB 3 true e b) λl=>bd (PV.cell l 2) λm=>bd (aB 2 true m c) λn=>w2 n λo p=>some [(.tup [(.agg [o,p]),(.bool true)])])):=pE
theorem aKm : eB a b=bd (aD .sub b (.I 1)) λc=>bd (dP a (.I 0) c) λd=>some [(hd d)]:=pE
theorem aKn : zI a=w2 a λb c=>bd (dP b (.I 11) (.I 14)) λd=>some [(hd d)]:=pE
theorem aKo : dP a b c=ib .leq b a (bd (aD .leq a c) λd=>some [d]) (some [.bool false]):=pE
theorem aGS : tD a b=bd (xJ a) λc=>bd (xJ b) λd=>aV (hd c) (aV (hd d) (some [.I 0]) (some [(.I (-1))])) (aV (hd d) (some [.I 1]) (ib .lss a b (some [(.I (-1))]) (ib .gtr a b (some [.I 1]) (some [.I 0])))):=pE
theorem aM9 : aGD a=bd (aK a) λb=>aBI (.I 0) a b (.I 0):=pE
theorem wX : aBI a b c d=ib .lss d c (bd (aB 1 false b d) λe=>ib .neq e a (some [e]) (bd (aD .add d (.I 1)) λf=>aBI a b c f)) (some [a]):=gE
theorem sG : fT a b=bd (oV a b) λc=>bd (aD .geq (hd c) (.I 0)) λd=>some [d]:=pE
theorem aGT : aDv a=bd (uL a) λb=>bd (dB (hd b)) λc=>some [c]:=pE
theorem qE : gQ a b=bd (lV a b) λc=>bd (aD .geq (hd c) (.I 0)) λd=>some [d]:=pE
theorem aGU : aDw a b c=w2 a λd e=>bd (PV.deref b 0) λf=>bd (PV.deref b 1) λg=>bd (PV.deref c 0) λh=>bd (PV.deref c 1) λi=>bd (PV.deref c 2) λj=>bd (aGE (.agg [f,g]) (.agg [h,i,j]) (.agg [d,e])) λk=>bd (dB (hd k)) λl=>some [l]:=pE
theorem aL9 : aBd a b=w2 a λc d=>w2 b λe f=>bd (dP e (.I 1) (.I 6)) λg=>aV (hd g) (some [(.tup [(.I 0),(.I 1)])]) (ib .eql e (.I 20) (some [(.tup [(.I 0),(.I 1)])]) (ib .eql e (.I 7) (some [(.tup [(.I 1),(.I 0)])]) (ib .eql e (.I 9) (some [(.tup [(.I 1),(.I 0)])]) (ib .eql e (.I 18) (some [(.tup [(.I 1),(.I 0)])]) (ib .eql e (.I 19) (some [(.tup [(.I 1),(.I 0)])]) (ib .eql e (.I 25) (some [(.tup [(.I 1),(.I 0)])]) (ib .eql e (.I 26) (some [(.tup [(.I 1),(.I 0)])]) (ib .eql e (.I 8) (some [(.tup [(.I 1),(.I 2)])]) (ib .eql e (.I 10) (some [(.tup [(.I 2),(.I 2)])]) (bd (dP e (.I 11) (.I 15)) λh=>aV (hd h) (some [(.tup [(.I 2),(.I 1)])]) (ib .eql e (.I 16) (some [(.tup [(.I 1),(.I 1)])]) (ib .eql e (.I 21) (some [(.tup [(.I 1),(.I 1)])]) (ib .eql e (.I 22) (some [(.tup [(.I 2),(.I 0)])]) (ib .eql e (.I 23) (bd (dP f (.I 0) (.I 6)) λi=>aV (hd i) (bd (aD .add f (.I 1)) λj=>some [(.tup [j,(.I 1)])]) (tE c d e f)) (tE c d e f))))))))))))))):=pE
variable (a b c d e f g h i j k l m n o p : PV)
theorem aGV : tE a b c d=ib .eql c (.I 24) (bd (aK b) λe=>bd (eB d e) λf=>aV (hd f) (aDx a b c d) (some [(.tup [(.I 0),(.I 0)])])) (some [(.tup [(.I 0),(.I 0)])]):=gE
theorem aGW : aDx a b c d=bd (aB 3 true b d) λe=>bd (PV.cell e 0) λf=>some [(.tup [f,(.I 1)])]:=gE
theorem aCh : rB a b=bd (aK a) λc=>kF a b c (.I 0):=pE
theorem rH : kF a b c d=ib .lss d c (bd (aB 1 false a d) λe=>ib .eql b e (some [d]) (bd (aD .add d (.I 1)) λf=>kF a b c f)) (some [(.I (-1))]):=gE
theorem zO : sQ a b=bd (aK a) λc=>iM a b c (.I 0):=pE
theorem pC : iM a b c d=ib .lss d c (bd (aB 1 false a d) λe=>bd (PV.apply aU b [e]) λf=>aV (hd f) (some [d]) (bd (aD .add d (.I 1)) λg=>iM a b c g)) (some [(.I (-1))]):=gE
theorem aJd : xJ a=bd (aD .neq a a) λb=>some [b]:=pE
theorem uS : oV a b=bd (aK a) λc=>fU a b c (.I 0):=pE
theorem kU : fU a b c d=ib .lss d c (bd (aB 1 false a d) λe=>bd (PV.apply aU b [e]) λf=>aV (hd f) (some [d]) (bd (aD .add d (.I 1)) λg=>fU a b c g)) (some [(.I (-1))]):=gE
theorem aMa : uL a=bd (bV a) λb=>vE a b (.I 0):=pE
theorem aBl : vE a b c=ib .lss c b (bd (dG a c) λd=>ib .lss d (.int .u8 32) (some [.bool false]) (bd (dG a c) λe=>ib .gtr e (.int .u8 126) (some [.bool false]) (bd (dG a c) λf=>ib .eql f (.int .u8 34) (some [.bool false]) (bd (aD .add c (.I 1)) λg=>vE a b g)))) (bd (bV a) λh=>bd (aD .leq h (.I 60)) λi=>some [i]):=gE
theorem rX : lV a b=bd (aK a) λc=>fC a b c (.I 0):=pE
theorem jK : fC a b c d=ib .lss d c (bd (aB 2 true a d) λe=>bd (PV.apply aU b [e]) λf=>aV (hd f) (some [d]) (bd (aD .add d (.I 1)) λg=>fC a b c g)) (some [(.I (-1))]):=gE
theorem aNa : aGE a b c=w2 a λd e=>w3 b λf g h=>w2 c λi j=>ib .eql i (.I 1) (bd (rC j) λk=>some [(hd k)]) (ib .eql i (.I 2) (bd (dP j (.I 0) (.I 1)) λl=>some [(hd l)]) (ib .eql i (.I 3) (bd (aK d) λm=>bd (eB j m) λn=>some [(hd n)]) (ib .eql i (.I 5) (bd (aK e) λo=>bd (eB j o) λp=>some [(hd p)]) (ib .eql i (.I 24) (bd (aK e) λq=>bd (eB j q) λr=>some [(hd r)]) (ib .eql i (.I 6) (bd (eB j g) λs=>some [(hd s)]) (ib .eql i (.I 7) (bd (eB j g) λt=>some [(hd t)]) (ib .eql i (.I 17) (bd (aK h) λu=>bd (eB j u) λv=>some [(hd v)]) (ib .eql i (.I 18) (bd (aK h) λw=>bd (eB j w) λx=>some [(hd x)]) (ib .eql i (.I 19) (bd (aK h) λy=>bd (eB j y) λz=>some [(hd z)]) (ib .eql i (.I 20) (bd (dP j (.I 0) (.I 6)) λA=>some [(hd A)]) (ib .eql i (.I 21) (bd (eB j (.I 6)) λB=>some [(hd B)]) (ib .eql i (.I 22) (bd (eB j (.I 6)) λC=>some [(hd C)]) (ib .eql i (.I 23) (bd (dP j (.I 0) (.I 6)) λD=>some [(hd D)]) (bd (dP i (.I 1) (.I 26)) λE=>aV (hd E) (bd (aD .eql j (.I 0)) λF=>some [F]) (some [.bool false]))))))))))))))):=pE
theorem aGg : rC a=bd (dP a (.I (-1000000000)) (.I 1000000000)) λb=>some [(hd b)]:=pE
theorem aHY : aAv a b c=w2 a λd e=>bd (aQs d e b c d e (.lst [])) λf=>nb (gd f 7) (some [(.lst [])]) (some [(gd f 10)]):=sE
theorem aHZ : aAw a b c=w2 a λd e=>bd (aCS (.agg [d,e]) b) λf=>g11 f (nb (gd f 7) (some [(.lst [])]) (bd (aR c (.I 0) (.I 50000)) λg=>nb (hd g) (some [(.lst [])]) (qJ c (.I 0) d e (gd f 0) (gd f 1) (gd f 2) (gd f 3) (gd f 4) (gd f 5) (gd f 6) (.lst []) (gd f 8) (gd f 9) (gd f 10)))):=sE
theorem xX : qJ a b c d e f g h i j k l m n o=ib .lss b a (ib .eql f (.I 0) (bd (yL (.agg [c,d]) l (.agg [m,n,e,o,f,g,h,i,j,k])) λp=>aH oS (gd p 0) (bd (zL (.agg [c,d]) (.agg [m,n,e,o,f,g,h,i,j,k])) λq=>g10 q (bd (aD .add b (.I 1)) λr=>qJ a r c d (gd q 0) (gd q 1) (gd q 2) (gd q 3) (gd q 4) (gd q 5) (gd q 6) (gd p 0) (gd q 7) (gd q 8) (gd q 9)))) (some [l])) (some [l]):=gE
theorem aGX : aR a b c=ib .geq a b (bd (aD .leq a c) λd=>some [d]) (some [.bool false]):=pE
theorem aNb : aCS a b=w2 a λc d=>bd (vF (.agg [c,d])) λe=>nb (hd e) (some [(.I 0),(.I 0),(.I 0),(.I 0),(.I 0),(.str (bs [])),(.I 0),(.bool false),(.lst []),(.lst []),(.lst [])]) (bd (aK b) λf=>bd (aB 3 true d (.I 0)) λg=>bd (PV.cell g 0) λh=>ib .neq f h (some [(.I 0),(.I 0),(.I 0),(.I 0),(.I 0),(.str (bs [])),(.I 0),(.bool false),(.lst []),(.lst []),(.lst [])]) (sR b (.I 0) c d (.I 0) (.I 0) (.I 0) (.I 0) (.I 0) (.str (bs [])) (.I 0) (.lst []) (.lst []) (.lst []))):=sE
theorem aCi : sR a b c d e f g h i j k l m n=bd (aK a) λo=>ib .lss b o (bd (aB 3 true a b) λp=>bd (aAx (.agg [c,d]) p (.I 0)) λq=>nb (hd q) (some [(.I 0),(.I 0),(.I 0),(.I 0),(.I 0),(.str (bs [])),(.I 0),(.bool false),(.lst []),(.lst []),(.lst [])]) (bd (aD .add b (.I 1)) λr=>sR a r c d e f g h i j k l m n)) (bd (aB 3 true d (.I 0)) λs=>bd (PV.cell s 1) λt=>bd (bD 32 (.agg [(.I 0),(.I 0),(.str (bs []))]) t) λu=>ib .leq t t (bd (bD 32 (.agg [(.I 0),(.I 0),(.str (bs []))]) t) λv=>rD a (.I 0) e f g h i j k (.I 0) (.I 0) l m n v (.lst [])) (none)):=gE
theorem aBm : rD a b c d e f g h i j k l m n o p=bd (aK a) λq=>ib .lss b q (bd (aB 3 true a b) λr=>bd (aT o b) λs=>bd (aX 3 true o b r) λt=>bd (aD .add b (.I 1)) λu=>rD a u c d e f g h i j k l m n t p) (some [(.I 0),(.I 0),(.I 0),(.I 0),(.I 0),(.str (bs [])),(.I 0),(.bool true),(.lst [(.agg [j,k,o,p])]),(.lst []),(.lst [])]):=gE
theorem aKp : vF a=w2 a λb c=>bd (aED (.agg [b,c])) λd=>bd (PV.cell (hd d) 0) λe=>bd (aD .eql e (.I 0)) λf=>some [f]:=pE
theorem aNc : aAx a b c=w2 a λd e=>w3 b λf g h=>ib .neq f (.I 3) (ib .neq h (.str (bs [])) (some [.bool false]) (ib .eql f (.I 0) (bd (aD .eql g (.I 0)) λi=>some [i]) (ib .eql f (.I 1) (bd (lJ g) λj=>some [(hd j)]) (ib .eql f (.I 2) (bd (aR g (.I 0) (.I 1)) λk=>some [(hd k)]) (ib .eql f (.I 3) (ib .eql g (.I 0) (bd (rQ h) λl=>some [(hd l)]) (some [.bool false])) (ib .eql f (.I 4) (ib .geq g (.I 0) (bd (aD .lss g c) λm=>some [m]) (some [.bool false])) (ib .eql f (.I 5) (bd (aK e) λn=>bd (aD .sub n (.I 1)) λo=>bd (aR g (.I 0) o) λp=>some [(hd p)]) (some [.bool false])))))))) (ib .eql f (.I 0) (bd (aD .eql g (.I 0)) λq=>some [q]) (ib .eql f (.I 1) (bd (lJ g) λr=>some [(hd r)]) (ib .eql f (.I 2) (bd (aR g (.I 0) (.I 1)) λs=>some [(hd s)]) (ib .eql f (.I 3) (ib .eql g (.I 0) (bd (rQ h) λt=>some [(hd t)]) (some [.bool false])) (ib .eql f (.I 4) (ib .geq g (.I 0) (bd (aD .lss g c) λu=>some [u]) (some [.bool false])) (ib .eql f (.I 5) (bd (aK e) λv=>bd (aD .sub v (.I 1)) λw=>bd (aR g (.I 0) w) λx=>some [(hd x)]) (some [.bool false]))))))):=pE
theorem aMb : aED a=w2 a λb c=>bd (aBJ (.agg [b,c])) λd=>nb (hd d) (some [(.agg [(.I 1),(.I 0),(.I 0)])]) (rE (.I 0) b c (.I 0) (.I 0) (.I 0)):=pE
theorem aBn : rE a b c d e f=bd (aK c) λg=>ib .lss a g (bd (aB 3 true c a) λh=>bd (PV.cell h 2) λi=>bd (oY (.agg [b,c]) a) λj=>oW a i (hd j) (.I 0) b c d e f) (some [(.agg [(.I 0),(.I 0),(.I 0)])]):=gE
theorem aBo : oW a b c d e f g h i=bd (aK b) λj=>ib .lss d j (bd (aB 1 false c d) λk=>ib .lss k (.I 0) (bd (aD .add d (.I 1)) λl=>oW a b c l e f g h i) (bd (aB 2 true b d) λm=>bd (aBe (.agg [e,f]) m) λn=>c2 (hd n) λo p=>bd (aB 1 false c d) λq=>bd (aD .sub q o) λr=>bd (aD .add r p) λs=>bd (aB 1 false c d) λt=>ib .lss t o (bd (aS a) λu=>bd (aS d) λv=>some [(.agg [(.I 2),u,v])]) (ib .gtr s (.I 16) (bd (aS a) λw=>bd (aS d) λx=>some [(.agg [(.I 2),w,x])]) (bd (aB 2 true b d) λy=>bd (zJ y d) λz=>pX a b c d s (hd z) (.I 0) e f g h i)))) (bd (aD .add a (.I 1)) λA=>rE A e f g h i):=gE
theorem aAG : pX a b c d e f g h i j k l=bd (aK f) λm=>ib .lss g m (bd (aB 1 false f g) λn=>bd (aK b) λo=>ib .geq n o (bd (aS a) λp=>bd (aS d) λq=>some [(.agg [(.I 3),p,q])]) (bd (aD .add g (.I 1)) λr=>pX a b c d e f r h i j k l)) (mX a b c d e f (.I 0) h i j k l):=gE
theorem aAH : mX a b c d e f g h i j k l=bd (aK f) λm=>ib .lss g m (bd (aB 1 false f g) λn=>bd (aB 1 false c n) λo=>ib .neq o e (bd (aS a) λp=>bd (aS d) λq=>some [(.agg [(.I 4),p,q])]) (bd (aD .add g (.I 1)) λr=>mX a b c d e f r h i j k l)) (bd (aD .add d (.I 1)) λs=>oW a b c s h i j k l):=gE
theorem aMc : lJ a=bd (aR a (.I (-1000000000)) (.I 1000000000)) λb=>some [(hd b)]:=pE
theorem aKq : rQ a=bd (bV a) λb=>ib .gtr b (.I 60) (some [.bool false]) (tF a (.I 0)):=pE
theorem aAI : tF a b=bd (bV a) λc=>ib .lss b c (bd (dG a b) λd=>ib .lss d (.int .u8 32) (some [.bool false]) (bd (dG a b) λe=>ib .gtr e (.int .u8 126) (some [.bool false]) (bd (dG a b) λf=>ib .eql f (.int .u8 34) (some [.bool false]) (bd (aD .add b (.I 1)) λg=>tF a g)))) (some [.bool true]):=gE
theorem aJe : aBJ a=w2 a λb c=>bd (aK c) λd=>bd (aR d (.I 1) (.I 12)) λe=>nb (hd e) (some [.bool false]) (bd (aK b) λf=>ib .gtr f (.I 20) (some [.bool false]) (rR (.I 0) b c)):=pE
theorem yX : rR a b c=bd (aK b) λd=>ib .lss a d (bd (aB 1 false b a) λe=>bd (rQ e) λf=>nb (hd f) (some [.bool false]) (bd (aD .add a (.I 1)) λg=>rR g b c)) (oX (.I 0) b c):=gE
theorem yY : oX a b c=bd (aK c) λd=>ib .lss a d (bd (aB 3 true c a) λe=>w3 e λf g h=>bd (aR f (.I 0) (.I 6)) λi=>nb (hd i) (some [.bool false]) (bd (aR g f (.I 12)) λj=>nb (hd j) (some [.bool false]) (bd (aK h) λk=>bd (aR k (.I 1) (.I 120)) λl=>nb (hd l) (some [.bool false]) (qK a (.I 0) b c f g h)))) (some [.bool true]):=gE
theorem xY : qK a b c d e f g=bd (aK g) λh=>ib .lss b h (bd (aB 2 true g b) λi=>bd (aGF (.agg [c,d]) a i) λj=>nb (hd j) (some [.bool false]) (bd (aD .add b (.I 1)) λk=>qK a k c d e f g)) (bd (aD .add a (.I 1)) λl=>oX l c d):=gE
theorem aH0 : oY a b=w2 a λc d=>bd (aB 3 true d b) λe=>bd (PV.cell e 2) λf=>qL f (.I 0) c d (.lst []):=pE
theorem xZ : qL a b c d e=bd (aK a) λf=>ib .lss b f (bd (aN 1 8 false e (.lst [(.I (-1))])) λg=>bd (aD .add b (.I 1)) λh=>qL a h c d g) (bd (aT e (.I 0)) λi=>bd (aX 1 false e (.I 0) (.I 0)) λj=>nJ a (.bool true) c d j):=gE
theorem nO : nJ a b c d e=aV b (gM a (.bool false) (.I 0) c d e) (some [e]):=gE
theorem vU : gM a b c d e f=bd (aK a) λg=>ib .lss c g (bd (aB 2 true a c) λh=>bd (aBe (.agg [d,e]) h) λi=>c2 (hd i) λj k=>bd (aT f c) λl=>bd (aB 1 false f c) λm=>bd (aD .sub m j) λn=>bd (aD .add n k) λo=>bd (aT f c) λp=>bd (aB 1 false f c) λq=>ib .lss q j (bd (aD .add c (.I 1)) λr=>gM a b r d e f) (ib .gtr o (.I 16) (bd (aD .add c (.I 1)) λs=>gM a b s d e f) (bd (aB 2 true a c) λt=>bd (zJ t c) λu=>iF a b c o (hd u) (.I 0) d e f))) (nJ a b d e f):=gE
theorem vV : iF a b c d e f g h i=bd (aK e) λj=>ib .lss f j (bd (aB 1 false e f) λk=>bd (aK a) λl=>ib .lss k l (bd (aB 1 false e f) λm=>bd (aT i m) λn=>bd (aB 1 false i m) λo=>ib .lss o (.I 0) (aAy a c d e f g h i) (bd (aD .add f (.I 1)) λp=>iF a b c d e p g h i)) (bd (aD .add f (.I 1)) λq=>iF a b c d e q g h i)) (bd (aD .add c (.I 1)) λr=>gM a b r g h i):=gE
theorem aDM : aAy a b c d e f g h=bd (aB 1 false d e) λi=>bd (aT h i) λj=>bd (aX 1 false h i c) λk=>bd (aD .add e (.I 1)) λl=>iF a (.bool true) b c d l f g k:=gE
theorem aMd : aBe a b=w2 a λc d=>w2 b λe f=>ib .eql e (.I 1) (some [(.tup [(.I 0),(.I 1)])]) (ib .eql e (.I 2) (some [(.tup [(.I 0),(.I 1)])]) (ib .eql e (.I 3) (some [(.tup [(.I 0),(.I 1)])]) (ib .eql e (.I 4) (some [(.tup [(.I 0),(.I 1)])]) (ib .eql e (.I 5) (some [(.tup [(.I 0),(.I 1)])]) (ib .eql e (.I 6) (some [(.tup [(.I 0),(.I 1)])]) (ib .eql e (.I 20) (some [(.tup [(.I 0),(.I 1)])]) (ib .eql e (.I 7) (some [(.tup [(.I 1),(.I 0)])]) (ib .eql e (.I 9) (some [(.tup [(.I 1),(.I 0)])]) (ib .eql e (.I 18) (some [(.tup [(.I 1),(.I 0)])]) (ib .eql e (.I 19) (some [(.tup [(.I 1),(.I 0)])]) (ib .eql e (.I 25) (some [(.tup [(.I 1),(.I 0)])]) (ib .eql e (.I 26) (some [(.tup [(.I 1),(.I 0)])]) (ib .eql e (.I 8) (some [(.tup [(.I 1),(.I 2)])]) (ib .eql e (.I 10) (some [(.tup [(.I 2),(.I 2)])]) (ib .eql e (.I 11) (some [(.tup [(.I 2),(.I 1)])]) (ib .eql e (.I 12) (some [(.tup [(.I 2),(.I 1)])]) (ib .eql e (.I 13) (some [(.tup [(.I 2),(.I 1)])]) (ib .eql e (.I 14) (some [(.tup [(.I 2),(.I 1)])]) (ib .eql e (.I 15) (some [(.tup [(.I 2),(.I 1)])]) (ib .eql e (.I 16) (some [(.tup [(.I 1),(.I 1)])]) (ib .eql e (.I 21) (some [(.tup [(.I 1),(.I 1)])]) (ib .eql e (.I 22) (some [(.tup [(.I 2),(.I 0)])]) (ib .eql e (.I 23) (bd (aR f (.I 0) (.I 6)) λg=>aV (hd g) (bd (aD .add f (.I 1)) λh=>some [(.tup [h,(.I 1)])]) (some [(.tup [(.I 0),(.I 0)])])) (ib .eql e (.I 24) (bd (aK d) λi=>bd (aD .sub i (.I 1)) λj=>bd (aR f (.I 0) j) λk=>aV (hd k) (bd (aB 3 true d f) λl=>bd (PV.cell l 0) λm=>some [(.tup [m,(.I 1)])]) (some [(.tup [(.I 0),(.I 0)])])) (some [(.tup [(.I 0),(.I 0)])]))))))))))))))))))))))))):=pE
variable (a b c d e f g h i j k l m n o p q : PV)
theorem aKr : zJ a b=w2 a λc d=>ib .neq c (.I 17) (ib .neq c (.I 25) (aDy b c d (.lst [])) (tG c d (.lst []))) (tG c d (.lst [])):=pE
theorem aGY : aDy a b c d=bd (aD .add a (.I 1)) λe=>bd (aN 1 8 false (.lst []) (.lst [e])) λf=>bd (aN 1 8 false d f) λg=>tG b c g:=gE
theorem aGZ : tG a b c=ib .eql a (.I 17) (tH a b c) (ib .eql a (.I 18) (tH a b c) (ib .eql a (.I 19) (tH a b c) (some [c]))):=gE
theorem aG0 : tH a b c=bd (aN 1 8 false (.lst []) (.lst [b])) λd=>bd (aN 1 8 false c d) λe=>some [e]:=gE
theorem aNd : aGF a b c=w2 a λd e=>w2 c λf g=>bd (aK e) λh=>bd (aD .sub h (.I 1)) λi=>bd (aR b (.I 0) i) λj=>nb (hd j) (some [.bool false]) (ib .eql f (.I 1) (bd (aR g (.I (-1000000000)) (.I 1000000000)) λk=>some [(hd k)]) (ib .eql f (.I 2) (bd (aR g (.I 0) (.I 1)) λl=>some [(hd l)]) (ib .eql f (.I 3) (bd (aK d) λm=>bd (aD .sub m (.I 1)) λn=>bd (aR g (.I 0) n) λo=>some [(hd o)]) (ib .eql f (.I 5) (bd (aK e) λp=>bd (aD .sub p (.I 1)) λq=>bd (aR g (.I 0) q) λr=>some [(hd r)]) (ib .eql f (.I 24) (bd (aK e) λs=>bd (aD .sub s (.I 1)) λt=>bd (aR g (.I 0) t) λu=>some [(hd u)]) (ib .eql f (.I 6) (bd (aB 3 true e b) λv=>bd (PV.cell v 1) λw=>bd (aD .sub w (.I 1)) λx=>bd (aR g (.I 0) x) λy=>some [(hd y)]) (ib .eql f (.I 7) (bd (aB 3 true e b) λz=>bd (PV.cell z 1) λA=>bd (aD .sub A (.I 1)) λB=>bd (aR g (.I 0) B) λC=>some [(hd C)]) (ib .eql f (.I 17) (bd (aB 3 true e b) λD=>bd (PV.cell D 2) λE=>bd (aK E) λF=>bd (aD .sub F (.I 1)) λG=>bd (aR g (.I 0) G) λH=>some [(hd H)]) (ib .eql f (.I 18) (bd (aB 3 true e b) λI=>bd (PV.cell I 2) λJ=>bd (aK J) λK=>bd (aD .sub K (.I 1)) λL=>bd (aR g (.I 0) L) λM=>some [(hd M)]) (ib .eql f (.I 19) (bd (aB 3 true e b) λN=>bd (PV.cell N 2) λO=>bd (aK O) λP=>bd (aD .sub P (.I 1)) λQ=>bd (aR g (.I 0) Q) λR=>some [(hd R)]) (ib .eql f (.I 20) (bd (aR g (.I 0) (.I 6)) λS=>some [(hd S)]) (ib .eql f (.I 21) (bd (aR g (.I 0) (.I 5)) λT=>some [(hd T)]) (ib .eql f (.I 22) (bd (aR g (.I 0) (.I 5)) λU=>some [(hd U)]) (ib .eql f (.I 23) (bd (aR g (.I 0) (.I 6)) λV=>some [(hd V)]) (bd (aR f (.I 1) (.I 26)) λW=>aV (hd W) (bd (aD .eql g (.I 0)) λX=>some [X]) (some [.bool false])))))))))))))))):=pE
theorem aG1 : yK a b c=w2 a λd e=>bd (qW (.agg [d,e]) b) λf=>nb (hd f) (some [(.lst [])]) (bd (vC (.agg [d,e]) c) λg=>nb (hd g) (some [(.lst [])]) (bd (gA b) λh=>aH oS (gd h 0) (bd (aK c) λi=>lW c i (.I 0) d e (gd h 0)))):=sE
theorem vW : lW a b c d e f=ib .lss c b (bd (aB 4 true a c) λg=>w4 g λh i j k=>bd (cN f (.agg [h,i,j,k]) (.fn 47 [])) λl=>aE (hd l) (c2 (hd l) λm n=>aV n (bd (aT f m) λo=>bd (aB 4 true f m) λp=>bd (sS (.agg [d,e]) p (.agg [h,i,j,k])) λq=>bd (aT f m) λr=>bd (aX 4 true f m (hd q)) λs=>bd (aD .add c (.I 1)) λt=>lW a b t d e s) (bd (eY m f (.lst [(.agg [h,i,j,k])])) λu=>bd (aD .add c (.I 1)) λv=>lW a b v d e (gd u 0)))) (bd (aK f) λw=>ib .gtr w (.I 150) (some [(.lst [])]) (some [f])):=gE
theorem fL : cN a b c=w4 b λd e f g=>bd (aK a) λh=>cH a c h (.I 0) h d e f g:=pE
theorem fE : cH a b c d e f g h i=ib .lss d e (bd (aD .add d e) λj=>bd (bR .u64 j) λk=>bd (aD .shr k (.int .u64 1)) λl=>bd (bR .i64 l) λm=>bd (aB 4 true a m) λn=>bd (PV.apply aU b [n,(.agg [f,g,h,i])]) λo=>ib .lss (hd o) (.I 0) (bd (aD .add m (.I 1)) λp=>cH a b c p e f g h i) (cH a b c d m f g h i)) (ib .lss d c (bd (aB 4 true a d) λq=>bd (PV.apply aU b [q,(.agg [f,g,h,i])]) λr=>bd (aD .eql (hd r) (.I 0)) λs=>some [(.tup [d,s])]) (some [(.tup [d,(.bool false)])])):=gE
theorem aJf : sS a b c=w2 a λd e=>w4 b λf g h i=>w4 c λj k l m=>bd (aB 3 true e f) λn=>bd (PV.cell n 2) λo=>bd (aB 2 true o g) λp=>bd (PV.cell p 0) λq=>ib .neq q (.I 23) (bd (aD .or h l) λr=>bd (aS r) λs=>some [(.agg [f,g,s,i])]) (bd (cQ [1,1,1,1] .neq (.agg [f,g,h,i]) (.agg [j,k,l,m])) λt=>aV t (some [(.agg [f,g,(.I 2),(.I 0)])]) (some [(.agg [f,g,h,i])])):=pE
theorem aKs : aCT a b c=w2 a λd e=>w10 c λf g h i j k l m n o=>bd (qW (.agg [d,e]) b) λp=>nb (hd p) (some [(.lst [])]) (bd (aCe (.agg [d,e]) (.agg [f,g,h,i,j,k,l,m,n,o])) λq=>nb (hd q) (some [(.lst [])]) (bd (gA b) λr=>aH oS (gd r 0) (bd (aBL d e f g h i j k l m n o (gd r 0)) λs=>some [(gd s 10)]))):=sE
theorem aH1 : aCe a b=w2 a λc d=>w10 b λe f g h i j k l m n=>bd (xS (.agg [c,d])) λo=>aV (hd o) (bd (aCU (.agg [c,d])) λp=>bd (aNZ (.agg [c,d]) (hd p) (.agg [e,f,g,h,i,j,k,l,m,n])) λq=>some [(hd q)]) (some [.bool false]):=pE
theorem aKt : aCU a=w2 a λb c=>bd (aK c) λd=>pY d (.I 0) b c (.lst []):=pE
theorem aAJ : pY a b c d e=ib .lss b a (bd (aBb (.agg [c,d]) b) λf=>bd (aN 1 24 false (.lst []) (.lst [(hd f)])) λg=>bd (aN 1 24 false e g) λh=>bd (aD .add b (.I 1)) λi=>pY a i c d h) (some [e]):=gE
theorem aH2 : aNZ a b c=w2 a λd e=>w10 c λf g h i j k l m n o=>bd (aBf g) λp=>nb (hd p) (some [.bool false]) (bd (aK g) λq=>bd (dP h q (.I 120)) λr=>nb (hd r) (some [.bool false]) (bd (aK i) λs=>ib .gtr s (.I 200) (some [.bool false]) (bd (dP o (.I 0) (.I 50000)) λt=>nb (hd t) (some [.bool false]) (bd (fT i (.fn 101 [])) λu=>aV (hd u) (some [.bool false]) (bd (vG f g h i j k l m n o (.bool true) d e f g h i j k l m n o) λv=>bd (aK (gd v 3)) λw=>nK b (gd v 3) w (.I 0) (gd v 1) (gd v 2) (gd v 3) (gd v 4) (gd v 5) (gd v 6) (gd v 7) (gd v 8) (gd v 9) (gd v 10) (gd v 11) (gd v 12) (gd v 0)))))):=pE
theorem tK : nK a b c d e f g h i j k l m n o p q=ib .lss d c (bd (aB 4 true b d) λr=>w4 r λs t u v=>aV q (bd (aK u) λw=>bd (aK v) λx=>bd (aK g) λy=>bd (aD .sub y (.I 1)) λz=>bd (aD .eql d z) λA=>bd (zK (.agg [e,f]) a s t w x A) λB=>bd (aS (hd B)) λC=>bd (aD .add d (.I 1)) λD=>nK a b c D e f g h i j k l m n o p C) (bd (aD .add d (.I 1)) λE=>nK a b c E e f g h i j k l m n o p (.bool false))) (bd (aK g) λF=>bd (dP F (.I 1) (.I 24)) λG=>aV (hd G) (bd (cQ [1,1,2] .eql (.agg [m,n,o]) (.agg [(.I 0),(.I 0),(.str (bs []))])) λH=>ib .eql k (.I 0) (aV q (aV H (bd (aD .eql l (.I 0)) λI=>some [I]) (some [.bool false])) (some [.bool false])) (ib .eql k (.I 2) (aV q (aV H (bd (dP l (.I 1) (.I 8)) λJ=>some [(hd J)]) (some [.bool false])) (some [.bool false])) (ib .eql k (.I 1) (aV q (bd (aK g) λK=>ib .eql K (.I 0) (bd (aD .eql l (.I 0)) λL=>some [L]) (some [.bool false])) (some [.bool false])) (some [.bool false])))) (ib .eql k (.I 0) (aV q (some [.bool false]) (some [.bool false])) (ib .eql k (.I 2) (aV q (some [.bool false]) (some [.bool false])) (ib .eql k (.I 1) (aV q (bd (aK g) λM=>ib .eql M (.I 0) (bd (aD .eql l (.I 0)) λN=>some [N]) (some [.bool false])) (some [.bool false])) (some [.bool false]))))):=gE
theorem aEP : aBf a=bd (aK a) λb=>ib .leq b (.I 120) (bd (kG a (.fn 156 [])) λc=>bd (dB (hd c)) λd=>some [d]) (some [.bool false]):=pE
theorem aEQ : aEE a=bd (uL a) λb=>bd (dB (hd b)) λc=>some [c]:=pE
theorem aDB : zK a b c d e f g=w2 a λh i=>bd (aK i) λj=>bd (eB c j) λk=>nb (hd k) (some [.bool false]) (bd (aB 3 true i c) λl=>bd (PV.cell l 1) λm=>ib .neq e m (some [.bool false]) (bd (aB 3 true i c) λn=>bd (PV.cell n 2) λo=>bd (aK o) λp=>bd (eB d p) λq=>nb (hd q) (some [.bool false]) (bd (aB 1 false b c) λr=>bd (aB 1 false r d) λs=>ib .lss s (.I 0) (some [.bool false]) (aV g (bd (aB 1 false b c) λt=>bd (aB 1 false t d) λu=>bd (aD .eql f u) λv=>some [v]) (ib .eql d (.I 0) (some [.bool false]) (bd (aB 1 false b c) λw=>bd (aD .sub d (.I 1)) λx=>bd (aB 1 false w x) λy=>ib .lss y (.I 0) (some [.bool false]) (bd (aB 3 true i c) λz=>bd (PV.cell z 2) λA=>bd (aD .sub d (.I 1)) λB=>bd (aB 2 true A B) λC=>bd (PV.cell C 0) λD=>ib .eql D (.I 23) (bd (aB 1 false b c) λE=>bd (aB 1 false E d) λF=>bd (aD .sub F (.I 1)) λG=>bd (aD .eql f G) λH=>some [H]) (ib .eql D (.I 24) (bd (aB 1 false b c) λI=>bd (aB 1 false I d) λJ=>bd (aD .sub J (.I 1)) λK=>bd (aD .eql f K) λL=>some [L]) (some [.bool false]))))))))):=pE
theorem jL : kG a b=bd (lX a b) λc=>bd (aD .geq (hd c) (.I 0)) λd=>some [d]:=pE
theorem aCj : aBK a=w1 a λb=>bd (aK b) λc=>bd (aD .gtr c (.I 6)) λd=>some [d]:=pE
theorem kH : lX a b=bd (aK a) λc=>cY a b c (.I 0):=pE
theorem eT : cY a b c d=ib .lss d c (bd (aB 1 true a d) λe=>bd (PV.apply aU b [e]) λf=>aV (hd f) (some [d]) (bd (aD .add d (.I 1)) λg=>cY a b c g)) (some [(.I (-1))]):=gE
theorem aO4 : aAb a b=w2 a λc d=>w10 b λe f g h i j k l m n=>bd (aCf (.agg [c,d]) (.agg [e,f,g,h,i,j,k,l,m,n])) λo=>nb (hd o) (some [(.I 0),(.I 0),(.I 0),(.I 0),(.I 0),(.str (bs [])),(.I 0),(.lst []),(.lst []),(.lst [])]) (bd (zL (.agg [c,d]) (.agg [e,f,g,h,i,j,k,l,m,n])) λp=>g10 p (some [(gd p 0),(gd p 1),(gd p 2),(gd p 3),(gd p 4),(gd p 5),(gd p 6),(gd p 7),(gd p 8),(gd p 9)])):=sE
theorem aH3 : aCf a b=w2 a λc d=>w10 b λe f g h i j k l m n=>bd (vF (.agg [c,d])) λo=>aV (hd o) (bd (aHR (.agg [c,d]) (.agg [e,f,g,h,i,j,k,l,m,n])) λp=>some [(hd p)]) (some [.bool false]):=pE
theorem aDC : aHR a b=w2 a λc d=>w10 b λe f g h i j k l m n=>bd (aK f) λo=>ib .gtr o (.I 120) (some [.bool false]) (bd (aR g o (.I 120)) λp=>nb (hd p) (some [.bool false]) (bd (aK h) λq=>ib .gtr q (.I 200) (some [.bool false]) (bd (aR n (.I 0) (.I 50000)) λr=>nb (hd r) (some [.bool false]) (bd (aAx (.agg [c,d]) (.agg [k,l,m]) o) λs=>nb (hd s) (some [.bool false]) (mY o (.I 0) c d e f g h i j k l m n))))):=pE
theorem pP : mY a b c d e f g h i j k l m n=ib .lss b a (bd (aB 1 true f b) λo=>bd (PV.cell o 0) λp=>bd (aK p) λq=>ib .gtr q (.I 6) (some [.bool false]) (bd (aB 1 true f b) λr=>bd (PV.cell r 0) λs=>bd (oZ (.agg [c,d]) s a) λt=>nb (hd t) (some [.bool false]) (bd (aD .add b (.I 1)) λu=>mY a u c d e f g h i j k l m n))) (iJ a (.I 0) c d e f g h i j k l m n):=gE
theorem oL : iJ a b c d e f g h i j k l m n=bd (aK h) λo=>ib .lss b o (bd (aB 1 false h b) λp=>bd (rQ p) λq=>nb (hd q) (some [.bool false]) (bd (aD .add b (.I 1)) λr=>iJ a r c d e f g h i j k l m n)) (ib .eql i (.I 1) (bd (aK e) λs=>ib .eql s (.I 0) (bd (aD .eql j (.I 0)) λt=>some [t]) (some [.bool false])) (ib .neq i (.I 0) (ib .neq i (.I 2) (some [.bool false]) (bd (cQ [1,1,2] .neq (.agg [k,l,m]) (.agg [(.I 0),(.I 0),(.str (bs []))])) λu=>aV u (some [.bool false]) (bd (aK e) λv=>bd (aR v (.I 1) (.I 24)) λw=>nb (hd w) (some [.bool false]) (ib .eql i (.I 0) (ib .neq j (.I 0) (some [.bool false]) (ib .eql i (.I 2) (bd (aR j (.I 1) (.I 8)) λx=>nb (hd x) (some [.bool false]) (cZ a (.I 0) c d e f g h i j k l m n)) (cZ a (.I 0) c d e f g h i j k l m n))) (ib .eql i (.I 2) (bd (aR j (.I 1) (.I 8)) λy=>nb (hd y) (some [.bool false]) (cZ a (.I 0) c d e f g h i j k l m n)) (cZ a (.I 0) c d e f g h i j k l m n)))))) (bd (cQ [1,1,2] .neq (.agg [k,l,m]) (.agg [(.I 0),(.I 0),(.str (bs []))])) λz=>aV z (some [.bool false]) (bd (aK e) λA=>bd (aR A (.I 1) (.I 24)) λB=>nb (hd B) (some [.bool false]) (ib .eql i (.I 0) (ib .neq j (.I 0) (some [.bool false]) (ib .eql i (.I 2) (bd (aR j (.I 1) (.I 8)) λC=>nb (hd C) (some [.bool false]) (cZ a (.I 0) c d e f g h i j k l m n)) (cZ a (.I 0) c d e f g h i j k l m n))) (ib .eql i (.I 2) (bd (aR j (.I 1) (.I 8)) λD=>nb (hd D) (some [.bool false]) (cZ a (.I 0) c d e f g h i j k l m n)) (cZ a (.I 0) c d e f g h i j k l m n))))))):=gE
theorem oM : cZ a b c d e f g h i j k l m n=bd (aK e) λo=>ib .lss b o (bd (aB 4 true e b) λp=>bd (aK e) λq=>bd (aD .sub q (.I 1)) λr=>bd (aD .eql b r) λs=>bd (tI (.agg [c,d]) p a s) λt=>nb (hd t) (some [.bool false]) (bd (aD .add b (.I 1)) λu=>cZ a u c d e f g h i j k l m n)) (some [.bool true]):=gE
theorem aBp : oZ a b c=w2 a λd e=>nL b c (.I 0) d e:=pE
theorem nP : nL a b c d e=bd (aK a) λf=>ib .lss c f (bd (aB 3 true a c) λg=>bd (aAx (.agg [d,e]) g b) λh=>nb (hd h) (some [.bool false]) (bd (aD .add c (.I 1)) λi=>nL a b i d e)) (some [.bool true]):=gE
theorem aAK : tI a b c d=w2 a λe f=>w4 b λg h i j=>bd (aK f) λk=>bd (aD .sub k (.I 1)) λl=>bd (aR g (.I 0) l) λm=>nb (hd m) (some [.bool false]) (bd (aB 3 true f g) λn=>w3 n λo p q=>bd (oY (.agg [e,f]) g) λr=>bd (aK i) λs=>ib .neq s p (some [.bool false]) (bd (aK q) λt=>bd (aD .sub t (.I 1)) λu=>bd (aR h (.I 0) u) λv=>nb (hd v) (some [.bool false]) (bd (aB 1 false (hd r) h) λw=>ib .lss w (.I 0) (some [.bool false]) (bd (oZ (.agg [e,f]) i c) λx=>nb (hd x) (some [.bool false]) (bd (oZ (.agg [e,f]) j c) λy=>nb (hd y) (some [.bool false]) (aV d (bd (aK j) λz=>bd (aB 1 false (hd r) h) λA=>bd (aD .eql z A) λB=>some [B]) (ib .lss h (.I 1) (some [.bool false]) (bd (aD .sub h (.I 1)) λC=>bd (aB 1 false (hd r) C) λD=>ib .lss D (.I 0) (some [.bool false]) (bd (aD .sub h (.I 1)) λE=>bd (aB 2 true q E) λF=>bd (PV.cell F 0) λG=>ib .eql G (.I 23) (bd (aK j) λH=>bd (aB 1 false (hd r) h) λI=>bd (aD .sub I (.I 1)) λJ=>bd (aD .eql H J) λK=>some [K]) (ib .eql G (.I 24) (bd (aK j) λL=>bd (aB 1 false (hd r) h) λM=>bd (aD .sub M (.I 1)) λN=>bd (aD .eql L N) λO=>some [O]) (some [.bool false]))))))))))):=pE
end
end Go.Proofs.YtllmobkkbpdchaaGreatDoor
