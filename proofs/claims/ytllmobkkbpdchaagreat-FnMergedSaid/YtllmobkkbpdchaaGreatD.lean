/-
  Texts of the proof, part 4: a value-level evaluator and its soundness, what the functions compute, laws about it.
  Conditions: none.
-/
import Derived.Test.YtllmobkkbpdchaaGreatC
import Derived.Shelf.Spec.SlicesGrow
import Derived.Shelf.Strconv.Itoa3
import Derived.Shelf.Spec.SlicesInsertGrow
set_option linter.all false
namespace Go.Proofs.YtllmobkkbpdchaaGreat
noncomputable section
open Go
def aEq (P : Program) (mode : Nat→Option Tmpl) (S : Nat→List DV→St→OR) : Prop:=∀ g t args s l,mode g=some t→S g args s=some l→jR P g∧∀ (m : aV) (bD : Array Value),fS m s s.base→args.length=bD.size→
 (∀ (i : Nat) d v,args[i]? = some d→bD[i]? = some v→m.rd d v)→Calls P g bD m.w (λe w'=>∃ v,e = .returned v∧rM m s.boxes.length (if t.keep then s.lists.length else 0) (some (t.fit s)) l v w')
theorem aBz : ∀ (ts : List (Option Own)) (ks : List (Option OTy)) (n : Nat),numO (fitO ts ks) n=numO ts n
 | [],[],_=>rfl
 | [],_::_,_=>rfl
 | some w::r,some o::q,n=>by
   simp only [fitO,numO]
   cases w.c<;>simp only [aBz r q]
 | some w::r,none::q,n=>by
   simp only [fitO,numO]
   cases w.c<;>simp only [aBz r q]
 | none::r,_::q,n=>by simp only [fitO,numO,aBz r q]
 | some _::_,[],_=>rfl
 | none::_,[],_=>rfl
theorem Tmpl.fit_keep {t : Tmpl} {s : St} : (t.fit s).keep=t.keep:=by
 unfold Tmpl.fit Tmpl.fitK
 split
 ·rfl
 ·rfl
theorem Tmpl.fit_wf {t : Tmpl} {s : St} (h : t.wf=true) : (t.fit s).wf=true:=by
 unfold Tmpl.fit Tmpl.fitK
 split
 ·unfold Tmpl.wf at h ⊢
  simp only [aBz]
  exact h
 ·exact h
theorem Tmpl.fit_nil {t : Tmpl} {s : St} (h : s.lists = []) : t.fit s=t:=by
 unfold Tmpl.fit Tmpl.fitK
 split
 ·rw [h]
  show ({ t with lists:=fitO t.lists []} : Tmpl)=t
  have : fitO t.lists []=t.lists:=by
   cases t.lists with
   | nil=>rfl
   | cons a r=>cases a<;>rfl
  rw [this]
 ·rfl
theorem aCt (l : R) : ∀ (bs : List (Option (List DV))),(fillB l bs).length=bs.length
 | []=>rfl
 | some _::r=>by simp [fillB,aCt l r]
 | none::r=>by simp [fillB,aCt l r]
theorem rE (l : R) : ∀ (bs : List (Option Own)),(fillO l bs).length=bs.length
 | []=>rfl
 | some _::r=>by simp [fillO,rE l r]
 | none::r=>by simp [fillO,rE l r]
theorem aAC (l : R) : ∀ {bs : List (Option (List DV))} {i : Nat} {fs : List DV},(fillB l bs)[i]? = some (some fs)→∃ ts,bs[i]? = some (some ts)
 | [],i,fs,h=>by simp [fillB] at h
 | some t::r,i,fs,h=>by
   cases i with
   | zero=>exact ⟨t,rfl⟩
   | succ i=>simpa using aAC l (bs:=r) (i:=i) (by simpa [fillB] using h)
 | none::r,i,fs,h=>by
   cases i with
   | zero=>simp [fillB] at h
   | succ i=>simpa using aAC l (bs:=r) (i:=i) (by simpa [fillB] using h)
theorem rN (l : R) : ∀ {bs : List (Option Own)} {i : Nat} {w : Own},(fillO l bs)[i]? = some (some w)→∃ ts,bs[i]? = some (some ts)
 | [],i,fs,h=>by simp [fillO] at h
 | some t::r,i,fs,h=>by
   cases i with
   | zero=>exact ⟨t,rfl⟩
   | succ i=>simpa using rN l (bs:=r) (i:=i) (by simpa [fillO] using h)
 | none::r,i,fs,h=>by
   cases i with
   | zero=>simp [fillO] at h
   | succ i=>simpa using rN l (bs:=r) (i:=i) (by simpa [fillO] using h)
theorem aC4 {α : Type} : ∀ {l : List (Option α)},allSome l=true→∀ (i : Nat) o,l[i]? = some o→∃ a,o=some a
 | [],_,i,o,h=>by simp at h
 | some a::r,h,i,o,hi=>by
   cases i with
   | zero=>simp at hi;exact ⟨a,hi.symm⟩
   | succ i=>exact aC4 (l:=r) h i o (by simpa using hi)
 | none::r,h,_,_,_=>by simp [allSome] at h
theorem getD_some {α : Type} {l : List (Option α)} {i : Nat} {x : α} (h : l.getD i none=some x) : l[i]? = some (some x):=by
 rw [List.getD] at h
 cases hi : l[i]? with
 | none=>rw [hi] at h;cases h
 | some o=>rw [hi] at h;simp at h;rw [h]
theorem xR {m : aV} {s : St} {a : Seen} {r : Nat} (h : (m.pick a.bs a.ls (s.pick a)).owned r) : aEp m a.bs a.ls r:=by
 rcases h with ⟨i,cs,h,rfl⟩ | ⟨l,o,h,hr⟩ | h
 ·have h : (s.pick a).box i=some cs:=h
  rw [xM] at h
  cases hbi : a.bs[i]? with
  | none=>rw [hbi] at h;cases h
  | some b=>
    refine .inl ⟨b,List.mem_of_getElem? hbi,?_⟩
    show m.ρ.box (a.bs.getD i 0)=_
    rw [dD hbi]
 ·have h : (s.pick a).list l=some o:=h
  rw [uK] at h
  cases hbi : a.ls[l]? with
  | none=>rw [hbi] at h;cases h
  | some l0=>
    refine .inr ⟨l0,List.mem_of_getElem? hbi,?_⟩
    have hr : m.ρ.fp (a.ls.getD l 0) r:=hr
    rw [dD hbi] at hr
    exact hr
 ·exact h.elim
section
variable {P : Program} {X : Cx} {O : Orc}
theorem aC5 (hS : aEq P X.mode O.S) {ft : Foot} {n0 : Nat} {t : Tmpl} {f : Nat} (hm : X.mode f=some t) (hwf : t.wf=true) {args : List DV} {s : St} {k : DV→St→List Nat→OR} {r : R} (h : liveK O ft n0 t f args s k=some r) :
 jR P f∧∃ d' s' kl,k d' s' kl=some r∧s.nl≤s'.nl∧∀ (n : Nat) (m : aV) (B L WB WL : NP),mX m s B L n→s'.nb≤n+16→s'.nl≤n+16→n≤n0→(∀ b∈ft.rb,B b∧WB b)→(∀ l∈ft.rl,L l∧WL l)→(t.keep=true→∀ x,(B x∧WB x)∧(L x∧WL x))→
  ∀ vs : Array Value,args.length=vs.size→(∀ (i : Nat) d v,args[i]? = some d→vs[i]? = some v→m.rd d v)→
    Calls P f vs m.w (λe w'=>∃ v,e = .returned v∧∃ m',m'.w=w'∧bJ m m' s s' B L WB WL n (scrubKeptD t.keep kl)∧m'.rd d' v):=by
 unfold liveK at h
 generalize ha : reach s fuelR args ⟨[],[]⟩=a at h
 simp only at h
 have hkp : (t.fit (s.pick a)).keep=t.keep:=Tmpl.fit_keep
 have hwf : (t.fit (s.pick a)).wf=true:=Tmpl.fit_wf hwf
 have hS':=λl=>hS f t (args.map (ren (idx · a.bs 0) (idx · a.ls 0) deep)) (s.pick a) l hm
 rw [← hkp] at hS' ⊢
 generalize t.fit (s.pick a)=t at h hwf hS' ⊢
 generalize hkd : (if t.keep=true then a.ls else [])=kl at h
 split at h
 rotate_left
 ·cases h
 rename_i hc
 simp only [Bool.and_eq_true,List.all_eq_true,Bool.or_eq_true,Nat.blt_eq] at hc
 obtain ⟨⟨⟨⟨hlen,hsome⟩,hbs⟩,hls⟩,hkl⟩:=hc
 have hkl:=mY hkl
 have hlen:=mY hlen
 obtain ⟨l,hl,hk⟩:=aR h
 obtain ⟨hcb,HS⟩:=hS' l hl
 have nod:=gJ (s:=s) fuelR args ⟨[],[]⟩ List.nodup_nil List.nodup_nil
 have liv:=eN (s:=s) fuelR args ⟨[],[]⟩ (by simp) (by simp)
 rw [ha] at nod liv
 refine ⟨hcb,_,_,_,hk,Nat.le_add_right _ _,λn m B L WB WL sit hnb hnl hn0 hB hL hall vs hvl hrd=>?_⟩
 have hnl : s.nl+(t.lists.length - kl.length)≤n+16:=hnl
 have hks : ∀ l∈kl,l∈a.ls:=λl hl=>by rw [← hkd] at hl;split at hl;exact hl;cases hl
 have hkn : kl.Nodup:=by rw [← hkd];split;exact nod.2.1;exact List.nodup_nil
 have hkk : t.keep=false→kl = []:=λhf=>by rw [← hkd,hf];rfl
 have hlists : (s.pick a).lists.length=a.ls.length:=pJ
 have hnb : s.nb+(t.boxes.length - a.bs.length)≤n+16:=hnb
 have sn1:=sit.nb
 have sn2:=sit.nl
 have lin : ∀ l∈a.ls,l∈ft.rl∨(n≤l∧l<n+16):=λl hl=>by
  rcases hls l hl with h | ⟨h1,h2⟩
  ·exact .inl (pH.1 h)
  ·have:=mY h1;exact .inr (by omega)
 have hb : ∀ b∈a.bs,m.s.box b=s.box b:=λb hb=>sit.ab b (.inl (hB b (pH.1 (hbs b hb))).1)
 have hl' : ∀ l∈a.ls,m.s.list l=s.list l:=λl hl=>sit.al l ((lin l hl).imp (λh=>(hL l h).1) id)
 have pf:=zH (a:=a) sit.inv hb hl' nod.1 nod.2.1
 have hboxes : (s.pick a).boxes.length=a.bs.length:=tP
 refine (HS (m.pick a.bs a.ls (s.pick a)) vs pf (by simpa using hvl) (λi d v hd hv=>?_)).mono ?_
 ·rw [List.getElem?_map] at hd
  cases hdi : args[i]? with
  | none=>rw [hdi] at hd;cases hd
  | some d0=>rw [hdi] at hd;cases hd;exact aEj hl' deep (hrd i d0 v hdi hv)
 ·rintro e w' ⟨v,rfl,c,hw,cinv,fw,d,s0,a0,hread,hdv,hfull,hub,hul⟩
  rw [hboxes,hlists] at fw
  obtain ⟨hless,lenB,lenL,HB,HO⟩:=Tmpl.read_sound hread hwf
  have lenB : t.boxes.length=a0.bs.length:=lenB.trans tP
  have lenL : t.lists.length=a0.ls.length:=lenL.trans pJ
  refine ⟨v,rfl,?_⟩
  generalize hcsB : ((fillB l t.boxes).map λo=>o.map λcs=>cs.map (ren (backFb a.bs s.nb) (backFb kl s.nl) deep))=csB
  have hcsBl : csB.length=t.boxes.length:=by rw [← hcsB,List.length_map,aCt]
  have hab : ∀ b∈a.bs,∃ cs,m.s.box b=some cs:=λb hbm=>by
   rw [hb b hbm]
   exact Option.ne_none_iff_exists'.1 (liv.1 b hbm)
  have hal : ∀ l∈a.ls,∃ o,m.s.list l=some o:=λl hlm=>by
   rw [hl' l hlm]
   exact Option.ne_none_iff_exists'.1 (liv.2 l hlm)
  have freshB : ∀ x,s.nb≤x→x<s.nb+(t.boxes.length - a.bs.length)→¬ m.ρ.ub x:=λx h1 h2=>sit.fb x h1 (by omega)
  have freshL : ∀ x,s.nl≤x→x<s.nl+(t.lists.length - kl.length)→¬ m.ρ.ul x:=λx h1 h2=>sit.fl x h1 (by omega)
  have hout : ∀ b∈a.bs,¬ (s.nb≤b∧b<s.nb+(csB.length - a.bs.length)):=λb hbm hr=>by
   obtain ⟨cs,hcs⟩:=hab b hbm
   rw [hcsBl] at hr
   exact freshB b hr.1 hr.2 (sit.inv.ub b cs hcs)
  have scrL : ∀ x,look x (scrubKept t.keep kl s.boxes)=(s.box x).map (·.map (scrubKeptD t.keep kl)):=λx=>by
   unfold scrubKept scrubKeptD
   cases t.keep with
   | true=>exact zE kl x s.boxes
   | false=>
     rw [if_neg (by simp),if_neg (by simp)]
     exact jJ _
  have boxL : ∀ x,look x (backB a.bs s.nb csB (scrubKept t.keep kl s.boxes))=match dL a.bs s.nb (t.boxes.length - a.bs.length) x with | some i=>csB.getD i none | none=>(s.box x).map (·.map (scrubKeptD t.keep kl)):=λx=>by
   have:=aAB (x:=x) (cs:=csB) (bs:=a.bs) (n:=s.nb) (old:=scrubKept t.keep kl s.boxes) nod.1 (by rw [hcsBl];exact hlen) hout
   rw [hcsBl,scrL] at this
   exact this
  have houtL : ∀ l0∈kl,¬ (s.nl≤l0∧l0<s.nl+((fillO l t.lists).length - kl.length)):=λl0 hlm hr=>by
   obtain ⟨o,ho⟩:=hal l0 (hks l0 hlm)
   rw [rE] at hr
   exact freshL l0 hr.1 hr.2 (sit.inv.ul l0 o ho)
  have listL : ∀ x,look x (backB kl s.nl (fillO l t.lists) (s.killL a.ls).lists)=match dL kl s.nl (t.lists.length - kl.length) x with | some i=>(fillO l t.lists).getD i none | none=>(s.killL a.ls).list x:=λx=>by
   have:=aAB (x:=x) (cs:=fillO l t.lists) (bs:=kl) (n:=s.nl) (old:=(s.killL a.ls).lists) hkn (by rw [rE];exact hkl) houtL
   rw [rE] at this
   exact this
  let S : Sx:={ box:=λx=>match dL a.bs s.nb (t.boxes.length - a.bs.length) x with | some i=>csB.getD i none | none=>(m.s.box x).map (·.map (scrubKeptD t.keep kl))
                list:=λx=>match dL kl s.nl (t.lists.length - kl.length) x with | some i=>(fillO l t.lists).getD i none | none=>if x∈a.ls then none else m.s.list x}
  have hbn : ∀ x,(∃ cs,m.s.box x=some cs)→¬ (s.nb≤x∧x<s.nb+(t.boxes.length - a.bs.length)):=λx ⟨cs,hcs⟩ hr=>freshB x hr.1 hr.2 (sit.inv.ub x cs hcs)
  have cb_fb : ∀ b b',b<t.boxes.length→backFb a.bs s.nb b=some b'→dL a.bs s.nb (t.boxes.length - a.bs.length) b'=some b∧(m.ρ.ub b'∨(s.nb≤b'∧b'<s.nb+(t.boxes.length - a.bs.length))):=by
   intro b b' hlt hbb
   unfold backFb at hbb
   split at hbb
   ·rename_i x hx
    cases hbb
    obtain ⟨cs,hcs⟩:=hab b' (List.mem_of_getElem? hx)
    refine ⟨?_,.inl (sit.inv.ub b' cs hcs)⟩
    unfold dL
    rw [aGV (n:=0) nod.1 hx,Nat.zero_add]
   ·rename_i hx
    cases hbb
    have hge : a.bs.length≤b:=by
     rcases Nat.lt_or_ge b a.bs.length with h | h
     ·rw [List.getElem?_eq_getElem h] at hx;cases hx
     ·exact h
    have hnot : s.nb+(b - a.bs.length)∉a.bs:=λhm'=>hbn _ (hab _ hm') ⟨by omega,by omega⟩
    refine ⟨?_,.inr ⟨by omega,by omega⟩⟩
    unfold dL
    rw [aBx hnot]
    simp only
    rw [if_pos ⟨by omega,by omega⟩]
    congr 1
    omega
  have cl_fl : ∀ b b',b<t.lists.length→backFb kl s.nl b=some b'→dL kl s.nl (t.lists.length - kl.length) b'=some b∧(m.ρ.ul b'∨(s.nl≤b'∧b'<s.nl+(t.lists.length - kl.length))):=by
   intro b b' hlt hbb
   unfold backFb at hbb
   split at hbb
   ·rename_i x hx
    cases hbb
    obtain ⟨o,ho⟩:=hal b' (hks b' (List.mem_of_getElem? hx))
    refine ⟨?_,.inl (sit.inv.ul b' o ho)⟩
    unfold dL
    rw [aGV (n:=0) hkn hx,Nat.zero_add]
   ·rename_i hx
    cases hbb
    have hge : kl.length≤b:=by
     rcases Nat.lt_or_ge b kl.length with h | h
     ·rw [List.getElem?_eq_getElem h] at hx;cases hx
     ·exact h
    have hnot : s.nl+(b - kl.length)∉kl:=λhm'=>by
     obtain ⟨o,ho⟩:=hal _ (hks _ hm')
     exact freshL _ (by omega) (by omega) (sit.inv.ul _ o ho)
    refine ⟨?_,.inr ⟨by omega,by omega⟩⟩
    unfold dL
    rw [aBx hnot]
    simp only
    rw [if_pos ⟨by omega,by omega⟩]
    congr 1
    omega
  have ren_ok : ∀ {d : DV} {v : Value},c.rd d v→(m.back c a.bs kl s.nb (t.boxes.length - a.bs.length) s.nl (t.lists.length - kl.length) S).rd (ren (backFb a.bs s.nb) (backFb kl s.nl) deep d) v:=by
   intro d v hd
   refine cO.renum (λb b' hu hbb=>?_) (λl0 l' hu hll=>?_) deep hd
   ·obtain ⟨h1,h2⟩:=cb_fb b b' (by rw [lenB];exact hub b hu) hbb
    refine ⟨h2,?_⟩
    show (match dL a.bs s.nb (t.boxes.length - a.bs.length) b' with | some i=>c.ρ.box i | none=>m.ρ.box b')=_
    rw [h1]
   ·have hlt:=hul l0 hu
    rw [← lenL] at hlt
    obtain ⟨hcl,hcu⟩:=cl_fl l0 l' hlt hll
    refine ⟨hcu,λhv=>⟨?_,?_,?_,?_⟩⟩
    ·have hv : (match dL kl s.nl (t.lists.length - kl.length) l' with | some i=>(fillO l t.lists).getD i none | none=>if l'∈a.ls then none else m.s.list l')≠none:=hv
     rw [hcl] at hv
     obtain ⟨w1,hw1⟩:=Option.ne_none_iff_exists'.1 hv
     have hg:=getD_some hw1
     obtain ⟨ts,hts⟩:=rN l hg
     obtain ⟨x,w2,g1,_⟩:=HO l0 ts hts
     have g1 : (s0.pick a0).list l0=some w2:=by
      have:=lX (n:=0) g1
      rw [Nat.zero_add] at this
      exact this
     rw [← hfull.list l0] at g1
     exact aV.live_of g1
    ·show (match dL kl s.nl (t.lists.length - kl.length) l' with | some i=>c.ρ.hdr i | none=>_)=_
     rw [hcl]
    ·show (match dL kl s.nl (t.lists.length - kl.length) l' with | some i=>c.ρ.ty i | none=>_)=_
     rw [hcl]
    ·show (match dL kl s.nl (t.lists.length - kl.length) l' with | some i=>c.ρ.fp i | none=>_)=_
     rw [hcl]
  have came : sJ m c t.keep a.bs a.ls kl s.nb (t.boxes.length - a.bs.length) s.nl (t.lists.length - kl.length) S:={
   kk:=hkk
   kn:=hkn
   ks:=hks
   row:=λi l0 hi hlv=>by
    have hkt : t.keep=true:=by
     cases hk2 : t.keep with
     | true=>rfl
     | false=>rw [hkk hk2] at hi;simp at hi
    have hkl2 : kl=a.ls:=by rw [← hkd,hkt];rfl
    rw [hkl2] at hi
    obtain ⟨o,ho⟩:=hal l0 (List.mem_of_getElem? hi)
    have hlt : i<a.ls.length:=(List.getElem?_eq_some_iff.1 hi).1
    rw [hkt] at fw
    have hu : (m.pick a.bs a.ls (s.pick a)).ρ.ul i:=⟨hlt,by rw [dD hi];exact sit.inv.ul l0 o ho⟩
    obtain ⟨_,q⟩:=fw.row i (by simpa using hlt) hu
    obtain ⟨_,q1,q2⟩:=q hlv
    rw [q1,q2]
    show m.ρ.hdr (a.ls.getD i 0)=_∧m.ρ.ty (a.ls.getD i 0)=_
    rw [dD hi]
    exact ⟨rfl,rfl⟩
   inv:=sit.inv
   cinv:=cinv
   nb:=nod.1
   ab:=hab
   al:=hal
   size:=fw.size
   os:=fw.os
   tape:=fw.tape
   output:=fw.output
   keep:=λr hr hn=>fw.keep r hr (λho=>hn (xR ho))
   own:=λr hr=>(fw.own r hr).imp (λh=>xR h) id
   z:=λr hr=>(fw.z r hr).imp id (λh=>h.imp (λh=>xR h) id)
   zz:=fw.zz
   box:=λi b hbi=>by
    obtain ⟨cs,hcs⟩:=hab b (List.mem_of_getElem? hbi)
    have:=fw.box i (List.getElem?_eq_some_iff.1 hbi).1 (cs.map (ren (idx · a.bs 0) (idx · a.ls 0) deep)) (by
     show (s.pick a).box i=_
     rw [xM,hbi,Option.bind_some,← hb b (List.mem_of_getElem? hbi),hcs];rfl)
    rw [this.1]
    show m.ρ.box (a.bs.getD i 0)=_
    rw [dD hbi]
   freshB:=freshB
   freshL:=freshL
   sb:=λx cs hx=>by
    have hx : (match dL a.bs s.nb (t.boxes.length - a.bs.length) x with | some i=>csB.getD i none | none=>(m.s.box x).map (·.map (scrubKeptD t.keep kl)))=some cs:=hx
    cases hcb : dL a.bs s.nb (t.boxes.length - a.bs.length) x with
    | none=>
      rw [hcb] at hx
      simp only at hx
      cases hmx : m.s.box x with
      | none=>rw [hmx] at hx;cases hx
      | some cs0=>rw [hmx] at hx;cases hx;exact .inr ⟨rfl,cs0,rfl,rfl⟩
    | some i=>
      rw [hcb] at hx
      have hg:=getD_some hx
      rw [← hcsB,List.getElem?_map] at hg
      cases hfi : (fillB l t.boxes)[i]? with
      | none=>rw [hfi] at hg;cases hg
      | some o=>
        rw [hfi] at hg
        simp only [Option.map_some,Option.some.injEq] at hg
        cases o with
        | none=>cases hg
        | some fs=>
          simp only [Option.map_some,Option.some.injEq] at hg
          obtain ⟨ts,hts⟩:=aAC l hfi
          obtain ⟨g1,x',cs0,g2,g3⟩:=HB i ts hts
          rw [hfi] at g1
          cases g1
          have g2 : (s0.pick a0).box i=some cs0:=by
           have:=aAn (n:=0) g2
           rw [Nat.zero_add] at this
           exact this
          rw [← hfull.box i] at g2
          refine .inl ⟨i,cs0,rfl,g2,by rw [← hg,List.length_map];exact g3.1,λj d0 d1 v0 h1 h2 h3=>?_⟩
          rw [← hg,List.getElem?_map] at h2
          cases hj : (fillDs l ts)[j]? with
          | none=>rw [hj] at h2;cases h2
          | some d2=>
            rw [hj] at h2
            cases h2
            exact ren_ok (g3.2 j d0 d2 h1 hj c v0 h3)
   sbx:=λx hx=>by
    show ∃ cs,(match dL a.bs s.nb (t.boxes.length - a.bs.length) x with | some i=>csB.getD i none | none=>(m.s.box x).map (·.map (scrubKeptD t.keep kl)))=some cs
    rcases eA a.bs s.nb (t.boxes.length - a.bs.length) x with ⟨i,h1,h2⟩ | ⟨i,h1,h2,h3,h4⟩ | ⟨h1,_⟩
    ·rw [h1]
     have hlt : i<a.bs.length:=(List.getElem?_eq_some_iff.1 h2).1
     have hti : (t.boxes.take a.bs.length)[i]? = some (t.boxes[i]'(by omega)):=by rw [List.getElem?_take,if_pos hlt,List.getElem?_eq_getElem]
     obtain ⟨ts,hts⟩:=aC4 hsome i _ hti
     obtain ⟨g1,_⟩:=HB i ts (by rw [List.getElem?_eq_getElem (by omega),hts])
     refine ⟨(fillDs l ts).map (ren (backFb a.bs s.nb) (backFb kl s.nl) deep),?_⟩
     simp only
     rw [List.getD,← hcsB,List.getElem?_map,g1]
     rfl
    ·exact absurd ⟨by omega,by omega⟩ (hbn x hx)
    ·rw [h1]
     obtain ⟨cs,hcs⟩:=hx
     exact ⟨_,by simp only [hcs,Option.map_some];rfl⟩
   sl:=λx o hx=>by
    have hx : (match dL kl s.nl (t.lists.length - kl.length) x with | some i=>(fillO l t.lists).getD i none | none=>if x∈a.ls then none else m.s.list x)=some o:=hx
    cases hcl : dL kl s.nl (t.lists.length - kl.length) x with
    | none=>
      rw [hcl] at hx
      simp only at hx
      split at hx
      ·cases hx
      ·rename_i hn;exact .inr ⟨rfl,hn,hx⟩
    | some i=>
      rw [hcl] at hx
      have hg:=getD_some hx
      obtain ⟨ts,hts⟩:=rN l hg
      obtain ⟨x',w2,g1,g2,_⟩:=HO i ts hts
      rw [hg] at g2
      cases g2
      have g1 : (s0.pick a0).list i=some o:=by
       have:=lX (n:=0) g1
       rw [Nat.zero_add] at this
       exact this
      rw [← hfull.list i] at g1
      exact .inl ⟨i,rfl,g1⟩}
  have wbs : ∀ b∈a.bs,B b∧WB b:=λb hbm=>hB b (pH.1 (hbs b hbm))
  refine ⟨m.back c a.bs kl s.nb (t.boxes.length - a.bs.length) s.nl (t.lists.length - kl.length) S,hw,?_,ren_ok (hless c v hdv)⟩
  refine {
   step:=came.step sn1 hnb sn2 hnl
   after:=⟨λx hx=>?_,λx hx=>?_,λx h1 h2=>?_,λx h1 h2=>?_,λx h1 h2=>?_,λx h1 h2=>?_⟩
   nb:=Nat.le_add_right _ _
   nl:=Nat.le_add_right _ _
   ub:=λx hx hu=>hu.elim id (λh=>by have hx : s.nb+(t.boxes.length - a.bs.length)≤x:=hx;omega)
   ul:=λx hx hu=>hu.elim id (λh=>by have hx : s.nl+(t.lists.length - kl.length)≤x:=hx;omega)}
  ·show (match dL a.bs s.nb (t.boxes.length - a.bs.length) x with | some i=>csB.getD i none | none=>(m.s.box x).map (·.map (scrubKeptD t.keep kl)))=look x (backB a.bs s.nb _ (scrubKept t.keep kl s.boxes))
   rw [boxL x]
   cases dL a.bs s.nb (t.boxes.length - a.bs.length) x with
   | some i=>rfl
   | none=>simp only;rw [sit.ab x hx]
  ·show (match dL kl s.nl (t.lists.length - kl.length) x with | some i=>(fillO l t.lists).getD i none | none=>if x∈a.ls then none else m.s.list x)=look x (backB kl s.nl (fillO l t.lists) (s.killL a.ls).lists)
   rw [listL x]
   cases dL kl s.nl (t.lists.length - kl.length) x with
   | some i=>rfl
   | none=>
     simp only
     rw [dZ,sit.al x hx]
  ·by_cases hkt : t.keep=true
   ·exact absurd ((hall hkt x).1.1) h1
   ·have hkt : t.keep=false:=by simpa using hkt
    show (match dL a.bs s.nb (t.boxes.length - a.bs.length) x with | some i=>csB.getD i none | none=>(m.s.box x).map (λcs : List DV=>cs.map (scrubKeptD t.keep kl)))=_
    rcases eA a.bs s.nb (t.boxes.length - a.bs.length) x with ⟨i,g1,g2⟩ | ⟨i,g1,g2,g3,g4⟩ | ⟨g1,_⟩
    ·exact absurd (wbs x (List.mem_of_getElem? g2)).1 h1
    ·exact absurd ⟨by omega,by omega⟩ h2
    ·rw [g1,hkt]
     exact (jJ _).symm
  ·by_cases hkt : t.keep=true
   ·exact absurd ((hall hkt x).2.1) h1
   ·have hkt : t.keep=false:=by simpa using hkt
    show (match dL kl s.nl (t.lists.length - kl.length) x with | some i=>(fillO l t.lists).getD i none | none=>if x∈a.ls then none else m.s.list x)=_
    rw [hkk hkt]
    rcases eA [] s.nl (t.lists.length - ([] : List Nat).length) x with ⟨i,g1,g2⟩ | ⟨i,g1,g2,g3,_⟩ | ⟨g1,_⟩
    ·simp at g2
    ·exact absurd ⟨by omega,by rw [hkk hkt] at hnl;omega⟩ h2
    ·rw [g1]
     simp only
     rw [if_neg]
     intro hxm
     rcases lin x hxm with h | h
     ·exact h1 (hL x h).1
     ·exact h2 h
  ·by_cases hkt : t.keep=true
   ·exact absurd ((hall hkt x).1.2) h1
   ·have hkt : t.keep=false:=by simpa using hkt
    show look x (backB a.bs s.nb _ (scrubKept t.keep kl s.boxes))=_
    rw [boxL x]
    rcases eA a.bs s.nb (t.boxes.length - a.bs.length) x with ⟨i,g1,g2⟩ | ⟨i,g1,g2,g3,g4⟩ | ⟨g1,_⟩
    ·exact absurd (wbs x (List.mem_of_getElem? g2)).2 h1
    ·exact absurd ⟨by omega,by omega⟩ h2
    ·rw [g1,hkt]
     exact (jJ _).symm
  ·by_cases hkt : t.keep=true
   ·exact absurd ((hall hkt x).2.2) h1
   ·have hkt : t.keep=false:=by simpa using hkt
    show look x (backB kl s.nl (fillO l t.lists) (s.killL a.ls).lists)=_
    rw [listL x,hkk hkt]
    rcases eA [] s.nl (t.lists.length - ([] : List Nat).length) x with ⟨i,g1,g2⟩ | ⟨i,g1,g2,g3,_⟩ | ⟨g1,_⟩
    ·simp at g2
    ·exact absurd ⟨by omega,by rw [hkk hkt] at hnl;omega⟩ h2
    ·rw [g1]
     simp only
     rw [dZ,if_neg]
     intro hxm
     rcases lin x hxm with h | h
     ·exact h1 (hL x h).2
     ·exact h2 h
end
theorem aEr : ∀ {cs : R} {cts : List OTy},PV.flatCs cts cs=true→∀ (j : Nat) c,cs[j]? = some c→PV.flatO (cts.getD j .leaf) c=true∨c.flat=true
 | [],_,_,j,c,h=>by simp at h
 | x::r,cts,h,j,c,hj=>by
   have tail : ∀ {b : Bool},(b&&PV.flatCs cts.tail r)=true→j≠0→PV.flatO (cts.getD j .leaf) c=true∨c.flat=true:=by
    intro b hb hj0
    simp only [Bool.and_eq_true] at hb
    obtain ⟨q,rfl⟩ : ∃ q,j=q+1:=⟨j - 1,by omega⟩
    have:=aEr hb.2 q c (by simpa using hj)
    cases cts with
    | nil=>simpa [List.getD] using this
    | cons o os=>simpa [List.getD] using this
   by_cases hj0 : j=0
   ·subst hj0
    simp at hj
    subst hj
    cases x with
    | lst xs=>
      unfold PV.flatCs at h
      simp only [Bool.and_eq_true] at h
      cases cts with
      | nil=>simp at h
      | cons o os=>
        cases o with
        | leaf=>simp at h
        | own s e g cts'=>exact .inl (by simpa [List.getD,PV.flatO] using h.1)
    | _=>unfold PV.flatCs at h;simp only [Bool.and_eq_true] at h;exact .inr h.1
   ·cases x<;>(unfold PV.flatCs at h;exact tail h hj0)
theorem aEs : ∀ {xs : R} {g : Bool} {cts : List OTy},PV.flatEs g cts xs=true→∀ (i : Nat) x,xs[i]? = some x→PV.flatE g cts x=true
 | [],_,_,_,i,x,h=>by simp at h
 | y::r,g,cts,h,i,x,hi=>by
   unfold PV.flatEs at h
   simp only [Bool.and_eq_true] at h
   cases i with
   | zero=>simp at hi;subst hi;exact h.1
   | succ i=>exact aEs h.2 i x (by simpa using hi)
theorem cA.flat {w : World} {Z Z' : NP} {o : OTy} {x : PV} {v : Value} {F : NP} (h : cA w Z o x v F) (hf : PV.flatO o x=true∨x.flat=true) (hn : ∀ r,F r→¬ Z' r) : cA w Z' o x v F:=by
 induction h with
 | leaf x v F h hF=>
   rcases hf with hf | hf
   ·simp [PV.flatO] at hf
   ·exact .leaf x v F (h.flat hf) hF
 | hole s e g cts v F h hF=>exact .hole s e g cts v F h hF
 | nil s e g cts F a hF=>exact .nil s e g cts F a hF
 | own s e g cts xs b o cap cells ety cv fp F hh hs ho hl hz he hc hv hr hF hb hd ih=>
   have hf : PV.flatEs g cts xs=true:=by
    rcases hf with hf | hf
    ·simpa [PV.flatO] using hf
    ·simp [PV.flat] at hf
   refine .own s e g cts xs b o cap cells ety cv fp F hh hs ho hl (hn b ((hF b).2 (.inl rfl))) he hc hv (λi j x hx hj=>?_) hF hb hd
   have hi : i<xs.length:=(List.getElem?_eq_some_iff.1 hx).1
   refine ih i j x hx hj ?_ (λr hr=>hn r ((hF r).2 (.inr ⟨i,j,hi,hj,hr⟩)))
   have hfe:=aEs hf i x hx
   have hel:=he i x hx
   cases g with
   | true=>
     obtain ⟨cs,rfl,hlen⟩:=xE hel
     rw [fD]
     unfold PV.flatE at hfe
     simp only [Bool.true_and] at hfe
     have hj' : cs[j]? = some (cs[j]'(by omega)):=List.getElem?_eq_getElem (by omega)
     have hg : cs.getD j .hole=cs[j]'(by omega):=by rw [List.getD,hj'];rfl
     rw [hg]
     exact aEr hfe j _ hj'
   | false=>
     have hs1:=aBh hel
     have hj0 : j=0:=by omega
     subst hj0
     show PV.flatO (cts.getD 0 .leaf) x=true∨x.flat=true
     cases x with
     | lst ys=>
       unfold PV.flatE at hfe
       cases cts with
       | nil=>simp at hfe
       | cons o os=>
         cases o with
         | leaf=>simp at hfe
         | own s' e' g' cts'=>exact .inl (by simpa [List.getD,PV.flatO] using hfe)
     | agg cs=>unfold PV.flatE at hfe;simp at hfe
     | _=>unfold PV.flatE at hfe;simp only [Bool.not_false,Bool.true_and] at hfe;exact .inr hfe
inductive wE (l : R) : DV→Prop
 | p (k : IntKind) (i : Int) : (gd l i.toNat).flat=true→wE l (.p (.int k i))
 | ref (n : Nat) (path : dH) : wE l (.ref n path)
 | agg (cs : List DV) : (∀ c∈cs,wE l c)→wE l (.agg cs)
 | tup (cs : List DV) : (∀ c∈cs,wE l c)→wE l (.tup cs)
theorem nQ {l : R} : ∀ {cs : List DV} {k : OR} {r : R},guardCells l cs k=some r→(∀ c∈cs,wE l c)∧k=some r
 | [],k,r,h=>⟨by simp,h⟩
 | .p (.int kk i)::cs,k,r,h=>by
  unfold guardCells at h
  obtain ⟨hf,h'⟩:=xQ h
  obtain ⟨h1,h2⟩:=nQ h'
  refine ⟨λc hc=>?_,h2⟩
  rcases List.mem_cons.1 hc with rfl | hc
  ·exact .p _ _ hf
  ·exact h1 c hc
 | .ref n path::cs,k,r,h=>by
  unfold guardCells at h
  obtain ⟨h1,h2⟩:=nQ h
  refine ⟨λc hc=>?_,h2⟩
  rcases List.mem_cons.1 hc with rfl | hc
  ·exact .ref _ _
  ·exact h1 c hc
 | .p (.bool _)::_,_,_,h=>by simp [guardCells] at h
 | .p (.str _)::_,_,_,h=>by simp [guardCells] at h
 | .p .nil::_,_,_,h=>by simp [guardCells] at h
 | .p .nilf::_,_,_,h=>by simp [guardCells] at h
 | .p (.agg _)::_,_,_,h=>by simp [guardCells] at h
 | .p (.lst _)::_,_,_,h=>by simp [guardCells] at h
 | .p (.bx _)::_,_,_,h=>by simp [guardCells] at h
 | .p (.fn _ _)::_,_,_,h=>by simp [guardCells] at h
 | .p (.tup _)::_,_,_,h=>by simp [guardCells] at h
 | .p .hole::_,_,_,h=>by simp [guardCells] at h
 | .nils::_,_,_,h=>by simp [guardCells] at h
 | .agg _::_,_,_,h=>by simp [guardCells] at h
 | .tup _::_,_,_,h=>by simp [guardCells] at h
 | .fn _ _::_,_,_,h=>by simp [guardCells] at h
 | .ptr _ _::_,_,_,h=>by simp [guardCells] at h
 | .sref _ _ _ _::_,_,_,h=>by simp [guardCells] at h
 | .eptr _ _ _ _::_,_,_,h=>by simp [guardCells] at h
 | .fptr _ _ _ _::_,_,_,h=>by simp [guardCells] at h
 | .bptr _ _::_,_,_,h=>by simp [guardCells] at h
 | .gptr _ _ _ _::_,_,_,h=>by simp [guardCells] at h
 | .nilq _ _::_,_,_,h=>by simp [guardCells] at h
 | .bsl _ _::_,_,_,h=>by simp [guardCells] at h
 | .dead::_,_,_,h=>by simp [guardCells] at h
theorem pK {l : R} : ∀ {cs : List DV} {k : OR} {r : R},guardAggs l cs k=some r→(∀ c∈cs,wE l c)∧k=some r
 | [],k,r,h=>⟨by simp,h⟩
 | d::cs,k,r,h=>by
   have one : ∀ {d : DV},guardCells l [d] (guardAggs l cs k)=some r→(∀ c∈d::cs,wE l c)∧k=some r:=by
    intro d h
    obtain ⟨h1,h2⟩:=nQ h
    obtain ⟨h3,h4⟩:=pK h2
    refine ⟨λc hc=>?_,h4⟩
    rcases List.mem_cons.1 hc with rfl | hc
    ·exact h1 _ List.mem_cons_self
    ·exact h3 c hc
   cases d with
   | agg ds=>
     unfold guardAggs at h
     obtain ⟨h1,h2⟩:=nQ h
     obtain ⟨h3,h4⟩:=pK h2
     refine ⟨λc hc=>?_,h4⟩
     rcases List.mem_cons.1 hc with rfl | hc
     ·exact .agg _ h1
     ·exact h3 c hc
   | _=>exact one (by simpa only [guardAggs] using h)
theorem aGW {l : R} {d : DV} {k : OR} {r : R} (h : guardRes l d k=some r) : wE l d∧k=some r:=by
 unfold guardRes at h
 split at h
 ·obtain ⟨h1,h2⟩:=pK h
  exact ⟨.tup _ h1,h2⟩
 ·obtain ⟨h1,h2⟩:=pK h
  exact ⟨h1 _ List.mem_cons_self,h2⟩
theorem aAo {l : R} : ∀ {cs : List (Option Own)} {k : OR} {r : R},guardRows l cs k=some r→(∀ (i : Nat) w kk j,cs[i]? = some (some w)→w.c = .int kk j→PV.flatO w.o (gd l j.toNat)=true)∧k=some r
 | [],k,r,h=>⟨λi w kk j hi=>by simp at hi,h⟩
 | none::_,_,_,h=>by simp [guardRows] at h
 | some w::cs,k,r,h=>by
   unfold guardRows at h
   split at h
   ·rename_i kk j hc
    unfold PV.guardOwn at h
    split at h
    ·rename_i hf
     obtain ⟨h1,h2⟩:=aAo h
     refine ⟨λi w' kk' j' hi hc'=>?_,h2⟩
     cases i with
     | zero=>
       simp at hi
       subst hi
       rw [hc] at hc'
       cases hc'
       exact hf
     | succ i=>exact h1 i w' kk' j' (by simpa using hi) hc'
    ·cases h
   ·cases h
mutual
theorem aAD (l : R) : ∀ (ds : List DV),fillDs l ds=ds.map (fillD l)
 | []=>rfl
 | d::r=>by simp only [fillDs,List.map_cons,aAD l r]
end
theorem wE.rd {l : R} {w : World} {Z Z' : NP} {ρ : Loc} {live live' : NP} (hl : ∀ x,live' x→live x) {d : DV} (hf : wE l d) : ∀ {v : Value},cO w Z ρ live (fillD l d) v→cO w Z' ρ live' (fillD l d) v:=by
 induction hf with
 | p k i hfl=>
   intro v h
   simp only [fillD] at h ⊢
   cases h with
   | p _ _ h=>exact .p _ _ (h.flat hfl)
 | ref n path=>
   intro v h
   simp only [fillD] at h ⊢
   cases h with
   | ref _ _ _ h1 h2 h3=>exact .ref _ _ _ h1 h2 (λhv=>h3 (hl _ hv))
 | agg cs _ ih=>
   intro v h
   simp only [fillD,aAD] at h ⊢
   cases h with
   | agg _ vs h1 h2 h3=>
     refine .agg _ vs h1 h2 (λi d v hd hv=>?_)
     rw [List.getElem?_map] at hd
     cases hc : cs[i]? with
     | none=>rw [hc] at hd;cases hd
     | some c=>
       rw [hc] at hd
       cases hd
       exact ih c (List.mem_of_getElem? hc) (h3 i _ v (by rw [List.getElem?_map,hc];rfl) hv)
 | tup cs _ ih=>
   intro v h
   simp only [fillD,aAD] at h ⊢
   cases h with
   | tup _ vs h1 h3=>
     refine .tup _ vs h1 (λi d v hd hv=>?_)
     rw [List.getElem?_map] at hd
     cases hc : cs[i]? with
     | none=>rw [hc] at hd;cases hd
     | some c=>
       rw [hc] at hd
       cases hd
       exact ih c (List.mem_of_getElem? hc) (h3 i _ v (by rw [List.getElem?_map,hc];rfl) hv)
section
variable {P : Program} {X : Cx} {O : Orc}
theorem lentK_sound (hS : aEq P X.mode O.S) {t : Tmpl} {f : Nat} (hm : X.mode f=some t) (hwf : t.wf=true) {args : List DV} {s : St} {k : DV→St→OR} {r : R} (h : lentK O t f args s k=some r) :
 jR P f∧∃ d' s',k d' s'=some r∧∀ (n : Nat) (m : aV) (B L WB WL : NP),mX m s B L n→s'.nb≤n+16→s'.nl≤n+16→aDI m s args→
  ∀ vs : Array Value,args.length=vs.size→(∀ (i : Nat) d v,args[i]? = some d→vs[i]? = some v→m.rd d v)→
    Calls P f vs m.w (λe w'=>∃ v,e = .returned v∧∃ m',m'.w=w'∧bJ m m' s s' B L WB WL n id∧m'.rd d' v):=by
 unfold lentK at h
 obtain ⟨ps,h1,hpl,H⟩:=sT h
 obtain ⟨l,hl,h2⟩:=aR h1
 obtain ⟨hflat,h3⟩:=aGW h2
 obtain ⟨hrows,hk⟩:=aAo h3
 obtain ⟨hcb,HS⟩:=hS f t _ _ l hm hl
 rw [Tmpl.fit_nil rfl] at HS
 refine ⟨hcb,_,_,hk,λn m B L WB WL sit hnb hnl hM vs hvl hrd=>?_⟩
 have hnl : s.nl+t.lists.length≤n+16:=hnl
 have sn1:=sit.nb
 have sn2:=sit.nl
 let m0 : aV:={ w:=m.w,Z:=λx=>m.Z x∨m.owned x,s:={ box:=λ_=>none,list:=λ_=>none},L:=λ_=>False,
                ρ:={ box:=λ_=>0,hdr:=λ_=>.nilFunc,fp:=λ_ _=>False,ty:=λ_=>.leaf,ub:=λ_=>False,ul:=λ_=>False}}
 have full0 : fS m0 ⟨[],[],0,0,0⟩ 0:={
  inv:={
   ub:=λ_ _ h=>by cases h
   ul:=λ_ _ h=>by cases h
   zlt:=sit.inv.zlt.next (λ_ h=>.inl h) (λ_ _=>rfl) λr hr=>hr.elim (sit.inv.zlt r) (λh=>sit.inv.owned_lt h)
   box:=λ_ _ h=>by cases h
   row:=λ_ _ h=>by cases h
   bz:=λ_ _ h=>by cases h
   bb:=λ_ _ _ _ h=>by cases h
   bl:=λ_ _ _ _ h=>by cases h
   ll:=λ_ _ _ _ _ h=>by cases h
   Lz:=λ_ h=>h.elim
   Lb:=λ_ _ _ h=>h
   Ll:=λ_ _ _ _ _ h=>h}
  box:=λ_=>rfl
  list:=λ_=>rfl
  ub:=λ_ h=>h.elim
  ul:=λ_ h=>h.elim}
 have own0 : ∀ r,¬ m0.owned r:=by
  rintro r (⟨_,_,h,_⟩ | ⟨_,_,h,_⟩ | h)
  ·cases h
  ·cases h
  ·exact h
 have hreps:=H m (λx=>m.Z x∨m.owned x) sit.inv hM (.inl λr hr=>.inr hr) (λr hr=>.inl hr) vs hvl hrd
 refine (HS m0 vs full0 (by rw [List.length_map];omega) (λi d v hd hv=>?_)).mono ?_
 ·rw [List.getElem?_map] at hd
  cases hp : ps[i]? with
  | none=>rw [hp] at hd;cases hd
  | some p=>rw [hp] at hd;cases hd;exact .p _ _ (hreps i p v hp hv)
 ·rintro e w' ⟨v,rfl,c,hw,cinv,fw,d,s0,a0,hread,hdv,hfull,hub,hul⟩
  obtain ⟨hless,lenB,lenL,HB,HO⟩:=Tmpl.read_sound hread hwf
  have lenL : t.lists.length=a0.ls.length:=lenL.trans pJ
  refine ⟨v,rfl,?_⟩
  have rowC : ∀ i w,c.s.list i=some w→∃ w0,t.lists[i]? = some (some w0)∧(fillO l t.lists)[i]? = some (some w)∧PV.flatO w.o w.c=true:=by
   intro i w hi
   have hlt : i<t.lists.length:=by rw [lenL];exact hul i (cinv.ul i w hi)
   have hi':=hi
   rw [hfull.list i] at hi'
   cases hti : t.lists[i]'hlt with
   | none=>
     exfalso
     have : ∀ {cs : List (Option Own)} {k : OR} {r : R},guardRows l cs k=some r→∀ (j : Nat),cs[j]?≠some none:=by
      intro cs
      induction cs with
      | nil=>intro k r _ j;simp
      | cons x xs ih=>
        intro k r h j
        cases x with
        | none=>simp [guardRows] at h
        | some w=>
          unfold guardRows at h
          split at h
          ·unfold PV.guardOwn at h
           split at h
           ·cases j with
            | zero=>simp
            | succ j=>simpa using ih h j
           ·cases h
          ·cases h
     exact this h3 i (by rw [List.getElem?_eq_getElem hlt,hti])
   | some w0=>
     have ht : t.lists[i]? = some (some w0):=by rw [List.getElem?_eq_getElem hlt,hti]
     obtain ⟨x,w1,g1,g2,⟨kk,j,g3,g4⟩,g5⟩:=HO i w0 ht
     have g1 : (s0.pick a0).list i=some w1:=by
      have:=lX (n:=0) g1
      rw [Nat.zero_add] at this
      exact this
     rw [g1] at hi'
     cases hi'
     refine ⟨w0,ht,g2,?_⟩
     have:=hrows i w0 kk j ht g3
     rw [g4,g5] at this
     exact this
  let c1 : aV:={ w:=c.w,Z:=λx=>c.Z x∧(m.Z x∨m.w.heap.size≤x),s:={ box:=λ_=>none,list:=c.s.list},L:=λ_=>False,ρ:=c.ρ}
  have c1inv : lV c1:={
   ub:=λ_ _ h=>by cases h
   ul:=λl o h=>cinv.ul l o h
   zlt:=⟨λr hr=>cinv.zlt r hr.1,sit.inv.zlt.glob.mono (λr h=>⟨fw.zz r (.inl h),.inl h⟩) (λr h=>fw.keep r (Nat.lt_of_lt_of_le (sit.inv.zlt r h) (Nat.le_refl _)) (own0 r))⟩
   box:=λ_ _ h=>by cases h
   row:=λi o hi=>by
    have hi : c.s.list i=some o:=hi
    obtain ⟨g1,g2,g3⟩:=cinv.row i o hi
    obtain ⟨w0,_,_,hf⟩:=rowC i o hi
    exact ⟨g1,g2,g3.flat (.inl hf) (λr hr hz=>g3.notZ r hr hz.1)⟩
   bz:=λ_ _ h=>by cases h
   bb:=λ_ _ _ _ h=>by cases h
   bl:=λ_ _ _ _ h=>by cases h
   ll:=λl o l' o' r h h'=>cinv.ll l o l' o' r h h'
   Lz:=λ_ h=>h.elim
   Lb:=λ_ _ _ h=>h
   Ll:=λ_ _ _ _ _ h=>h}
  have c1own : ∀ r,c1.owned r→c.owned r:=by
   rintro r (⟨_,_,h,_⟩ | ⟨l,o,h,hr⟩ | h)
   ·cases h
   ·exact .inr (.inl ⟨l,o,h,hr⟩)
   ·exact h.elim
  let S : Sx:={ box:=m.s.box
                list:=λx=>match vI s.nl t.lists.length x with | some i=>(fillO l t.lists).getD i none | none=>m.s.list x}
  have freshL : ∀ x,s.nl≤x→x<s.nl+t.lists.length→¬ m.ρ.ul x:=λx h1 h2=>sit.fl x h1 (by omega)
  have cb0 : ∀ x,dL [] s.nb 0 x=none:=λx=>by
   unfold dL
   simp only [idx]
   rw [if_neg (by omega)]
  have listC : ∀ i w,(fillO l t.lists)[i]? = some (some w)→c.s.list i=some w:=by
   intro i w hi
   obtain ⟨ts,hts⟩:=rN l hi
   obtain ⟨x',w2,g1,g2,_⟩:=HO i ts hts
   rw [hi] at g2
   cases g2
   have g1 : (s0.pick a0).list i=some w:=by
    have:=lX (n:=0) g1
    rw [Nat.zero_add] at this
    exact this
   rw [← hfull.list i] at g1
   exact g1
  have came : sJ m c1 false [] [] [] s.nb 0 s.nl t.lists.length S:={
   kk:=λ_=>rfl
   kn:=List.nodup_nil
   ks:=by simp
   row:=λi l0 h=>by simp at h
   inv:=sit.inv
   cinv:=c1inv
   nb:=List.nodup_nil
   ab:=by simp
   al:=by simp
   size:=fw.size
   os:=fw.os
   tape:=fw.tape
   output:=fw.output
   keep:=λr hr _=>fw.keep r hr (own0 r)
   own:=λr hr=>.inr ((fw.own r (c1own r hr)).resolve_left (own0 r))
   z:=λr hr=>hr.2.imp id (λh=>.inr h)
   zz:=λr hr=>⟨fw.zz r (.inl hr),.inl hr⟩
   box:=λi b h=>by simp at h
   freshB:=λx h1 h2=>by omega
   freshL:=freshL
   sb:=λx cs hx=>.inr ⟨cb0 x,cs,hx,(List.map_id _).symm⟩
   sbx:=λx hx=>hx
   sl:=λx o hx=>by
    have hx : (match vI s.nl t.lists.length x with | some i=>(fillO l t.lists).getD i none | none=>m.s.list x)=some o:=hx
    rw [aBy]
    cases hcl : vI s.nl t.lists.length x with
    | none=>rw [hcl] at hx;exact .inr ⟨rfl,by simp,hx⟩
    | some i=>
      rw [hcl] at hx
      exact .inl ⟨i,rfl,listC i o (getD_some hx)⟩}
  have listL : ∀ x,look x (backO s.nl (fillO l t.lists) s.lists)=match vI s.nl t.lists.length x with | some i=>(fillO l t.lists).getD i none | none=>s.list x:=λx=>by
   have:=aEn (x:=x) (cs:=fillO l t.lists) (n:=s.nl) (old:=s.lists)
   rw [rE] at this
   exact this
  have hres : c1.rd (fillD l t.res) v:=hflat.rd (λ_ h=>h) (hless c v hdv)
  refine ⟨m.back c1 [] [] s.nb 0 s.nl t.lists.length S,hw,?_,?_⟩
  ·refine {
    step:=by have:=came.step sn1 (by omega) sn2 hnl;exact this
    after:=⟨λx hx=>sit.ab x hx,λx hx=>?_,λ_ _ _=>rfl,λx h1 h2=>?_,λ_ _ _=>rfl,λx h1 h2=>?_⟩
    nb:=Nat.le_refl _
    nl:=Nat.le_add_right _ _
    ub:=λx hx hu=>hu.elim id (λh=>by omega)
    ul:=λx hx hu=>hu.elim id (λh=>by have hx : s.nl+t.lists.length≤x:=hx;omega)}
   ·show (match vI s.nl t.lists.length x with | some i=>(fillO l t.lists).getD i none | none=>m.s.list x)=look x (backO s.nl (fillO l t.lists) s.lists)
    rw [listL x]
    cases vI s.nl t.lists.length x with
    | some i=>rfl
    | none=>exact sit.al x hx
   ·show (match vI s.nl t.lists.length x with | some i=>(fillO l t.lists).getD i none | none=>m.s.list x)=_
    rcases aEo s.nl t.lists.length x with ⟨i,g1,g2,g3⟩ | ⟨g1,_⟩
    ·exact absurd ⟨by omega,by omega⟩ h2
    ·rw [g1]
   ·show look x (backO s.nl (fillO l t.lists) s.lists)=_
    rw [listL x]
    rcases aEo s.nl t.lists.length x with ⟨i,g1,g2,g3⟩ | ⟨g1,_⟩
    ·exact absurd ⟨by omega,by omega⟩ h2
    ·rw [g1]
  ·refine cO.renum (ρ:=c1.ρ) (live:=c1.s.live) (λb b' hu hbb=>by cases hbb) (λl0 l' hu hll=>?_) deep hres
   unfold backFl at hll
   cases hll
   have hlt:=hul l0 hu
   rw [← lenL] at hlt
   have hcl : vI s.nl t.lists.length (s.nl+l0)=some l0:=by
    unfold vI
    rw [if_pos ⟨by omega,by omega⟩]
    congr 1
    omega
   refine ⟨.inr ⟨by omega,by omega⟩,λhv=>⟨?_,?_,?_,?_⟩⟩
   ·have hv : (match vI s.nl t.lists.length (s.nl+l0) with | some i=>(fillO l t.lists).getD i none | none=>m.s.list (s.nl+l0))≠none:=hv
    rw [hcl] at hv
    obtain ⟨w1,hw1⟩:=Option.ne_none_iff_exists'.1 hv
    have:=listC l0 w1 (getD_some hw1)
    show c.s.list l0≠none
    rw [this];simp
   ·show (match dL [] s.nl t.lists.length (s.nl+l0) with | some i=>c.ρ.hdr i | none=>_)=_
    rw [aBy,hcl]
   ·show (match dL [] s.nl t.lists.length (s.nl+l0) with | some i=>c.ρ.ty i | none=>_)=_
    rw [aBy,hcl]
   ·show (match dL [] s.nl t.lists.length (s.nl+l0) with | some i=>c.ρ.fp i | none=>_)=_
    rw [aBy,hcl]
end
section
variable {P : Program} {X : Cx} {O : Orc}
theorem aAE : ∀ (ds : List DV) (ts : List Nat) (s : St) (k : List DV→St→OR),ownArgs X ds ts s k=ownCells X ds (ts.map (elemOf X)) s k
 | [],ts,s,k=>by cases ts<;>rfl
 | d::ds,[],s,k=>rfl
 | d::ds,t::ts,s,k=>by
   unfold ownArgs ownCells
   simp only [List.map_cons]
   cases d<;>cases elemOf X t<;>simp only [aAE ds ts]
theorem aFv {f : Nat} (hP : aCs P O.C) : ∀ ps r,O.C f ps=some r→jR P f∧∀ (w : World) (Z : NP) (bD us : Array Value),ZOk w Z→ps.length=bD.size→
 (∀ (i : Nat) x v,ps[i]? = some x→bD[i]? = some v→gD w Z x v)→([] : R).length=us.size→(∀ (i : Nat) x v,([] : R)[i]? = some x→us[i]? = some v→gD w Z x v)→
 Calls P f (bD++us) w (λe w'=>∃ v,e = .returned v∧∃ Z',aDH w w' Z Z'∧gD w' Z' (hd r) v):=by
 intro ps r h
 obtain ⟨h1,h2⟩:=hP f ps r h
 refine ⟨h1,λw Z bD us hz hl hr hu _=>?_⟩
 have : us = #[]:=Array.eq_empty_of_size_eq_zero hu.symm
 subst this
 rw [Array.append_empty]
 exact h2 w Z bD hz hl hr
theorem xS (kp : Bool) (kl : List Nat) (t : Nat) (e : Env) : (scrubKeptE kp kl e).get t=scrubKeptD kp kl (e.get t):=by
 unfold scrubKeptE scrubKeptD
 cases kp with
 | true=>exact vB kl t e
 | false=>rfl
theorem aEt {t : Tmpl} {args : List DV} {l : Nat} {path : dH} {rest : List DV} (h : nestedArg t args=some (l,path,rest)) : args = .ref l path::rest∧path≠[]∧t.keep=true:=by
 unfold nestedArg at h
 split at h
 ·split at h
  ·rename_i hc
   cases h
   simp only [Bool.and_eq_true] at hc
   exact ⟨rfl,by simp,hc.1⟩
  ·cases h
 ·cases h
theorem aFw {b : Bool} {kl : List Nat} {l : Nat} {path : dH} (h : mem l kl=false) : scrubKeptD b kl (.ref l path) = .ref l path:=by
 unfold scrubKeptD
 cases b<;>simp [deep,scrub,scrub1,h]
theorem aFx {b : Bool} {kl : List Nat} {l : Nat} : scrubKeptD b kl (.ref l []) = .ref l []:=by
 unfold scrubKeptD
 cases b<;>simp [deep,scrub,scrub1]
theorem aHR (hP : aCs P O.C) (hS : aEq P X.mode O.S) (hwf : ∀ g t,X.mode g=some t→t.wf=true) {f : Nat} {args : List DV} {ts : List Nat} {e : Env} {s : St} {k : DV→Env→St→OR} {r : R} (h : callK X O f args ts e s k=some r) :
 jR P f∧∃ d' e' s' scr,k d' e' s'=some r∧(∀ t,e'.get t=scr (e.get t))∧((match X.mode f with | some t=>{ deepFoot s args (!t.lent) with last:=!t.lent&&t.keep} | none=>deepFoot s args false).last=false→scr=_root_.id)∧∀ (n : Nat) (m : aV) (B L WB WL : NP),mX m s B L n→s'.nb≤n+16→s'.nl≤n+16→
  (∀ ft,ft=(match X.mode f with | some t=>{ deepFoot s args (!t.lent) with last:=!t.lent&&t.keep} | none=>deepFoot s args false)→ft.Cov B L WB WL∧(ft.ok=true∨∀ x,B x∧L x))→
  ∀ vs : Array Value,args.length=vs.size→(∀ (i : Nat) d v,args[i]? = some d→vs[i]? = some v→m.rd d v)→
    Calls P f vs m.w (λe w'=>∃ v,e = .returned v∧∃ m',m'.w=w'∧bJ m m' s s' B L WB WL n scr∧m'.rd d' v):=by
 unfold callK at h
 split at h
 ·rename_i hmode
  unfold pureK at h
  obtain ⟨hcb,d',hk,H⟩:=aHO (caps:=[]) (k:=λd s=>k d e s) (aFv hP) h
  refine ⟨hcb,d',e,s,_root_.id,hk,λ_=>rfl,λ_=>rfl,λn m B L WB WL sit _ _ hft vs hl hr=>?_⟩
  obtain ⟨C,hok⟩:=hft _ rfl
  rw [hmode] at C hok
  have:=H n m B L WB WL sit (aGU sit C hok) vs #[] hl hr rfl (λi x v h=>by simp at h)
  rwa [Array.append_empty] at this
 ·rename_i t hmode
  split at h
  ·rename_i hlent
   obtain ⟨hcb,d',s',hk,H⟩:=lentK_sound hS hmode (hwf f t hmode) h
   refine ⟨hcb,d',e,s',_root_.id,hk,λ_=>rfl,λ_=>rfl,λn m B L WB WL sit hnb hnl hft vs hl hr=>?_⟩
   obtain ⟨C,hok⟩:=hft _ rfl
   rw [hmode] at C hok
   simp only [hlent,Bool.not_true,Bool.false_and] at C hok
   exact H n m B L WB WL sit hnb hnl (aGU sit C hok) vs hl hr
  ·rename_i hlent
   have hlent : t.lent=false:=by simpa using hlent
   split at h
   ·rename_i l path rest hna
    obtain ⟨hargs,hpath,hkeep⟩:=aEt hna
    subst hargs
    obtain ⟨s1,h1,hs1,_,HLV⟩:=wD hpath h
    obtain ⟨hcb,d',s2,kl,hk2,hs2,H⟩:=aC5 hS hmode (hwf f t hmode) h1
    split at hk2
    ·cases hk2
    rename_i hnk
    obtain ⟨s3,hk3,hnl3,hnb3,HB⟩:=aEb hpath hk2
    refine ⟨hcb,d',scrubKeptE t.keep kl e,s3,scrubKeptD t.keep kl,hk3,λt'=>xS t.keep kl t' e,λhla=>?_,λn m B L WB WL sit hnb hnl hft vs hl hr=>?_⟩
    ·rw [hmode] at hla
     simp only [hlent,Bool.not_false,Bool.true_and] at hla
     rw [hkeep] at hla;cases hla
    obtain ⟨C,hok⟩:=hft _ rfl
    rw [hmode] at C hok
    simp only [hlent,Bool.not_false,Bool.true_and] at C hok
    have hall:=C.all hkeep
    have hsz : 0<vs.size:=by rw [← hl];simp
    have hv0:=hr 0 _ vs[0] rfl (Array.getElem?_eq_getElem hsz)
    obtain ⟨m1,hw1,G1,hd1⟩:=HLV n m B L WB WL sit (by omega) ⟨(hall l).2.1,(hall l).2.2.2⟩ _ hv0
    have sit1:=G1.sit sit
    have:=H n m1 B L WB WL sit1 (by omega) (by omega) sit.nl (λb _=>⟨(hall b).1,(hall b).2.2.1⟩) (λl _=>⟨(hall l).2.1,(hall l).2.2.2⟩) (λ_ x=>⟨⟨(hall x).1,(hall x).2.2.1⟩,⟨(hall x).2.1,(hall x).2.2.2⟩⟩) vs (by simpa using hl) (λi d v h1 h2=>by
     cases i with
     | zero=>
       rw [Array.getElem?_eq_getElem hsz] at h2
       cases h1;cases h2;exact hd1
     | succ i=>exact G1.step.rd _ _ (hr (i+1) d v h1 h2))
    rw [hw1] at this
    refine this.mono ?_
    rintro e w' ⟨v,rfl,m',hw,G,hd⟩
    have sit2:=G.sit sit1
    have g1 : m'.rd (.ref l path) vs[0]:=by
     have : m'.rd (scrubKeptD t.keep kl (.ref l path)) vs[0]:=G.step.rd _ _ (G1.step.rd _ _ hv0)
     rwa [aFw (by simpa using hnk)] at this
    have g2 : m'.rd (.ref s.nl []) vs[0]:=by
     have : m'.rd (scrubKeptD t.keep kl (.ref s.nl [])) vs[0]:=G.step.rd _ _ hd1
     rwa [aFx] at this
    obtain ⟨m3,hw3,G3⟩:=HB n m' B L WB WL sit2 ⟨(hall l).2.1,(hall l).2.2.2⟩ ⟨(hall _).2.1,(hall _).2.2.2⟩ _ g1 g2
    exact ⟨v,rfl,m3,hw3.trans hw,(G1.trans G).trans G3,G3.step.rd _ _ hd⟩
   rw [aAE] at h
   obtain ⟨ds',s1,h1,hlen,hms,HM⟩:=kK h
   obtain ⟨hcb,d',s',kl,hk,hs1,H⟩:=aC5 hS hmode (hwf f t hmode) h1
   refine ⟨hcb,d',scrubKeptE t.keep kl e,s',scrubKeptD t.keep kl,hk,λt'=>xS t.keep kl t' e,λhla=>?_,λn m B L WB WL sit hnb hnl hft vs hl hr=>?_⟩
   ·rw [hmode] at hla
    simp only [hlent,Bool.not_false,Bool.true_and] at hla
    unfold scrubKeptD
    rw [hla];rfl
   obtain ⟨C,hok⟩:=hft _ rfl
   rw [hmode] at C hok
   simp only [hlent,Bool.not_false,Bool.true_and] at C hok
   obtain ⟨m1,M1,hr1⟩:=HM n m sit.inv sit.nl (by omega) sit.fl vs.toList (λi d u h1 h2=>hr i d u h1 (by simpa using h2))
   have G1:=M1.goes WB WL sit hms (by omega)
   have sit1:=G1.sit sit
   have hwb : (deepFoot s args true).wb=(deepFoot s args true).rb:=rfl
   have hwl : (deepFoot s args true).wl=(deepFoot s args true).rl:=rfl
   have:=H n m1 B L WB WL sit1 hnb hnl sit.nl (λb hb=>⟨C.rb b hb,C.wb b (by show b∈(deepFoot s args true).wb;rw [hwb];exact hb)⟩) (λl hl=>⟨C.rl l hl,C.wl l (by show l∈(deepFoot s args true).wl;rw [hwl];exact hl)⟩) (λhkp x=>⟨⟨(C.all hkp x).1,(C.all hkp x).2.2.1⟩,⟨(C.all hkp x).2.1,(C.all hkp x).2.2.2⟩⟩) vs (by omega) (λi d v h1 h2=>hr1 i d v h1 (by simpa using h2))
   rw [M1.w] at this
   refine this.mono ?_
   rintro e w' ⟨v,rfl,m',hw,G,hd⟩
   exact ⟨v,rfl,m',hw,G1.trans G,hd⟩
theorem aI7 (hP : aCs P O.C) (hS : aEq P X.mode O.S) (hwf : ∀ g t,X.mode g=some t→t.wf=true) : aBt P X O:=by
 intro d args ts e s k r h
 unfold applyK at h
 split at h
 ·rename_i f caps
  obtain ⟨hcb,d',e',s',scr,hk,he,hid,H⟩:=aHR hP hS hwf h
  have hfeq : callFoot X (.fn f caps) args s=(match X.mode f with | some t=>{ deepFoot s (args++caps) (!t.lent) with last:=!t.lent&&t.keep} | none=>deepFoot s (args++caps) false):=by
   unfold callFoot
   simp only
   cases X.mode f<;>rfl
  refine ⟨d',e',s',scr,hk,he,λhla=>hid (by rw [← hfeq];exact hla),λn m B L WB WL sit hnb hnl C hok vf vs hvf hl hr=>?_⟩
  cases hvf with
  | fn _ _ us hul hur=>
    have e1 : (do let df ← Deferred.ofValue (.func (.func f) #[] us.toArray) vs;invoke df.target df.args : Sem Next).run P m.w = .ok (.enter f (vs++us.toArray)) m.w:=by
     simp [Deferred.ofValue,invoke,aBw hcb]
    rw [e1]
    refine (H n m B L WB WL sit hnb hnl (λft hft=>?_) (vs++us.toArray) (by simp;omega) (λi d v hd hv=>?_))
    ·rw [hfeq,← hft] at C hok
     exact ⟨C,hok⟩
    ·rw [Array.getElem?_append] at hv
     split at hv
     ·rename_i hi
      rw [List.getElem?_append_left (by omega)] at hd
      exact hr i d v hd hv
     ·rename_i hi
      rw [List.getElem?_append_right (by omega)] at hd
      refine hur (i - args.length) d v hd ?_
      rw [hl]
      simpa using hv
 ·rename_i v
  cases v with
  | fn f caps=>
    obtain ⟨hcb,d',hk,H⟩:=aHO (P:=P) (f:=f) (C:=λvs=>PV.apply O.C (.fn f caps) vs) (caps:=caps) (k:=λd s=>k d e s) (λps r0 h0=>by
     have h0 : O.C f (ps++caps)=some r0:=h0
     obtain ⟨h1,h2⟩:=hP f _ _ h0
     refine ⟨h1,λw Z bD us hz hl hr hul hur=>h2 w Z (bD++us) hz (by simp;omega) (λi x v hx hv=>?_)⟩
     rw [Array.getElem?_append] at hv
     split at hv
     ·rw [List.getElem?_append_left (by omega)] at hx
      exact hr i x v hx hv
     ·rw [List.getElem?_append_right (by omega)] at hx
      exact hur (i - ps.length) x v hx (by rw [hl];exact hv)) h
    refine ⟨d',e,s,id,hk,λ_=>rfl,λ_=>rfl,λn m B L WB WL sit hnb hnl C hok vf vs hvf hl hr=>?_⟩
    cases hvf with
    | p _ _ hvf=>cases hvf with
      | fn _ _ us hul hur=>
        have e1 : (do let df ← Deferred.ofValue (.func (.func f) #[] us.toArray) vs;invoke df.target df.args : Sem Next).run P m.w = .ok (.enter f (vs++us.toArray)) m.w:=by
         simp [Deferred.ofValue,invoke,aBw hcb]
        rw [e1]
        exact H n m B L WB WL sit (aGU (ds:=args) (wr:=false) sit C hok) vs us.toArray hl hr (by simpa using hul) (λi x v hx hv=>hur i x v hx (by simpa using hv))
  | _=>
    exfalso
    split at h<;>
    ·obtain ⟨ps,h1,_⟩:=sT (s:=s) h
     obtain ⟨r0,hr0,_⟩:=aR h1
     simp [PV.apply] at hr0
 ·cases h
end
structure Hyp (P : Program) (T : Tab) (H : Hints) : Prop where
 tab : T=tabOf P
 zero : jV P H.zok
 mixed : P.follows .mixedOrders=true
 code : ∀ (f : Nat) (fn : Func) (c : Code),P.funcs[f]? = some fn→fn.body=some c→codeOk fn.ntmps c=true∧fn.name≠ "runtime.NumGoroutine"
 prim : aCs P λg args=>(H.prim g).bind λp=>p args
 primS : ∀ g h,H.primS g=some h→∀ t args s l,H.mode g=some t→h args s=some l→jR P g∧∀ (m : aV) (bD : Array Value),fS m s s.base→args.length=bD.size→
  (∀ (i : Nat) d v,args[i]? = some d→bD[i]? = some v→m.rd d v)→Calls P g bD m.w (λe w'=>∃ v,e = .returned v∧rM m s.boxes.length (if t.keep then s.lists.length else 0) (some (t.fit s)) l v w')
 glob : ∀ g,H.glob g=none
 wf : ∀ g t,H.mode g=some t→t.wf=true
section
variable {P : Program} {T : Tab} {H : Hints}
theorem aEu : ∀ (ds : List DV) (n t : Nat),(argEnv n ds).get t=if n≤t then ds.getD (t - n) .dead else .dead
 | [],n,t=>by simp [argEnv,Env.get]
 | d::r,n,t=>by
   unfold argEnv
   simp only [Env.get]
   by_cases h : t=n
   ·subst h;simp
   ·have hb : Nat.beq t n=false:=by
     cases hb : Nat.beq t n with
     | false=>rfl
     | true=>exact absurd (bI hb) h
    rw [hb]
    simp only [Bool.false_eq_true,if_false]
    rw [aEu]
    by_cases h2 : n≤t
    ·rw [if_pos h2,if_pos (by omega),show t - n=t - (n+1)+1 by omega]
     simp [List.getD]
    ·rw [if_neg h2,if_neg (by omega)]
theorem aHS {m : aV} {args : List DV} {vs : Array Value} {n : Nat} (hl : args.length=vs.size) (hr : ∀ (i : Nat) d v,args[i]? = some d→vs[i]? = some v→m.rd d v) :
 gE m (argEnv 0 args).get ⟨vs++Array.replicate n undef,[]⟩:=by
 intro t
 rw [aEu,if_pos (Nat.zero_le _),Nat.sub_zero]
 by_cases h : t<args.length
 ·have hd : args[t]? = some args[t]:=List.getElem?_eq_getElem h
  have hv : vs[t]? = some (vs[t]'(by omega)):=Array.getElem?_eq_getElem (by omega)
  have e1 : args.getD t .dead=args[t]:=by rw [List.getD,hd];rfl
  have e2 : Act.eval ⟨vs++Array.replicate n undef,[]⟩ (.tmp t)=vs[t]'(by omega):=by
   show (vs++Array.replicate n undef).getD t undef=_
   rw [Array.getD_eq_getD_getElem?,Array.getElem?_append_left (by omega),hv];rfl
  rw [e1,e2]
  exact hr t _ _ hd hv
 ·have e1 : args.getD t .dead = .dead:=by rw [List.getD,List.getElem?_eq_none (by omega)];rfl
  rw [e1]
  exact .dead _
theorem aAp {f : Nat} {fn : Func} {c : Code} (hfn : P.funcs[f]? = some fn) (hc : fn.body=some c) {nb nl : Nat} {out : Option Tmpl} {args : List DV} {s : St} {r : R} (hg : aMv P f nb nl out [.code c] (argEnv 0 args) s r)
 {m : aV} {vs : Array Value} (hf : fS m s s.base) (hl : args.length=vs.size) (hr : ∀ (i : Nat) d v,args[i]? = some d→vs[i]? = some v→m.rd d v) :
 Calls P f vs m.w (λe w'=>∃ v,e = .returned v∧rM m nb nl out r v w'):=by
 intro cs
 let b : Frame:={ (default : Frame) with fn:=f,kind:=.normal}
 have henter : Frame.enter P f vs .normal=b.at ⟨vs++Array.replicate (fn.ntmps - vs.size) undef,[]⟩ [.code c]:=by
  simp [Frame.enter,Frame.at,hfn,hc,b]
 obtain ⟨v,w',fr,h1,h2,h3,h4⟩:=hg m ⟨vs++Array.replicate (fn.ntmps - vs.size) undef,[]⟩ fn hfn hf (aHS hl hr) (by simp;omega) rfl b cs rfl rfl
 rw [← henter] at h2
 exact ⟨.returned v,w',fr,⟨v,rfl,h1⟩,h2,h3,h4⟩
theorem aAF {f : Nat} {n nb nl : Nat} {out : Option Tmpl} {e : Env} {s : St} {r : R} (h : runN P T H n f nb nl out (startOf P f) e s=some r) : ∃ fn c,P.funcs[f]? = some fn∧fn.body=some c∧startOf P f = [.code c]:=by
 cases hb : bodyOf P f with
 | none=>
   exfalso
   cases n with
   | zero=>simp [runN] at h
   | succ n=>
     unfold runN at h
     have hs : startOf P f = [.code (.refuse "")]:=by unfold startOf;rw [hb]
     rw [hs] at h
     unfold evalFuel eval at h
     simp at h
 | some c=>
   have hs : startOf P f = [.code c]:=by unfold startOf;rw [hb]
   unfold bodyOf at hb
   cases hf : P.funcs[f]? with
   | none=>rw [hf] at hb;cases hb
   | some fn=>rw [hf] at hb;exact ⟨fn,c,rfl,hb,hs⟩
theorem aNb (hy : Hyp P T H) {g : Nat} {fn : Func} {c : Code} (hg : P.funcs[g]? = some fn) (hc : fn.body=some c) : lP fn.ntmps [.code c]:=λx hx=>by
 simp at hx;subst hx;exact (hy.code _ _ _ hg hc).1
def aJT (P : Program) (run : Nat→Nat→Nat→Option Tmpl→List Item→Env→St→OR) : Prop:=∀ (f nb nl : Nat) (out : Option Tmpl) (todo : List Item) (e : Env) (s : St) (r : R) (fn : Func),run f nb nl out todo e s=some r→P.funcs[f]? = some fn→lP fn.ntmps todo→aMv P f nb nl out todo e s r
def aLC (P : Program) (run : Nat→Nat→Nat→Option Tmpl→List Item→Env→St→OR) : Prop:=∀ {f nb nl : Nat} {out : Option Tmpl} {e : Env} {s : St} {r : R},run f nb nl out (startOf P f) e s=some r→∃ fn c,P.funcs[f]? = some fn∧fn.body=some c∧startOf P f = [.code c]
variable {run : Nat → Nat → Nat → Option Tmpl → List Item → Env → St → OR}
theorem aHT (hy : Hyp P T H) (hrun : aJT P run) (hst : aLC P run) (f nb nl : Nat) (out : Option Tmpl) : aCs P (orcOf P H run f nb nl out).C:=by
 intro g args r h
 have h : (match H.prim g with | some h=>h args | none=>run g 0 0 none (startOf P g) (argEnv 0 (args.map .p)) ⟨[],[],0,0,0⟩)=some r:=h
 cases hpr : H.prim g with
 | some p=>
   rw [hpr] at h
   exact hy.prim g args r (by simp only [hpr,Option.bind_some];exact h)
 | none=>
 rw [hpr] at h
 simp only at h
 obtain ⟨fg,c,hfg,hc,hst'⟩:=hst h
 rw [hst'] at h
 have good:=hrun g 0 0 none _ _ _ r fg h hfg (aNb hy hfg hc)
 refine ⟨⟨fg,c,hfg,hc,(hy.code _ _ _ hfg hc).2⟩,λw Z bD hz hl hr=>?_⟩
 let m0 : aV:={ w:=w,Z:=Z,s:={ box:=λ_=>none,list:=λ_=>none},L:=λ_=>False,
                ρ:={ box:=λ_=>0,hdr:=λ_=>.nilFunc,fp:=λ_ _=>False,ty:=λ_=>.leaf,ub:=λ_=>False,ul:=λ_=>False}}
 have full0 : fS m0 ⟨[],[],0,0,0⟩ 0:={
  inv:={
   ub:=λ_ _ h=>by cases h
   ul:=λ_ _ h=>by cases h
   zlt:=hz
   box:=λ_ _ h=>by cases h
   row:=λ_ _ h=>by cases h
   bz:=λ_ _ h=>by cases h
   bb:=λ_ _ _ _ h=>by cases h
   bl:=λ_ _ _ _ h=>by cases h
   ll:=λ_ _ _ _ _ h=>by cases h
   Lz:=λ_ h=>h.elim
   Lb:=λ_ _ _ h=>h
   Ll:=λ_ _ _ _ _ h=>h}
  box:=λ_=>rfl
  list:=λ_=>rfl
  ub:=λ_ h=>h.elim
  ul:=λ_ h=>h.elim}
 have own0 : ∀ r,¬ m0.owned r:=by
  rintro r (⟨_,_,h,_⟩ | ⟨_,_,h,_⟩ | h)
  ·cases h
  ·cases h
  ·exact h
 refine (aAp hfg hc good (m:=m0) (vs:=bD) full0 (by simpa using hl) (λi d v hd hv=>?_)).mono ?_
 ·rw [List.getElem?_map] at hd
  cases hp : args[i]? with
  | none=>rw [hp] at hd;cases hd
  | some p=>rw [hp] at hd;cases hd;exact .p _ _ (hr i p v hp hv)
 ·rintro e w' ⟨v,rfl,m',rfl,inv',fw,pv,rfl,hrep⟩
  refine ⟨v,rfl,λx=>m'.Z x∨m'.owned x,⟨fw.size,fw.os,fw.tape,fw.output,λr hr=>fw.keep r hr (own0 r),λr hr=>.inl (fw.zz r hr),λr hr=>?_⟩,hrep⟩
  rcases hr with hr | hr
  ·rcases fw.z r hr with h | h | h
   ·exact .inl h
   ·exact (own0 r h).elim
   ·exact .inr ⟨h,inv'.zlt r hr⟩
  ·exact .inr ⟨(fw.own r hr).resolve_left (own0 r),inv'.owned_lt hr⟩
theorem aLD (hy : Hyp P T H) (hrun : aJT P run) (hst : aLC P run) (f nb nl : Nat) (out : Option Tmpl) : aEq P H.mode (orcOf P H run f nb nl out).S:=by
 intro g t args s l hmode h
 have h : (match H.mode g with | some t=>(match H.primS g with | some h=>h args s | none=>run g s.boxes.length (if t.keep then s.lists.length else 0) (some (t.fit s)) (startOf P g) (argEnv 0 args) s) | none=>none)=some l:=h
 rw [hmode] at h
 simp only at h
 cases hps : H.primS g with
 | some p=>
   rw [hps] at h
   exact hy.primS g p hps t args s l hmode h
 | none=>
 rw [hps] at h
 simp only at h
 obtain ⟨fg,c,hfg,hc,hst'⟩:=hst h
 rw [hst'] at h
 have good:=hrun g s.boxes.length (if t.keep then s.lists.length else 0) (some (t.fit s)) _ _ _ l fg h hfg (aNb hy hfg hc)
 exact ⟨⟨fg,c,hfg,hc,(hy.code _ _ _ hfg hc).2⟩,λm bD hf hl hr=>aAp hfg hc good hf hl hr⟩
theorem aF8 (hy : Hyp P T H) : ∀ (n : Nat),aJT P (runN P T H n)
 | 0,_,_,_,_,_,_,_,_,_,h,_,_=>by simp [runN] at h
 | n+1,f,nb,nl,out,todo,e,s,r,fn,h,hfn,hok=>by
   unfold runN at h
   have ih:=aF8 hy n
   have hP:=aHT hy ih aAF f nb nl out
   have hS:=aLD hy ih aAF f nb nl out
   refine aEl (X:=cxOf P T H f nb nl out) (O:=orcOf P H (runN P T H n) f nb nl out) hy.tab hy.zero hy.glob (aI7 hP hS hy.wf) hy.mixed hfn ?_ (λtodo e s r h hk=>ih f nb nl out todo e s r fn h hfn hk) evalFuel true todo e s r h hok
   show ((P.funcs[f]?).map (·.results.toList)).getD []=_
   rw [hfn];rfl
end
def aK {β : Type} (a : Option β) (b : Nat→Option β) : Prop:=∀ r,a=some r→∃ N,∀ n,N≤n→b n=some r
section
variable {α β : Type}
theorem aK.none {b : Nat→Option β} : aK (Option.none : Option β) b:=λr h=>by cases h
theorem aK.rfl (a : Option β) : aK a (λ_=>a):=λr h=>⟨0,λ_ _=>h⟩
theorem aK.bd {o : Option α} {k : α→Option β} {k' : Nat→α→Option β} (h : ∀ a,aK (k a) (λn=>k' n a)) : aK (bd o k) (λn=>bd o (k' n)):=by
 cases o with
 | none=>exact aK.none
 | some a=>exact h a
theorem aK.bd2 {o : Option α} {o' : Nat→Option α} {k : α→Option β} {k' : Nat→α→Option β} (ho : aK o o') (h : ∀ a,aK (k a) (λn=>k' n a)) : aK (Go.Proofs.YtllmobkkbpdchaaGreat.bd o k) (λn=>Go.Proofs.YtllmobkkbpdchaaGreat.bd (o' n) (k' n)):=by
 intro r hr
 obtain ⟨a,ha,hk⟩:=aR hr
 obtain ⟨N,hN⟩:=ho a ha
 obtain ⟨M,hM⟩:=h a r hk
 refine ⟨max N M,λn hn=>?_⟩
 show Go.Proofs.YtllmobkkbpdchaaGreat.bd (o' n) (k' n)=some r
 rw [hN n (by omega)]
 exact hM n (by omega)
theorem aK.pvite {c : PV} {a b : Option β} {a' b' : Nat→Option β} (ha : aK a a') (hb : aK b b') : aK (PV.ite c a b) (λn=>PV.ite c (a' n) (b' n)):=by
 intro r hr
 rcases uG hr with ⟨rfl,h⟩ | ⟨rfl,h⟩
 ·obtain ⟨N,hN⟩:=ha r h
  exact ⟨N,λn hn=>hN n hn⟩
 ·obtain ⟨N,hN⟩:=hb r h
  exact ⟨N,λn hn=>hN n hn⟩
theorem aK.nilT {c : PV} {a b : Option β} {a' b' : Nat→Option β} (ha : aK a a') (hb : aK b b') : aK (PV.nilT c a b) (λn=>PV.nilT c (a' n) (b' n)):=by
 intro r hr
 obtain ⟨h1,h2⟩:=aF5 hr
 obtain ⟨M,hM⟩:=hb r h2
 cases c with
 | lst xs=>
   cases xs with
   | nil=>
     obtain ⟨N,hN⟩:=ha r (h1 (Eq.refl _))
     refine ⟨max N M,λn hn=>?_⟩
     show @_root_.ite _ (a' n=b' n) (Classical.propDecidable _) (a' n) Option.none=some r
     rw [hN n (by omega),hM n (by omega),if_pos (Eq.refl _)]
   | cons x xs=>exact ⟨M,λn hn=>hM n hn⟩
 | _=>cases hr
theorem aK.ite {c : Prop} [Decidable c] {a b : Option β} {a' b' : Nat→Option β} (ha : aK a a') (hb : aK b b') : aK (if c then a else b) (λn=>if c then a' n else b' n):=by
 by_cases h : c
 ·simp only [h,if_true];exact ha
 ·simp only [h,if_false];exact hb
theorem aK.flat {r : PV} {a : Option β} {a' : Nat→Option β} (ha : aK a a') : aK (PV.guardFlat r a) (λn=>PV.guardFlat r (a' n)):=by
 unfold PV.guardFlat;exact aK.ite ha aK.none
theorem aK.own {o : OTy} {r : PV} {a : Option β} {a' : Nat→Option β} (ha : aK a a') : aK (PV.guardOwn o r a) (λn=>PV.guardOwn o r (a' n)):=by
 unfold PV.guardOwn;exact aK.ite ha aK.none
end
section
variable {X : Cx}
theorem aBA {v : PV} : ∀ {m : Nat} {k : R→OR} {k' : Nat→R→OR},(∀ l,aK (k l) (λn=>k' n l))→aK (cellsK.go v m k) (λn=>cellsK.go v m (k' n))
 | 0,_,_,h=>h []
 | _+1,_,_,h=>by
   unfold cellsK.go
   exact aBA λl=>aK.bd λc=>h _
theorem nI {m : Nat} {d : DV} {k : List DV→OR} {k' : Nat→List DV→OR} (h : ∀ l,aK (k l) (λn=>k' n l)) : aK (cellsK m d k) (λn=>cellsK m d (k' n)):=by
 cases d<;>simp only [cellsK]<;>first
  | exact aK.none
  | exact aK.ite (h _) aK.none
  | exact aK.bd λv=>aBA λl=>h _
theorem iV : ∀ {path : dH} {o : OTy} {c : PV} {k : OTy→PV→OR} {k' : Nat→OTy→PV→OR},(∀ o c,aK (k o c) (λn=>k' n o c))→aK (getK o c path k) (λn=>getK o c path (k' n))
 | [],_,_,_,_,h=>h _ _
 | (i,j)::r,o,c,k,k',h=>by
   unfold getK
   exact aK.bd λx=>aK.ite (aK.bd λy=>iV h) (aK.ite (iV h) aK.none)
theorem oU : ∀ {path : dH} {o : OTy} {c y : PV} {k : PV→OR} {k' : Nat→PV→OR},(∀ c,aK (k c) (λn=>k' n c))→aK (setK o c path y k) (λn=>setK o c path y (k' n))
 | [],_,_,_,_,_,h=>h _
 | (i,j)::r,o,c,y,k,k',h=>by
   unfold setK
   exact aK.bd λx=>aK.ite (aK.bd λz=>oU λz'=>aK.bd h) (aK.ite (oU λz'=>aK.bd h) aK.none)
theorem rF {s : St} {d : DV} {k : OTy→PV→OR} {k' : Nat→OTy→PV→OR} (h : ∀ o c,aK (k o c) (λn=>k' n o c)) : aK (rowK s d k) (λn=>rowK s d (k' n)):=by
 cases d<;>simp only [rowK]<;>try exact aK.none
 ·rename_i l path
  cases s.list l with
  | none=>exact aK.none
  | some w=>exact iV h
 ·rename_i l path lo hi
  cases s.list l with
  | none=>exact aK.none
  | some w=>exact iV λo c=>aK.bd λc=>h _ _
theorem aCu {α β : Type} {f : α→(β→OR)→OR} (hf : ∀ a k (k' : Nat→β→OR),(∀ b,aK (k b) (λn=>k' n b))→aK (f a k) (λn=>f a (k' n))) :
 ∀ {l : List α} {k : List β→OR} {k' : Nat→List β→OR},(∀ b,aK (k b) (λn=>k' n b))→aK (mapK f l k) (λn=>mapK f l (k' n))
 | [],_,_,h=>h _
 | d::r,k,k',h=>by
   unfold mapK
   exact hf _ _ _ λv=>aCu hf λvs=>h _
theorem aAG {s : St} : ∀ {m : Nat} {d : DV} {k : PV→OR} {k' : Nat→PV→OR},(∀ v,aK (k v) (λn=>k' n v))→aK (snapK s m d k) (λn=>snapK s m d (k' n))
 | 0,_,_,_,_=>by simp only [snapK];exact aK.none
 | m+1,d,k,k',h=>by
   have mp:=λ{ds : List DV} {k : R→OR} {k' : Nat→R→OR} (h : ∀ v,aK (k v) (λn=>k' n v))=>aCu (f:=snapK s m) (λa k k' h=>aAG h) (l:=ds) h
   cases d<;>simp only [snapK]<;>first
    | exact aK.none
    | exact h _
    | exact mp λvs=>h _
    | exact rF λ_ c=>h _
    | skip
   ·rename_i b off
    cases off with
    | zero=>
      cases s.box b with
      | none=>exact aK.none
      | some cs=>exact mp λvs=>h _
    | succ n=>exact aK.none
   ·rename_i b n
    cases s.box b with
    | none=>exact aK.none
    | some cs=>exact aK.ite (mp λvs=>aK.bd λc=>h _) aK.none
theorem rO {s : St} {m : Nat} {ds : List DV} {k : R→OR} {k' : Nat→R→OR} (h : ∀ v,aK (k v) (λn=>k' n v)) : aK (snapL s m ds k) (λn=>snapL s m ds (k' n)):=by
 unfold snapL
 exact aCu (f:=snapK s m) (λa k k' h=>aAG h) h
theorem aI8 {s : St} {d : DV} {k : PV→St→OR} {k' : Nat→PV→St→OR} (h : ∀ v s,aK (k v s) (λn=>k' n v s)) : aK (sinkK s d k) (λn=>sinkK s d (k' n)):=by
 unfold sinkK
 cases bsOf deep d with
 | nil=>exact aAG λv=>h _ _
 | cons=>exact aK.none
theorem pO {ct : OTy} {s : St} {d : DV} {k : PV→St→OR} {k' : Nat→PV→St→OR} (h : ∀ v s,aK (k v s) (λn=>k' n v s)) : aK (sinkAs ct s d k) (λn=>sinkAs ct s d (k' n)):=by
 cases ct with
 | leaf=>exact aI8 h
 | own a b c e=>
   cases d<;>simp only [sinkAs]<;>first
    | exact aK.none
    | exact h _ _
    | skip
   ·rename_i l path
    cases path with
    | nil=>
      dsimp only
      cases s.list l with
      | none=>exact aK.none
      | some w=>exact aK.ite (h _ _) aK.none
    | cons=>exact aK.none
   ·rename_i l path lo hi
    cases path with
    | nil=>
      dsimp only
      cases s.list l with
      | none=>exact aK.none
      | some w=>exact aK.ite (aK.bd λc=>h _ _) aK.none
    | cons=>exact aK.none
theorem rP {o : OTy} : ∀ {ds : List DV} {s : St} {j : Nat} {k : R→St→OR} {k' : Nat→R→St→OR},(∀ v s,aK (k v s) (λn=>k' n v s))→aK (sinkCells o s j ds k) (λn=>sinkCells o s j ds (k' n))
 | [],_,_,_,_,h=>h _ _
 | d::r,s,j,k,k',h=>by
   unfold sinkCells
   exact pO λv s=>rP λvs s=>h _ _
theorem aEv {o : OTy} {s : St} {d : DV} {k : PV→St→OR} {k' : Nat→PV→St→OR} (h : ∀ v s,aK (k v s) (λn=>k' n v s)) : aK (elemK o s d k) (λn=>elemK o s d (k' n)):=by
 unfold elemK
 cases o.g with
 | true=>
   cases d<;>simp only [if_true]<;>first
    | exact aK.none
    | exact aK.ite (h _ _) aK.none
    | exact aK.ite (rP λvs s=>h _ _) aK.none
 | false=>
   cases d<;>simp only [Bool.false_eq_true,if_false]<;>first
    | exact aK.none
    | exact pO h
theorem jT : ∀ {ds : List DV} {ts : List (Option Nat)} {s : St} {k : List DV→St→OR} {k' : Nat→List DV→St→OR},(∀ v s,aK (k v s) (λn=>k' n v s))→aK (ownCells X ds ts s k) (λn=>ownCells X ds ts s (k' n))
 | [],ts,s,k,k',h=>by cases ts<;>exact h _ _
 | d::ds,[],s,k,k',h=>h _ _
 | d::ds,t::ts,s,k,k',h=>by
   unfold ownCells
   cases d<;>cases t<;>exact jT λvs s=>h _ _
theorem xT {l : Nat} {path : dH} {i : PV} {o : OTy} {x : PV} : ∀ {m off : Nat} {k : List DV→OR} {k' : Nat→List DV→OR},(∀ v,aK (k v) (λn=>k' n v))→aK (cellsE l path i o x m off k) (λn=>cellsE l path i o x m off (k' n))
 | 0,_,_,_,h=>h _
 | m+1,off,k,k',h=>by
   unfold cellsE
   exact aK.ite (aK.bd λy=>xT λds=>h _) (xT λds=>h _)
theorem aEw {x : PV} {s : Nat} {g : Bool} {off : Nat} {r : TyR} {k : DV→OR} {k' : Nat→DV→OR} (h : ∀ v,aK (k v) (λn=>k' n v)) : aK (partK x s g off r k) (λn=>partK x s g off r (k' n)):=by
 unfold partK
 exact aK.ite (aK.ite (h _) (aK.bd λy=>h _)) (aK.ite (aK.bd λy=>h _) (aK.ite (h _) aK.none))
theorem aC6 {c : PV} : ∀ {m off : Nat} {k : R→OR} {k' : Nat→R→OR},(∀ v,aK (k v) (λn=>k' n v))→aK (loadK.cellsB c m off k) (λn=>loadK.cellsB c m off (k' n))
 | 0,_,_,_,h=>h _
 | m+1,off,k,k',h=>by
   unfold loadK.cellsB
   exact aK.bd λv=>aC6 λl=>h _
theorem aI9 {t : Nat} {a : DV} {s : St} {k : DV→OR} {k' : Nat→DV→OR} (h : ∀ v,aK (k v) (λn=>k' n v)) : aK (loadK X t a s k) (λn=>loadK X t a s (k' n)):=by
 unfold loadK
 refine aK.ite aK.none ?_
 cases a<;>(try simp only)<;>first
  | exact aK.none
  | exact aK.ite (aC6 λl=>h _) (aK.bd λy=>h _)
  | exact aEw h
  | skip
 ·rename_i b off
  cases s.box b with
  | none=>exact aK.none
  | some cs=>
    refine aK.ite (aK.ite (h _) aK.none) ?_
    cases cs[off]? with
    | none=>exact aK.none
    | some d=>exact h _
 ·rename_i l path i off
  cases s.list l with
  | none=>exact aK.none
  | some w=>
    exact iV λo c=>aK.bd λx=>aK.ite (aEw h) (aK.ite (aK.ite (xT λds=>h _) aK.none)
     (aK.ite (aK.ite (aK.bd λy=>h _) (aK.ite (h _) aK.none)) (aK.ite (h _) aK.none)))
theorem zI {d : DV} {k : DV→OR} {k' : Nat→DV→OR} (h : ∀ v,aK (k v) (λn=>k' n v)) : aK (oneK d k) (λn=>oneK d (k' n)):=by
 cases d<;>simp only [oneK]<;>first
  | exact aK.none
  | exact h _
  | exact aK.bd λx=>h _
theorem aHU {t b off : Nat} {v : DV} {s : St} {k : St→OR} {k' : Nat→St→OR} (h : ∀ v,aK (k v) (λn=>k' n v)) : aK (storeB X t b off v s k) (λn=>storeB X t b off v s (k' n)):=by
 unfold storeB
 simp only
 cases s.box b with
 | none=>exact aK.none
 | some cs=>
   refine aK.ite (aK.ite (nI λvs=>jT λvs s=>h _) (aK.ite (zI λv=>?_) aK.none)) aK.none
   cases v<;>(try simp only)<;>first
    | exact h _
    | skip
   ·cases elemOf X t with
    | none=>exact aK.none
    | some u=>exact h _
   ·rename_i l path lo hi
    cases path with
    | cons=>exact h _
    | nil=>
      cases cs[off]? with
      | none=>exact h _
      | some d=>
        cases d<;>(try simp only)<;>first
         | exact h _
         | skip
        rename_i l' path'
        cases path' with
        | cons=>exact h _
        | nil=>
          refine aK.ite ?_ (h _)
          cases s.list l with
          | none=>exact aK.none
          | some w=>exact aK.bd λc=>h _
theorem aC7 {m : Nat} {c i : PV} : ∀ {ys : R} {c : PV} {off : Nat} {k : PV→OR} {k' : Nat→PV→OR},(∀ v,aK (k v) (λn=>k' n v))→aK (storeK.setAll m c i off ys k) (λn=>storeK.setAll m c i off ys (k' n))
 | [],_,_,_,_,h=>h _
 | y::ys,c,off,k,k',h=>by
   unfold storeK.setAll
   exact aK.bd λc=>aC7 (c:=c) h
theorem aHV {e : Env} {l : Nat} {path : dH} {w : Own} {c : PV} {s : St} {k : Env→St→OR} {k' : Nat→Env→St→OR} (h : ∀ e s,aK (k e s) (λn=>k' n e s)) : aK (storeK.fin e k l path w c s) (λn=>storeK.fin e (k' n) l path w c s):=by
 unfold storeK.fin
 refine oU λc'=>?_
 unfold touchK
 exact aK.ite (h _ _) (h _ _)
theorem aEx {e : Env} {o : OTy} {ds : List DV} {off l : Nat} {path : dH} {i : PV} {s : St} {k : Env→St→OR} {k' : Nat→Env→St→OR} (h : ∀ e s,aK (k e s) (λn=>k' n e s)) : aK (storeK.setIn e k o ds off l path i s) (λn=>storeK.setIn e (k' n) o ds off l path i s):=by
 unfold storeK.setIn
 refine rP λys s=>?_
 cases s.list l with
 | none=>exact aK.none
 | some w=>exact iV λo c=>aC7 (c:=c) λc=>aHV h
theorem xU {t : Nat} {a v : DV} {e : Env} {s : St} {k : Env→St→OR} {k' : Nat→Env→St→OR} (h : ∀ e s,aK (k e s) (λn=>k' n e s)) : aK (storeK X t a v e s k) (λn=>storeK X t a v e s (k' n)):=by
 unfold storeK
 refine aK.ite aK.none ?_
 cases a<;>(try simp only)<;>first
  | exact aK.none
  | exact aHU λs=>h _ _
  | skip
 rename_i l path i off
 cases s.list l with
 | none=>exact aK.none
 | some w=>
   refine iV λo c=>aK.ite (aEv λx s=>?_) (aK.ite (nI λds=>aEx h) (aK.ite (zI λv=>aEx h) aK.none))
   cases s.list l with
   | none=>exact aK.none
   | some w=>exact iV λo c=>aK.bd λc=>aHV h
theorem xV {fs : List (Nat × Nat)} : ∀ {ps : List (Nat × DV)} {cs : List DV} {k : List DV→OR} {k' : Nat→List DV→OR},(∀ v,aK (k v) (λn=>k' n v))→aK (buildK X fs ps cs k) (λn=>buildK X fs ps cs (k' n))
 | [],_,_,_,h=>h _
 | (i,v)::r,cs,k,k',h=>by
   unfold buildK
   cases fs[i]? with
   | none=>exact aK.none
   | some p=>exact aK.ite (aK.ite (nI λvs=>xV h) (aK.ite (zI λv=>xV h) aK.none)) aK.none
theorem aC8 {o : OTy} : ∀ {ds : List DV} {s : St} {k : R→St→OR} {k' : Nat→R→St→OR},(∀ v s,aK (k v s) (λn=>k' n v s))→aK (elemsK o s ds k) (λn=>elemsK o s ds (k' n))
 | [],_,_,_,h=>h _ _
 | d::r,s,k,k',h=>by
   unfold elemsK
   exact aEv λv s=>aC8 λvs s=>h _ _
theorem vJ {dst : Option Nat} {t : Nat} {d : DV} {e : Env} {s : St} {k : DV→St→OR} {k' : Nat→DV→St→OR} (h : ∀ v s,aK (k v s) (λn=>k' n v s)) : aK (moveK X dst t d e s k) (λn=>moveK X dst t d e s (k' n)):=by
 cases d<;>simp only [moveK]<;>first
  | exact aK.none
  | exact h _ _
  | skip
 ·cases elemOf X t with
  | none=>exact h _ _
  | some u=>exact h _ _
 ·rename_i l path lo hi
  cases path with
  | cons=>exact h _ _
  | nil=>
    cases dst with
    | none=>exact h _ _
    | some t=>
      dsimp only
      generalize e.get t=d0
      cases d0<;>(try simp only)<;>first
       | exact h _ _
       | skip
      rename_i l' path'
      cases path' with
      | cons=>exact h _ _
      | nil=>
        refine aK.ite ?_ (h _ _)
        cases s.list l with
        | none=>exact aK.none
        | some w=>exact aK.bd λc=>h _ _
theorem aJa {c a b : DV} {e : Env} {s : St} {k : DV→St→OR} {k' : Nat→DV→St→OR} (h : ∀ v s,aK (k v s) (λn=>k' n v s)) : aK (pickK X c a b e s k) (λn=>pickK X c a b e s (k' n)):=by
 cases c<;>simp only [pickK]<;>first
  | exact aK.none
  | exact aK.pvite (vJ h) (vJ h)
theorem aHW {t : Nat} {s : St} {k : DV→St→OR} {k' : Nat→DV→St→OR} (h : ∀ v s,aK (k v s) (λn=>k' n v s)) : aK (allocK X t s k) (λn=>allocK X t s (k' n)):=by
 unfold allocK
 exact aK.ite (jT λcs s=>h _ _) aK.none
theorem aKF {t : Nat} {x : DV} {s : St} {k : DV→St→OR} {k' : Nat→DV→St→OR} (h : ∀ v s,aK (k v s) (λn=>k' n v s)) : aK (boxK X t x s k) (λn=>boxK X t x s (k' n)):=by
 unfold boxK
 exact aK.ite (nI λcs=>jT λcs s=>h _ _) (zI λd=>jT λcs s=>h _ _)
theorem aGX {t : Nat} {ps : List (Nat × DV)} {k : DV→OR} {k' : Nat→DV→OR} (h : ∀ v,aK (k v) (λn=>k' n v)) : aK (buildTK X t ps k) (λn=>buildTK X t ps (k' n)):=by
 unfold buildTK
 cases (X.T.at t).d<;>(try simp only)<;>first
  | exact aK.none
  | exact aK.ite (xV λcs=>h _) aK.none
theorem aCv {t m : Nat} {ps : List (Nat × DV)} {s : St} {k : DV→St→OR} {k' : Nat→DV→St→OR} (h : ∀ v s,aK (k v s) (λn=>k' n v s)) : aK (buildSliceK X t m ps s k) (λn=>buildSliceK X t m ps s (k' n)):=by
 unfold buildSliceK lendK
 cases elemOf X t with
 | none=>exact aK.none
 | some u=>exact aK.ite (aK.ite (h _ _) aK.none) (aK.ite (aC8 λvs s=>aK.bd λc=>h _ _) aK.none)
theorem aDo {t : Nat} {l c : DV} {s : St} {k : DV→St→OR} {k' : Nat→DV→St→OR} (h : ∀ v s,aK (k v s) (λn=>k' n v s)) : aK (makeSliceK X t l c s k) (λn=>makeSliceK X t l c s (k' n)):=by
 unfold makeSliceK
 cases elemOf X t with
 | none=>exact aK.none
 | some u=>
   cases l<;>cases c<;>(try simp only)<;>first
    | exact aK.none
    | exact aK.ite (aK.bd λ_=>aK.bd λy=>aK.pvite (aK.bd λc=>h _ _) aK.none) aK.none
theorem aEy {x : DV} {s : St} {k : DV→OR} {k' : Nat→DV→OR} (h : ∀ v,aK (k v) (λn=>k' n v)) : aK (nilCheckK x s k) (λn=>nilCheckK x s (k' n)):=by
 cases x<;>simp only [nilCheckK]<;>first
  | exact aK.none
  | exact h _
  | exact aK.bd λv=>h _
  | skip
 rename_i l path i off
 cases s.list l with
 | none=>exact aK.none
 | some w=>exact h _
theorem aJb {op : UnOp} {x : DV} {k : DV→OR} {k' : Nat→DV→OR} (h : ∀ v,aK (k v) (λn=>k' n v)) : aK (unOpK op x k) (λn=>unOpK op x (k' n)):=by
 cases op<;>cases x<;>simp only [unOpK]<;>first
  | exact aK.none
  | exact aK.bd λv=>h _
theorem aHX {t : Nat} {x i : DV} {k : DV→OR} {k' : Nat→DV→OR} (h : ∀ v,aK (k v) (λn=>k' n v)) : aK (indexK X t x i k) (λn=>indexK X t x i (k' n)):=by
 unfold indexK
 cases (X.T.at t).d<;>cases x<;>cases i<;>(try simp only)<;>first
  | exact aK.none
  | exact aK.bd λv=>h _
  | skip
 refine aK.ite ?_ aK.none
 split
 ·exact aK.bd λv=>h _
 ·exact aK.none
theorem aEz {d : DV} {k : DV→OR} {k' : Nat→DV→OR} (h : ∀ v,aK (k v) (λn=>k' n v)) : aK (soK d k) (λn=>soK d (k' n)):=by
 cases d<;>simp only [soK]<;>first
  | exact aK.bd λv=>h _
  | exact h _
theorem aFy {x : DV} {i : Nat} {k : DV→OR} {k' : Nat→DV→OR} (h : ∀ v,aK (k v) (λn=>k' n v)) : aK (extractK x i k) (λn=>extractK x i (k' n)):=by
 cases x<;>simp only [extractK]<;>first
  | exact aK.none
  | exact aK.bd λv=>h _
  | skip
 rename_i cs
 cases cs[i]? with
 | none=>exact aK.none
 | some d=>exact h _
theorem aHY {t f : Nat} {x : DV} {k : DV→OR} {k' : Nat→DV→OR} (h : ∀ v,aK (k v) (λn=>k' n v)) : aK (fieldK X t x f k) (λn=>fieldK X t x f (k' n)):=by
 unfold fieldK
 cases (X.T.at t).d<;>(try simp only)<;>first
  | exact aK.none
  | skip
 rename_i fs
 cases fs[f]? with
 | none=>exact aK.none
 | some p=>
   refine aK.ite aK.none ?_
   cases x<;>(try simp only)<;>first
    | exact aK.none
    | exact aK.ite (aK.bd λy=>h _) (aK.bd λy=>h _)
    | skip
   rename_i cs
   refine aK.ite (aK.ite (h _) aK.none) ?_
   cases cs[p.1]? with
   | none=>exact aK.none
   | some d=>exact h _
theorem aDp {t f : Nat} {x : DV} {s : St} {k : DV→OR} {k' : Nat→DV→OR} (h : ∀ v,aK (k v) (λn=>k' n v)) : aK (fieldAddrK X t x f s k) (λn=>fieldAddrK X t x f s (k' n)):=by
 unfold fieldAddrK
 cases (X.T.at t).d<;>(try simp only)<;>first
  | exact aK.none
  | skip
 rename_i fs
 cases fs[f]? with
 | none=>exact aK.none
 | some p=>
   refine aK.ite aK.none ?_
   cases x<;>(try simp only)<;>first
    | exact aK.none
    | exact h _
    | exact aK.bd λy=>h _
    | skip
   rename_i l path i off
   cases s.list l with
   | none=>exact aK.none
   | some w=>exact h _
theorem aDq {t : Nat} {x i : DV} {s : St} {k : DV→OR} {k' : Nat→DV→OR} (h : ∀ v,aK (k v) (λn=>k' n v)) : aK (indexAddrK X t x i s k) (λn=>indexAddrK X t x i s (k' n)):=by
 unfold indexAddrK
 cases (X.T.at t).d<;>cases i<;>(try simp only)<;>first
  | exact aK.none
  | skip
 ·refine aK.ite aK.none ?_
  cases x<;>(try simp only)<;>first
   | exact aK.none
   | exact aK.bd λy=>h _
   | exact rF λo c=>aK.ite (aK.bd λ_=>h _) aK.none
   | exact rF λo c=>aK.ite (aK.bd λ_=>aK.bd λj=>h _) aK.none
 ·rename_i i
  refine aK.ite aK.none ?_
  cases x<;>cases i<;>(try simp only)<;>first
   | exact aK.none
   | exact aK.ite (h _) aK.none
   | exact aK.ite (aK.bd λv=>h _) aK.none
theorem aGY {t : Nat} {x : DV} {lo hi : Option DV} {mx : DV} {s : St} {k : DV→St→OR} {k' : Nat→DV→St→OR} (h : ∀ v s,aK (k v s) (λn=>k' n v s)) : aK (noRoomK X t x lo hi mx s k) (λn=>noRoomK X t x lo hi mx s (k' n)):=by
 unfold noRoomK
 cases elemOf X t with
 | none=>exact aK.none
 | some u=>
   cases x<;>cases lo<;>(try exact aK.none)
   cases hi with
   | none=>exact aK.none
   | some d=>
     cases d<;>cases mx<;>first
      | exact aK.none
      | exact aK.ite (aK.bd λ_=>h _ _) aK.none
theorem aHZ {t : Nat} {x : DV} {lo hi : Option DV} {s : St} {k : DV→OR} {k' : Nat→DV→OR} (h : ∀ v,aK (k v) (λn=>k' n v)) : aK (sliceK X t x lo hi s k) (λn=>sliceK X t x lo hi s (k' n)):=by
 unfold sliceK
 cases sliceK.lowOf lo with
 | none=>exact aK.none
 | some l=>
   cases (X.T.at t).d<;>(try simp only)<;>first
    | exact aK.none
    | skip
   ·cases x<;>(try simp only)<;>first
     | exact aK.none
     | skip
    cases hi with
    | none=>exact aK.bd λ_=>aK.bd λy=>h _
    | some d=>
      cases d<;>(try simp only)<;>first
       | exact aK.none
       | exact aK.bd λy=>h _
   ·refine aK.ite aK.none ?_
    cases x<;>(try simp only)<;>first
     | exact aK.none
     | skip
    ·cases hi with
     | none=>exact aK.bd λ_=>aK.bd λy=>h _
     | some d=>
       cases d<;>(try simp only)<;>first
        | exact aK.none
        | exact aK.bd λy=>h _
    ·refine rF λo c=>aK.ite ?_ aK.none
     cases hi with
     | none=>exact aK.bd λ_=>aK.bd λy=>h _
     | some d=>
       cases d<;>(try simp only)<;>first
        | exact aK.none
        | exact aK.bd λy=>h _
theorem aKG {t : Nat} {d : DV} {s : St} {k : DV→OR} {k' : Nat→DV→OR} (h : ∀ v,aK (k v) (λn=>k' n v)) : aK (lenK X t d s k) (λn=>lenK X t d s (k' n)):=by
 unfold lenK
 cases (X.T.at t).d<;>cases d<;>(try simp only)<;>first
  | exact aK.none
  | exact h _
  | exact aK.bd λy=>h _
  | exact rF λ_ c=>aK.bd λy=>h _
theorem aAH : ∀ {ds : List DV} {k : R→OR} {k' : Nat→R→OR},(∀ v,aK (k v) (λn=>k' n v))→aK (eqK.trees ds k) (λn=>eqK.trees ds (k' n))
 | [],_,_,h=>h _
 | d::ds,k,k',h=>by
   cases d<;>simp only [eqK.trees]<;>first
    | exact aK.none
    | exact aAH λvs=>h _
theorem aKH {op : BinOp} {x : DV} {k : DV→OR} {k' : Nat→DV→OR} (h : ∀ v,aK (k v) (λn=>k' n v)) : aK (nilK op x k) (λn=>nilK op x (k' n)):=by
 unfold nilK
 cases op<;>cases x<;>(try simp only)<;>first
  | exact aK.none
  | exact aK.bd λv=>h _
theorem aKI {op : BinOp} {t : Nat} {x y : DV} {k : DV→OR} {k' : Nat→DV→OR} (h : ∀ v,aK (k v) (λn=>k' n v)) : aK (binK X op t x y k) (λn=>binK X op t x y (k' n)):=by
 unfold binK
 cases (X.T.at t).d<;>(try simp only)<;>first
  | exact aK.none
  | skip
 ·cases x<;>cases y<;>(try simp only)<;>first
  | exact aK.none
  | exact aK.bd λv=>h _
 ·cases x<;>cases y<;>(try simp only)<;>first
  | exact aK.none
  | exact aK.bd λv=>h _
 ·cases x<;>cases y<;>(try simp only)<;>first
  | exact aK.none
  | exact aK.bd λv=>h _
 ·cases x<;>cases y<;>(try simp only)<;>first
   | exact aK.none
   | exact aK.bd λv=>h _
   | skip
  rename_i v
  cases v<;>cases op<;>(try simp only)<;>first
   | exact aK.none
   | exact h _
 ·cases y<;>(try simp only)<;>first
  | exact aK.none
  | exact aKH h
 ·unfold eqK
  cases eqKinds X 10 t with
  | none=>exact aK.none
  | some qs=>exact nI λas_=>nI λbs=>aAH λas_=>aAH λbs=>aK.bd λv=>h _
theorem zJ {d : DV} {s : St} {k : PV→OR} {k' : Nat→PV→OR} (h : ∀ v,aK (k v) (λn=>k' n v)) : aK (srcK d s k) (λn=>srcK d s (k' n)):=by
 cases d<;>simp only [srcK]<;>first
  | exact aK.none
  | exact h _
  | exact rF λo c=>aK.ite (h _) aK.none
theorem aJc {a b : Nat} {x : DV} {s : St} {k : DV→OR} {k' : Nat→DV→OR} (h : ∀ v,aK (k v) (λn=>k' n v)) : aK (convK X a b x s k) (λn=>convK X a b x s (k' n)):=by
 unfold convK
 cases (X.T.at a).d<;>cases (X.T.at b).d<;>(try simp only)<;>first
  | exact aK.none
  | skip
 ·cases x<;>(try simp only)<;>first
  | exact aK.none
  | exact aK.bd λv=>h _
 ·cases x<;>(try simp only)<;>first
  | exact aK.none
  | exact aK.bd λv=>h _
 ·rename_i e
  cases x<;>(try simp only)<;>first
   | exact aK.none
   | skip
  cases (X.T.at e).d<;>(try simp only)<;>first
   | exact aK.none
   | skip
  rename_i kk
  cases kk<;>(try simp only)<;>first
   | exact aK.none
   | exact aK.bd λv=>h _
 ·rename_i e
  cases (X.T.at e).d<;>(try simp only)<;>first
   | exact aK.none
   | skip
  rename_i kk
  cases kk<;>(try simp only)<;>first
   | exact aK.none
   | exact zJ λc=>aK.bd λy=>h _
theorem aEA {o : OTy} {d : DV} {s : St} {k : PV→St→OR} {k' : Nat→PV→St→OR} (h : ∀ v s,aK (k v s) (λn=>k' n v s)) : aK (appendedK o d s k) (λn=>appendedK o d s (k' n)):=by
 unfold appendedK
 exact aK.ite (zJ λy=>h _ _) (pO h)
theorem aC9 {o : OTy} {c : PV} {q : Option (PV × PV)} {k : PV→OR} {k' : Nat→PV→OR} (h : ∀ v,aK (k v) (λn=>k' n v)) : aK (pieceK o c q k) (λn=>pieceK o c q (k' n)):=by
 cases q with
 | none=>exact h _
 | some p=>exact aK.bd h
theorem aH0 {l : Nat} {path : dH} {q : Option (PV × PV)} {s : St} {k : DV→St→OR} {k' : Nat→DV→St→OR} (h : ∀ d s,aK (k d s) (λn=>k' n d s)) : aK (leaveK l path q s k) (λn=>leaveK l path q s (k' n)):=by
 unfold leaveK
 cases s.list l with
 | none=>exact aK.none
 | some w=>exact iV λo c=>aK.ite (aC9 λc1=>oU λc'=>h _ _) aK.none
theorem xW {l : Nat} {path : dH} {s : St} {k : Nat→St→OR} {k' : Nat→Nat→St→OR} (h : ∀ x s,aK (k x s) (λn=>k' n x s)) : aK (leaveRowK l path s k) (λn=>leaveRowK l path s (k' n)):=by
 unfold leaveRowK
 cases s.list l with
 | none=>exact aK.none
 | some w=>exact iV λ_ _=>aK.ite (oU λ_=>h _ _) aK.none
theorem mL {l : Nat} : ∀ {ds : List DV} {s : St} {k : List DV→St→OR} {k' : Nat→List DV→St→OR},(∀ ds s,aK (k ds s) (λn=>k' n ds s))→aK (leaveCells l ds s k) (λn=>leaveCells l ds s (k' n))
 | [],s,k,k',h=>h _ _
 | d::r,s,k,k',h=>by
   unfold leaveCells
   split
   ·exact aK.ite (xW λx s1=>mL λ_ _=>h _ _) (mL λ_ _=>h _ _)
   ·exact mL λ_ _=>h _ _
theorem aGZ {t : Nat} {a v : DV} {e : Env} {s : St} {k : Env→St→OR} {k' : Nat→Env→St→OR} (h : ∀ e s,aK (k e s) (λn=>k' n e s)) : aK (storeLK X t a v e s k) (λn=>storeLK X t a v e s (k' n)):=by
 unfold storeLK
 split
 ·exact mL λ_ _=>xU λ_ _=>aK.ite (h _ _) aK.none
 ·exact aH0 λ_ _=>xU λ_ _=>aK.ite (h _ _) aK.none
 ·exact xU h
theorem aF9 {d : DV} {te : Nat} {e : Env} {s : St} {l : Nat} {path : dH} {q : Option (PV × PV)} {k : DV→Env→St→OR} {k' : Nat→DV→Env→St→OR} (h : ∀ v e s,aK (k v e s) (λn=>k' n v e s)) : aK (appendK.nest X d te e s k l path q) (λn=>appendK.nest X d te e s (k' n) l path q):=by
 unfold appendK.nest
 cases s.list l with
 | none=>exact aK.none
 | some w=>
   exact iV λo c=>aK.ite (zJ λy=>aC9 λc=>oU λc'=>aK.bd λc2=>h _ _ _) aK.none
theorem aG0 {base d : DV} {te : Nat} {e : Env} {s : St} {k : DV→Env→St→OR} {k' : Nat→DV→Env→St→OR} (h : ∀ v e s,aK (k v e s) (λn=>k' n v e s)) : aK (appendK X base d te e s k) (λn=>appendK X base d te e s (k' n)):=by
 have plain : ∀ (q : Option OTy) (base : DV),aK (match q with
  | some o=>if fits X o te then appendedK o d s λy s=>sinkAs o s base λc s=>bd (PV.cat o.s o.e o.g c y) λc'=>k (.ref s.nl []) e (s.addList ⟨o,c'⟩) else none
  | none=>none) (λn=>match q with
  | some o=>if fits X o te then appendedK o d s λy s=>sinkAs o s base λc s=>bd (PV.cat o.s o.e o.g c y) λc'=>k' n (.ref s.nl []) e (s.addList ⟨o,c'⟩) else none
  | none=>none):=by
  intro q base
  cases q with
  | none=>exact aK.none
  | some o=>exact aK.ite (aEA λy s=>pO λc s=>aK.bd λc'=>h _ _ _) aK.none
 cases base with
 | ref l path=>
   cases path with
   | nil=>exact plain (baseTy X te s (.ref l [])) (.ref l [])
   | cons p r=>exact aF9 h
 | sref l path lo hi=>
   cases path with
   | nil=>exact plain (baseTy X te s (.sref l [] lo hi)) (.sref l [] lo hi)
   | cons p r=>exact aF9 h
 | p v=>exact plain (baseTy X te s (.p v)) (.p v)
 | nils=>exact plain (baseTy X te s .nils) .nils
 | agg cs=>exact plain (baseTy X te s (.agg cs)) (.agg cs)
 | tup cs=>exact plain (baseTy X te s (.tup cs)) (.tup cs)
 | fn f cs=>exact plain (baseTy X te s (.fn f cs)) (.fn f cs)
 | ptr b off=>exact plain (baseTy X te s (.ptr b off)) (.ptr b off)
 | bsl b n=>exact plain (baseTy X te s (.bsl b n)) (.bsl b n)
 | eptr l path i off=>exact plain (baseTy X te s (.eptr l path i off)) (.eptr l path i off)
 | fptr x s' g off=>exact plain (baseTy X te s (.fptr x s' g off)) (.fptr x s' g off)
 | bptr c off=>exact plain (baseTy X te s (.bptr c off)) (.bptr c off)
 | gptr l path i off=>exact plain (baseTy X te s (.gptr l path i off)) (.gptr l path i off)
 | nilq c neg=>exact plain (baseTy X te s (.nilq c neg)) (.nilq c neg)
 | dead=>exact plain (baseTy X te s .dead) .dead
theorem aGa {d : DV} {e : Env} {s : St} {k : Env→St→OR} {k' : Nat→Env→St→OR} (h : ∀ e s,aK (k e s) (λn=>k' n e s)) : aK (frz1 d e s k) (λn=>frz1 d e s (k' n)):=by
 unfold frz1
 split
 ·split
  ·exact h _ _
  ·exact h _ _
 ·exact h _ _
theorem uL : ∀ {fs : List (Nat × Option Nat)} {e : Env} {s : St} {k : Env→St→OR} {k' : Nat→Env→St→OR},(∀ e s,aK (k e s) (λn=>k' n e s))→aK (frzK fs e s k) (λn=>frzK fs e s (k' n))
 | [],_,_,_,_,h=>h _ _
 | (t,none)::r,e,s,k,k',h=>aGa λe s=>uL h
 | (t,some j)::r,e,s,k,k',h=>by
   unfold frzK
   generalize e.get t=d0
   cases d0<;>(try simp only)<;>first
    | exact uL h
    | skip
   rename_i b off
   cases s.box b with
   | none=>exact uL h
   | some cs=>exact aGa λe s=>uL h
theorem aDa {te : Nat} {src : DV} {s : St} {l : Nat} {w : Own} {lo hi : PV} {k : DV→St→OR} {k' : Nat→DV→St→OR} (h : ∀ v s,aK (k v s) (λn=>k' n v s)) : aK (copyK.go X te src s k l w lo hi) (λn=>copyK.go X te src s (k' n) l w lo hi):=by
 unfold copyK.go
 exact aK.ite (zJ λy=>aK.bd λn=>aK.bd λc=>h _ _) aK.none
theorem aJd {te : Nat} {dst src : DV} {s : St} {k : DV→St→OR} {k' : Nat→DV→St→OR} (h : ∀ v s,aK (k v s) (λn=>k' n v s)) : aK (copyK X te dst src s k) (λn=>copyK X te dst src s (k' n)):=by
 unfold copyK
 cases dst<;>(try simp only)<;>first
  | exact aK.none
  | skip
 ·rename_i l path
  cases path with
  | cons=>exact aK.none
  | nil=>
    dsimp only
    cases s.list l with
    | none=>exact aK.none
    | some w=>exact aK.bd λn=>aDa h
 ·rename_i l path lo hi
  cases path with
  | cons=>exact aK.none
  | nil=>
    dsimp only
    cases s.list l with
    | none=>exact aK.none
    | some w=>exact aDa h
end
structure EvO (O : Orc) (O' : Nat→Orc) : Prop where
 L : ∀ todo e s,aK (O.L todo e s) (λn=>(O' n).L todo e s)
 C : ∀ g args,aK (O.C g args) (λn=>(O' n).C g args)
 S : ∀ g args s,aK (O.S g args s) (λn=>(O' n).S g args s)
section
variable {X : Cx} {O : Orc} {O' : Nat → Orc}
theorem wF {l : R} : ∀ {cs : List DV} {a : OR} {a' : Nat→OR},aK a a'→aK (guardCells l cs a) (λn=>guardCells l cs (a' n))
 | [],_,_,h=>h
 | d::cs,a,a',h=>by
   have ih:=wF (l:=l) (cs:=cs) h
   cases d with
   | ref=>simp only [guardCells];exact ih
   | p v=>
     cases v with
     | int=>simp only [guardCells];exact aK.flat ih
     | _=>simp only [guardCells];exact aK.none
   | _=>simp only [guardCells];exact aK.none
theorem xX {l : R} : ∀ {cs : List DV} {a : OR} {a' : Nat→OR},aK a a'→aK (guardAggs l cs a) (λn=>guardAggs l cs (a' n))
 | [],_,_,h=>h
 | d::cs,a,a',h=>by
   have ih:=xX (l:=l) (cs:=cs) h
   cases d<;>(try simp only [guardAggs])<;>exact wF ih
theorem aFz {l : R} {d : DV} {a : OR} {a' : Nat→OR} (h : aK a a') : aK (guardRes l d a) (λn=>guardRes l d (a' n)):=by
 cases d<;>(try simp only [guardRes])<;>exact xX h
theorem xY {l : R} : ∀ {cs : List (Option Own)} {a : OR} {a' : Nat→OR},aK a a'→aK (guardRows l cs a) (λn=>guardRows l cs (a' n))
 | [],_,_,h=>h
 | none::_,_,_,_=>by simp only [guardRows];exact aK.none
 | some w::cs,a,a',h=>by
   simp only [guardRows]
   cases w.c<;>(try simp only)<;>first
    | exact aK.none
    | exact aK.own (xY h)
theorem aJe (hO : EvO O O') {f : Nat} {args : List DV} {s : St} {k : DV→St→OR} {k' : Nat→DV→St→OR} (h : ∀ v s,aK (k v s) (λn=>k' n v s)) : aK (pureK O f args s k) (λn=>pureK (O' n) f args s (k' n)):=by
 unfold pureK
 exact aK.ite (rO λvs=>aK.bd2 (hO.C _ _) λr=>aK.flat (h _ _)) (rO λvs=>aK.bd2 (hO.C _ _) λr=>h _ _)
theorem aJf (hO : EvO O O') {t : Tmpl} {f : Nat} {args : List DV} {s : St} {k : DV→St→OR} {k' : Nat→DV→St→OR} (h : ∀ v s,aK (k v s) (λn=>k' n v s)) : aK (lentK O t f args s k) (λn=>lentK (O' n) t f args s (k' n)):=by
 unfold lentK
 exact rO λvs=>aK.bd2 (hO.S _ _ _) λl=>aFz (xY (h _ _))
theorem aEB (hO : EvO O O') {ft : Foot} {n0 : Nat} {t : Tmpl} {f : Nat} {args : List DV} {s : St} {k : DV→St→List Nat→OR} {k' : Nat→DV→St→List Nat→OR} (h : ∀ v s l,aK (k v s l) (λn=>k' n v s l)) : aK (liveK O ft n0 t f args s k) (λn=>liveK (O' n) ft n0 t f args s (k' n)):=by
 unfold liveK
 exact aK.ite (aK.bd2 (hO.S _ _ _) λl=>h _ _ _) aK.none
theorem aFA {l : Nat} {path : dH} {x : Nat} {s : St} {k : St→OR} {k' : Nat→St→OR} (h : ∀ s,aK (k s) (λn=>k' n s)) : aK (backRowK l path x s k) (λn=>backRowK l path x s (k' n)):=by
 unfold backRowK
 cases s.list l with
 | none=>exact aK.none
 | some w=>
   refine aK.ite (pO λy s1=>?_) aK.none
   cases s1.list l with
   | none=>exact aK.none
   | some w1=>exact oU λ_=>h _
theorem aJg (hO : EvO O O') {f : Nat} {args : List DV} {ts : List Nat} {e : Env} {s : St} {k : DV→Env→St→OR} {k' : Nat→DV→Env→St→OR} (h : ∀ v e s,aK (k v e s) (λn=>k' n v e s)) : aK (callK X O f args ts e s k) (λn=>callK X (O' n) f args ts e s (k' n)):=by
 unfold callK
 cases X.mode f with
 | none=>exact aJe hO λ_ _=>h _ _ _
 | some t=>
   refine aK.ite (aJf hO λ_ _=>h _ _ _) ?_
   cases nestedArg t args with
   | none=>
     simp only [aAE]
     exact jT λargs s=>aEB hO λ_ _ _=>h _ _ _
   | some q=>
     obtain ⟨l,path,rest⟩:=q
     exact xW λx s1=>aEB hO λ_ _ _=>aK.ite aK.none (aFA λ_=>h _ _ _)
theorem aEC (hO : EvO O O') {v : PV} {vs : R} : aK (PV.apply O.C v vs) (λn=>PV.apply (O' n).C v vs):=by
 unfold PV.apply
 cases v<;>(try simp only)<;>first
  | exact aK.none
  | exact hO.C _ _
theorem aH1 (hO : EvO O O') {d : DV} {args : List DV} {ts : List Nat} {e : Env} {s : St} {k : DV→Env→St→OR} {k' : Nat→DV→Env→St→OR} (h : ∀ v e s,aK (k v e s) (λn=>k' n v e s)) : aK (applyK X O d args ts e s k) (λn=>applyK X (O' n) d args ts e s (k' n)):=by
 cases d<;>(try simp only [applyK])<;>first
  | exact aK.none
  | exact aJg hO h
  | exact aK.ite (rO λvs=>aK.bd2 (aEC hO) λr=>aK.flat (h _ _ _)) (rO λvs=>aK.bd2 (aEC hO) λr=>h _ _ _)
theorem aFB {b : Builtin} {ts : List Nat} {args : List DV} {e : Env} {s : St} {k : DV→Env→St→OR} {k' : Nat→DV→Env→St→OR} (h : ∀ v e s,aK (k v e s) (λn=>k' n v e s)) : aK (builtinK X b ts args e s k) (λn=>builtinK X b ts args e s (k' n)):=by
 unfold builtinK
 split
 ·exact aKG λn=>h _ _ _
 ·rename_i t u a d
  cases elemOf X t with
  | none=>exact aK.none
  | some te=>exact aK.ite (aG0 h) aK.none
 ·rename_i t u a d
  cases elemOf X t with
  | none=>exact aK.none
  | some te=>exact aJd λd s=>h _ _ _
 ·exact aK.bd λc=>h _ _ _
 ·exact aK.bd λc=>h _ _ _
 ·exact aK.none
theorem aCw (hO : EvO O O') {o : Oper} {e : Env} {s : St} {k : Kont} {k' : Nat→Kont} (h : ∀ e s,aK (k e s) (λn=>k' n e s)) : aK (exec X O o e s k) (λn=>exec X (O' n) o e s (k' n)):=by
 obtain ⟨dst,op,type,pos,after,guard⟩:=o
 cases op<;>simp only [exec]<;>try exact aK.none
 case move=>exact vJ λ_ _=>h _ _
 case assign=>exact vJ λ_ _=>h _ _
 case pick=>exact aJa λ_ _=>h _ _
 case alloc=>exact aHW λ_ _=>h _ _
 case box=>exact aKF λ_ _=>h _ _
 case build=>exact aGX λ_=>h _ _
 case buildSlice=>exact aCv λ_ _=>h _ _
 case makeSlice=>exact aDo λ_ _=>h _ _
 case load=>exact aEz λ_=>aI9 λ_=>h _ _
 case store=>exact aEz λ_=>aGZ λ_ _=>h _ _
 case nilCheck=>exact aEz λ_=>aEy λ_=>h _ _
 case binOp=>exact aKI λ_=>h _ _
 case unOp=>exact aJb λ_=>h _ _
 case convert=>exact aJc λ_=>h _ _
 case makeFunc fn first caps=>
  cases fn<;>(try simp only)<;>first
   | exact aK.none
   | exact aK.ite (h _ _) aK.none
 case slice t x lo hi mx=>
  cases mx with
  | none=>exact aHZ λ_=>h _ _
  | some _=>exact aGY λ_ _=>h _ _
 case fieldAddr=>exact aDp λ_=>h _ _
 case field=>exact aHY λ_=>h _ _
 case indexAddr=>exact aDq λ_=>h _ _
 case index=>exact aHX λ_=>h _ _
 case extract=>exact aFy λ_=>h _ _
 case call c=>
  cases c.callee with
  | value f=>exact aH1 hO λ_ _ _=>h _ _
  | builtin b=>exact aFB λ_ _ _=>h _ _
  | invoke _ _=>exact aK.none
theorem hY (hO : EvO O O') {ops : Array Oper} {draw : Bool} : ∀ {r : List Oper} {i : Nat} {acc : List (Nat × Foot)} {e : Env} {s : St} {k : Kont} {k' : Nat→Kont},(∀ e s,aK (k e s) (λn=>k' n e s))→aK (execOps X O ops draw i acc r e s k) (λn=>execOps X (O' n) ops draw i acc r e s (k' n))
 | [],i,acc,e,s,k,k',h=>by
  unfold execOps
  exact aK.ite aK.none (h _ _)
 | o::r,i,acc,e,s,k,k',h=>by
   unfold execOps
   simp only [stf,stp]
   cases o.guard with
   | none=>exact aCw hO λe s'=>aK.ite (hY hO h) aK.none
   | some p=>
     obtain ⟨j,want⟩:=p
     simp only
     cases guardDst ops.toList j with
     | none=>exact aK.none
     | some t=>
       simp only
       generalize e.get t=d0
       have hskip:=hY (ops:=ops) (draw:=draw) (r:=r) (i:=i+1) (acc:=if draw then (i,Foot.none)::acc else []) (e:=put o.dst (.tup []) e) (s:={ s with nb:=s.base+16*i,nl:=s.base+16*i}) hO h
       cases d0<;>(try simp only)<;>first
        | exact aK.none
        | (rename_i cs;cases cs with
           | nil=>exact hskip
           | cons=>exact aK.none)
        | exact aK.pvite (aK.ite (aCw hO λe s'=>aK.ite (hY hO h) aK.none) (hY hO h)) (aK.ite (hY hO h) (aCw hO λe s'=>aK.ite (hY hO h) aK.none))
theorem zK (hO : EvO O O') : ∀ (m : Nat) (first : Bool) (todo : List Item) (e : Env) (s : St),aK (eval X O m first todo e s) (λn=>eval X (O' n) m first todo e s)
 | 0,_,_,_,_=>by simp only [eval];exact aK.none
 | m+1,first,todo,e,s=>by
   have ih:=zK hO m
   cases todo with
   | nil=>simp only [eval];exact aK.rfl _
   | cons x k=>
   cases x with
   | inBlock id=>simp only [eval];exact ih _ _ _ _
   | inScope c=>simp only [eval];exact ih _ _ _ _
   | inLoop c=>simp only [eval];exact ih _ _ _ _
   | code c=>
     cases c<;>simp only [eval]<;>first
      | exact aK.none
      | exact aK.rfl _
      | exact ih _ _ _ _
      | skip
     case exit id=>
      cases exitTo id k with
      | none=>exact aK.none
      | some k'=>exact ih _ _ _ _
     case goto l=>
      cases gotoIn l k with
      | none=>exact aK.none
      | some k'=>exact ih _ _ _ _
     case cond c a b=>
      generalize ev X e c=d0
      cases d0<;>(try simp only)<;>first
       | exact aK.none
       | exact aK.nilT (ih _ _ _ _) (ih _ _ _ _)
       | skip
      cases c<;>(try simp only)<;>exact aK.pvite (ih _ _ _ _) (ih _ _ _ _)
     case region id ops draw=>
      refine uL λe s=>?_
      cases first with
      | true=>exact hY hO λe s=>ih _ _ _ _
      | false=>
        cases X.cut id with
        | none=>exact hY hO λe s=>ih _ _ _ _
        | some keep=>exact hO.L _ _ _
   | _=>simp only [eval];exact aK.none
end
section
variable (P : Program) (T : Tab) (H : Hints)
def sK (f nb nl : Nat) (out : Option Tmpl) (todo : List Item) (e : Env) (s : St) : OR:=
 open Classical in if h : ∃ r,∃ n,runN P T H n f nb nl out todo e s=some r then some h.choose else none
end
section
variable {P : Program} {T : Tab} {H : Hints}
theorem aK.le {β : Type} {a b : Option β} (h : ∀ r,a=some r→b=some r) : aK a (λ_=>b):=λr hr=>⟨0,λ_ _=>h r hr⟩
theorem aK.of {β : Type} {a b : Option β} (h : aK a (λ_=>b)) : ∀ r,a=some r→b=some r:=λr hr=>let ⟨N,hN⟩:=h r hr;hN N (Nat.le_refl _)
theorem aED {run : Nat→Nat→Nat→Option Tmpl→List Item→Env→St→OR} {run' : Nat→Nat→Nat→Nat→Option Tmpl→List Item→Env→St→OR}
 (h : ∀ f nb nl out todo e s,aK (run f nb nl out todo e s) (λn=>run' n f nb nl out todo e s)) (f nb nl : Nat) (out : Option Tmpl) : EvO (orcOf P H run f nb nl out) (λn=>orcOf P H (run' n) f nb nl out) where
 L:=λtodo e s=>h _ _ _ _ _ _ _
 C:=λg args=>by
  simp only [orcOf]
  cases H.prim g with
  | none=>exact h _ _ _ _ _ _ _
  | some p=>exact aK.rfl _
 S:=λg args s=>by
  simp only [orcOf]
  cases H.mode g with
  | none=>exact aK.none
  | some t=>cases H.primS g with
    | none=>exact h _ _ _ _ _ _ _
    | some p=>exact aK.rfl _
theorem aGb : ∀ (n f nb nl : Nat) (out : Option Tmpl) (todo : List Item) (e : Env) (s : St) (r : R),runN P T H n f nb nl out todo e s=some r→runN P T H (n+1) f nb nl out todo e s=some r
 | 0,_,_,_,_,_,_,_,_,h=>by simp [runN] at h
 | n+1,f,nb,nl,out,todo,e,s,r,h=>by
   have ih:=aGb n
   unfold runN at h ⊢
   exact (zK (aED (run':=λ_=>runN P T H (n+1)) (λf nb nl out todo e s=>aK.le (ih f nb nl out todo e s)) f nb nl out) evalFuel true todo e s).of r h
theorem aG1 {n n' f nb nl : Nat} {out : Option Tmpl} {todo : List Item} {e : Env} {s : St} {r : R} (h : runN P T H n f nb nl out todo e s=some r) (hn : n≤n') : runN P T H n' f nb nl out todo e s=some r:=by
 induction hn with
 | refl=>exact h
 | step _ ih=>exact aGb _ _ _ _ _ _ _ _ _ ih
theorem aJU {n f nb nl : Nat} {out : Option Tmpl} {todo : List Item} {e : Env} {s : St} {r : R} (h : runN P T H n f nb nl out todo e s=some r) : sK P T H f nb nl out todo e s=some r:=by
 unfold sK
 have hex : ∃ r,∃ n,runN P T H n f nb nl out todo e s=some r:=⟨r,n,h⟩
 rw [dif_pos hex]
 obtain ⟨n',h'⟩:=hex.choose_spec
 have h1:=aG1 h (Nat.le_max_left n n')
 have h2:=aG1 h' (Nat.le_max_right n n')
 rw [h1] at h2
 exact h2.symm
theorem zL {f nb nl : Nat} {out : Option Tmpl} {todo : List Item} {e : Env} {s : St} {r : R} (h : sK P T H f nb nl out todo e s=some r) : ∃ n,runN P T H n f nb nl out todo e s=some r:=by
 unfold sK at h
 split at h
 ·rename_i hex
  cases h
  exact hex.choose_spec
 ·cases h
theorem aKJ (f nb nl : Nat) (out : Option Tmpl) (todo : List Item) (e : Env) (s : St) : aK (sK P T H f nb nl out todo e s) (λn=>runN P T H n f nb nl out todo e s):=by
 intro r hr
 obtain ⟨n,hn⟩:=zL hr
 exact ⟨n,λn' h'=>aG1 hn h'⟩
theorem aJV (f nb nl : Nat) (out : Option Tmpl) (todo : List Item) (e : Env) (s : St) :
 sK P T H f nb nl out todo e s=eval (cxOf P T H f nb nl out) (orcOf P H (sK P T H) f nb nl out) evalFuel true todo e s:=by
 cases h : eval (cxOf P T H f nb nl out) (orcOf P H (sK P T H) f nb nl out) evalFuel true todo e s with
 | some r=>
   obtain ⟨N,hN⟩:=zK (aED (run':=λn=>runN P T H n) aKJ f nb nl out) evalFuel true todo e s r h
   refine aJU (n:=N+1) ?_
   unfold runN
   exact hN N (Nat.le_refl _)
 | none=>
   cases h' : sK P T H f nb nl out todo e s with
   | none=>rfl
   | some r=>
     exfalso
     obtain ⟨n,hn⟩:=zL h'
     cases n with
     | zero=>simp [runN] at hn
     | succ n=>
       unfold runN at hn
       have:=(zK (aED (run':=λ_=>sK P T H) (λf nb nl out todo e s=>aK.le (λr h=>aJU h)) f nb nl out) evalFuel true todo e s).of r hn
       rw [h] at this
       cases this
def aLE (P : Program) (T : Tab) (H : Hints) (f : Nat) (args : R) : OR:=(orcOf P H (sK P T H) 0 0 0 none).C f args
def aNc (P : Program) (T : Tab) (H : Hints) (f : Nat) (args : List DV) (s : St) : OR:=(orcOf P H (sK P T H) 0 0 0 none).S f args s
theorem aMx (hy : Hyp P T H) : aJT P (sK P T H):=by
 intro f nb nl out todo e s r fn h hfn hok
 obtain ⟨n,hn⟩:=zL h
 exact aF8 hy n f nb nl out todo e s r fn hn hfn hok
theorem aMy : aLC P (sK P T H):=by
 intro f nb nl out e s r h
 obtain ⟨n,hn⟩:=zL h
 exact aAF hn
theorem aH2 (hy : Hyp P T H) {f : Nat} {args : R} {r : R} (h : aLE P T H f args=some r) {w : World} {bD : Array Value} {Z : NP} (hz : ZOk w Z) (hl : args.length=bD.size)
 (hr : ∀ (i : Nat) x v,args[i]? = some x→bD[i]? = some v→gD w Z x v) : Calls P f bD w (λe w'=>∃ v,e = .returned v∧∃ Z',aDH w w' Z Z'∧gD w' Z' (hd r) v):=
 (aHT hy (aMx hy) aMy 0 0 0 none f args r h).2 w Z bD hz hl hr
theorem aJW (f nb nl : Nat) (out : Option Tmpl) (todo : List Item) (e : Env) (s : St) (r : OR) (h : eval (cxOf P T H f nb nl out) (orcOf P H (sK P T H) f nb nl out) evalFuel true todo e s=r) : sK P T H f nb nl out todo e s=r:=
 (aJV f nb nl out todo e s).trans h
theorem aLF (f : Nat) (hp : H.prim f=none) (args : R) (r : OR) (h : eval (cxOf P T H f 0 0 none) (orcOf P H (sK P T H) f 0 0 none) evalFuel true (startOf P f) (argEnv 0 (args.map .p)) ⟨[],[],0,0,0⟩=r) : aLE P T H f args=r:=by
 show (match H.prim f with | some h=>h args | none=>sK P T H f 0 0 none (startOf P f) (argEnv 0 (args.map .p)) ⟨[],[],0,0,0⟩)=r
 rw [hp]
 exact aJW _ _ _ _ _ _ _ _ h
theorem aLG (f : Nat) (hp : H.primS f=none) (args : List DV) (s : St) (r : OR) (h : (match H.mode f with | some t=>eval (cxOf P T H f s.boxes.length (if t.keep then s.lists.length else 0) (some (t.fit s))) (orcOf P H (sK P T H) f s.boxes.length (if t.keep then s.lists.length else 0) (some (t.fit s))) evalFuel true (startOf P f) (argEnv 0 args) s | none=>none)=r) : aNc P T H f args s=r:=by
 show (match H.mode f with | some t=>(match H.primS f with | some h=>h args s | none=>sK P T H f s.boxes.length (if t.keep then s.lists.length else 0) (some (t.fit s)) (startOf P f) (argEnv 0 args) s) | none=>none)=r
 rw [← h,hp]
 cases H.mode f with
 | none=>rfl
 | some t=>exact aJV _ _ _ _ _ _ _
end
def aNR (f nb nl : Nat) (out : Option Tmpl) (todo : List Item) (e : Env) (s : St) : OR:=sK Tryz.prog T lK f nb nl out todo e s
def aY (f : Nat) (args : R) : OR:=aLE Tryz.prog T lK f args
def cP (f : Nat) (args : List DV) (s : St) : OR:=aNc Tryz.prog T lK f args s
def orc (f nb nl : Nat) (out : Option Tmpl) : Orc:=orcOf Tryz.prog lK (sK Tryz.prog T lK) f nb nl out
theorem bB (f nb nl : Nat) (out : Option Tmpl) (todo : List Item) (e : Env) (s : St) (r : OR) (h : eval (cxOf Tryz.prog T lK f nb nl out) (orc f nb nl out) evalFuel true todo e s=r) : aNR f nb nl out todo e s=r:=aJW f nb nl out todo e s r h
theorem aX (f : Nat) (args : R) (r : OR) (h : (match lK.prim f with | some p=>p args | none=>eval (cxOf Tryz.prog T lK f 0 0 none) (orc f 0 0 none) evalFuel true (startOf Tryz.prog f) (argEnv 0 (args.map .p)) ⟨[],[],0,0,0⟩)=r) : aY f args=r:=by
 cases hp : lK.prim f with
 | none=>rw [hp] at h;exact aLF f hp args r h
 | some p=>rw [hp] at h;rw [← h];show (match lK.prim f with | some h=>h args | none=>_)=_;rw [hp]
theorem bT (f : Nat) (args : List DV) (s : St) (r : OR) (h : (match lK.mode f with | some t=>(match lK.primS f with | some p=>p args s | none=>eval (cxOf Tryz.prog T lK f s.boxes.length (if t.keep then s.lists.length else 0) (some (t.fit s))) (orc f s.boxes.length (if t.keep then s.lists.length else 0) (some (t.fit s))) evalFuel true (startOf Tryz.prog f) (argEnv 0 args) s) | none=>none)=r) : cP f args s=r:=by
 cases hp : lK.primS f with
 | none=>simp only [hp] at h;exact aLG f hp args s r h
 | some p=>
   simp only [hp] at h
   rw [← h]
   show (match lK.mode f with | some t=>(match lK.primS f with | some h=>h args s | none=>_) | none=>none)=_
   rw [hp]
set_option maxRecDepth 100000 in
theorem aJX : (Tryz.prog.funcs.toList.all λf=>match f.body with | some c=>codeOk f.ntmps c&&(f.name != "runtime.NumGoroutine") | none=>true)=true:=by kernel_rfl
theorem aMz : Tryz.prog.follows .mixedOrders=true:=by kernel_rfl
theorem aNS : (aJL.all λp=>p.2.wf)=true:=by kernel_rfl
theorem aLH {m m' : aV} {s s' : St} {l : Nat} {scr : DV→DV} {w : Own} {v : Value} {t : Tmpl} (hf : fS m s s.base)
 (G : bJ m m' (s.at s.base) s' (λ_=>True) (λ_=>True) (λb=>b∈([] : List Nat)∨true=true) (λl=>l∈([] : List Nat)∨true=true) s.base scr) (hl : s'.list l=some w) (hv : m'.rd (.ref l []) v)
 (ht : t.res = .ref 0 []∧t.boxes = []∧t.lists = [some ⟨w.o,.int .i64 0⟩]) : rM m 0 0 (some t) [w.c] v m'.w:=by
 have hf':=(bJ.full (f:=⟨[],[],[],[],true,true⟩) hf G).1
 have hb : ∀ b∈([] : List Nat),m'.s.box b=s'.box b:=λb _=>hf'.box b
 have hl' : ∀ x∈[l],m'.s.list x=s'.list x:=λx _=>hf'.list x
 have pf:=zH (a:=⟨[],[l]⟩) hf'.inv hb hl' List.nodup_nil (by simp)
 have fw:=aEk (a:=⟨[],[l]⟩) hf' 0 0 (λb h=>by omega) (λb h=>by omega)
 refine ⟨m'.pick [] [l] (s'.pick ⟨[],[l]⟩),rfl,pf.inv,(G.step.fwd hf.inv 0 0).trans fw,?_⟩
 refine ⟨.ref 0 [],s',⟨[],[l]⟩,?_,?_,pf,λx hx=>hx.1,λx hx=>hx.1⟩
 ·unfold Tmpl.read
  rw [ht.1,ht.2.1,ht.2.2]
  have e1 : (s'.pick ⟨[],[l]⟩).boxes = []:=rfl
  have e2 : (s'.pick ⟨[],[l]⟩).lists = [(0,some w)]:=by
   show [(0,s'.list l)]=_
   rw [hl]
  rw [e1,e2]
  simp [readD,readB,readO,OTy.same_refl]
 ·have:=aEj (a:=⟨[],[l]⟩) hl' deep hv
  have e : ren (idx · [] 0) (idx · [l] 0) deep (.ref l []) = .ref 0 []:=by
   simp [deep,ren,ren1,idx]
  rw [e] at this
  exact this
end
noncomputable section
open Go Go.Lib
section
variable {w : World} {b off n c i vb voff vc : Nat} {cells vcells : Array Value} {ety vty : TypeId}
theorem aJY {w : World} {b o : Nat} {cells : Array Value} {e : TypeId} {fz : Nat × Nat} (h : w.heap[b]? = some (.cells cells e fz)) : w.cell? ⟨b,o,none⟩=cells[o]?:=by
 simp [World.cell?,h]
def pZ (cells : Array Value) (o k : Nat) : List Value:=(cells.toList.drop o).take k
theorem cQ {cells : Array Value} {o k : Nat} (h : o+k≤cells.size) : (pZ cells o k).length=k:=by
 simp [pZ];omega
theorem kZ {cells : Array Value} {o k j : Nat} (hj : j<k) : (pZ cells o k)[j]? = cells[o+j]?:=by
 unfold pZ
 rw [List.getElem?_take_of_lt hj,List.getElem?_drop,Array.getElem?_toList]
theorem aDK {cells : Array Value} {o k : Nat} {v : Value} (h : v∈pZ cells o k) : ∃ j : Nat,j<k∧cells[o+j]? = some v:=by
 obtain ⟨j,hj⟩:=List.getElem?_of_mem h
 by_cases hk : j<k
 ·exact ⟨j,hk,by rw [← hj,kZ hk]⟩
 ·exfalso
  have:=(List.getElem?_eq_some_iff.1 hj).1
  simp [pZ] at this
  omega
theorem kL {P : Program} {w : World} {b o s k len cap : Nat} {cells : Array Value} {e : TypeId} {fz : Nat × Nat} (hh : w.heap[b]? = some (.cells cells e fz)) (hl : o+k*s≤cells.size) :
 (Builtin.firstCells s k (.slice (some ⟨b,o,none⟩) len cap)).run P w = .ok (pZ cells o (k*s)).toArray w:=
 run_firstCells_some w s k ⟨b,o,none⟩ len cap _ (cQ hl) λj v hj=>by
  have hlt:=(List.getElem?_eq_some_iff.1 hj).1
  rw [cQ hl] at hlt
  rw [hU,aJY hh,← kZ hlt]
  exact hj
theorem rQ {P : Program} {w : World} {b o : Nat} {vs : List Value} {cells : Array Value} {e : TypeId} (hh : w.heap[b]? = some (.cells cells e (0,0))) (hl : o+vs.length≤cells.size) (h1 : ∀ v∈vs,bZ v) :
 (storeCells ⟨b,o,none⟩ vs).run P w = .ok () (w.setCells b o vs):=by
 have:=run_storeCells_cells (P:=P) b o vs 0 w (λj hj=>by
  rw [Nat.add_zero,aJY hh,Array.getElem?_eq_getElem (by omega)];rfl) (λj _=>by simp [World.frozen?,hh]) (λv hv=>uZ (h1 v hv))
 simpa using this
end
def aJh (w' : World) (b : Nat) (old : Nat→Option Value) (vcells : Array Value) (voff n i : Nat) (v : Value) : Prop:=∃ (o' cap : Nat) (cells' : Array Value) (ety : TypeId),
 v = .slice (some ⟨b,o',none⟩) (n+1) cap∧w'.heap[b]? = some (.cells cells' ety (0,0))∧o'+cap*4≤cells'.size∧n+1≤cap∧
 (∀ q,q<i*4→cells'[o'+q]? = old q)∧(∀ q,q<4→cells'[o'+i*4+q]? = vcells[voff+q]?)∧(∀ q,q<(n - i)*4→cells'[o'+(i+1)*4+q]? = old (i*4+q))
def aEE (w w' : World) (b : NP) : Prop:=(∀ r,r<w.heap.size→¬ b r→w'.heap[r]? = w.heap[r]?)∧w.heap.size≤w'.heap.size∧w'.os=w.os∧w'.tape=w.tape∧w'.output=w.output
theorem aJZ {xs : R} {y : PV} {i : Nat} (hi : i≤xs.length) (k : Nat) : (xs.take i++y::xs.drop i)[k]? = if k<i then xs[k]? else if k=i then some y else xs[k - 1]?:=by
 have hl : (xs.take i).length=i:=by rw [List.length_take];omega
 by_cases h : k<i
 ·rw [if_pos h,List.getElem?_append_left (by omega),List.getElem?_take_of_lt h]
 ·rw [if_neg h,List.getElem?_append_right (by omega),hl]
  by_cases h2 : k=i
  ·subst h2;rw [if_pos rfl,Nat.sub_self];rfl
  ·rw [if_neg h2]
   obtain ⟨q,rfl⟩ : ∃ q,k=i+(q+1):=⟨k - i - 1,by omega⟩
   rw [show i+(q+1) - i=q+1 by omega,List.getElem?_cons_succ,List.getElem?_drop,show i+(q+1) - 1=i+q by omega]
theorem wP.ins {w : World} {Z : NP} {o : OTy} {xs : R} {y : PV} {cv dv : Nat→Nat→Value} {i : Nat} (E : wP w Z o xs cv (λ_ _ _=>False)) (D : wP w Z o [y] dv (λ_ _ _=>False)) (hi : i≤xs.length) :
 wP w Z o (xs.take i++y::xs.drop i) (λk j=>if k<i then cv k j else if k=i then dv 0 j else cv (k - 1) j) (λ_ _ _=>False) where
 el:=λk x hx=>by
  rw [aJZ hi] at hx
  split at hx
  ·exact E.el _ _ hx
  ·split at hx
   ·exact D.el 0 _ hx
   ·exact E.el _ _ hx
 one:=λk j hk hj=>by
  simp only [List.length_append,List.length_cons,List.length_take,List.length_drop] at hk
  split
  ·exact E.one _ _ (by omega) hj
  ·split
   ·exact D.one 0 _ (by simp) hj
   ·exact E.one _ _ (by omega) hj
 rep:=λk j x hx hj=>by
  rw [aJZ hi] at hx
  split at hx
  ·rename_i h;rw [if_pos h];exact E.rep _ _ _ hx hj
  ·rename_i h;rw [if_neg h]
   split at hx
   ·rename_i h2;rw [if_pos h2];exact D.rep 0 _ _ hx hj
   ·rename_i h2;rw [if_neg h2];exact E.rep _ _ _ hx hj
 fd:=λ_ _ _ _ _ _ _ _ _ h=>h.elim
theorem aLI {i : Int} {c d : PV} {r : R} (h : aLu i c d=some r) : ∃ xs y,c = .lst xs∧d = .lst [y]∧0≤i∧i≤xs.length∧xs.length≤1000000∧r = [.lst (xs.take i.toNat++y::xs.drop i.toNat)]:=by
 unfold aLu at h
 split at h
 ·rename_i xs y
  split at h
  ·rename_i hc;cases h;exact ⟨xs,y,rfl,rfl,hc.1,hc.2.1,hc.2.2,rfl⟩
  ·cases h
 ·cases h
section
variable {w : World} {b off n c i vb voff vc : Nat} {cells vcells : Array Value} {ety vty : TypeId} {olds : List Value}
set_option maxRecDepth 100000 in
theorem zM : ∃ i0 : TypeInfo,Tryz.prog.info? 67=some i0∧i0.size=4∧i0.bytes=32∧i0.zero=some (.agg #[.int .i64 0,.int .i64 0,.int .i64 0,.int .i64 0]):=by
 have h : (Tryz.prog.info? 67).map (λi=>(i.size,i.bytes,i.zero))=some (4,32,some (.agg #[.int .i64 0,.int .i64 0,.int .i64 0,.int .i64 0])):=by kernel_rfl
 cases hi : Tryz.prog.info? 67 with
 | none=>rw [hi] at h;cases h
 | some i=>rw [hi] at h;simp at h;exact ⟨i,rfl,h.1,h.2.1,h.2.2⟩
set_option maxHeartbeats 4000000 in
set_option maxRecDepth 100000 in
theorem aG2 (hroom : n+1≤c) (hb : w.heap[b]? = some (.cells cells ety (0,0))) (hc : off+c*4≤cells.size)
 (hv : w.heap[vb]? = some (.cells vcells vty (0,0))) (hvc : voff+1*4≤vcells.size) (h1 : ∀ v∈pZ vcells voff (1*4),bZ v) :
 Calls Tryz.prog 57 #[.slice (some ⟨b,off,none⟩) n c,.int .i64 n,.slice (some ⟨vb,voff,none⟩) 1 vc] w λe w'=>
  e = .returned (.slice (some ⟨b,off,none⟩) (n+1) c)∧w'=w.setCells b (off+n*4) (pZ vcells voff (1*4)):=by
 obtain ⟨i0,hi0,his,hib,hiz⟩:=zM
 have hrun : ∀ ty,(Builtin.append_ #[40,40] ty #[.slice (some ⟨b,off,none⟩) n c,.slice (some ⟨vb,voff,none⟩) 1 vc]).run Tryz.prog w = .ok (.slice (some ⟨b,off,none⟩) (n+1) c) (w.setCells b (off+n*i0.size) (pZ vcells voff (1*4))):=λty=>
  qG Tryz.underlying40 (.inl ⟨_,Tryz.underlying40⟩) hi0 rfl (by rw [his];exact kL hv hvc) hroom (rQ hb (by rw [cQ hvc,his];omega) h1)
 rw [his] at hrun
 go_enter Tryz.func57,Tryz.ntmps57
 go_wp2_with (at_builtin;refine Lib.wpList_append_run _ rfl _ _ _ _ rfl _ _ rfl rfl _ _ (hrun _) ?_)
 go_ret
 exact ⟨rfl,rfl⟩
set_option maxHeartbeats 4000000 in
set_option maxRecDepth 100000 in
theorem aBB {base : Option Addr} (hroom : c<n+1) (hbig : (n+1)*32≤140737488355328)
 (hold : olds = []∧n=0∨∃ a cells ety,base=some ⟨b,a,none⟩∧w.heap[b]? = some (.cells cells ety (0,0))∧olds=pZ cells a (n*4)∧a+n*4≤cells.size)
 (hv : w.heap[vb]? = some (.cells vcells vty (0,0))) (hvc : voff+1*4≤vcells.size) :
 Calls Tryz.prog 57 #[.slice base n c,.int .i64 n,.slice (some ⟨vb,voff,none⟩) 1 vc] w λe w'=>
  e = .returned (.slice (some ⟨w.heap.size,0,none⟩) (n+1) (grownCap w (n+1) c 67))∧
  w'=w.drew.alloc (.cells ((olds++pZ vcells voff (1*4)).toArray++Builtin.zeroCells (Value.agg #[.int .i64 0,.int .i64 0,.int .i64 0,.int .i64 0]).cells (grownCap w (n+1) c 67 - (n+1))) 67):=by
 obtain ⟨i0,hi0,his,hib,hiz⟩:=zM
 have ho : (Builtin.firstCells i0.size n (.slice base n c)).run Tryz.prog w.drew = .ok olds.toArray w.drew:=by
  rcases hold with ⟨h1,h2⟩ | ⟨a,cells,ety,h1,h2,h3,h4⟩
  ·rw [h1,h2]
   cases base with
   | none=>simp [Builtin.firstCells]
   | some a=>exact run_firstCells_some w.drew i0.size 0 a 0 c [] (by simp) (by simp)
  ·rw [h1,h3,his];exact kL (w:=w.drew) h2 h4
 have hrun : ∀ ty,(Builtin.append_ #[40,40] ty #[.slice base n c,.slice (some ⟨vb,voff,none⟩) 1 vc]).run Tryz.prog w=_:=λty=>
  qH (w:=w) Tryz.underlying40 (.inl ⟨_,Tryz.underlying40⟩) hi0 hiz (sCap:=c) (x:=.slice (some ⟨vb,voff,none⟩) 1 vc) (n:=1) rfl (by rw [his];exact kL (w:=w.drew) hv hvc) ho hroom (by omega) (by rw [hib];exact growslice_fits hroom hbig)
 simp only [List.append_toArray] at hrun
 clear hold ho
 cases base with
 | none=>
   go_enter Tryz.func57,Tryz.ntmps57
   go_wp2_with (at_builtin;refine Lib.wpList_append_run _ rfl _ _ _ _ rfl _ _ rfl rfl _ _ (hrun _) ?_)
   all_goals (go_ret;exact ⟨rfl,rfl⟩)
 | some a=>
   obtain ⟨ab,ao,asp⟩:=a
   go_enter Tryz.func57,Tryz.ntmps57
   go_wp2_with (at_builtin;refine Lib.wpList_append_run _ rfl _ _ _ _ rfl _ _ rfl rfl _ _ (hrun _) ?_)
   all_goals (go_ret;exact ⟨rfl,rfl⟩)
set_option maxHeartbeats 4000000 in
set_option maxRecDepth 100000 in
theorem aKK (hi : i<n) (hbig : n≤1000000) (hroom : n+1≤c) (hb : w.heap[b]? = some (.cells cells ety (0,0))) (hc : off+c*4≤cells.size) (hvb : vb≠b)
 (hv : w.heap[vb]? = some (.cells vcells vty (0,0))) (hvc : voff+1*4≤vcells.size) (h1 : ∀ v∈pZ vcells voff (1*4),bZ v) (h2 : ∀ v∈pZ cells off (n*4),bZ v) :
 Calls Tryz.prog 57 #[.slice (some ⟨b,off,none⟩) n c,.int .i64 i,.slice (some ⟨vb,voff,none⟩) 1 vc] w λe w'=>
  e = .returned (.slice (some ⟨b,off,none⟩) (n+1) c)∧w'=(w.drew.setCells b (off+(i+1)*4) (pZ cells (off+i*4) ((n - i)*4))).setCells b (off+i*4) (pZ vcells voff (1*4)):=by
 obtain ⟨i0,hi0,his,hib,hiz⟩:=zM
 have hz2 : ¬ ((i : Int)=(n : Int)):=by omega
 have mixed : Tryz.prog.follows Departure.mixedOrders=true:=by kernel_rfl
 have hcells : (n+1)*4≤c*4:=Nat.mul_le_mul_right _ hroom
 have hov : ∀ lb cb,(callFunc 104 #[.slice (some ⟨vb,voff,none⟩) 1 vc,.slice (some ⟨b,off+(i+1)*4,none⟩) lb cb]).run Tryz.prog w = .ok (.value (.bool false)) w:=λlb cb=>by
  rw [run_callFunc_extern Tryz.func104 (by kernel_rfl) (by kernel_rfl) (by kernel_rfl) (e:=Extern.SlicesOverlaps.overlaps #[40,40] #[4]) (by kernel_rfl),
   Lib.run_overlaps_apart w 40 4 67 Tryz.underlying40 4 Tryz.sizeOf67 ⟨vb,voff,none⟩ ⟨b,off+(i+1)*4,none⟩ 1 vc lb cb hvb vty ety vcells.size cells.size (by simp [World.shape?,hv]) (by simp [World.shape?,hb]) (by omega) (by simp [World.frozen?,hv]) (by simp [World.frozen?,hv])]
  rfl
 have hw1 : IntKind.i64.wrap ((i : Int)+(1 : Int))=(i : Int)+(1 : Int):=by rw [IntKind.wrap_i64];omega
 have hb1 : (0 : Int)≤(i : Int)+(1 : Int):=by omega
 have hin : i≤n:=by omega
 have htn : ((i : Int)+(1 : Int)).toNat=i+1:=by omega
 have hb2 : ¬ (c=i+1):=by omega
 have hb3 : (i : Int)≤(n : Int)+(1 : Int):=by omega
 have hb4 : ¬ (c=i):=by omega
 have hsl : off+i*4+(n - i)*4≤cells.size:=by omega
 have hcp1 : ∀ ty dc sc,(Builtin.copy_ #[40,40] ty #[.slice (some ⟨b,off+(i+1)*4,none⟩) (n - i) dc,.slice (some ⟨b,off+i*4,none⟩) (n+1 - i) sc]).run Tryz.prog w.drew = .ok (goInt (Nat.min (n+1 - i) (n - i))) (w.drew.setCells b (off+(i+1)*4) (pZ cells (off+i*4) ((n - i)*4))):=λty dc sc=>by
  refine nO (w:=w.drew) Tryz.underlying40 hi0 rfl ?_ (rQ (w:=w.drew) hb (by rw [cQ hsl];omega) (λv hv=>?_))
  ·rw [his,show Nat.min (n+1 - i) (n - i)=n - i by simp only [Nat.min_def];split<;>omega]
   exact kL (w:=w.drew) hb hsl
  ·obtain ⟨j,hj,hx⟩:=aDK hv
   refine h2 v (List.mem_of_getElem? (i:=i*4+j) ?_)
   rw [kZ (by omega),← Nat.add_assoc];exact hx
 obtain ⟨W1,hW1⟩ : ∃ W1,W1=w.drew.setCells b (off+(i+1)*4) (pZ cells (off+i*4) ((n - i)*4)):=⟨_,rfl⟩
 obtain ⟨cells',c1,c2,c3,c4⟩:=dK (pZ cells (off+i*4) ((n - i)*4)) (off+(i+1)*4) w.drew cells hb (by rw [cQ hsl];omega)
 have hWv : W1.heap[vb]? = some (.cells vcells vty (0,0)):=by rw [hW1,bQ hvb];exact hv
 rw [← hW1] at c1
 have hcp2 : ∀ (W : World),W.heap=W1.heap→∀ ty dc,(Builtin.copy_ #[40,40] ty #[.slice (some ⟨b,off+i*4,none⟩) (n+1 - i) dc,.slice (some ⟨vb,voff,none⟩) 1 vc]).run Tryz.prog W = .ok (goInt (Nat.min 1 (n+1 - i))) (W.setCells b (off+i*4) (pZ vcells voff (1*4))):=λW hW ty dc=>by
  refine nO (w:=W) Tryz.underlying40 hi0 rfl ?_ (rQ (cells:=cells') (e:=ety) (by rw [hW];exact c1) (by rw [cQ hvc,c2];omega) h1)
  rw [his,show Nat.min 1 (n+1 - i)=1 by simp only [Nat.min_def];split<;>omega]
  exact kL (by rw [hW];exact hWv) hvc
 rw [← hW1] at hcp1
 go_enter Tryz.func57,Tryz.ntmps57
 go_wp2_with (simp only [hov])
 go_region_law_o (refine step_copy_runI rfl _ _ 40 40 rfl _ _ (by simp [Act.eval,Act.put]) (by simp [Act.eval,Act.put]) (hcp1 _ _ _) ?_)
 go_wp2_with (at_builtin;refine wpList_copy_runI _ rfl _ _ 40 40 rfl _ _ rfl rfl (hcp2 _ rfl _ _) ?_)
 go_ret
 first | exact ⟨rfl,rfl⟩ | exact ⟨rfl,by rw [hW1]⟩
set_option maxHeartbeats 4000000 in
set_option maxRecDepth 100000 in
theorem aLJ (hi : i<n) (hnc : n≤c) (hroom : c<n+1) (hbig : (n+1)*32≤140737488355328) (hb : w.heap[b]? = some (.cells cells ety (0,0))) (hc : off+c*4≤cells.size)
 (hv : w.heap[vb]? = some (.cells vcells vty (0,0))) (hvc : voff+1*4≤vcells.size) (h1 : ∀ v∈pZ vcells voff (1*4),bZ v) (h2 : ∀ v∈pZ cells off (n*4),bZ v) :
 Calls Tryz.prog 57 #[.slice (some ⟨b,off,none⟩) n c,.int .i64 i,.slice (some ⟨vb,voff,none⟩) 1 vc] w λe w'=>∃ G ROW,
  e = .returned (.slice (some ⟨w.heap.size,0,none⟩) (n+1) G)∧n+1≤G∧ROW.size=G*4∧(∀ q,q<i*4→ROW[q]? = cells[off+q]?)∧
  w'=(((w.alloc (.cells ROW 67)).drew.setCells w.heap.size (i*4) (pZ vcells voff (1*4))).drew).setCells w.heap.size ((i+1)*4) (pZ cells (off+i*4) ((n - i)*4)):=by
 obtain ⟨i0,hi0,his,hib,hiz⟩:=zM
 have mixed : Tryz.prog.follows Departure.mixedOrders=true:=by kernel_rfl
 have hz2 : ¬ ((i : Int)=(n : Int)):=by omega
 have hz3 : (c : Int)<(n : Int)+(1 : Int):=by omega
 have hbw : b<w.heap.size:=(Array.getElem?_eq_some_iff.1 hb).1
 have hvw : vb<w.heap.size:=(Array.getElem?_eq_some_iff.1 hv).1
 have hkk : (n : Int)+(1 : Int) - (i : Int)=((n+1 - i : Nat) : Int):=by omega
 have hik : i+(n+1 - i)=n+1:=by omega
 have hnc4 : n*4≤c*4:=Nat.mul_le_mul_right _ hnc
 have hsi : off+i*4≤cells.size:=by omega
 have hsl : off+i*4+(n - i)*4≤cells.size:=by omega
 have hold : (Builtin.firstCells i0.size i (.slice (some ⟨b,off,none⟩) i c)).run Tryz.prog w.drew = .ok (pZ cells off (i*4)).toArray w.drew:=by
  rw [his];exact kL (w:=w.drew) hb hsi
 have hrz : ∀ ty,(Builtin.append_ #[40,3] ty #[.slice (some ⟨b,off,none⟩) i c,.int .i64 ((n : Int)+(1 : Int) - (i : Int))]).run Tryz.prog w =
  .ok (.slice (some ⟨w.heap.size,0,none⟩) (n+1) (grownCap w (n+1) c 67)) (w.drew.alloc (.cells ((pZ cells off (i*4)).toArray++Builtin.zeroCells (Value.agg #[.int .i64 0,.int .i64 0,.int .i64 0,.int .i64 0]).cells (n+1 - i)++Builtin.zeroCells (Value.agg #[.int .i64 0,.int .i64 0,.int .i64 0,.int .i64 0]).cells (grownCap w (n+1) c 67 - (n+1))) 67)):=λty=>by
  have h:=Lib.run_append_grow_zeros w 40 3 ty 67 i0 _ .i64 .i64 Tryz.underlying40 Tryz.underlying3 hi0 hiz (some ⟨b,off,none⟩) i c _ hold (n+1 - i) (by omega) (by omega) (by omega) (by omega) (by rw [hib];omega) (by rw [hib,hik];exact growslice_fits hroom hbig)
  rw [hik] at h
  rw [hkk]
  exact h
 obtain ⟨G,hG⟩ : ∃ G,G=grownCap w (n+1) c 67:=⟨_,rfl⟩
 obtain ⟨ROW,hROW⟩ : ∃ ROW : Array Value,ROW=(pZ cells off (i*4)).toArray++Builtin.zeroCells (Value.agg #[.int .i64 0,.int .i64 0,.int .i64 0,.int .i64 0]).cells (n+1 - i)++Builtin.zeroCells (Value.agg #[.int .i64 0,.int .i64 0,.int .i64 0,.int .i64 0]).cells (G - (n+1)):=⟨_,rfl⟩
 have hGn : n+1≤G:=by rw [hG];exact grownCap_ge w _ _ _
 rw [← hG] at hrz
 rw [← hROW] at hrz
 have hRs : ROW.size=G*4:=by
  rw [hROW]
  simp only [Array.size_append,List.size_toArray,cQ (show off+i*4≤cells.size by omega),mK]
  show i*4+(n+1 - i)*4+(G - (n+1))*4=G*4
  omega
 have hRp : ∀ q,q<i*4→ROW[q]? = cells[off+q]?:=λq hq=>by
  have hl:=cQ hsi
  rw [hROW,Array.append_assoc,Array.getElem?_append_left (by simp [hl];exact hq)]
  rw [← kZ (cells:=cells) (o:=off) hq]
  simp
 obtain ⟨W1,hW1⟩ : ∃ W1,W1=w.drew.alloc (.cells ROW 67):=⟨_,rfl⟩
 rw [← hW1] at hrz
 have hN : W1.heap[w.heap.size]? = some (.cells ROW 67 (0,0)):=by rw [hW1];exact heap_alloc_new w.drew _
 have hO : ∀ r,r<w.heap.size→W1.heap[r]? = w.heap[r]?:=λr hr=>by rw [hW1];exact heap_alloc_old w.drew _ hr
 have hcpA : ∀ (W : World),W.heap=W1.heap→∀ ty dc,(Builtin.copy_ #[40,40] ty #[.slice (some ⟨w.heap.size,i*4,none⟩) (n+1 - i) dc,.slice (some ⟨vb,voff,none⟩) 1 vc]).run Tryz.prog W = .ok (goInt (Nat.min 1 (n+1 - i))) (W.setCells w.heap.size (i*4) (pZ vcells voff (1*4))):=λW hW ty dc=>by
  refine nO (w:=W) Tryz.underlying40 hi0 rfl ?_ (rQ (cells:=ROW) (e:=67) (by rw [hW];exact hN) (by rw [cQ hvc,hRs];omega) h1)
  rw [his,show Nat.min 1 (n+1 - i)=1 by simp only [Nat.min_def];split<;>omega]
  exact kL (by rw [hW,hO _ hvw];exact hv) hvc
 obtain ⟨ROW',d1,d2,d3,d4⟩:=dK (pZ vcells voff (1*4)) (i*4) W1 ROW hN (by rw [cQ hvc,hRs];omega)
 have hcpB : ∀ (W : World),W.heap=(W1.setCells w.heap.size (i*4) (pZ vcells voff (1*4))).heap→∀ ty dc sc,(Builtin.copy_ #[40,40] ty #[.slice (some ⟨w.heap.size,(i+1)*4,none⟩) (n - i) dc,.slice (some ⟨b,off+i*4,none⟩) (n - i) sc]).run Tryz.prog W = .ok (goInt (Nat.min (n - i) (n - i))) (W.setCells w.heap.size ((i+1)*4) (pZ cells (off+i*4) ((n - i)*4))):=λW hW ty dc sc=>by
  refine nO (w:=W) Tryz.underlying40 hi0 rfl ?_ (rQ (cells:=ROW') (e:=67) (by rw [hW];exact d1) (by rw [cQ hsl,d2,hRs];omega) (λv hv=>?_))
  ·rw [his,show Nat.min (n - i) (n - i)=n - i by simp only [Nat.min_def];split<;>omega]
   exact kL (by rw [hW,bQ (by omega),hO _ hbw];exact hb) hsl
  ·obtain ⟨j,hj,hx⟩:=aDK hv
   refine h2 v (List.mem_of_getElem? (i:=i*4+j) ?_)
   rw [kZ (by omega),← Nat.add_assoc];exact hx
 have hG63 : G≤9223372036854775807:=by
  have:=grownCap_le_maxLen w (n+1) c 67 (by unfold maxLen;omega)
  rw [← hG] at this
  unfold maxLen at this
  omega
 have hGi : ¬ (G=i):=by omega
 have hGim : ¬ (G=i+1):=by omega
 have hci : ¬ (c=i):=by omega
 subst hW1
 have hE1 : ((w.alloc (.cells ROW 67)).drew).heap=(w.drew.alloc (.cells ROW 67)).heap:=rfl
 have hF1 : (((w.alloc (.cells ROW 67)).drew.setCells w.heap.size (i*4) (pZ vcells voff (1*4))).drew).heap=((w.drew.alloc (.cells ROW 67)).setCells w.heap.size (i*4) (pZ vcells voff (1*4))).heap:=rfl
 have hw1 : IntKind.i64.wrap ((i : Int)+(1 : Int))=(i : Int)+(1 : Int):=by rw [IntKind.wrap_i64];omega
 have hb1 : (0 : Int)≤(i : Int)+(1 : Int):=by omega
 have hin : i≤n:=by omega
 have htn : ((i : Int)+(1 : Int)).toNat=i+1:=by omega
 have hb3 : (i : Int)≤(n : Int):=by omega
 clear hkk hik hold hROW hG
 go_enter Tryz.func57,Tryz.ntmps57
 go_wp2_with (first
  | (at_builtin;refine Lib.wpList_append_run _ rfl _ _ _ _ rfl _ _ rfl rfl _ _ (hrz _) ?_)
  | (at_builtin;refine wpList_copy_runI _ rfl _ _ 40 40 rfl _ _ rfl rfl (hcpA _ hE1 _ _) ?_)
  | (at_builtin;refine wpList_copy_runI _ rfl _ _ 40 40 rfl _ _ rfl rfl (hcpB _ rfl _ _ _) ?_))
 go_region_law_o (refine step_copy_runI rfl _ _ 40 40 rfl (.slice (some ⟨w.heap.size,(i+1)*4,none⟩) (n - i) (G - (i+1))) (.slice (some ⟨b,off+i*4,none⟩) (n - i) (c - i)) (by simp [Act.eval,Act.put]) (by simp [Act.eval,Act.put]) (hcpB _ hF1 3 (G - (i+1)) (c - i)) ?_)
 go_wp2
 go_ret
 exact ⟨G,ROW,rfl,hGn,hRs,hRp,rfl⟩
theorem aMA {base : Option Addr} (hv : w.heap[vb]? = some (.cells vcells vty (0,0))) (hvc : voff+1*4≤vcells.size) {old : Nat→Option Value} :
 Calls Tryz.prog 57 #[.slice base 0 0,.int .i64 (0 : Nat),.slice (some ⟨vb,voff,none⟩) 1 vc] w λe w'=>∃ v,e = .returned v∧aEE w w' (λ_=>False)∧aJh w' w.heap.size old vcells voff 0 0 v:=by
 refine (aBB (olds:=[]) (b:=0) (n:=0) (c:=0) (by omega) (by omega) (.inl ⟨rfl,rfl⟩) hv hvc).mono ?_
 rintro e w' ⟨rfl,rfl⟩
 have hge:=grownCap_ge w (0+1) 0 67
 refine ⟨_,rfl,⟨λr hr _=>heap_alloc_old w.drew _ hr,by simp,rfl,rfl,rfl⟩,0,_,_,67,rfl,heap_alloc_new w.drew _,?_,hge,λq hq=>by omega,λq hq=>?_,λq hq=>by omega⟩
 ·simp only [Array.size_append,List.size_toArray,List.nil_append,cQ hvc,mK]
  show 0+_*4≤1*4+(_ - (0+1))*4
  omega
 ·rw [Array.getElem?_append_left (by simp [cQ hvc];omega)]
  rw [← kZ (cells:=vcells) (o:=voff) (k:=1*4) (by omega : q<1*4)]
  simp
theorem aMB (hi : i≤n) (hnc : n≤c) (hbig : n≤1000000) (hb : w.heap[b]? = some (.cells cells ety (0,0))) (hc : off+c*4≤cells.size) (hvb : vb≠b)
 (hv : w.heap[vb]? = some (.cells vcells vty (0,0))) (hvc : voff+1*4≤vcells.size) (h1 : ∀ v∈pZ vcells voff (1*4),bZ v) (h2 : ∀ v∈pZ cells off (n*4),bZ v) :
 Calls Tryz.prog 57 #[.slice (some ⟨b,off,none⟩) n c,.int .i64 i,.slice (some ⟨vb,voff,none⟩) 1 vc] w λe w'=>∃ v b',e = .returned v∧aEE w w' (λr=>r=b)∧(b'=b∨b'=w.heap.size)∧
  aJh w' b' (λq=>cells[off+q]?) vcells voff n i v:=by
 have hbw : b<w.heap.size:=(Array.getElem?_eq_some_iff.1 hb).1
 have hnc4 : n*4≤c*4:=Nat.mul_le_mul_right _ hnc
 have hsl : off+i*4+(n - i)*4≤cells.size:=by omega
 by_cases hroom : n+1≤c
 ·have hcells : (n+1)*4≤c*4:=Nat.mul_le_mul_right _ hroom
  by_cases hin : i=n
  ·subst hin
   refine (aG2 hroom hb hc hv hvc h1).mono ?_
   rintro e w' ⟨rfl,rfl⟩
   obtain ⟨cells',c1,c2,c3,c4⟩:=dK (pZ vcells voff (1*4)) (off+i*4) w cells hb (by rw [cQ hvc];omega)
   obtain ⟨e1,e2,e3,e4⟩:=eM (pZ vcells voff (1*4)) b (off+i*4) w
   refine ⟨_,b,rfl,⟨λr hr hb=>bQ hb _ _ _,by rw [e1];exact Nat.le_refl _,e2,e3,e4⟩,.inl rfl,off,c,cells',ety,rfl,c1,by rw [c2];exact hc,hroom,λq hq=>c4 _ (.inl (by omega)),λq hq=>?_,λq hq=>by omega⟩
   rw [c3 q (by rw [cQ hvc];omega),kZ (by omega)]
  ·have hlt : i<n:=by omega
   refine (aKK hlt hbig hroom hb hc hvb hv hvc h1 h2).mono ?_
   rintro e w' ⟨rfl,rfl⟩
   obtain ⟨cells',c1,c2,c3,c4⟩:=dK (pZ cells (off+i*4) ((n - i)*4)) (off+(i+1)*4) w.drew cells hb (by rw [cQ hsl];omega)
   obtain ⟨e1,e2,e3,e4⟩:=eM (pZ cells (off+i*4) ((n - i)*4)) b (off+(i+1)*4) w.drew
   obtain ⟨cells2,d1,d2,d3,d4⟩:=dK (pZ vcells voff (1*4)) (off+i*4) _ cells' c1 (by rw [cQ hvc,c2];omega)
   obtain ⟨f1,f2,f3,f4⟩:=eM (pZ vcells voff (1*4)) b (off+i*4) (w.drew.setCells b (off+(i+1)*4) (pZ cells (off+i*4) ((n - i)*4)))
   rw [cQ hsl] at c3 c4
   rw [cQ hvc] at d3 d4
   refine ⟨_,b,rfl,⟨λr hr hb=>by rw [bQ hb,bQ hb];rfl,by rw [f1,e1];exact Nat.le_refl _,by rw [f2,e2];rfl,by rw [f3,e3];rfl,by rw [f4,e4];rfl⟩,.inl rfl,off,c,cells2,ety,rfl,d1,by rw [d2,c2];exact hc,hroom,λq hq=>?_,λq hq=>?_,λq hq=>?_⟩
   ·rw [d4 _ (.inl (by omega)),c4 _ (.inl (by omega))]
   ·rw [d3 q (by omega),kZ (by omega)]
   ·rw [d4 _ (.inr (by omega)),c3 q hq,kZ hq,Nat.add_assoc]
 ·by_cases hin : i=n
  ·subst hin
   refine (aBB (olds:=pZ cells off (i*4)) (base:=some ⟨b,off,none⟩) (b:=b) (by omega) (by omega) (.inr ⟨off,cells,ety,rfl,hb,rfl,by omega⟩) hv hvc).mono ?_
   rintro e w' ⟨rfl,rfl⟩
   have hge:=grownCap_ge w (i+1) c 67
   have hsi : off+i*4≤cells.size:=by omega
   refine ⟨_,_,rfl,⟨λr hr _=>heap_alloc_old w.drew _ hr,by simp,rfl,rfl,rfl⟩,.inr rfl,0,_,_,67,rfl,heap_alloc_new w.drew _,?_,hge,λq hq=>?_,λq hq=>?_,λq hq=>by omega⟩
   ·simp only [Array.size_append,List.size_toArray,List.length_append,cQ hvc,cQ hsi,mK]
    show 0+_*4≤i*4+1*4+(_ - (i+1))*4
    omega
   ·rw [Array.getElem?_append_left (by simp [cQ hvc,cQ hsi];omega)]
    show _=cells[off+q]?
    rw [← kZ (cells:=cells) (o:=off) (k:=i*4) hq,List.getElem?_toArray,Nat.zero_add,List.getElem?_append_left (by rw [cQ hsi];exact hq)]
   ·rw [Array.getElem?_append_left (by simp [cQ hvc,cQ hsi];omega)]
    rw [← kZ (cells:=vcells) (o:=voff) (k:=1*4) (by omega : q<1*4),List.getElem?_toArray,Nat.zero_add,List.getElem?_append_right (by rw [cQ hsi];omega),cQ hsi,Nat.add_sub_cancel_left]
  ·have hlt : i<n:=by omega
   refine (aLJ hlt hnc (by omega) (by omega) hb hc hv hvc h1 h2).mono ?_
   rintro e w' ⟨G,ROW,rfl,hG,hRs,hRp,rfl⟩
   have hN : ((w.alloc (.cells ROW 67)).drew).heap[w.heap.size]? = some (.cells ROW 67 (0,0)):=heap_alloc_new w _
   obtain ⟨cells',c1,c2,c3,c4⟩:=dK (pZ vcells voff (1*4)) (i*4) ((w.alloc (.cells ROW 67)).drew) ROW hN (by rw [cQ hvc,hRs];omega)
   obtain ⟨e1,e2,e3,e4⟩:=eM (pZ vcells voff (1*4)) w.heap.size (i*4) ((w.alloc (.cells ROW 67)).drew)
   obtain ⟨cells2,d1,d2,d3,d4⟩:=dK (pZ cells (off+i*4) ((n - i)*4)) ((i+1)*4) (((w.alloc (.cells ROW 67)).drew.setCells w.heap.size (i*4) (pZ vcells voff (1*4))).drew) cells' c1 (by rw [cQ hsl,c2,hRs];omega)
   obtain ⟨f1,f2,f3,f4⟩:=eM (pZ cells (off+i*4) ((n - i)*4)) w.heap.size ((i+1)*4) (((w.alloc (.cells ROW 67)).drew.setCells w.heap.size (i*4) (pZ vcells voff (1*4))).drew)
   rw [cQ hvc] at c3 c4
   rw [cQ hsl] at d3 d4
   refine ⟨_,_,rfl,⟨λr hr _=>?_,?_,?_,?_,?_⟩,.inr rfl,0,G,cells2,67,rfl,d1,by rw [d2,c2,hRs];omega,hG,λq hq=>?_,λq hq=>?_,λq hq=>?_⟩
   ·rw [bQ (by omega)]
    show ((w.alloc (.cells ROW 67)).drew.setCells w.heap.size (i*4) (pZ vcells voff (1*4))).heap[r]? = _
    rw [bQ (by omega)]
    exact heap_alloc_old w _ hr
   ·rw [f1]
    show _≤((w.alloc (.cells ROW 67)).drew.setCells w.heap.size (i*4) (pZ vcells voff (1*4))).heap.size
    rw [e1]
    show _≤(w.alloc (.cells ROW 67)).heap.size
    simp
   ·rw [f2];exact e2
   ·rw [f3];exact e3
   ·rw [f4];exact e4
   ·rw [d4 _ (.inl (by omega)),c4 _ (.inl (by omega)),Nat.zero_add,hRp q hq]
   ·rw [d4 _ (.inl (by omega)),Nat.zero_add,c3 q (by omega),kZ (by omega)]
   ·rw [Nat.zero_add,d3 q hq,kZ hq,Nat.add_assoc]
end
theorem aJi {args : List DV} {s : St} {r : R} (h : kI args s=some r) {m : aV} {bD : Array Value} (hf : fS m s s.base) (hl : args.length=bD.size) (hr : ∀ (i : Nat) d v,args[i]? = some d→bD[i]? = some v→m.rd d v)
 {t : Tmpl} (ht : t.res = .ref 0 []∧t.boxes = []∧t.lists = [some ⟨zU,.int .i64 0⟩]) :
 Calls Tryz.prog 57 bD m.w (λe w'=>∃ v,e = .returned v∧rM m 0 0 (some t) r v w'):=by
 unfold kI at h
 split at h
 rotate_left
 ·cases h
 rename_i i _
 obtain ⟨pv,ls,hk,_,H0⟩:=sinkAs_sound h
 obtain ⟨pv',ls',hk',_,H1⟩:=sinkAs_sound hk
 obtain ⟨xs,y,rfl,rfl,hi0,hi1,hlen,rfl⟩:=aLI hk'
 obtain ⟨v0,v1,v2,rfl⟩ : ∃ v0 v1 v2,bD = #[v0,v1,v2]:=by
  match bD,hl with
  | ⟨[a,b,c]⟩,_=>exact ⟨a,b,c,rfl⟩
  | ⟨[]⟩,h=>simp at h
  | ⟨[_]⟩,h=>simp at h
  | ⟨[_,_]⟩,h=>simp at h
  | ⟨_::_::_::_::_⟩,h=>simp at h
 have h0:=hr 0 _ _ rfl rfl
 have h1:=hr 1 _ _ rfl rfl
 have h2:=hr 2 _ _ rfl rfl
 obtain rfl : v1 = .int .i64 i:=by
  cases h1 with
  | p _ _ h1=>cases h1;rfl
 obtain ⟨i,rfl⟩:=Int.eq_ofNat_of_zero_le hi0
 rw [Int.toNat_natCast]
 have hin : i≤xs.length:=by omega
 have sit:=hf.sit (Nat.le_refl s.base)
 obtain ⟨m2,F0,sk0,hro0,hF0⟩:=H0 s.base m (λ_=>True) hf.inv (λl _=>hf.list l) (λ_ _=>trivial) v0 h0
 have G0:=sk0.goes (B:=λ_=>True) (L:=λ_=>True) (WL:=λl=>l∈([] : List Nat)∨true=true) (λb=>b∈([] : List Nat)∨true=true) sit (λ_ _=>.inl trivial) (λ_ _=>.inl (.inr rfl))
 have sit2:=G0.sit sit
 obtain ⟨m3,F1,sk1,hro1,hF1⟩:=H1 s.base m2 (λ_=>True) sit2.inv (λl _=>by rw [sk0.list,dZ,hf.list]) (λ_ _=>trivial) v2 (sk0.step.rd _ _ h2)
 have G1:=sk1.goes (B:=λ_=>True) (L:=λ_=>True) (WL:=λl=>l∈([] : List Nat)∨true=true) (λb=>b∈([] : List Nat)∨true=true) sit2 (λ_ _=>.inl trivial) (λ_ _=>.inl (.inr rfl))
 have sit3:=G1.sit sit2
 have hw3 : m3.w=m.w:=sk1.w.trans sk0.w
 have hro0' : cA m3.w m3.Z zU (.lst xs) v0 F0:=hro0.frame (λr h=>sk1.step.zz r h) (λr _=>by rw [sk1.w]) (λr _=>by rw [sk1.w]) (λr hr=>(sit3.inv.Lz r (sk1.L r (hF0 r hr).1)).1)
 have hp : zU.plain=true:=rfl
 rcases hro1.els rfl with ⟨h,_⟩ | ⟨vb,voff,vc,vcells,vty,dv,gp,rfl,hvh,_,hvr,hvl,_,hvF,hvc,D,_⟩
 ·cases h
 have D:=D.plain hp
 have hvc4 : 1*4≤vc*4:=Nat.mul_le_mul_right _ hvl
 have hvr : voff+vc*4≤vcells.size:=hvr
 have h1v : ∀ v∈pZ vcells voff (1*4),bZ v:=λv hv=>by
  obtain ⟨j,hj,hx⟩:=aDK hv
  have:=hvc 0 j (by simp) (by show j<4;omega)
  rw [show voff+0*zU.s+j=voff+j by omega] at this
  rw [this] at hx
  cases hx
  exact D.one 0 j (by simp) (by show j<4;omega)
 have fin : ∀ {w' : World} {v : Value} {b : Nat} {bb : NP} {old : Nat→Option Value} {cv : Nat→Nat→Value},aEE m.w w' bb→(∀ r,bb r→m3.L r)→(b=m.w.heap.size∨(m3.L b))→aJh w' b old vcells voff xs.length i v→
  wP m3.w m3.Z zU xs cv (λ_ _ _=>False)→(∀ k j : Nat,k<xs.length→j<4→old (k*4+j)=some (cv k j))→rM m 0 0 (some t) [.lst (xs.take i++y::xs.drop i)] v w':=by
  rintro w' v b bb old cv ⟨K1,K2,K3,K4,K5⟩ hbb hb ⟨o',cap,cells',ety,rfl,L1,L2,L3,L4,L5,L6⟩ E hold
  have hzl : (xs.take i++y::xs.drop i).length=xs.length+1:=by simp;omega
  have hbz : ¬ m3.Z b:=by
   rcases hb with rfl | hb
   ·intro hz;have:=sit3.inv.zlt _ hz;rw [hw3] at this;omega
   ·exact (sit3.inv.Lz b hb).1
  have hZ : ∀ r,m3.Z r→w'.heap[r]? = m3.w.heap[r]?:=λr hr=>by
   rw [hw3];exact K1 r (by have:=sit3.inv.zlt _ hr;rw [hw3] at this;exact this) (λhb=>(sit3.inv.Lz r (hbb r hb)).1 hr)
  have EE:=(E.ins D hin).frame (w':=w') (Z':=m3.Z) (λ_ h=>h) hZ (λ_ _ _ _ _ h=>h.elim)
  have hro:=EE.repO (o:=zU) rfl (by show 0<4;omega) (b:=b) (off:=o') (cap:=cap) L1 L2 (by rw [hzl];exact L3) hbz (λk j hk hj=>by
   rw [hzl] at hk
   have hj : j<4:=hj
   show cells'[o'+k*4+j]? = _
   by_cases h : k<i
   ·rw [if_pos h,Nat.add_assoc,L4 _ (by omega),hold k j (by omega) hj]
   ·rw [if_neg h]
    by_cases h2 : k=i
    ·subst h2
     rw [if_pos rfl,L5 j hj]
     have:=hvc 0 j (by simp) hj
     rwa [show voff+0*zU.s+j=voff+j by omega] at this
    ·rw [if_neg h2]
     have:=L6 ((k - 1 - i)*4+j) (by omega)
     rw [show o'+(i+1)*4+((k - 1 - i)*4+j)=o'+k*4+j by omega] at this
     rw [this,show i*4+((k - 1 - i)*4+j)=(k - 1)*4+j by omega,hold (k - 1) j (by omega) hj]) (λ_ _ _ _ h=>h.elim)
  rw [hzl] at hro
  have hn : (((s.at s.base).killL ls).killL ls').nl=s.base:=by rw [pN,pN];rfl
  have G2:=bJ.addRow (B:=λ_=>True) (L:=λ_=>True) (λb=>b∈([] : List Nat)∨true=true) (λl=>l∈([] : List Nat)∨true=true) sit3 (by rw [hn];omega) (w':=w') (own:=⟨zU,.lst (xs.take i++y::xs.drop i)⟩) rfl hro
   (λr hr=>by
    rcases hr with rfl | ⟨_,_,_,_,h⟩
    ·rcases hb with rfl | hb
     ·right;rw [hw3];exact Nat.le_refl _
     ·exact .inl hb
    ·exact h.elim)
   (λr hr hL=>by rw [hw3] at hr ⊢;exact K1 r hr (λh=>hL (hbb r h))) (by rw [hw3];exact K2) (by rw [hw3];exact K3) (by rw [hw3];exact K4) (by rw [hw3];exact K5)
  exact aLH (l:=_) hf ((G0.trans G1).trans G2) (w:=⟨zU,.lst (xs.take i++y::xs.drop i)⟩) (by rw [gA,if_pos rfl]) (aV.addRow_rd trivial) ht
 rcases hro0'.els rfl with ⟨rfl,adr,rfl⟩ | ⟨b,off,cap,cells,ety,cv,fp,rfl,hh,_,hroom,hlen',_,hbF,hc,E,_⟩
 ·have : i=0:=by simpa using hin
  subst this
  rw [hw3] at hvh
  refine (aMA (old:=λ_=>none) hvh (by omega)).mono ?_
  rintro e w' ⟨v,rfl,K,Ld⟩
  exact ⟨v,rfl,fin K (λ_ h=>h.elim) (.inl rfl) Ld (wP.nil zU (λ_ _=>undef) (λ_ _ _=>False)) (λk j hk=>by simp at hk)⟩
 ·have E:=E.plain hp
  have hbL:=sk1.L _ (hF0 b hbF).1
  have hvL:=(hF1 vb hvF).1
  have hne : vb≠b:=λe=>(hF1 vb hvF).2 (e▸(hF0 b hbF).1)
  rw [hw3] at hvh hh
  have hc4 : xs.length*4≤cap*4:=Nat.mul_le_mul_right _ hlen'
  refine (aMB hin hlen' hlen hh hroom hne hvh (by omega) h1v (λv hv=>?_)).mono ?_
  ·obtain ⟨j,hj,hx⟩:=aDK hv
   have:=hc (j / 4) (j % 4) (by omega) (by show j % 4<4;omega)
   rw [show off+j / 4*zU.s+j % 4=off+j by show off+j / 4*4+j % 4=_;omega] at this
   rw [this] at hx
   cases hx
   exact E.one _ _ (by omega) (by show j % 4<4;omega)
  ·rintro e w' ⟨v,b',rfl,K,hb',Ld⟩
   refine ⟨v,rfl,fin K (λr hr=>by subst hr;exact hbL) (hb'.elim (λe=>.inr (e▸hbL)) .inl) Ld E (λk j hk hj=>?_)⟩
   have:=hc k j hk hj
   rw [Nat.add_assoc] at this
   exact this
end
noncomputable section
open Go
theorem aLK {α : Type} {n : Nat} : ∀ {l : List (Nat × α)} {a : α},lk n l=some a→∃ p∈l,p.2=a
 | [],a,h=>by simp [lk] at h
 | (m,b)::r,a,h=>by
   unfold lk at h
   split at h
   ·cases h;exact ⟨_,List.mem_cons_self,rfl⟩
   ·obtain ⟨p,h1,h2⟩:=aLK h
    exact ⟨p,List.mem_cons_of_mem _ h1,h2⟩
theorem aLL {α : Type} {n : Nat} : ∀ {l : List (Nat × α)} {a : α},lk n l=some a→(n,a)∈l
 | [],a,h=>by simp [lk] at h
 | (m,b)::r,a,h=>by
   unfold lk at h
   split at h
   ·rename_i hb
    cases h
    rw [bI hb]
    exact List.mem_cons_self
   ·exact List.mem_cons_of_mem _ (aLL h)
theorem aH3 {g : Nat} (h : ((Tryz.prog.funcs[g]?).bind (·.body)).isSome=true) : jR Tryz.prog g:=by
 cases hf : Tryz.prog.funcs[g]? with
 | none=>rw [hf] at h;cases h
 | some fn=>
   rw [hf] at h
   cases hb : fn.body with
   | none=>simp [hb] at h
   | some c=>
     have hc:=aJX
     rw [List.all_eq_true] at hc
     have:=hc fn (by rw [← Array.getElem?_toList] at hf;exact List.mem_of_getElem? hf)
     rw [hb] at this
     simp only [Bool.and_eq_true,bne_iff_ne,ne_eq] at this
     exact ⟨fn,c,hf,hb,this.2⟩
theorem aNq : aCs Tryz.prog λg args=>(lK.prim g).bind λp=>p args:=by
 intro g args r h
 cases h
set_option maxRecDepth 100000 in
theorem aMC : ∀ g h,lK.primS g=some h→∀ t args s l,lK.mode g=some t→h args s=some l→jR Tryz.prog g∧∀ (m : aV) (bD : Array Value),fS m s s.base→args.length=bD.size→
 (∀ (i : Nat) d v,args[i]? = some d→bD[i]? = some v→m.rd d v)→Calls Tryz.prog g bD m.w (λe w'=>∃ v,e = .returned v∧rM m s.boxes.length (if t.keep then s.lists.length else 0) (some (t.fit s)) l v w'):=by
 intro g h hp t args s l ht h
 have hm:=aLL (show lk g aDU=some _ from hp)
 simp only [aDU,List.mem_cons,List.not_mem_nil,or_false,Prod.mk.injEq] at hm
 obtain ⟨rfl,rfl⟩:=hm
 ·refine ⟨aH3 (by kernel_rfl),λm bD hf hl hr=>?_⟩
  have htt : lK.mode 57=some ⟨false,false,.ref 0 [],[],[some ⟨zU,.int .i64 0⟩],false⟩:=by kernel_rfl
  rw [htt] at ht
  cases ht
  have hb : s.boxes.length=0:=by
   have : ∀ a,kI args s=some a→s.boxes = []:=λa h=>by
    unfold kI at h
    split at h
    ·assumption
    ·cases h
   rw [this _ h];rfl
  rw [hb]
  exact aJi h hf hl hr (t:=⟨false,false,.ref 0 [],[],[some ⟨zU,.int .i64 0⟩],false⟩) ⟨rfl,rfl,rfl⟩
theorem aJ0 : ∀ (l : List Nat),(l.map λt=>(Tryz.prog.info? t).bind (·.zero))=(l.map λt=>some (zeroVal T t))→∀ t,mem t l=true→(Tryz.prog.info? t).bind (·.zero)=some (zeroVal T t)
 | [],_,t,h=>by simp [mem] at h
 | x::r,h,t,hm=>by
   simp only [List.map_cons,List.cons.injEq] at h
   unfold mem at hm
   split at hm
   ·rename_i hx
    rw [bI hx];exact h.1
   ·exact aJ0 r h.2 t hm
theorem hyp : Hyp Tryz.prog T lK where
 tab:=aNa.symm
 zero:=λt h=>by
  rw [aNa]
  exact aJ0 aMs aNN t h
 mixed:=aMz
 code:=λf fn c hf hc=>by
  have h:=aJX
  rw [List.all_eq_true] at h
  have:=h fn (by rw [← Array.getElem?_toList] at hf;exact List.mem_of_getElem? hf)
  rw [hc] at this
  simp only [Bool.and_eq_true,bne_iff_ne,ne_eq] at this
  exact this
 prim:=aNq
 primS:=aMC
 glob:=λ_=>rfl
 wf:=λg t h=>by
  obtain ⟨p,hp,rfl⟩:=aLK h
  have:=aNS
  rw [List.all_eq_true] at this
  exact this p hp
variable (a b c d e f g h i j k l m n o q r s t u v w : PV)
def gX (f b l t : Nat) (e : Env) (s : St) : OR:=aNR f b l (lK.mode f) (todoOf Tryz.prog f t) e s
def aAq : OR:=aY 4 [a]
def aEF : OR:=aY 7 [a]
def lQ : OR:=aY 20 [a]
def gK : OR:=aY 22 [a,b]
def jZ : OR:=gX 22 0 0 4 [(0,.p a),(1,.p b),(5,.p c)] ⟨[],[],0,0,0⟩
def nR : OR:=aY 24 [a,b]
def xZ : OR:=aY 60 [a]
def nS : OR:=aY 52 [a,b]
def iA : OR:=gX 52 0 0 2 [(1,.p a),(2,.ptr 0 0),(7,.p b),(8,.p c),(9,.p d)] ⟨[(0,some [.p e,.p f])],[],0,0,1⟩
def yA : OR:=aY 109 [a]
def kM : OR:=gX 109 0 0 4 [(1,.ptr 0 0),(2,.ptr 1 0),(16,.p a),(17,.p b)] ⟨[(0,some [.p c,.p d]),(1,some [.p e,.p f,.p g])],[],0,0,2⟩
def kN : OR:=gX 109 0 0 8 [(1,.ptr 0 0),(2,.ptr 1 0),(3,.p a),(4,.ptr 2 0),(16,.p b),(17,.p c),(28,.p d),(29,.p e),(30,.p f)] ⟨[(0,some [.p g,.p h]),(1,some [.p i,.p j,.p k]),(2,some [.p l])],[],0,0,3⟩
def yB : OR:=aY 101 [a,b]
def yC : OR:=gX 101 0 0 5 [(2,.ptr 0 0),(3,.ptr 1 0)] ⟨[(0,some [.p a,.p b]),(1,some [.p c,.p d,.p e,.p f])],[],0,0,2⟩
def nT : OR:=gX 101 0 0 6 [(3,.ptr 0 0),(5,.ptr 1 0)] ⟨[(0,some [.p a,.p b,.p c,.p d]),(1,some [.p e,.p f])],[],0,0,2⟩
def eO : OR:=aY 55 [a,b]
def tQ : OR:=aY 47 [a]
def lA : OR:=gX 47 0 0 4 [(1,.ptr 0 0),(22,.p a),(23,.p b),(24,.p c)] ⟨[(0,some [.p d,.p e])],[],0,0,1⟩
def yD : OR:=aY 49 [a,b]
def kO : OR:=gX 49 0 0 5 [(2,.ptr 0 0),(5,.p a),(6,.ref 0 []),(7,.p b)] ⟨[(0,some [.p c,.p d])],[(0,some ⟨(.own 1 8 false []),e⟩)],0,0,2⟩
def gL : OR:=gX 49 0 0 8 [(2,.ptr 0 0),(5,.p a),(6,.ref 0 []),(7,.p b),(27,.p c),(28,.p d),(29,.p e)] ⟨[(0,some [.p f,.p g])],[(0,some ⟨(.own 1 8 false []),h⟩)],0,0,2⟩
def eV : OR:=gX 49 0 0 13 [(2,.ptr 0 0),(5,.p a),(6,.ref 0 []),(7,.p b),(10,.p c),(11,.p d),(27,.p e),(28,.p f),(29,.p g),(51,.p h),(52,.p i),(53,.p j)] ⟨[(0,some [.p k,.p l])],[(0,some ⟨(.own 1 8 false []),m⟩)],0,0,2⟩
def wG : OR:=gX 49 0 0 16 [(2,.ptr 0 0),(5,.p a),(6,.ref 0 []),(10,.p b),(11,.p c),(13,.p d),(27,.p e),(28,.p f),(29,.p g),(51,.p h),(52,.p i),(53,.p j)] ⟨[(0,some [.p k,.p l])],[(0,some ⟨(.own 1 8 false []),m⟩)],0,0,2⟩
def sU : OR:=aY 93 [a,b,c]
def qR : OR:=aY 94 [a,b]
def iW : OR:=aY 137 [a,b]
def gB : OR:=aY 159 [a,b]
def aAr : OR:=aY 160 [a,b,c]
def vK : OR:=aY 155 [a,b,c]
def cN : OR:=aY 48 [a,b]
def vL : OR:=aY 156 [a]
def cE : OR:=aY 85 [a,b,c]
def mN : OR:=aY 103 [a,b]
def aAI : OR:=aY 102 [a]
def tR : OR:=gX 102 0 0 3 [(3,.p a),(6,.p b),(7,.p c),(8,.p d)] ⟨[],[],0,0,0⟩
def eI : OR:=aY 86 [a,b]
def wH : OR:=aY 87 [a]
def dM : OR:=aY 89 [a,b]
def wI : OR:=aY 90 [a,b,c]
def yE : OR:=aY 147 [a,b]
def mO : OR:=gX 147 0 0 24 [(2,.ptr 0 0),(3,.ptr 1 0)] ⟨[(0,some [.p a,.p b]),(1,some [.p c,.p d])],[],0,0,2⟩
def wJ : OR:=gX 147 0 0 25 [(2,.ptr 0 0),(3,.ptr 1 0)] ⟨[(0,some [.p a,.p b]),(1,some [.p c,.p d])],[],0,0,2⟩
def kP : OR:=aY 130 [a,b]
def fO : OR:=gX 130 0 0 2 [(0,.p a),(1,.p b),(7,.p c),(8,.p d)] ⟨[],[],0,0,0⟩
def lY : OR:=aY 185 [a,b]
def eG : OR:=gX 185 0 0 2 [(0,.p a),(1,.p b),(7,.p c),(8,.p d)] ⟨[],[],0,0,0⟩
def pL : OR:=aY 157 [a]
def iX : OR:=aY 143 [a,b]
def cY : OR:=gX 143 0 0 2 [(0,.p a),(1,.p b),(7,.p c),(8,.p d)] ⟨[],[],0,0,0⟩
def yF : OR:=aY 88 [a]
def nU : OR:=gX 88 0 0 2 [(0,.p a),(5,.p b),(6,.p c)] ⟨[],[],0,0,0⟩
def gM : OR:=aY 144 [a,b]
def cH : OR:=gX 144 0 0 2 [(0,.p a),(1,.p b),(7,.p c),(8,.p d)] ⟨[],[],0,0,0⟩
def aAJ : OR:=aY 91 [a,b,c]
def aAK : OR:=aY 145 [a]
def gY : OR:=cP 21 [.p a,.p b,.p c] ⟨[],[],0,0,0⟩
def gN : OR:=gX 21 0 0 5 [(3,.ptr 0 0),(7,.ref 0 []),(24,.p a),(25,.p b),(26,.p c)] ⟨[(0,some [.p d,.p e])],[(0,some ⟨(.own 4 32 true []),f⟩)],0,0,2⟩
def bU : OR:=aY 54 [a,b,c]
def bA : OR:=gX 54 0 0 3 [(0,.p a),(2,.p b),(4,.ptr 0 0),(8,.p c),(9,.p d),(10,.p e)] ⟨[(0,some [.p f,.p g,.p h,.p i])],[],0,0,1⟩
def tS : OR:=aY 56 [a,b,c]
def qC : OR:=cP 23 [.p a,.p b,.p c] ⟨[],[],0,0,0⟩
def jK : OR:=gX 23 0 0 5 [(2,.p a),(3,.ptr 0 0),(7,.ref 0 []),(8,.p b)] ⟨[(0,some [.p c,.p d])],[(0,some ⟨(.own 4 32 true []),e⟩)],0,0,2⟩
def nV : OR:=aY 58 [a,b]
def lB : OR:=aY 67 [a]
def aAL : OR:=aY 106 [a,b]
def iK : OR:=gX 106 0 0 4 [(1,.p a),(2,.ptr 0 0),(5,.p b)] ⟨[(0,some [.p c,.p d])],[],0,0,1⟩
def nW : OR:=gX 106 0 0 13 [(1,.p a),(2,.ptr 0 0),(5,.p b),(6,.ptr 1 0)] ⟨[(0,some [.p c,.p d]),(1,some [.p e,.p f,.p g,.p h])],[],0,0,2⟩
def fI : OR:=gX 106 0 0 15 [(1,.p a),(2,.ptr 0 0),(5,.p b),(6,.ptr 1 0),(7,.p c)] ⟨[(0,some [.p d,.p e]),(1,some [.p f,.p g,.p h,.p i])],[],0,0,2⟩
def yG : OR:=aY 113 [a]
def kQ : OR:=gX 113 0 0 4 [(1,.ptr 0 0),(2,.ptr 1 0),(3,.p a)] ⟨[(0,some [.p b,.p c]),(1,some [.p d,.p e,.p f])],[],0,0,2⟩
def iY : OR:=gX 113 0 0 9 [(1,.ptr 0 0),(2,.ptr 1 0),(3,.p a),(4,.p b),(5,.p c),(6,.p d)] ⟨[(0,some [.p e,.p f]),(1,some [.p g,.p h,.p i])],[],0,0,2⟩
def jS : OR:=gX 113 0 0 18 [(1,.ptr 0 0),(2,.ptr 1 0),(3,.p a),(4,.p b),(5,.p c),(6,.p d),(9,.p e),(10,.p f),(11,.p g)] ⟨[(0,some [.p h,.p i]),(1,some [.p j,.p k,.p l])],[],0,0,2⟩
def gZ : OR:=gX 113 0 0 23 [(1,.ptr 0 0),(2,.ptr 1 0),(3,.p a),(4,.p b),(5,.p c),(6,.p d),(9,.p e),(10,.p f),(12,.p g)] ⟨[(0,some [.p h,.p i]),(1,some [.p j,.p k,.p l])],[],0,0,2⟩
def qS : OR:=aY 108 [a,b]
def aL : OR:=aY 82 [a,b,c]
def mZ : OR:=aY 100 [a]
def tT : OR:=aY 161 [a]
def lC : OR:=gX 161 0 0 4 [(1,.ptr 0 0),(3,.p a)] ⟨[(0,some [.p b,.p c])],[],0,0,1⟩
def iZ : OR:=gX 161 0 0 9 [(1,.ptr 0 0),(4,.p a)] ⟨[(0,some [.p b,.p c])],[],0,0,1⟩
def kA : OR:=gX 161 0 0 15 [(1,.ptr 0 0),(4,.p a),(5,.ptr 1 0),(6,.p b)] ⟨[(0,some [.p c,.p d]),(1,some [.p e,.p f,.p g])],[],0,0,2⟩
def rR : OR:=aY 83 [a,b]
def kB : OR:=gX 83 0 0 4 [(2,.ptr 0 0),(5,.p a),(6,.ref 0 []),(7,.p b)] ⟨[(0,some [.p c,.p d])],[(0,some ⟨(.own 1 8 false []),e⟩)],0,0,2⟩
def iB : OR:=gX 83 0 0 9 [(2,.ptr 0 0),(5,.p a),(6,.ref 0 []),(8,.p b)] ⟨[(0,some [.p c,.p d])],[(0,some ⟨(.own 1 8 false []),e⟩)],0,0,2⟩
def dI : OR:=gX 83 0 0 12 [(2,.ptr 0 0),(5,.p a),(6,.ref 0 []),(8,.p b),(9,.p c)] ⟨[(0,some [.p d,.p e])],[(0,some ⟨(.own 1 8 false []),f⟩)],0,0,2⟩
def eB : OR:=gX 83 0 0 19 [(2,.ptr 0 0),(5,.p a),(6,.ref 0 []),(8,.p b),(9,.p c),(12,.p d),(13,.p e),(14,.p f)] ⟨[(0,some [.p g,.p h])],[(0,some ⟨(.own 1 8 false []),i⟩)],0,0,2⟩
def rS : OR:=gX 83 0 0 22 [(2,.ptr 0 0),(5,.p a),(6,.ref 0 []),(9,.p b),(12,.p c),(13,.p d),(14,.p e)] ⟨[(0,some [.p f,.p g])],[(0,some ⟨(.own 1 8 false []),h⟩)],0,0,2⟩
def sV : OR:=aY 141 [a,b]
def qT : OR:=aY 142 [a,b]
def wK : OR:=gX 142 0 0 3 [(1,.p a),(2,.ptr 0 0),(5,.ref 0 [])] ⟨[(0,some [.p b,.p c])],[(0,some ⟨(.own 1 8 false []),d⟩)],0,0,2⟩
def mP : OR:=gX 142 0 0 4 [(2,.ptr 0 0),(5,.ref 0 [])] ⟨[(0,some [.p a,.p b])],[(0,some ⟨(.own 1 8 false []),c⟩)],0,0,2⟩
def mQ : OR:=gX 142 0 0 5 [(2,.ptr 0 0),(5,.ref 0 [])] ⟨[(0,some [.p a,.p b])],[(0,some ⟨(.own 1 8 false []),c⟩)],0,0,2⟩
def nX : OR:=aY 116 [a]
def mT : OR:=gX 116 0 0 4 [(0,.p a),(3,.p b)] ⟨[],[],0,0,0⟩
def aAM : OR:=aY 186 [a,b,c]
def vM : OR:=cP 35 [.p a] ⟨[],[],0,0,0⟩
def oV : OR:=cP 50 [.ptr 0 0] ⟨[(0,some [.p a,.p b,.p c])],[],0,0,1⟩
def iP : OR:=cP 51 [.ptr 0 0,.agg [.p a,.p b],.p c] ⟨[(0,some [.p d,.p e,.p f])],[],0,0,1⟩
def eP : OR:=gX 51 1 0 4 [(0,.ptr 0 0),(2,.p a),(4,.ptr 1 0),(7,.ref 0 [])] ⟨[(0,some [.p b,.p c,.p d]),(1,some [.p e,.p f])],[(0,some ⟨(.own 4 32 true []),g⟩)],0,0,3⟩
def dN : OR:=gX 51 1 0 6 [(0,.ptr 0 0),(2,.p a),(4,.ptr 1 0),(7,.ref 0 []),(8,.p b)] ⟨[(0,some [.p c,.p d,.p e]),(1,some [.p f,.p g])],[(0,some ⟨(.own 4 32 true []),h⟩)],0,0,3⟩
def eE : OR:=gX 51 1 0 19 [(0,.ptr 0 0),(2,.p a),(7,.ref 0 [])] ⟨[(0,some [.p b,.p c,.p d])],[(0,some ⟨(.own 4 32 true []),e⟩)],0,0,2⟩
def bK : OR:=gX 51 1 0 9 [(0,.ptr 0 0),(2,.p a),(4,.ptr 1 0),(7,.ref 0 []),(8,.p b),(9,.p c)] ⟨[(0,some [.p d,.p e,.p f]),(1,some [.p g,.p h])],[(0,some ⟨(.own 4 32 true []),i⟩)],0,0,3⟩
def jW : OR:=cP 92 [.p a,.p b] ⟨[],[],0,0,0⟩
def lZ : OR:=gX 92 0 0 3 [(0,.p a),(1,.p b)] ⟨[],[],0,0,0⟩
def mA : OR:=gX 92 0 0 6 [(0,.p a),(6,.p b)] ⟨[],[],0,0,0⟩
def fG : OR:=gX 92 0 0 8 [(7,.ref 0 []),(8,.p a)] ⟨[],[(0,some ⟨(.own 1 8 false []),b⟩)],0,0,1⟩
def aAs : OR:=aY 146 [a,b]
def wM : OR:=aY 174 [a,b]
def eQ : OR:=cP 53 [.p a] ⟨[],[],0,0,0⟩
def eJ : OR:=cP 57 [.ref 0 [],.p a,.ref 1 []] ⟨[],[(0,some ⟨(.own 4 32 true []),b⟩),(1,some ⟨(.own 4 32 true []),c⟩)],0,0,2⟩
def fJ : OR:=cP 59 [.p a,.p b,.p c] ⟨[],[],0,0,0⟩
def cG : OR:=gX 59 0 0 4 [(1,.p a),(3,.ptr 0 0),(5,.ptr 1 0),(7,.ref 0 []),(8,.p b),(9,.p c)] ⟨[(0,some [.p d,.p e]),(1,some [.p f,.p g,.p h,.p i])],[(0,some ⟨(.own 4 32 true []),j⟩)],0,0,3⟩
def nY : OR:=gX 59 0 0 7 [(1,.p a),(3,.ptr 0 0),(5,.ptr 1 0),(7,.ref 0 []),(9,.p b)] ⟨[(0,some [.p c,.p d]),(1,some [.p e,.p f,.p g,.p h])],[(0,some ⟨(.own 4 32 true []),i⟩)],0,0,3⟩
def kR : OR:=gX 59 0 0 9 [(1,.p a),(3,.ptr 0 0),(5,.ptr 1 0),(7,.ref 0 []),(8,.p b),(9,.p c)] ⟨[(0,some [.p d,.p e]),(1,some [.p f,.p g,.p h,.p i])],[(0,some ⟨(.own 4 32 true []),j⟩)],0,0,3⟩
def wN : OR:=gX 59 0 0 10 [(1,.p a),(3,.ptr 0 0),(5,.ptr 1 0),(7,.ref 0 []),(9,.p b)] ⟨[(0,some [.p c,.p d]),(1,some [.p e,.p f,.p g,.p h])],[(0,some ⟨(.own 4 32 true []),i⟩)],0,0,3⟩
def qU : OR:=aY 107 [a,b,c]
def bY : OR:=cP 95 [.ptr 0 0,.p a] ⟨[(0,some [.p b,.p c,.p d])],[],0,0,1⟩
def qD : OR:=cP 96 [.ptr 0 0,.p a] ⟨[(0,some [.p b,.p c,.p d])],[],0,0,1⟩
def oW : OR:=cP 97 [.ptr 0 0] ⟨[(0,some [.p a,.p b,.p c])],[],0,0,1⟩
def aD : OR:=cP 79 [.ptr 0 0,.p a] ⟨[(0,some [.p b,.p c,.p d])],[],0,0,1⟩
def fW : OR:=gX 79 1 0 9 [(0,.ptr 0 0),(1,.p a),(5,.p b)] ⟨[(0,some [.p c,.p d,.p e])],[],0,0,1⟩
def oX : OR:=cP 99 [.ptr 0 0,.agg [.p a,.p b]] ⟨[(0,some [.p c,.p d,.p e])],[],0,0,1⟩
def iQ : OR:=gX 99 1 0 3 [(0,.ptr 0 0),(3,.ptr 1 0),(5,.ref 0 []),(6,.p a)] ⟨[(0,some [.p b,.p c,.p d]),(1,some [.p e,.p f])],[(0,some ⟨(.own 3 32 true []),g⟩)],0,0,3⟩
def eW : OR:=aY 153 [a]
def fH : OR:=aY 154 [a]
def nZ : OR:=cP 98 [.p a,.p b,.p c] ⟨[],[],0,0,0⟩
def kC : OR:=gX 98 0 0 6 [(2,.p a),(3,.ptr 0 0),(7,.ref 0 []),(8,.ptr 1 0),(10,.p b)] ⟨[(0,some [.p c,.p d]),(1,some [.ref 1 [],.ref 2 [],.p e,.ref 3 [],.p f,.p g,.p h,.p i,.p j,.p k])],[(0,some ⟨(.own 4 32 true []),l⟩),(1,some ⟨(.own 4 64 true [.leaf,.leaf,(.own 3 32 true []),(.own 3 32 true [])]),m⟩),(2,some ⟨(.own 1 24 true [(.own 3 32 true [])]),n⟩),(3,some ⟨(.own 1 16 false []),o⟩)],0,0,6⟩
def jL : OR:=cP 148 [.ptr 0 0] ⟨[(0,some [.p a,.p b,.p c])],[],0,0,1⟩
def gS : OR:=gX 148 1 0 3 [(0,.ptr 0 0),(2,.ptr 1 0),(3,.ptr 2 0),(4,.p a)] ⟨[(0,some [.p b,.p c,.p d]),(1,some [.ref 0 [],.ref 1 []]),(2,some [.ref 2 [],.ref 3 []])],[(0,some ⟨(.own 1 16 false []),e⟩),(1,some ⟨(.own 3 40 true []),f⟩),(2,some ⟨(.own 1 16 false []),g⟩),(3,some ⟨(.own 3 40 true []),h⟩)],0,0,7⟩
def eY : OR:=gX 148 1 0 8 [(0,.ptr 0 0),(2,.ptr 1 0),(3,.ptr 2 0),(5,.ref 4 []),(6,.p a)] ⟨[(0,some [.p b,.p c,.p d]),(1,some [.ref 0 [],.ref 1 []]),(2,some [.ref 2 [],.ref 3 []])],[(0,some ⟨(.own 1 16 false []),e⟩),(1,some ⟨(.own 3 40 true []),f⟩),(2,some ⟨(.own 1 16 false []),g⟩),(3,some ⟨(.own 3 40 true []),h⟩),(4,some ⟨(.own 3 40 true []),i⟩)],0,0,8⟩
def gC : OR:=gX 148 1 0 15 [(0,.ptr 0 0),(2,.ptr 1 0),(3,.ptr 2 0),(5,.ref 4 []),(6,.p a),(7,.ptr 3 0),(8,.ptr 4 0)] ⟨[(0,some [.p b,.p c,.p d]),(1,some [.ref 0 [],.ref 1 []]),(2,some [.ref 2 [],.ref 3 []]),(3,some [.p e,.p f,.ref 5 []]),(4,some [.ptr 0 0,.ref 6 [],.p g,.p h,.p i,.p j])],[(0,some ⟨(.own 1 16 false []),k⟩),(1,some ⟨(.own 3 40 true []),l⟩),(2,some ⟨(.own 1 16 false []),m⟩),(3,some ⟨(.own 3 40 true []),n⟩),(4,some ⟨(.own 3 40 true []),o⟩),(5,some ⟨(.own 2 16 true []),q⟩),(6,some ⟨(.own 2 16 true []),r⟩)],0,0,12⟩
def tU : OR:=cP 149 [.ptr 0 0,.agg [.p a,.p b]] ⟨[(0,some [.p c,.p d,.p e])],[],0,0,1⟩
def kD : OR:=gX 149 1 0 21 [(0,.ptr 0 0),(4,.ptr 1 0),(5,.ptr 2 0)] ⟨[(0,some [.p a,.p b,.p c]),(1,some [.ref 0 [],.ref 1 []]),(2,some [.ref 2 [],.ref 3 []])],[(0,some ⟨(.own 1 16 false []),d⟩),(1,some ⟨(.own 3 40 true [.leaf,.leaf,(.own 2 16 true [])]),e⟩),(2,some ⟨(.own 1 16 false []),f⟩),(3,some ⟨(.own 3 40 true [.leaf,.leaf,(.own 2 16 true [])]),g⟩)],0,0,7⟩
def lD : OR:=gX 149 1 0 6 [(0,.ptr 0 0),(4,.ptr 1 0),(5,.ptr 2 0),(6,.p a),(8,.ptr 3 0)] ⟨[(0,some [.p b,.p c,.p d]),(1,some [.ref 0 [],.ref 1 []]),(2,some [.ref 2 [],.ref 3 []]),(3,some [.p e,.p f])],[(0,some ⟨(.own 1 16 false []),g⟩),(1,some ⟨(.own 3 40 true [.leaf,.leaf,(.own 2 16 true [])]),h⟩),(2,some ⟨(.own 1 16 false []),i⟩),(3,some ⟨(.own 3 40 true [.leaf,.leaf,(.own 2 16 true [])]),j⟩)],0,0,8⟩
def iC : OR:=cP 112 [.ptr 0 0] ⟨[(0,some [.p a,.p b,.p c])],[],0,0,1⟩
def aAN : OR:=cP 150 [.p a,.p b] ⟨[],[],0,0,0⟩
def mB : OR:=gX 150 0 0 4 [(1,.p a),(2,.ptr 0 0),(4,.ptr 1 0),(6,.p b)] ⟨[(0,some [.p c,.p d]),(1,some [.ref 0 [],.ref 1 [],.p e,.ref 2 [],.p f,.p g,.p h,.p i,.p j,.p k])],[(0,some ⟨(.own 4 64 true [.leaf,.leaf,(.own 3 32 true []),(.own 3 32 true [])]),l⟩),(1,some ⟨(.own 1 24 true [(.own 3 32 true [])]),m⟩),(2,some ⟨(.own 1 16 false []),n⟩)],0,0,5⟩
def kS : OR:=gX 150 0 0 10 [(1,.p a),(4,.ptr 0 0),(7,.ptr 1 0),(8,.p b)] ⟨[(0,some [.ref 0 [],.ref 1 [],.p c,.ref 2 [],.p d,.p e,.p f,.p g,.p h,.p i]),(1,some [.p j,.p k,.ref 3 [],.ref 4 []])],[(0,some ⟨(.own 4 64 true [.leaf,.leaf,(.own 3 32 true []),(.own 3 32 true [])]),l⟩),(1,some ⟨(.own 1 24 true [(.own 3 32 true [])]),m⟩),(2,some ⟨(.own 1 16 false []),n⟩),(3,some ⟨(.own 3 32 true []),o⟩),(4,some ⟨(.own 3 32 true []),q⟩)],0,0,7⟩
def aAO : OR:=aY 114 [a,b,c]
def gF : OR:=aY 162 [a]
def qE : OR:=cP 151 [.p a,.p b,.p c] ⟨[],[],0,0,0⟩
def yH : OR:=aY 180 [a,b]
def yI : OR:=aY 181 [a,b,c]
def kT : OR:=gX 181 0 0 2 [(0,.p a),(1,.p b),(2,.p c),(6,.ptr 0 0),(7,.p d)] ⟨[(0,some [.p e,.p f,.p g,.p h])],[],0,0,1⟩
def vN : OR:=cP 152 [.p a,.p b] ⟨[],[],0,0,0⟩
def fE : OR:=cP 175 [.ptr 0 0,.p a,.p b] ⟨[(0,some [.ptr 1 0,.ref 0 [],.p c,.p d,.p e,.p f]),(1,some [.p g,.p h,.p i])],[(0,some ⟨(.own 2 16 true []),j⟩)],0,0,3⟩
def eT : OR:=gX 175 2 0 1 [(0,.ptr 0 0),(1,.p a),(6,.p b)] ⟨[(0,some [.ptr 1 0,.ref 0 [],.p c,.p d,.p e,.p f]),(1,some [.p g,.p h,.p i])],[(0,some ⟨(.own 2 16 true []),j⟩)],0,0,3⟩
def oY : OR:=cP 178 [.ptr 0 0,.p a] ⟨[(0,some [.p b,.p c,.p d])],[],0,0,1⟩
def aM : OR:=cP 176 [.ptr 0 0,.p a] ⟨[(0,some [.ptr 1 0,.ref 0 [],.p b,.p c,.p d,.p e]),(1,some [.p f,.p g,.p h])],[(0,some ⟨(.own 2 16 true []),i⟩)],0,0,3⟩
def fK : OR:=gX 176 2 0 2 [(0,.ptr 0 0),(4,.ptr 1 0)] ⟨[(0,some [.ptr 1 0,.ref 0 [],.p a,.p b,.p c,.p d]),(1,some [.p e,.p f,.p g])],[(0,some ⟨(.own 2 16 true []),h⟩)],0,0,3⟩
def cK : OR:=gX 176 2 0 38 [(0,.ptr 0 0),(1,.p a),(5,.p b),(6,.p c)] ⟨[(0,some [.ptr 1 0,.ref 0 [],.p d,.p e,.p f,.p g]),(1,some [.p h,.p i,.p j])],[(0,some ⟨(.own 2 16 true []),k⟩)],0,0,3⟩
def eZ : OR:=gX 176 2 0 50 [(0,.ptr 0 0),(1,.p a),(7,.p b)] ⟨[(0,some [.ptr 1 0,.ref 0 [],.p c,.p d,.p e,.p f]),(1,some [.p g,.p h,.p i])],[(0,some ⟨(.own 2 16 true []),j⟩)],0,0,3⟩
def dU : OR:=gX 176 2 0 51 [(0,.ptr 0 0),(1,.p a),(7,.p b),(8,.p c)] ⟨[(0,some [.ptr 1 0,.ref 0 [],.p d,.p e,.p f,.p g]),(1,some [.p h,.p i,.p j])],[(0,some ⟨(.own 2 16 true []),k⟩)],0,0,3⟩
def aH : OR:=cP 177 [.ptr 0 0,.p a,.p b] ⟨[(0,some [.ptr 1 0,.ref 0 [],.p c,.p d,.p e,.p f]),(1,some [.p g,.p h,.p i])],[(0,some ⟨(.own 2 16 true []),j⟩)],0,0,3⟩
def nB : OR:=cP 179 [.p a] ⟨[],[],0,0,0⟩
def gT : OR:=gX 179 0 0 3 [(1,.ptr 0 0),(2,.ptr 1 0),(3,.ptr 2 0),(4,.p a)] ⟨[(0,some [.p b,.p c]),(1,some [.ref 0 [],.ref 1 []]),(2,some [.ref 2 [],.ref 3 []])],[(0,some ⟨(.own 1 16 false []),d⟩),(1,some ⟨(.own 3 40 true [.leaf,.leaf,(.own 2 16 true [])]),e⟩),(2,some ⟨(.own 1 16 false []),f⟩),(3,some ⟨(.own 3 40 true [.leaf,.leaf,(.own 2 16 true [])]),g⟩)],0,0,7⟩
def eC : OR:=cP 111 [.ptr 0 0] ⟨[(0,some [.p a,.p b,.p c])],[],0,0,1⟩
def jM : OR:=cP 78 [.p a] ⟨[],[],0,0,0⟩
def mU : OR:=gX 78 0 0 3 [(1,.ptr 0 0),(2,.ptr 1 0),(3,.ref 3 []),(4,.p a)] ⟨[(0,some [.p b,.p c,.p d,.p e,.p f,.p g,.p h,.p i,.p j,.p k]),(1,some [.ref 0 [],.ref 1 [],.p l,.ref 2 [],.p m,.p n,.p o,.p q,.p r,.p s])],[(0,some ⟨(.own 4 64 true [.leaf,.leaf,(.own 3 32 true []),(.own 3 32 true [])]),t⟩),(1,some ⟨(.own 1 24 true [(.own 3 32 true [])]),u⟩),(2,some ⟨(.own 1 16 false []),v⟩),(3,some ⟨(.own 4 64 true [.leaf,.leaf,(.own 3 32 true []),(.own 3 32 true [])]),w⟩)],0,0,6⟩
def dR : OR:=cP 182 [.ptr 0 0] ⟨[(0,some [.p a,.p b,.ref 0 [],.ref 1 [],.p c,.ref 2 [],.p d,.p e,.p f,.p g,.p h,.p i,.p j])],[(0,some ⟨(.own 4 64 true [.leaf,.leaf,(.own 3 32 true []),(.own 3 32 true [])]),k⟩),(1,some ⟨(.own 1 24 true [(.own 3 32 true [])]),l⟩),(2,some ⟨(.own 1 16 false []),m⟩)],0,0,4⟩
def rT : OR:=cP 183 [.ptr 0 0,.agg [.p a,.p b]] ⟨[(0,some [.p c,.p d,.ref 0 [],.ref 1 [],.p e,.ref 2 [],.p f,.p g,.p h,.p i,.p j,.p k,.p l])],[(0,some ⟨(.own 4 64 true [.leaf,.leaf,(.own 3 32 true []),(.own 3 32 true [])]),m⟩),(1,some ⟨(.own 1 24 true [(.own 3 32 true [])]),n⟩),(2,some ⟨(.own 1 16 false []),o⟩)],0,0,4⟩
def nC : OR:=aY 205 [a,b,c]
def aAP : OR:=aY 206 [a]
def rU : OR:=aY 208 [a,b]
def aAQ : OR:=aY 215 [a,b]
def aAt : OR:=gX 215 0 0 2 [(2,.ptr 0 0),(3,.ptr 1 0),(4,.ptr 2 0)] ⟨[(0,some [.p a,.p b,.p c]),(1,some [.p d,.p e,.p f]),(2,some [.p g,.p h,.p i])],[],0,0,3⟩
def aAR : OR:=aY 216 [a,b]
def aAS : OR:=aY 217 [a,b]
def yJ : OR:=aY 218 [a,b]
def yK : OR:=gX 218 0 0 2 [(2,.ptr 0 0),(3,.ptr 1 0),(4,.ptr 2 0)] ⟨[(0,some [.p a,.p b,.p c]),(1,some [.p d,.p e,.p f]),(2,some [.p g,.p h,.p i])],[],0,0,3⟩
def oA : OR:=gX 218 0 0 3 [(2,.ptr 0 0),(3,.ptr 1 0),(4,.ptr 2 0)] ⟨[(0,some [.p a,.p b,.p c]),(1,some [.p d,.p e,.p f]),(2,some [.p g,.p h,.p i])],[],0,0,3⟩
def yL : OR:=gX 218 0 0 4 [(2,.ptr 0 0),(3,.ptr 1 0),(4,.ptr 2 0)] ⟨[(0,some [.p a,.p b,.p c]),(1,some [.p d,.p e,.p f]),(2,some [.p g,.p h,.p i])],[],0,0,3⟩
def yM : OR:=aY 219 [a,b]
def dW : OR:=aY 220 [a]
def hE : OR:=aY 222 [a,b,c]
def tV : OR:=aY 223 [a,b,c]
def jA : OR:=cP 200 [.ptr 0 0,.p a] ⟨[(0,some [.ptr 1 0,.ref 0 [],.p b,.p c,.p d,.p e]),(1,some [.p f,.p g,.p h])],[(0,some ⟨(.own 2 16 true []),i⟩)],0,0,3⟩
def fX : OR:=gX 200 2 0 7 [(0,.ptr 0 0),(1,.p a),(4,.ptr 1 0),(6,.p b)] ⟨[(0,some [.ptr 1 0,.ref 0 [],.p c,.p d,.p e,.p f]),(1,some [.p g,.p h,.p i])],[(0,some ⟨(.own 2 16 true []),j⟩)],0,0,3⟩
def gO : OR:=cP 201 [.ptr 0 0,.p a] ⟨[(0,some [.ptr 1 0,.ref 0 [],.p b,.p c,.p d,.p e]),(1,some [.p f,.p g,.p h])],[(0,some ⟨(.own 2 16 true []),i⟩)],0,0,3⟩
def dV : OR:=gX 201 2 0 3 [(0,.ptr 0 0),(1,.p a),(4,.p b),(5,.p c)] ⟨[(0,some [.ptr 1 0,.ref 0 [],.p d,.p e,.p f,.p g]),(1,some [.p h,.p i,.p j])],[(0,some ⟨(.own 2 16 true []),k⟩)],0,0,3⟩
def jN : OR:=cP 202 [.ptr 0 0,.p a] ⟨[(0,some [.ptr 1 0,.ref 0 [],.p b,.p c,.p d,.p e]),(1,some [.p f,.p g,.p h])],[(0,some ⟨(.own 2 16 true []),i⟩)],0,0,3⟩
def oB : OR:=cP 138 [.p a] ⟨[],[],0,0,0⟩
def oZ : OR:=cP 139 [.p a] ⟨[],[],0,0,0⟩
def iR : OR:=gX 139 0 0 3 [(0,.p a),(3,.ref 0 []),(4,.p b)] ⟨[],[(0,some ⟨(.own 1 24 true [(.own 3 32 true [])]),c⟩)],0,0,1⟩
def gH : OR:=cP 203 [.ptr 0 0,.p a] ⟨[(0,some [.p b,.p c,.ref 0 [],.ref 1 [],.p d,.ref 2 [],.p e,.p f,.p g,.p h,.p i,.p j,.p k])],[(0,some ⟨(.own 4 64 true [.leaf,.leaf,(.own 3 32 true []),(.own 3 32 true [])]),l⟩),(1,some ⟨(.own 1 24 true [(.own 3 32 true [])]),m⟩),(2,some ⟨(.own 1 16 false []),n⟩)],0,0,4⟩
def bE : OR:=cP 203 [.ptr 0 0,.agg [.p a,.p b,.p c]] ⟨[(0,some [.p d,.p e,.ref 0 [],.ref 1 [],.p f,.ref 2 [],.p g,.p h,.p i,.p j,.p k,.p l,.p m])],[(0,some ⟨(.own 4 64 true [.leaf,.leaf,(.own 3 32 true []),(.own 3 32 true [])]),n⟩),(1,some ⟨(.own 1 24 true [(.own 3 32 true [])]),o⟩),(2,some ⟨(.own 1 16 false []),q⟩)],0,0,4⟩
def aW : OR:=cP 204 [.ptr 0 0] ⟨[(0,some [.p a,.p b,.ref 0 [],.ref 1 [],.p c,.ref 2 [],.p d,.p e,.p f,.p g,.p h,.p i,.p j])],[(0,some ⟨(.own 4 64 true [.leaf,.leaf,(.own 3 32 true []),(.own 3 32 true [])]),k⟩),(1,some ⟨(.own 1 24 true [(.own 3 32 true [])]),l⟩),(2,some ⟨(.own 1 16 false []),m⟩)],0,0,4⟩
def lE : OR:=cP 207 [.ptr 0 0,.p a,.p b] ⟨[(0,some [.p c,.p d,.ref 0 [],.ref 1 [],.p e,.ref 2 [],.p f,.p g,.p h,.p i,.p j,.p k,.p l])],[(0,some ⟨(.own 4 64 true [.leaf,.leaf,(.own 3 32 true []),(.own 3 32 true [])]),m⟩),(1,some ⟨(.own 1 24 true [(.own 3 32 true [])]),n⟩),(2,some ⟨(.own 1 16 false []),o⟩)],0,0,4⟩
def iS : OR:=gX 207 1 0 5 [(0,.ptr 0 0),(1,.p a),(2,.p b),(7,.ref 3 []),(8,.p c)] ⟨[(0,some [.p d,.p e,.ref 0 [],.ref 1 [],.p f,.ref 2 [],.p g,.p h,.p i,.p j,.p k,.p l,.p m])],[(0,some ⟨(.own 4 64 true [.leaf,.leaf,(.own 3 32 true []),(.own 3 32 true [])]),n⟩),(1,some ⟨(.own 1 24 true [(.own 3 32 true [])]),o⟩),(2,some ⟨(.own 1 16 false []),q⟩),(3,some ⟨(.own 3 32 true []),r⟩)],0,0,5⟩
def iD : OR:=gX 207 1 0 10 [(0,.ptr 0 0),(1,.p a),(7,.ref 3 [])] ⟨[(0,some [.p b,.p c,.ref 0 [],.ref 1 [],.p d,.ref 2 [],.p e,.p f,.p g,.p h,.p i,.p j,.p k])],[(0,some ⟨(.own 4 64 true [.leaf,.leaf,(.own 3 32 true []),(.own 3 32 true [])]),l⟩),(1,some ⟨(.own 1 24 true [(.own 3 32 true [])]),m⟩),(2,some ⟨(.own 1 16 false []),n⟩),(3,some ⟨(.own 3 32 true []),o⟩)],0,0,5⟩
def lF : OR:=cP 214 [.ptr 0 0] ⟨[(0,some [.ptr 1 0,.ref 0 [],.p a,.p b,.p c,.p d]),(1,some [.p e,.p f,.p g])],[(0,some ⟨(.own 2 16 true []),h⟩)],0,0,3⟩
variable (a b c d e f g h i j k l m : PV)
theorem aCx : aAq a=bd (aEF a) λb=>PV.ite (hd b) (some [.bool true]) (bd (lQ a) λc=>bd (PV.comp (hd c) 0) λd=>bd (PV.comp (hd c) 1) λe=>bd (PV.comp (hd c) 2) λf=>bd (PV.whole 2 d) λg=>bd (PV.cell g 0) λh=>bd (PV.cell g 1) λi=>bd (gY (.agg [h,i]) e f) λj=>PV.guardOwn (.own 4 32 true []) (gd j 0) (
 bd (gY (.agg [h,i]) f e) λk=>PV.guardOwn (.own 4 32 true []) (gd k 0) (bd (qC (.agg [h,i]) e f) λl=>PV.guardOwn (.own 4 32 true []) (gd l 0) (bd (gK (gd j 0) (gd l 0)) λm=>PV.guardFlat (hd m) (bd (PV.not (hd m)) λn=>PV.ite n (some [.bool false]) (bd (gK (gd j 0) (gd k 0)) λo=>PV.guardFlat (hd o) (bd (PV.not (hd o)) λp=>
 PV.ite p (some [.bool false]) (bd (PV.len (gd j 0)) λq=>bd (PV.bin .eql q (.I 0)) λr=>PV.ite r (some [.bool true]) (bd (nR (.agg [h,i]) (gd j 0)) λs=>PV.guardFlat (hd s) (PV.ite (hd s) (bd (gY (.agg [h,i]) (gd j 0) e) λt=>PV.guardOwn (.own 4 32 true []) (gd t 0) (bd (gK (gd t 0) (gd j 0)) λu=>PV.guardFlat (hd u) (PV.ite (hd u)
 (bd (gY (.agg [h,i]) f (gd j 0)) λv=>PV.guardOwn (.own 4 32 true []) (gd v 0) (bd (gK (gd v 0) (gd j 0)) λw=>PV.guardFlat (hd w) (some [(hd w)]))) (some [.bool false])))) (some [.bool false]))))))))))):=aX _ _ _ (by kernel_rfl)
theorem aH4 : aEF a=bd (PV.len a) λb=>bd (PV.bin .gtr b (.I 1048576)) λc=>some [c]:=aX _ _ _ (by kernel_rfl)
theorem vO : lQ a=bd (vM a) λb=>bd (oV (gd b 0) (gd b 1) (gd b 2)) λc=>bd (PV.whole 2 (gd c 0)) λd=>bd (PV.cell d 0) λe=>bd (PV.cell d 1) λf=>bd (iP e f (.I 20) (gd c 1) (gd c 2) (gd c 3)) λg=>bd (iP e f (.I 20) (gd g 1) (gd g 2) (gd g 3)) λh=>some [(.tup [(.agg [e,f]),(gd g 0),(gd h 0)])]:=aX _ _ _ (by kernel_rfl)
theorem aBC : gK a b=bd (PV.len a) λc=>bd (PV.len b) λd=>bd (PV.bin .neq c d) λe=>PV.ite e (some [.bool false]) (jZ a b (.I 0)):=aX _ _ _ (by kernel_rfl)
theorem pP : jZ a b c=bd (PV.len a) λd=>bd (PV.bin .lss c d) λe=>PV.ite e (bd (PV.at_ 4 true a c) λf=>bd (PV.at_ 4 true b c) λg=>bd (PV.whole 4 f) λh=>bd (PV.cell h 0) λi=>bd (PV.cell h 1) λj=>bd (PV.cell h 2) λk=>bd (PV.cell h 3) λl=>bd (PV.whole 4 g) λm=>bd (PV.cell m 0) λn=>bd (PV.cell m 1) λo=>bd (PV.cell m 2) λp=>
 bd (PV.cell m 3) λq=>bd (PV.ceq [1,1,1,1] .neq (.agg [i,j,k,l]) (.agg [n,o,p,q])) λr=>PV.ite r (some [.bool false]) (bd (PV.bin .add c (.I 1)) λs=>jZ a b s)) (some [.bool true]):=bB _ _ _ _ _ _ _ _ (by kernel_rfl)
theorem aBD : nR a b=bd (PV.whole 2 a) λc=>bd (PV.cell c 0) λd=>bd (PV.cell c 1) λe=>bd (xZ (.agg [d,e])) λf=>PV.ite (hd f) (bd (nS (.agg [d,e]) b) λg=>some [(hd g)]) (some [.bool false]):=aX _ _ _ (by kernel_rfl)
theorem aEG : xZ a=bd (PV.whole 2 a) λb=>bd (PV.cell b 0) λc=>bd (PV.cell b 1) λd=>bd (yA (.agg [c,d])) λe=>bd (PV.whole 3 (hd e)) λf=>bd (PV.cell f 0) λg=>bd (PV.cell f 1) λh=>bd (PV.cell f 2) λi=>bd (PV.ceq [1,1,1] .eql (.agg [g,h,i]) (.agg [(.I 0),(.I 0),(.I 0)])) λj=>some [j]:=aX _ _ _ (by kernel_rfl)
theorem aBE : nS a b=bd (PV.whole 2 a) λc=>bd (PV.cell c 0) λd=>bd (PV.cell c 1) λe=>bd (PV.len b) λf=>iA b b f (.I 0) d e:=aX _ _ _ (by kernel_rfl)
theorem pQ : iA a b c d e f=bd (PV.bin .lss d c) λg=>PV.ite g (bd (PV.at_ 4 true b d) λh=>bd (PV.whole 4 h) λi=>bd (PV.cell i 0) λj=>bd (PV.cell i 1) λk=>bd (PV.cell i 2) λl=>bd (PV.cell i 3) λm=>bd (yB (.agg [e,f]) (.agg [j,k,l,m])) λn=>bd (PV.not (hd n)) λo=>PV.ite o (some [.bool false]) (bd (PV.bin .gtr d (.I 0)) λp=>
 PV.ite p (bd (PV.bin .sub d (.I 1)) λq=>bd (PV.at_ 4 true a q) λr=>bd (eO r (.agg [j,k,l,m])) λs=>bd (PV.bin .geq (hd s) (.I 0)) λt=>PV.ite t (some [.bool false]) (bd (PV.bin .add d (.I 1)) λu=>iA a b c u e f)) (bd (PV.bin .add d (.I 1)) λv=>iA a b c v e f))) (bd (PV.len a) λw=>bd (PV.bin .leq w (.I 150)) λx=>
 some [x]):=bB _ _ _ _ _ _ _ _ (by kernel_rfl)
theorem aEH : yA a=bd (PV.whole 2 a) λb=>bd (PV.cell b 0) λc=>bd (PV.cell b 1) λd=>bd (tQ (.agg [c,d])) λe=>bd (PV.not (hd e)) λf=>PV.ite f (some [(.agg [(.I 1),(.I 0),(.I 0)])]) (bd (PV.len d) λg=>kM g (.I 0) c d (.I 0) (.I 0) (.I 0)):=aX _ _ _ (by kernel_rfl)
theorem sW : kM a b c d e f g=bd (PV.bin .lss b a) λh=>PV.ite h (bd (yD (.agg [c,d]) b) λi=>bd (PV.one (hd i)) λj=>bd (PV.at_ 3 true d b) λk=>bd (PV.cell k 2) λl=>bd (PV.len l) λm=>kN b a b l m (.I 0) c d e f g j) (some [(.agg [(.I 0),(.I 0),(.I 0)])]):=bB _ _ _ _ _ _ _ _ (by kernel_rfl)
theorem sX : kN a b c d e f g h i j k l=bd (PV.bin .lss f e) λm=>PV.ite m (bd (PV.at_ 2 true d f) λn=>bd (PV.whole 2 n) λo=>bd (PV.cell o 0) λp=>bd (PV.cell o 1) λq=>bd (PV.at_ 1 false l f) λr=>bd (PV.bin .lss r (.I 0)) λs=>PV.ite s (bd (PV.bin .add f (.I 1)) λt=>kN a b c d e t g h i j k l) (bd (PV.at_ 1 false l f) λu=>
 bd (sU (.agg [g,h]) (.agg [p,q]) u) λv=>bd (PV.comp (hd v) 0) λw=>bd (PV.comp (hd v) 1) λx=>bd (PV.one w) λy=>bd (PV.not x) λz=>PV.ite z (bd (PV.one a) λA=>bd (PV.one f) λB=>some [(.agg [(.I 2),A,B])]) (bd (qR (.agg [p,q]) f) λC=>bd (PV.len l) λD=>bd (iW (hd C) D) λE=>PV.ite (hd E) (bd (PV.one a) λF=>
 bd (PV.one f) λG=>some [(.agg [(.I 3),F,G])]) (bd (gB (hd C) (.fn 160 [(.bx [l]),(.bx [y])])) λH=>PV.guardFlat (hd H) (PV.ite (hd H) (bd (PV.one a) λI=>bd (PV.one f) λJ=>some [(.agg [(.I 4),I,J])]) (bd (PV.bin .add f (.I 1)) λK=>kN a b c d e K g h i j k l)))))) (bd (PV.bin .add c (.I 1)) λL=>kM b L g h i j k):=bB _ _ _ _ _ _ _ _ (by kernel_rfl)
theorem aEI : yB a b=bd (PV.whole 2 a) λc=>bd (PV.cell c 0) λd=>bd (PV.cell c 1) λe=>bd (PV.whole 4 b) λf=>bd (PV.cell f 0) λg=>bd (PV.cell f 1) λh=>bd (PV.cell f 2) λi=>bd (PV.cell f 3) λj=>bd (vK (.agg [d,e]) g h) λk=>bd (PV.comp (hd k) 0) λl=>bd (PV.comp (hd k) 1) λm=>bd (PV.whole 2 l) λn=>bd (PV.cell n 0) λo=>
 bd (PV.cell n 1) λp=>bd (PV.not m) λq=>PV.ite q (some [.bool false]) (bd (PV.bin .eql o (.I 23)) λr=>PV.ite r (bd (PV.bin .eql i (.I 1)) λs=>PV.ite s (yC d e g h i j) (nT g h i j o p)) (nT g h i j o p)):=aX _ _ _ (by kernel_rfl)
theorem aBF : yC a b c d e f=bd (PV.len b) λg=>bd (cN f g) λh=>some [(hd h)]:=bB _ _ _ _ _ _ _ _ (by kernel_rfl)
theorem aBG : nT a b c d e f=bd (PV.bin .eql e (.I 23)) λg=>PV.ite g (bd (PV.bin .eql c (.I 2)) λh=>PV.ite h (bd (PV.bin .eql d (.I 0)) λi=>some [i]) (some [.bool false])) (bd (vL (.agg [e,f])) λj=>PV.ite (hd j) (bd (cE c (.I 1) (.I 3)) λk=>PV.ite (hd k) (bd (PV.bin .eql d (.I 0)) λl=>
 some [l]) (some [.bool false])) (some [.bool false])):=bB _ _ _ _ _ _ _ _ (by kernel_rfl)
theorem pR : eO a b=bd (PV.whole 4 a) λc=>bd (PV.cell c 0) λd=>bd (PV.cell c 1) λe=>bd (PV.cell c 2) λf=>bd (PV.cell c 3) λg=>bd (PV.whole 4 b) λh=>bd (PV.cell h 0) λi=>bd (PV.cell h 1) λj=>bd (PV.cell h 2) λk=>bd (PV.cell h 3) λl=>bd (mN d i) λm=>bd (mN e j) λn=>bd (PV.cat 1 8 false (.lst []) (.lst [(hd m),(hd n)])) λo=>
 bd (aAI o) λp=>PV.guardFlat (hd p) (some [(hd p)]):=aX _ _ _ (by kernel_rfl)
theorem aCy : tQ a=bd (PV.whole 2 a) λb=>bd (PV.cell b 0) λc=>bd (PV.cell b 1) λd=>bd (PV.len d) λe=>bd (cE e (.I 1) (.I 12)) λf=>bd (PV.not (hd f)) λg=>PV.ite g (some [.bool false]) (bd (PV.len c) λh=>bd (PV.bin .gtr h (.I 20)) λi=>PV.ite i (some [.bool false]) (bd (eI c (.fn 87 [])) λj=>
 PV.ite (hd j) (some [.bool false]) (bd (PV.len d) λk=>lA d k (.I 0) c d))):=aX _ _ _ (by kernel_rfl)
theorem qI : lA a b c d e=bd (PV.bin .lss c b) λf=>PV.ite f (bd (PV.at_ 3 true a c) λg=>bd (PV.whole 3 g) λh=>bd (PV.cell h 0) λi=>bd (PV.cell h 1) λj=>bd (PV.cell h 2) λk=>bd (cE i (.I 0) (.I 6)) λl=>bd (PV.not (hd l)) λm=>PV.ite m (some [.bool false]) (bd (cE j i (.I 12)) λn=>bd (PV.not (hd n)) λo=>
 PV.ite o (some [.bool false]) (bd (PV.len k) λp=>bd (cE p (.I 1) (.I 120)) λq=>bd (PV.not (hd q)) λr=>PV.ite r (some [.bool false]) (bd (dM k (.fn 90 [(.bx [d,e]),(.bx [i,j,k])])) λs=>PV.guardFlat (hd s) (PV.ite (hd s) (some [.bool false]) (bd (PV.bin .add c (.I 1)) λt=>lA a b t d e)))))) (some [.bool true]):=bB _ _ _ _ _ _ _ _ (by kernel_rfl)
theorem aEJ : yD a b=bd (PV.whole 2 a) λc=>bd (PV.cell c 0) λd=>bd (PV.cell c 1) λe=>bd (PV.at_ 3 true e b) λf=>bd (PV.cell f 2) λg=>bd (PV.len g) λh=>bd (jW (.lst [(.I (-1))]) h) λi=>PV.guardOwn (.own 1 8 false []) (gd i 0) (bd (PV.inb (gd i 0) (.I 0)) λj=>bd (PV.setAt 1 false (gd i 0) (.I 0) (.I 0)) λk=>
 kO g (.bool true) d e k):=aX _ _ _ (by kernel_rfl)
theorem kE : kO a b c d e=PV.ite b (bd (PV.len a) λf=>gL a (.bool false) a f (.I 0) c d e) (some [e]):=bB _ _ _ _ _ _ _ _ (by kernel_rfl)
theorem sY : gL a b c d e f g h=bd (PV.bin .lss e d) λi=>PV.ite i (bd (PV.at_ 2 true c e) λj=>bd (PV.whole 2 j) λk=>bd (PV.cell k 0) λl=>bd (PV.cell k 1) λm=>bd (PV.inb h e) λn=>bd (PV.at_ 1 false h e) λo=>bd (PV.bin .lss o (.I 0)) λp=>PV.ite p (bd (PV.bin .add e (.I 1)) λq=>gL a b c d q f g h) (bd (PV.inb h e) λr=>
 bd (PV.at_ 1 false h e) λs=>bd (sU (.agg [f,g]) (.agg [l,m]) s) λt=>bd (PV.comp (hd t) 0) λu=>bd (PV.comp (hd t) 1) λv=>bd (qR (.agg [l,m]) e) λw=>bd (PV.len (hd w)) λx=>eV a b u v c d e (hd w) x (.I 0) f g h)) (kO a b f g h):=bB _ _ _ _ _ _ _ _ (by kernel_rfl)
theorem rV : eV a b c d e f g h i j k l m=bd (PV.bin .lss j i) λn=>PV.ite n (bd (PV.at_ 1 false h j) λo=>PV.ite d (bd (PV.len a) λp=>bd (PV.bin .lss o p) λq=>PV.ite q (bd (PV.inb m o) λr=>bd (PV.at_ 1 false m o) λs=>bd (PV.bin .lss s (.I 0)) λt=>PV.ite t (wG a c d o e f g h i j k l m) (bd (PV.bin .add j (.I 1)) λu=>
 eV a b c d e f g h i u k l m)) (bd (PV.bin .add j (.I 1)) λv=>eV a b c d e f g h i v k l m)) (bd (PV.bin .add j (.I 1)) λw=>eV a b c d e f g h i w k l m)) (bd (PV.bin .add g (.I 1)) λx=>gL a b e f x k l m):=bB _ _ _ _ _ _ _ _ (by kernel_rfl)
theorem aAT : wG a b c d e f g h i j k l m=bd (PV.inb m d) λn=>bd (PV.setAt 1 false m d b) λo=>bd (PV.bin .add j (.I 1)) λp=>eV a (.bool true) b c e f g h i p k l o:=bB _ _ _ _ _ _ _ _ (by kernel_rfl)
theorem aEK : sU a b c=bd (PV.whole 2 a) λd=>bd (PV.cell d 0) λe=>bd (PV.cell d 1) λf=>bd (PV.whole 2 b) λg=>bd (PV.cell g 0) λh=>bd (PV.cell g 1) λi=>bd (yE (.agg [e,f]) (.agg [h,i])) λj=>bd (PV.comp (hd j) 0) λk=>bd (PV.comp (hd j) 1) λl=>bd (PV.bin .sub c k) λm=>bd (PV.bin .add m l) λn=>bd (PV.bin .leq k c) λo=>
 PV.ite o (bd (PV.bin .leq n (.I 16)) λp=>some [(.tup [n,p])]) (some [(.tup [n,(.bool false)])]):=aX _ _ _ (by kernel_rfl)
theorem aDr : qR a b=bd (PV.whole 2 a) λc=>bd (PV.cell c 0) λd=>bd (PV.cell c 1) λe=>bd (PV.bin .eql d (.I 25)) λf=>PV.ite f (some [(.lst [])]) (bd (PV.bin .eql d (.I 17)) λg=>PV.ite g (bd (PV.cat 1 8 false (.lst []) (.lst [e])) λh=>some [h]) (bd (PV.bin .eql d (.I 18)) λi=>PV.ite i (bd (PV.bin .add b (.I 1)) λj=>
 bd (PV.cat 1 8 false (.lst []) (.lst [j,e])) λk=>some [k]) (bd (PV.bin .eql d (.I 19)) λl=>PV.ite l (bd (PV.bin .add b (.I 1)) λm=>bd (PV.cat 1 8 false (.lst []) (.lst [m,e])) λn=>some [n]) (bd (PV.bin .add b (.I 1)) λo=>bd (PV.cat 1 8 false (.lst []) (.lst [o])) λp=>some [p])))):=aX _ _ _ (by kernel_rfl)
theorem rW : iW a b=bd (kP a b) λc=>bd (PV.bin .geq (hd c) (.I 0)) λd=>some [d]:=aX _ _ _ (by kernel_rfl)
theorem pA : gB a b=bd (lY a b) λc=>bd (PV.bin .geq (hd c) (.I 0)) λd=>some [d]:=aX _ _ _ (by kernel_rfl)
theorem aCz : aAr a b c=bd (PV.deref b 0) λd=>bd (PV.at_ 1 false d a) λe=>bd (PV.deref c 0) λf=>bd (PV.bin .neq e f) λg=>some [g]:=aX _ _ _ (by kernel_rfl)
theorem aFC : vK a b c=bd (PV.whole 2 a) λd=>bd (PV.cell d 0) λe=>bd (PV.cell d 1) λf=>bd (PV.len f) λg=>bd (cN b g) λh=>bd (PV.not (hd h)) λi=>PV.ite i (some [(.tup [(.agg [(.I 0),(.I 0)]),(.bool false)])]) (bd (PV.at_ 3 true f b) λj=>bd (PV.cell j 2) λk=>bd (PV.len k) λl=>bd (cN c l) λm=>bd (PV.not (hd m)) λn=>
 PV.ite n (some [(.tup [(.agg [(.I 0),(.I 0)]),(.bool false)])]) (bd (PV.at_ 3 true f b) λo=>bd (PV.cell o 2) λp=>bd (PV.at_ 2 true p c) λq=>bd (PV.whole 2 q) λr=>bd (PV.cell r 0) λs=>bd (PV.cell r 1) λt=>some [(.tup [(.agg [s,t]),(.bool true)])])):=aX _ _ _ (by kernel_rfl)
theorem aDs : cN a b=bd (PV.bin .sub b (.I 1)) λc=>bd (cE a (.I 0) c) λd=>some [(hd d)]:=aX _ _ _ (by kernel_rfl)
theorem aDt : vL a=bd (PV.whole 2 a) λb=>bd (PV.cell b 0) λc=>bd (PV.cell b 1) λd=>bd (cE c (.I 11) (.I 14)) λe=>some [(hd e)]:=aX _ _ _ (by kernel_rfl)
theorem aDu : cE a b c=bd (PV.bin .leq b a) λd=>PV.ite d (bd (PV.bin .leq a c) λe=>some [e]) (some [.bool false]):=aX _ _ _ (by kernel_rfl)
theorem aAU : mN a b=bd (pL a) λc=>bd (pL b) λd=>PV.ite (hd c) (PV.ite (hd d) (some [.I 0]) (some [(.I (-1))])) (PV.ite (hd d) (some [.I 1]) (bd (PV.bin .lss a b) λe=>PV.ite e (some [(.I (-1))]) (bd (PV.bin .gtr a b) λf=>PV.ite f (some [.I 1]) (some [.I 0])))):=aX _ _ _ (by kernel_rfl)
theorem aFD : aAI a=bd (PV.len a) λb=>tR (.I 0) a b (.I 0):=aX _ _ _ (by kernel_rfl)
theorem pB : tR a b c d=bd (PV.bin .lss d c) λe=>PV.ite e (bd (PV.at_ 1 false b d) λf=>bd (PV.bin .neq f a) λg=>PV.ite g (some [f]) (bd (PV.bin .add d (.I 1)) λh=>tR a b c h)) (some [a]):=bB _ _ _ _ _ _ _ _ (by kernel_rfl)
theorem lR : eI a b=bd (iX a b) λc=>bd (PV.bin .geq (hd c) (.I 0)) λd=>some [d]:=aX _ _ _ (by kernel_rfl)
theorem aAV : wH a=bd (yF a) λb=>bd (PV.not (hd b)) λc=>some [c]:=aX _ _ _ (by kernel_rfl)
theorem jX : dM a b=bd (gM a b) λc=>bd (PV.bin .geq (hd c) (.I 0)) λd=>some [d]:=aX _ _ _ (by kernel_rfl)
theorem aAW : wI a b c=bd (PV.whole 2 a) λd=>bd (PV.cell d 0) λe=>bd (PV.cell d 1) λf=>bd (PV.deref b 0) λg=>bd (PV.deref b 1) λh=>bd (PV.deref c 0) λi=>bd (PV.deref c 1) λj=>bd (PV.deref c 2) λk=>bd (aAJ (.agg [g,h]) (.agg [i,j,k]) (.agg [e,f])) λl=>bd (PV.not (hd l)) λm=>some [m]:=aX _ _ _ (by kernel_rfl)
theorem aEL : yE a b=bd (PV.whole 2 a) λc=>bd (PV.cell c 0) λd=>bd (PV.cell c 1) λe=>bd (PV.whole 2 b) λf=>bd (PV.cell f 0) λg=>bd (PV.cell f 1) λh=>bd (cE g (.I 1) (.I 6)) λi=>PV.ite (hd i) (some [(.tup [(.I 0),(.I 1)])]) (bd (PV.bin .eql g (.I 20)) λj=>PV.ite j (some [(.tup [(.I 0),(.I 1)])])
 (bd (PV.bin .eql g (.I 7)) λk=>PV.ite k (some [(.tup [(.I 1),(.I 0)])]) (bd (PV.bin .eql g (.I 9)) λl=>PV.ite l (some [(.tup [(.I 1),(.I 0)])]) (bd (PV.bin .eql g (.I 18)) λm=>PV.ite m (some [(.tup [(.I 1),(.I 0)])]) (bd (PV.bin .eql g (.I 19)) λn=>PV.ite n (some [(.tup [(.I 1),(.I 0)])]) (bd (PV.bin .eql g (.I 25)) λo=>
 PV.ite o (some [(.tup [(.I 1),(.I 0)])]) (bd (PV.bin .eql g (.I 26)) λp=>PV.ite p (some [(.tup [(.I 1),(.I 0)])]) (bd (PV.bin .eql g (.I 8)) λq=>PV.ite q (some [(.tup [(.I 1),(.I 2)])]) (bd (PV.bin .eql g (.I 10)) λr=>PV.ite r (some [(.tup [(.I 2),(.I 2)])]) (bd (cE g (.I 11) (.I 15)) λs=>
 PV.ite (hd s) (some [(.tup [(.I 2),(.I 1)])]) (bd (PV.bin .eql g (.I 16)) λt=>PV.ite t (some [(.tup [(.I 1),(.I 1)])]) (bd (PV.bin .eql g (.I 21)) λu=>PV.ite u (some [(.tup [(.I 1),(.I 1)])]) (bd (PV.bin .eql g (.I 22)) λv=>PV.ite v (some [(.tup [(.I 2),(.I 0)])]) (bd (PV.bin .eql g (.I 23)) λw=>
 PV.ite w (bd (cE h (.I 0) (.I 6)) λx=>PV.ite (hd x) (bd (PV.bin .add h (.I 1)) λy=>some [(.tup [y,(.I 1)])]) (mO d e g h)) (mO d e g h))))))))))))))):=aX _ _ _ (by kernel_rfl)
variable (a b c d e f g h i : PV)
theorem aAX : mO a b c d=bd (PV.bin .eql c (.I 24)) λe=>PV.ite e (bd (PV.len b) λf=>bd (cN d f) λg=>PV.ite (hd g) (wJ a b c d) (some [(.tup [(.I 0),(.I 0)])])) (some [(.tup [(.I 0),(.I 0)])]):=bB _ _ _ _ _ _ _ _ (by kernel_rfl)
theorem aAY : wJ a b c d=bd (PV.at_ 3 true b d) λe=>bd (PV.cell e 0) λf=>some [(.tup [f,(.I 1)])]:=bB _ _ _ _ _ _ _ _ (by kernel_rfl)
theorem uM : kP a b=bd (PV.len a) λc=>fO a b c (.I 0):=aX _ _ _ (by kernel_rfl)
theorem kU : fO a b c d=bd (PV.bin .lss d c) λe=>PV.ite e (bd (PV.at_ 1 false a d) λf=>bd (PV.bin .eql b f) λg=>PV.ite g (some [d]) (bd (PV.bin .add d (.I 1)) λh=>fO a b c h)) (some [(.I (-1))]):=bB _ _ _ _ _ _ _ _ (by kernel_rfl)
theorem qV : lY a b=bd (PV.len a) λc=>eG a b c (.I 0):=aX _ _ _ (by kernel_rfl)
theorem jB : eG a b c d=bd (PV.bin .lss d c) λe=>PV.ite e (bd (PV.at_ 1 false a d) λf=>bd (PV.apply aY b [f]) λg=>PV.ite (hd g) (some [d]) (bd (PV.bin .add d (.I 1)) λh=>eG a b c h)) (some [(.I (-1))]):=bB _ _ _ _ _ _ _ _ (by kernel_rfl)
theorem aCA : pL a=bd (PV.bin .neq a a) λb=>some [b]:=aX _ _ _ (by kernel_rfl)
theorem nL : iX a b=bd (PV.len a) λc=>cY a b c (.I 0):=aX _ _ _ (by kernel_rfl)
theorem fY : cY a b c d=bd (PV.bin .lss d c) λe=>PV.ite e (bd (PV.at_ 1 false a d) λf=>bd (PV.apply aY b [f]) λg=>PV.ite (hd g) (some [d]) (bd (PV.bin .add d (.I 1)) λh=>cY a b c h)) (some [(.I (-1))]):=bB _ _ _ _ _ _ _ _ (by kernel_rfl)
theorem aEM : yF a=bd (PV.slen a) λb=>nU a b (.I 0):=aX _ _ _ (by kernel_rfl)
theorem sZ : nU a b c=bd (PV.bin .lss c b) λd=>PV.ite d (bd (PV.chr a c) λe=>bd (PV.bin .lss e (.int .u8 32)) λf=>PV.ite f (some [.bool false]) (bd (PV.chr a c) λg=>bd (PV.bin .gtr g (.int .u8 126)) λh=>PV.ite h (some [.bool false]) (bd (PV.chr a c) λi=>bd (PV.bin .eql i (.int .u8 34)) λj=>PV.ite j (some [.bool false]) (bd (PV.bin .add c (.I 1)) λk=>
 nU a b k)))) (bd (PV.slen a) λl=>bd (PV.bin .leq l (.I 60)) λm=>some [m]):=bB _ _ _ _ _ _ _ _ (by kernel_rfl)
theorem lG : gM a b=bd (PV.len a) λc=>cH a b c (.I 0):=aX _ _ _ (by kernel_rfl)
theorem fA : cH a b c d=bd (PV.bin .lss d c) λe=>PV.ite e (bd (PV.at_ 2 true a d) λf=>bd (PV.apply aY b [f]) λg=>PV.ite (hd g) (some [d]) (bd (PV.bin .add d (.I 1)) λh=>cH a b c h)) (some [(.I (-1))]):=bB _ _ _ _ _ _ _ _ (by kernel_rfl)
theorem aFE : aAJ a b c=bd (PV.whole 2 a) λd=>bd (PV.cell d 0) λe=>bd (PV.cell d 1) λf=>bd (PV.whole 3 b) λg=>bd (PV.cell g 0) λh=>bd (PV.cell g 1) λi=>bd (PV.cell g 2) λj=>bd (PV.whole 2 c) λk=>bd (PV.cell k 0) λl=>bd (PV.cell k 1) λm=>bd (PV.bin .eql l (.I 1)) λn=>PV.ite n (bd (aAK m) λo=>some [(hd o)]) (bd (PV.bin .eql l (.I 2)) λp=>
 PV.ite p (bd (cE m (.I 0) (.I 1)) λq=>some [(hd q)]) (bd (PV.bin .eql l (.I 3)) λr=>PV.ite r (bd (PV.len e) λs=>bd (cN m s) λt=>some [(hd t)]) (bd (PV.bin .eql l (.I 5)) λu=>PV.ite u (bd (PV.len f) λv=>bd (cN m v) λw=>some [(hd w)]) (bd (PV.bin .eql l (.I 24)) λx=>PV.ite x (bd (PV.len f) λy=>
 bd (cN m y) λz=>some [(hd z)]) (bd (PV.bin .eql l (.I 6)) λA=>PV.ite A (bd (cN m i) λB=>some [(hd B)]) (bd (PV.bin .eql l (.I 7)) λC=>PV.ite C (bd (cN m i) λD=>some [(hd D)]) (bd (PV.bin .eql l (.I 17)) λE=>PV.ite E (bd (PV.len j) λF=>bd (cN m F) λG=>some [(hd G)]) (bd (PV.bin .eql l (.I 18)) λH=>
 PV.ite H (bd (PV.len j) λI=>bd (cN m I) λJ=>some [(hd J)]) (bd (PV.bin .eql l (.I 19)) λK=>PV.ite K (bd (PV.len j) λL=>bd (cN m L) λM=>some [(hd M)]) (bd (PV.bin .eql l (.I 20)) λN=>PV.ite N (bd (cE m (.I 0) (.I 6)) λO=>some [(hd O)]) (bd (PV.bin .eql l (.I 21)) λP=>PV.ite P (bd (cN m (.I 6)) λQ=>
 some [(hd Q)]) (bd (PV.bin .eql l (.I 22)) λR=>PV.ite R (bd (cN m (.I 6)) λS=>some [(hd S)]) (bd (PV.bin .eql l (.I 23)) λT=>PV.ite T (bd (cE m (.I 0) (.I 6)) λU=>some [(hd U)]) (bd (cE l (.I 1) (.I 26)) λV=>PV.ite (hd V) (bd (PV.bin .eql m (.I 0)) λW=>some [W]) (some [.bool false]))))))))))))))):=aX _ _ _ (by kernel_rfl)
theorem aFF : aAK a=bd (cE a (.I (-1000000000)) (.I 1000000000)) λb=>some [(hd b)]:=aX _ _ _ (by kernel_rfl)
theorem aAZ : gY a b c=bd (PV.whole 2 a) λd=>bd (PV.cell d 0) λe=>bd (PV.cell d 1) λf=>bd (nR (.agg [e,f]) b) λg=>bd (PV.not (hd g)) λh=>PV.ite h (some [(.lst [])]) (bd (nS (.agg [e,f]) c) λi=>bd (PV.not (hd i)) λj=>PV.ite j (some [(.lst [])]) (bd (eQ b) λk=>PV.guardOwn (.own 4 32 true []) (gd k 0) (
 bd (PV.len c) λl=>gN c l (.I 0) e f (gd k 0)))):=bT _ _ _ _ (by kernel_rfl)
theorem oK : gN a b c d e f=bd (PV.bin .lss c b) λg=>PV.ite g (bd (PV.at_ 4 true a c) λh=>bd (PV.whole 4 h) λi=>bd (PV.cell i 0) λj=>bd (PV.cell i 1) λk=>bd (PV.cell i 2) λl=>bd (PV.cell i 3) λm=>bd (bU f (.agg [j,k,l,m]) (.fn 55 [])) λn=>PV.guardFlat (hd n) (bd (PV.comp (hd n) 0) λo=>
 bd (PV.comp (hd n) 1) λp=>PV.ite p (bd (PV.inb f o) λq=>bd (PV.at_ 4 true f o) λr=>bd (tS (.agg [d,e]) r (.agg [j,k,l,m])) λs=>bd (PV.inb f o) λt=>bd (PV.setAt 4 true f o (hd s)) λu=>bd (PV.bin .add c (.I 1)) λv=>gN a b v d e u) (bd (eJ o f (.lst [(.agg [j,k,l,m])])) λw=>bd (PV.bin .add c (.I 1)) λx=>
 gN a b x d e (gd w 0)))) (bd (PV.len f) λy=>bd (PV.bin .gtr y (.I 150)) λz=>PV.ite z (some [(.lst [])]) (some [f])):=bB _ _ _ _ _ _ _ _ (by kernel_rfl)
theorem fL : bU a b c=bd (PV.whole 4 b) λd=>bd (PV.cell d 0) λe=>bd (PV.cell d 1) λf=>bd (PV.cell d 2) λg=>bd (PV.cell d 3) λh=>bd (PV.len a) λi=>bA a c i (.I 0) i e f g h:=aX _ _ _ (by kernel_rfl)
theorem cL : bA a b c d e f g h i=bd (PV.bin .lss d e) λj=>PV.ite j (bd (PV.bin .add d e) λk=>bd (PV.conv .u64 k) λl=>bd (PV.bin .shr l (.int .u64 1)) λm=>bd (PV.conv .i64 m) λn=>bd (PV.at_ 4 true a n) λo=>bd (PV.apply aY b [o,(.agg [f,g,h,i])]) λp=>
 bd (PV.bin .lss (hd p) (.I 0)) λq=>PV.ite q (bd (PV.bin .add n (.I 1)) λr=>bA a b c r e f g h i) (bA a b c d n f g h i)) (bd (PV.bin .lss d c) λs=>PV.ite s (bd (PV.at_ 4 true a d) λt=>bd (PV.apply aY b [t,(.agg [f,g,h,i])]) λu=>bd (PV.bin .eql (hd u) (.I 0)) λv=>
 some [(.tup [d,v])]) (some [(.tup [d,(.bool false)])])):=bB _ _ _ _ _ _ _ _ (by kernel_rfl)
theorem aCB : tS a b c=bd (PV.whole 2 a) λd=>bd (PV.cell d 0) λe=>bd (PV.cell d 1) λf=>bd (PV.whole 4 b) λg=>bd (PV.cell g 0) λh=>bd (PV.cell g 1) λi=>bd (PV.cell g 2) λj=>bd (PV.cell g 3) λk=>bd (PV.whole 4 c) λl=>bd (PV.cell l 0) λm=>bd (PV.cell l 1) λn=>bd (PV.cell l 2) λo=>bd (PV.cell l 3) λp=>bd (PV.at_ 3 true f h) λq=>
 bd (PV.cell q 2) λr=>bd (PV.at_ 2 true r i) λs=>bd (PV.cell s 0) λt=>bd (PV.bin .neq t (.I 23)) λu=>PV.ite u (bd (PV.bin .or j o) λv=>bd (PV.one v) λw=>some [(.agg [h,i,w,k])]) (bd (PV.ceq [1,1,1,1] .neq (.agg [h,i,j,k]) (.agg [m,n,o,p])) λx=>PV.ite x (some [(.agg [h,i,(.I 2),(.I 0)])]) (some [(.agg [h,i,j,k])])):=aX _ _ _ (by kernel_rfl)
theorem aA0 : qC a b c=bd (PV.whole 2 a) λd=>bd (PV.cell d 0) λe=>bd (PV.cell d 1) λf=>bd (nV (.agg [e,f]) b) λg=>bd (PV.not (hd g)) λh=>PV.ite h (some [(.lst [])]) (bd (nV (.agg [e,f]) c) λi=>bd (PV.not (hd i)) λj=>PV.ite j (some [(.lst [])]) (bd (PV.cat 4 32 true (.lst []) b) λk=>jK c (.I 0) e f k)):=bT _ _ _ _ (by kernel_rfl)
theorem oL : jK a b c d e=bd (PV.len a) λf=>bd (PV.bin .lss b f) λg=>PV.ite g (bd (PV.at_ 4 true a b) λh=>bd (fJ (.agg [c,d]) e h) λi=>PV.guardOwn (.own 4 32 true []) (gd i 0) (bd (PV.bin .add b (.I 1)) λj=>jK a j c d (gd i 0))) (bd (PV.len e) λk=>bd (PV.bin .gtr k (.I 150)) λl=>PV.ite l
 (some [(.lst [])]) (some [e])):=bB _ _ _ _ _ _ _ _ (by kernel_rfl)
theorem aBH : nV a b=bd (PV.whole 2 a) λc=>bd (PV.cell c 0) λd=>bd (PV.cell c 1) λe=>bd (lB (.agg [d,e])) λf=>PV.ite (hd f) (bd (aAL (.agg [d,e]) b) λg=>some [(hd g)]) (some [.bool false]):=aX _ _ _ (by kernel_rfl)
theorem aDv : lB a=bd (PV.whole 2 a) λb=>bd (PV.cell b 0) λc=>bd (PV.cell b 1) λd=>bd (yG (.agg [c,d])) λe=>bd (PV.cell (hd e) 0) λf=>bd (PV.bin .eql f (.I 0)) λg=>some [g]:=aX _ _ _ (by kernel_rfl)
theorem aFG : aAL a b=bd (PV.whole 2 a) λc=>bd (PV.cell c 0) λd=>bd (PV.cell c 1) λe=>bd (PV.len b) λf=>bd (PV.bin .gtr f (.I 150)) λg=>PV.ite g (some [.bool false]) (iK b (.I 0) d e):=aX _ _ _ (by kernel_rfl)
theorem uN : iK a b c d=bd (PV.len a) λe=>bd (PV.bin .lss b e) λf=>PV.ite f (bd (PV.at_ 4 true a b) λg=>bd (PV.whole 4 g) λh=>bd (PV.cell h 0) λi=>bd (PV.cell h 1) λj=>bd (PV.cell h 2) λk=>bd (PV.cell h 3) λl=>bd (PV.bin .gtr b (.I 0)) λm=>PV.ite m (bd (PV.bin .sub b (.I 1)) λn=>bd (PV.at_ 4 true a n) λo=>
 bd (qS o (.agg [i,j,k,l])) λp=>bd (PV.not (hd p)) λq=>PV.ite q (some [.bool false]) (bd (PV.len d) λr=>bd (PV.bin .sub r (.I 1)) λs=>bd (aL i (.I 0) s) λt=>bd (PV.not (hd t)) λu=>PV.ite u (some [.bool false]) (bd (PV.at_ 3 true d i) λv=>bd (PV.cell v 2) λw=>bd (PV.len w) λx=>bd (PV.bin .sub x (.I 1)) λy=>
 bd (aL j (.I 0) y) λz=>bd (PV.not (hd z)) λA=>PV.ite A (some [.bool false]) (bd (PV.at_ 3 true d i) λB=>bd (PV.cell B 2) λC=>bd (PV.at_ 2 true C j) λD=>bd (PV.cell D 0) λE=>bd (mZ E) λF=>bd (PV.not (hd F)) λG=>PV.ite G (some [.bool false]) (bd (aL k (.I 1) (.I 3)) λH=>bd (PV.not (hd H)) λI=>PV.ite I
 (some [.bool false]) (bd (PV.bin .eql E (.I 23)) λJ=>PV.ite J (bd (PV.bin .eql k (.I 1)) λK=>PV.ite K (nW a b c d i j k l) (fI a b E c d i j k l)) (fI a b E c d i j k l))))))) (bd (PV.len d) λL=>bd (PV.bin .sub L (.I 1)) λM=>bd (aL i (.I 0) M) λN=>bd (PV.not (hd N)) λO=>PV.ite O (some [.bool false])
 (bd (PV.at_ 3 true d i) λP=>bd (PV.cell P 2) λQ=>bd (PV.len Q) λR=>bd (PV.bin .sub R (.I 1)) λS=>bd (aL j (.I 0) S) λT=>bd (PV.not (hd T)) λU=>PV.ite U (some [.bool false]) (bd (PV.at_ 3 true d i) λV=>bd (PV.cell V 2) λW=>bd (PV.at_ 2 true W j) λX=>bd (PV.cell X 0) λY=>bd (mZ Y) λZ=>bd (PV.not (hd Z)) λaa=>
 PV.ite aa (some [.bool false]) (bd (aL k (.I 1) (.I 3)) λab=>bd (PV.not (hd ab)) λac=>PV.ite ac (some [.bool false]) (bd (PV.bin .eql Y (.I 23)) λad=>PV.ite ad (bd (PV.bin .eql k (.I 1)) λae=>PV.ite ae (nW a b c d i j k l) (fI a b Y c d i j k l)) (fI a b Y c d i j k l))))))) (some [.bool true]):=bB _ _ _ _ _ _ _ _ (by kernel_rfl)
theorem aBI : nW a b c d e f g h=bd (PV.len d) λi=>bd (PV.bin .sub i (.I 1)) λj=>bd (aL h (.I 0) j) λk=>bd (PV.not (hd k)) λl=>PV.ite l (some [.bool false]) (bd (PV.bin .add b (.I 1)) λm=>iK a m c d):=bB _ _ _ _ _ _ _ _ (by kernel_rfl)
theorem aBJ : fI a b c d e f g h i=bd (PV.bin .neq i (.I 0)) λj=>PV.ite j (some [.bool false]) (bd (PV.bin .eql c (.I 23)) λk=>PV.ite k (bd (PV.bin .eql h (.I 3)) λl=>PV.ite l (some [.bool false]) (bd (PV.bin .add b (.I 1)) λm=>iK a m d e)) (bd (PV.bin .add b (.I 1)) λn=>iK a n d e)):=bB _ _ _ _ _ _ _ _ (by kernel_rfl)
theorem aEN : yG a=bd (PV.whole 2 a) λb=>bd (PV.cell b 0) λc=>bd (PV.cell b 1) λd=>bd (tT (.agg [c,d])) λe=>bd (PV.not (hd e)) λf=>PV.ite f (some [(.agg [(.I 1),(.I 0),(.I 0)])]) (kQ (.I 0) c d (.I 0) (.I 0) (.I 0)):=aX _ _ _ (by kernel_rfl)
theorem tA : kQ a b c d e f=bd (PV.len c) λg=>bd (PV.bin .lss a g) λh=>PV.ite h (bd (PV.at_ 3 true c a) λi=>bd (PV.cell i 2) λj=>bd (rR (.agg [b,c]) a) λk=>iY a j (hd k) (.I 0) b c d e f) (some [(.agg [(.I 0),(.I 0),(.I 0)])]):=bB _ _ _ _ _ _ _ _ (by kernel_rfl)
theorem tB : iY a b c d e f g h i=bd (PV.len b) λj=>bd (PV.bin .lss d j) λk=>PV.ite k (bd (PV.at_ 1 false c d) λl=>bd (PV.bin .lss l (.I 0)) λm=>PV.ite m (bd (PV.bin .add d (.I 1)) λn=>iY a b c n e f g h i) (bd (PV.at_ 2 true b d) λo=>bd (sV (.agg [e,f]) o) λp=>bd (PV.comp (hd p) 0) λq=>bd (PV.comp (hd p) 1) λr=>
 bd (PV.at_ 1 false c d) λs=>bd (PV.bin .sub s q) λt=>bd (PV.bin .add t r) λu=>bd (PV.at_ 1 false c d) λv=>bd (PV.bin .lss v q) λw=>PV.ite w (bd (PV.one a) λx=>bd (PV.one d) λy=>some [(.agg [(.I 2),x,y])]) (bd (PV.bin .gtr u (.I 16)) λz=>PV.ite z (bd (PV.one a) λA=>bd (PV.one d) λB=>some [(.agg [(.I 2),A,B])]) (bd (PV.at_ 2 true b d) λC=>
 bd (qT C d) λD=>jS a b c d u (hd D) (.I 0) e f g h i)))) (bd (PV.bin .add a (.I 1)) λE=>kQ E e f g h i):=bB _ _ _ _ _ _ _ _ (by kernel_rfl)
variable (a b c d e f g h i j k l : PV)
theorem rX : jS a b c d e f g h i j k l=bd (PV.len f) λm=>bd (PV.bin .lss g m) λn=>PV.ite n (bd (PV.at_ 1 false f g) λo=>bd (PV.len b) λp=>bd (PV.bin .geq o p) λq=>PV.ite q (bd (PV.one a) λr=>bd (PV.one d) λs=>some [(.agg [(.I 3),r,s])]) (bd (PV.bin .add g (.I 1)) λt=>jS a b c d e f t h i j k l)) (gZ a b c d e f (.I 0) h i j k l):=bB _ _ _ _ _ _ _ _ (by kernel_rfl)
theorem rY : gZ a b c d e f g h i j k l=bd (PV.len f) λm=>bd (PV.bin .lss g m) λn=>PV.ite n (bd (PV.at_ 1 false f g) λo=>bd (PV.at_ 1 false c o) λp=>bd (PV.bin .neq p e) λq=>PV.ite q (bd (PV.one a) λr=>bd (PV.one d) λs=>some [(.agg [(.I 4),r,s])]) (bd (PV.bin .add g (.I 1)) λt=>gZ a b c d e f t h i j k l))
 (bd (PV.bin .add d (.I 1)) λu=>iY a b c u h i j k l):=bB _ _ _ _ _ _ _ _ (by kernel_rfl)
theorem aDw : qS a b=bd (PV.whole 4 a) λc=>bd (PV.cell c 0) λd=>bd (PV.cell c 1) λe=>bd (PV.cell c 2) λf=>bd (PV.cell c 3) λg=>bd (PV.whole 4 b) λh=>bd (PV.cell h 0) λi=>bd (PV.cell h 1) λj=>bd (PV.cell h 2) λk=>bd (PV.cell h 3) λl=>bd (PV.bin .lss d i) λm=>PV.ite m (some [.bool true]) (bd (PV.bin .eql d i) λn=>PV.ite n
 (bd (PV.bin .lss e j) λo=>some [o]) (some [.bool false])):=aX _ _ _ (by kernel_rfl)
theorem aA1 : aL a b c=bd (PV.bin .geq a b) λd=>PV.ite d (bd (PV.bin .leq a c) λe=>some [e]) (some [.bool false]):=aX _ _ _ (by kernel_rfl)
theorem aFH : mZ a=bd (PV.bin .eql a (.I 11)) λb=>PV.ite b (some [.bool true]) (bd (PV.bin .eql a (.I 12)) λc=>PV.ite c (some [.bool true]) (bd (PV.bin .eql a (.I 13)) λd=>PV.ite d (some [.bool true]) (bd (PV.bin .eql a (.I 14)) λe=>PV.ite e (some [.bool true]) (bd (PV.bin .eql a (.I 23)) λf=>PV.ite f (some [.bool true])
 (some [.bool false]))))):=aX _ _ _ (by kernel_rfl)
theorem aCC : tT a=bd (PV.whole 2 a) λb=>bd (PV.cell b 0) λc=>bd (PV.cell b 1) λd=>bd (PV.len d) λe=>bd (aL e (.I 1) (.I 12)) λf=>bd (PV.not (hd f)) λg=>PV.ite g (some [.bool false]) (bd (PV.len c) λh=>bd (PV.bin .gtr h (.I 20)) λi=>PV.ite i (some [.bool false]) (lC (.I 0) c d)):=aX _ _ _ (by kernel_rfl)
theorem qJ : lC a b c=bd (PV.len b) λd=>bd (PV.bin .lss a d) λe=>PV.ite e (bd (PV.at_ 1 false b a) λf=>bd (nX f) λg=>bd (PV.not (hd g)) λh=>PV.ite h (some [.bool false]) (bd (PV.bin .add a (.I 1)) λi=>lC i b c)) (iZ (.I 0) b c):=bB _ _ _ _ _ _ _ _ (by kernel_rfl)
theorem qK : iZ a b c=bd (PV.len c) λd=>bd (PV.bin .lss a d) λe=>PV.ite e (bd (PV.at_ 3 true c a) λf=>bd (PV.whole 3 f) λg=>bd (PV.cell g 0) λh=>bd (PV.cell g 1) λi=>bd (PV.cell g 2) λj=>bd (aL h (.I 0) (.I 6)) λk=>bd (PV.not (hd k)) λl=>PV.ite l (some [.bool false]) (bd (aL i h (.I 12)) λm=>
 bd (PV.not (hd m)) λn=>PV.ite n (some [.bool false]) (bd (PV.len j) λo=>bd (aL o (.I 1) (.I 120)) λp=>bd (PV.not (hd p)) λq=>PV.ite q (some [.bool false]) (kA a (.I 0) b c h i j)))) (some [.bool true]):=bB _ _ _ _ _ _ _ _ (by kernel_rfl)
theorem pS : kA a b c d e f g=bd (PV.len g) λh=>bd (PV.bin .lss b h) λi=>PV.ite i (bd (PV.at_ 2 true g b) λj=>bd (aAM (.agg [c,d]) a j) λk=>bd (PV.not (hd k)) λl=>PV.ite l (some [.bool false]) (bd (PV.bin .add b (.I 1)) λm=>kA a m c d e f g)) (bd (PV.bin .add a (.I 1)) λn=>iZ n c d):=bB _ _ _ _ _ _ _ _ (by kernel_rfl)
theorem aBK : rR a b=bd (PV.whole 2 a) λc=>bd (PV.cell c 0) λd=>bd (PV.cell c 1) λe=>bd (PV.at_ 3 true e b) λf=>bd (PV.cell f 2) λg=>kB g (.I 0) d e (.lst []):=aX _ _ _ (by kernel_rfl)
theorem pT : kB a b c d e=bd (PV.len a) λf=>bd (PV.bin .lss b f) λg=>PV.ite g (bd (PV.cat 1 8 false e (.lst [(.I (-1))])) λh=>bd (PV.bin .add b (.I 1)) λi=>kB a i c d h) (bd (PV.inb e (.I 0)) λj=>bd (PV.setAt 1 false e (.I 0) (.I 0)) λk=>iB a (.bool true) c d k):=bB _ _ _ _ _ _ _ _ (by kernel_rfl)
theorem iE : iB a b c d e=PV.ite b (dI a (.bool false) (.I 0) c d e) (some [e]):=bB _ _ _ _ _ _ _ _ (by kernel_rfl)
theorem oM : dI a b c d e f=bd (PV.len a) λg=>bd (PV.bin .lss c g) λh=>PV.ite h (bd (PV.at_ 2 true a c) λi=>bd (sV (.agg [d,e]) i) λj=>bd (PV.comp (hd j) 0) λk=>bd (PV.comp (hd j) 1) λl=>bd (PV.inb f c) λm=>bd (PV.at_ 1 false f c) λn=>bd (PV.bin .sub n k) λo=>bd (PV.bin .add o l) λp=>bd (PV.inb f c) λq=>
 bd (PV.at_ 1 false f c) λr=>bd (PV.bin .lss r k) λs=>PV.ite s (bd (PV.bin .add c (.I 1)) λt=>dI a b t d e f) (bd (PV.bin .gtr p (.I 16)) λu=>PV.ite u (bd (PV.bin .add c (.I 1)) λv=>dI a b v d e f) (bd (PV.at_ 2 true a c) λw=>bd (qT w c) λx=>eB a b c p (hd x) (.I 0) d e f))) (iB a b d e f):=bB _ _ _ _ _ _ _ _ (by kernel_rfl)
theorem oN : eB a b c d e f g h i=bd (PV.len e) λj=>bd (PV.bin .lss f j) λk=>PV.ite k (bd (PV.at_ 1 false e f) λl=>bd (PV.len a) λm=>bd (PV.bin .lss l m) λn=>PV.ite n (bd (PV.at_ 1 false e f) λo=>bd (PV.inb i o) λp=>bd (PV.at_ 1 false i o) λq=>bd (PV.bin .lss q (.I 0)) λr=>PV.ite r (rS a c d e f g h i)
 (bd (PV.bin .add f (.I 1)) λs=>eB a b c d e s g h i)) (bd (PV.bin .add f (.I 1)) λt=>eB a b c d e t g h i)) (bd (PV.bin .add c (.I 1)) λu=>dI a b u g h i):=bB _ _ _ _ _ _ _ _ (by kernel_rfl)
theorem wQ : rS a b c d e f g h=bd (PV.at_ 1 false d e) λi=>bd (PV.inb h i) λj=>bd (PV.setAt 1 false h i c) λk=>bd (PV.bin .add e (.I 1)) λl=>eB a (.bool true) b c d l f g k:=bB _ _ _ _ _ _ _ _ (by kernel_rfl)
theorem aEO : sV a b=bd (PV.whole 2 a) λc=>bd (PV.cell c 0) λd=>bd (PV.cell c 1) λe=>bd (PV.whole 2 b) λf=>bd (PV.cell f 0) λg=>bd (PV.cell f 1) λh=>bd (PV.bin .eql g (.I 1)) λi=>PV.ite i (some [(.tup [(.I 0),(.I 1)])]) (bd (PV.bin .eql g (.I 2)) λj=>PV.ite j (some [(.tup [(.I 0),(.I 1)])]) (bd (PV.bin .eql g (.I 3)) λk=>
 PV.ite k (some [(.tup [(.I 0),(.I 1)])]) (bd (PV.bin .eql g (.I 4)) λl=>PV.ite l (some [(.tup [(.I 0),(.I 1)])]) (bd (PV.bin .eql g (.I 5)) λm=>PV.ite m (some [(.tup [(.I 0),(.I 1)])]) (bd (PV.bin .eql g (.I 6)) λn=>PV.ite n (some [(.tup [(.I 0),(.I 1)])]) (bd (PV.bin .eql g (.I 20)) λo=>PV.ite o
 (some [(.tup [(.I 0),(.I 1)])]) (bd (PV.bin .eql g (.I 7)) λp=>PV.ite p (some [(.tup [(.I 1),(.I 0)])]) (bd (PV.bin .eql g (.I 9)) λq=>PV.ite q (some [(.tup [(.I 1),(.I 0)])]) (bd (PV.bin .eql g (.I 18)) λr=>PV.ite r (some [(.tup [(.I 1),(.I 0)])]) (bd (PV.bin .eql g (.I 19)) λs=>PV.ite s (some [(.tup [(.I 1),(.I 0)])])
 (bd (PV.bin .eql g (.I 25)) λt=>PV.ite t (some [(.tup [(.I 1),(.I 0)])]) (bd (PV.bin .eql g (.I 26)) λu=>PV.ite u (some [(.tup [(.I 1),(.I 0)])]) (bd (PV.bin .eql g (.I 8)) λv=>PV.ite v (some [(.tup [(.I 1),(.I 2)])]) (bd (PV.bin .eql g (.I 10)) λw=>PV.ite w (some [(.tup [(.I 2),(.I 2)])]) (bd (PV.bin .eql g (.I 11)) λx=>
 PV.ite x (some [(.tup [(.I 2),(.I 1)])]) (bd (PV.bin .eql g (.I 12)) λy=>PV.ite y (some [(.tup [(.I 2),(.I 1)])]) (bd (PV.bin .eql g (.I 13)) λz=>PV.ite z (some [(.tup [(.I 2),(.I 1)])]) (bd (PV.bin .eql g (.I 14)) λA=>PV.ite A (some [(.tup [(.I 2),(.I 1)])]) (bd (PV.bin .eql g (.I 15)) λB=>PV.ite B
 (some [(.tup [(.I 2),(.I 1)])]) (bd (PV.bin .eql g (.I 16)) λC=>PV.ite C (some [(.tup [(.I 1),(.I 1)])]) (bd (PV.bin .eql g (.I 21)) λD=>PV.ite D (some [(.tup [(.I 1),(.I 1)])]) (bd (PV.bin .eql g (.I 22)) λE=>PV.ite E (some [(.tup [(.I 2),(.I 0)])]) (bd (PV.bin .eql g (.I 23)) λF=>PV.ite F (bd (aL h (.I 0) (.I 6)) λG=>
 PV.ite (hd G) (bd (PV.bin .add h (.I 1)) λH=>some [(.tup [H,(.I 1)])]) (some [(.tup [(.I 0),(.I 0)])])) (bd (PV.bin .eql g (.I 24)) λI=>PV.ite I (bd (PV.len e) λJ=>bd (PV.bin .sub J (.I 1)) λK=>bd (aL h (.I 0) K) λL=>PV.ite (hd L) (bd (PV.at_ 3 true e h) λM=>bd (PV.cell M 0) λN=>some [(.tup [N,(.I 1)])])
 (some [(.tup [(.I 0),(.I 0)])])) (some [(.tup [(.I 0),(.I 0)])]))))))))))))))))))))))))):=aX _ _ _ (by kernel_rfl)
theorem aDx : qT a b=bd (PV.whole 2 a) λc=>bd (PV.cell c 0) λd=>bd (PV.cell c 1) λe=>bd (PV.bin .neq d (.I 17)) λf=>PV.ite f (bd (PV.bin .neq d (.I 25)) λg=>PV.ite g (wK b d e (.lst [])) (mP d e (.lst []))) (mP d e (.lst [])):=aX _ _ _ (by kernel_rfl)
theorem aA2 : wK a b c d=bd (PV.bin .add a (.I 1)) λe=>bd (PV.cat 1 8 false (.lst []) (.lst [e])) λf=>bd (PV.cat 1 8 false d f) λg=>mP b c g:=bB _ _ _ _ _ _ _ _ (by kernel_rfl)
theorem aA3 : mP a b c=bd (PV.bin .eql a (.I 17)) λd=>PV.ite d (mQ a b c) (bd (PV.bin .eql a (.I 18)) λe=>PV.ite e (mQ a b c) (bd (PV.bin .eql a (.I 19)) λf=>PV.ite f (mQ a b c) (some [c]))):=bB _ _ _ _ _ _ _ _ (by kernel_rfl)
theorem aA4 : mQ a b c=bd (PV.cat 1 8 false (.lst []) (.lst [b])) λd=>bd (PV.cat 1 8 false c d) λe=>some [e]:=bB _ _ _ _ _ _ _ _ (by kernel_rfl)
theorem aDy : nX a=bd (PV.slen a) λb=>bd (PV.bin .gtr b (.I 60)) λc=>PV.ite c (some [.bool false]) (mT a (.I 0)):=aX _ _ _ (by kernel_rfl)
theorem rZ : mT a b=bd (PV.slen a) λc=>bd (PV.bin .lss b c) λd=>PV.ite d (bd (PV.chr a b) λe=>bd (PV.bin .lss e (.int .u8 32)) λf=>PV.ite f (some [.bool false]) (bd (PV.chr a b) λg=>bd (PV.bin .gtr g (.int .u8 126)) λh=>PV.ite h (some [.bool false]) (bd (PV.chr a b) λi=>bd (PV.bin .eql i (.int .u8 34)) λj=>PV.ite j (some [.bool false])
 (bd (PV.bin .add b (.I 1)) λk=>mT a k)))) (some [.bool true]):=bB _ _ _ _ _ _ _ _ (by kernel_rfl)
theorem aFI : aAM a b c=bd (PV.whole 2 a) λd=>bd (PV.cell d 0) λe=>bd (PV.cell d 1) λf=>bd (PV.whole 2 c) λg=>bd (PV.cell g 0) λh=>bd (PV.cell g 1) λi=>bd (PV.len f) λj=>bd (PV.bin .sub j (.I 1)) λk=>bd (aL b (.I 0) k) λl=>bd (PV.not (hd l)) λm=>PV.ite m (some [.bool false]) (bd (PV.bin .eql h (.I 1)) λn=>
 PV.ite n (bd (aL i (.I (-1000000000)) (.I 1000000000)) λo=>some [(hd o)]) (bd (PV.bin .eql h (.I 2)) λp=>PV.ite p (bd (aL i (.I 0) (.I 1)) λq=>some [(hd q)]) (bd (PV.bin .eql h (.I 3)) λr=>PV.ite r (bd (PV.len e) λs=>bd (PV.bin .sub s (.I 1)) λt=>bd (aL i (.I 0) t) λu=>some [(hd u)])
 (bd (PV.bin .eql h (.I 5)) λv=>PV.ite v (bd (PV.len f) λw=>bd (PV.bin .sub w (.I 1)) λx=>bd (aL i (.I 0) x) λy=>some [(hd y)]) (bd (PV.bin .eql h (.I 24)) λz=>PV.ite z (bd (PV.len f) λA=>bd (PV.bin .sub A (.I 1)) λB=>bd (aL i (.I 0) B) λC=>some [(hd C)]) (bd (PV.bin .eql h (.I 6)) λD=>
 PV.ite D (bd (PV.at_ 3 true f b) λE=>bd (PV.cell E 1) λF=>bd (PV.bin .sub F (.I 1)) λG=>bd (aL i (.I 0) G) λH=>some [(hd H)]) (bd (PV.bin .eql h (.I 7)) λI=>PV.ite I (bd (PV.at_ 3 true f b) λJ=>bd (PV.cell J 1) λK=>bd (PV.bin .sub K (.I 1)) λL=>bd (aL i (.I 0) L) λM=>some [(hd M)]) (bd (PV.bin .eql h (.I 17)) λN=>
 PV.ite N (bd (PV.at_ 3 true f b) λO=>bd (PV.cell O 2) λP=>bd (PV.len P) λQ=>bd (PV.bin .sub Q (.I 1)) λR=>bd (aL i (.I 0) R) λS=>some [(hd S)]) (bd (PV.bin .eql h (.I 18)) λT=>PV.ite T (bd (PV.at_ 3 true f b) λU=>bd (PV.cell U 2) λV=>bd (PV.len V) λW=>bd (PV.bin .sub W (.I 1)) λX=>bd (aL i (.I 0) X) λY=>
 some [(hd Y)]) (bd (PV.bin .eql h (.I 19)) λZ=>PV.ite Z (bd (PV.at_ 3 true f b) λaa=>bd (PV.cell aa 2) λab=>bd (PV.len ab) λac=>bd (PV.bin .sub ac (.I 1)) λad=>bd (aL i (.I 0) ad) λae=>some [(hd ae)]) (bd (PV.bin .eql h (.I 20)) λaf=>PV.ite af (bd (aL i (.I 0) (.I 6)) λag=>some [(hd ag)]) (bd (PV.bin .eql h (.I 21)) λah=>
 PV.ite ah (bd (aL i (.I 0) (.I 5)) λai=>some [(hd ai)]) (bd (PV.bin .eql h (.I 22)) λaj=>PV.ite aj (bd (aL i (.I 0) (.I 5)) λak=>some [(hd ak)]) (bd (PV.bin .eql h (.I 23)) λal=>PV.ite al (bd (aL i (.I 0) (.I 6)) λam=>some [(hd am)]) (bd (aL h (.I 1) (.I 26)) λan=>
 PV.ite (hd an) (bd (PV.bin .eql i (.I 0)) λao=>some [ao]) (some [.bool false])))))))))))))))):=aX _ _ _ (by kernel_rfl)
variable (a b c d e f g h i j k l m n o : PV)
theorem aDz : vM a=bd (PV.len a) λb=>bd (PV.bin .rem b (.I 1000)) λc=>bd (PV.bin .add (.I 11) c) λd=>bd (PV.one a) λe=>bd (PV.one d) λf=>some [e,(.I 0),f]:=bT _ _ _ _ (by kernel_rfl)
theorem zW : oV a b c=bd (bY (.I 25) a b c) λd=>PV.ite (gd d 0) (bd (qD (.I 2) (gd d 1) (gd d 2) (gd d 3)) λe=>bd (PV.whole 2 (gd e 0)) λf=>bd (PV.cell f 0) λg=>bd (PV.cell f 1) λh=>some [(.agg [g,h]),(gd e 1),(gd e 2),(gd e 3)]) (bd (oW (gd d 1) (gd d 2) (gd d 3)) λi=>bd (PV.whole 2 (gd i 0)) λj=>
 bd (PV.cell j 0) λk=>bd (PV.cell j 1) λl=>some [(.agg [k,l]),(gd i 1),(gd i 2),(gd i 3)]):=bT _ _ _ _ (by kernel_rfl)
theorem vP : iP a b c d e f=bd (aD (.I 4) d e f) λg=>bd (PV.bin .gtr (gd g 0) (.I 0)) λh=>PV.ite h (bd (oX a b (gd g 1) (gd g 2) (gd g 3)) λi=>bd (aD (.I 200) (gd i 1) (gd i 2) (gd i 3)) λj=>bd (nZ (.agg [a,b]) (gd i 0) (gd j 0)) λk=>PV.guardOwn (.own 4 32 true []) (gd k 0) (
 eP c (gd j 1) (gd j 2) (gd j 3) a b (gd k 0))) (eP c (gd g 1) (gd g 2) (gd g 3) a b (.lst [])):=bT _ _ _ _ (by kernel_rfl)
theorem sL : eP a b c d e f g=bd (lB (.agg [e,f])) λh=>PV.ite (hd h) (dN a (.I 0) b c d e f g) (eE a b c d g):=bB _ _ _ _ _ _ _ _ (by kernel_rfl)
theorem lL : dN a b c d e f g h=bd (PV.len g) λi=>bd (PV.bin .lss b i) λj=>PV.ite j (bK a b (.I 0) c d e f g h) (eE a c d e h):=bB _ _ _ _ _ _ _ _ (by kernel_rfl)
theorem sA : eE a b c d e=bd (bY a b c d) λf=>PV.ite (gd f 0) (bd (aD (.I 4) (gd f 1) (gd f 2) (gd f 3)) λg=>bd (PV.bin .sub (gd g 0) (.I 1)) λh=>bd (aD (.I 9) (gd g 1) (gd g 2) (gd g 3)) λi=>bd (PV.bin .sub (gd i 0) (.I 1)) λj=>bd (aD (.I 6) (gd i 1) (gd i 2) (gd i 3)) λk=>
 bd (PV.bin .sub (gd k 0) (.I 1)) λl=>bd (aD (.I 5) (gd k 1) (gd k 2) (gd k 3)) λm=>bd (PV.bin .sub (gd m 0) (.I 1)) λn=>bd (PV.one h) λo=>bd (PV.one j) λq=>bd (PV.one l) λr=>bd (PV.one n) λs=>bd (PV.cat 4 32 true e (.lst [(.agg [o,q,r,s])])) λt=>some [t,(gd m 1),(gd m 2),(gd m 3)]) (some [e,(gd f 1),(gd f 2),(gd f 3)]):=bB _ _ _ _ _ _ _ _ (by kernel_rfl)
theorem lM : bK a b c d e f g h i=bd (PV.at_ 3 true h b) λj=>bd (PV.cell j 2) λk=>bd (PV.len k) λl=>bd (PV.bin .lss c l) λm=>PV.ite m (bd (PV.at_ 3 true h b) λn=>bd (PV.cell n 2) λo=>bd (PV.at_ 2 true o c) λq=>bd (PV.cell q 0) λr=>bd (mZ r) λs=>bd (PV.not (hd s)) λt=>PV.ite t (bd (PV.bin .add c (.I 1)) λu=>
 bK a b u d e f g h i) (bd (aD (.I 4) d e f) λv=>bd (PV.bin .gtr (gd v 0) (.I 0)) λw=>PV.ite w (bd (PV.bin .add c (.I 1)) λx=>bK a b x (gd v 1) (gd v 2) (gd v 3) g h i) (bd (PV.one b) λy=>bd (PV.one c) λz=>bd (PV.bin .eql r (.I 23)) λA=>PV.ite A (bd (PV.len h) λB=>bd (aD B (gd v 1) (gd v 2) (gd v 3)) λC=>
 bd (PV.one (gd C 0)) λD=>bd (fJ (.agg [g,h]) i (.agg [y,z,(.I 1),D])) λE=>PV.guardOwn (.own 4 32 true []) (gd E 0) (bd (PV.bin .add c (.I 1)) λF=>bK a b F (gd C 1) (gd C 2) (gd C 3) g h (gd E 0))) (bd (bY (.I 5) (gd v 1) (gd v 2) (gd v 3)) λG=>PV.ite (gd G 0) (bd (aD (.I 3) (gd G 1) (gd G 2) (gd G 3)) λH=>
 bd (PV.bin .add (.I 1) (gd H 0)) λI=>bd (PV.one I) λJ=>bd (fJ (.agg [g,h]) i (.agg [y,z,J,(.I 0)])) λK=>PV.guardOwn (.own 4 32 true []) (gd K 0) (bd (PV.bin .add c (.I 1)) λL=>bK a b L (gd H 1) (gd H 2) (gd H 3) g h (gd K 0))) (bd (fJ (.agg [g,h]) i (.agg [y,z,(.I 1),(.I 0)])) λM=>PV.guardOwn (.own 4 32 true []) (gd M 0) (
 bd (PV.bin .add c (.I 1)) λN=>bK a b N (gd G 1) (gd G 2) (gd G 3) g h (gd M 0))))))) (bd (PV.bin .add b (.I 1)) λO=>dN a O d e f g h i):=bB _ _ _ _ _ _ _ _ (by kernel_rfl)
theorem tW : jW a b=bd (PV.bin .lss b (.I 0)) λc=>PV.ite c (none) (lZ a b):=bT _ _ _ _ (by kernel_rfl)
theorem qW : lZ a b=bd (PV.len a) λc=>bd (PV.conv .u64 c) λd=>bd (PV.conv .u64 b) λe=>bd (aAs d e) λf=>bd (PV.comp (hd f) 0) λg=>bd (PV.comp (hd f) 1) λh=>bd (PV.bin .gtr g (.int .u64 0)) λi=>PV.ite i (none) (bd (PV.bin .gtr h (.int .u64 9223372036854775807)) λj=>PV.ite j (none) (mA a h)):=bB _ _ _ _ _ _ _ _ (by kernel_rfl)
theorem qX : mA a b=bd (PV.conv .i64 b) λc=>bd (PV.zeros 8 (.I 0) c) λd=>bd (PV.bin .leq c c) λe=>PV.ite e (bd (PV.zeros 8 (.I 0) c) λf=>bd (PV.len f) λg=>bd (PV.ncopy f (.I 0) g a) λh=>bd (PV.copyIn 1 false f (.I 0) g a) λi=>fG h i) (none):=bB _ _ _ _ _ _ _ _ (by kernel_rfl)
theorem kF : fG a b=bd (PV.len b) λc=>bd (PV.bin .lss a c) λd=>PV.ite d (bd (PV.len b) λe=>bd (PV.cut 1 false b a e) λf=>bd (PV.cut 1 false b (.I 0) a) λg=>bd (PV.cut 1 false b (.I 0) a) λh=>bd (PV.ncopy b a e h) λi=>bd (PV.copyIn 1 false b a e h) λj=>bd (PV.bin .add a i) λk=>fG k j)
 (some [b]):=bB _ _ _ _ _ _ _ _ (by kernel_rfl)
theorem aCD : aAs a b=bd (wM a b) λc=>bd (PV.comp (hd c) 0) λd=>bd (PV.comp (hd c) 1) λe=>some [(.tup [d,e])]:=aX _ _ _ (by kernel_rfl)
theorem aA5 : wM a b=bd (PV.bin .and a (.int .u64 4294967295)) λc=>bd (PV.bin .shr a (.int .u64 32)) λd=>bd (PV.bin .and b (.int .u64 4294967295)) λe=>bd (PV.bin .shr b (.int .u64 32)) λf=>bd (PV.bin .mul c e) λg=>bd (PV.bin .mul d e) λh=>bd (PV.bin .shr g (.int .u64 32)) λi=>bd (PV.bin .add h i) λj=>bd (PV.bin .and j (.int .u64 4294967295)) λk=>
 bd (PV.bin .shr j (.int .u64 32)) λl=>bd (PV.bin .mul c f) λm=>bd (PV.bin .add k m) λn=>bd (PV.bin .mul d f) λo=>bd (PV.bin .add o l) λq=>bd (PV.bin .shr n (.int .u64 32)) λr=>bd (PV.bin .add q r) λs=>bd (PV.bin .mul a b) λt=>some [(.tup [s,t])]:=aX _ _ _ (by kernel_rfl)
theorem mC : eQ a=bd (PV.isLst a) λb=>PV.nilT b (some [(.lst [])]) (bd (PV.cat 4 32 true (.lst []) a) λc=>some [c]):=bT _ _ _ _ (by kernel_rfl)
theorem lS : eJ a b c=kI [.ref 0 [],.p a,.ref 1 []] ⟨[],[(0,some ⟨(.own 4 32 true []),b⟩),(1,some ⟨(.own 4 32 true []),c⟩)],0,0,2⟩:=bT _ _ _ _ (by kernel_rfl)
theorem yN : fJ a b c=bd (PV.whole 2 a) λd=>bd (PV.cell d 0) λe=>bd (PV.cell d 1) λf=>bd (PV.whole 4 c) λg=>bd (PV.cell g 0) λh=>bd (PV.cell g 1) λi=>bd (PV.cell g 2) λj=>bd (PV.cell g 3) λk=>cG b (.bool false) (.I 0) e f h i j k (.lst []):=bT _ _ _ _ (by kernel_rfl)
theorem kG : cG a b c d e f g h i j=bd (PV.len a) λk=>bd (PV.bin .lss c k) λl=>PV.ite l (bd (PV.at_ 4 true a c) λm=>bd (PV.cell m 0) λn=>bd (PV.bin .eql n f) λo=>PV.ite o (bd (PV.at_ 4 true a c) λq=>bd (PV.cell q 1) λr=>bd (PV.bin .eql r g) λs=>PV.ite s (nY a c d e f g h i j) (kR a b c d e f g h i j)) (kR a b c d e f g h i j))
 (bd (PV.not b) λt=>PV.ite t (bd (PV.cat 4 32 true j (.lst [(.agg [f,g,h,i])])) λu=>some [u]) (some [j])):=bB _ _ _ _ _ _ _ _ (by kernel_rfl)
theorem tC : nY a b c d e f g h i=bd (PV.at_ 3 true d e) λj=>bd (PV.cell j 2) λk=>bd (PV.at_ 2 true k f) λl=>bd (PV.cell l 0) λm=>bd (PV.at_ 4 true a b) λn=>bd (qU m n (.agg [e,f,g,h])) λo=>bd (PV.cat 4 32 true (.lst []) (.lst [(hd o)])) λq=>bd (PV.cat 4 32 true i q) λr=>bd (PV.bin .add b (.I 1)) λs=>cG a (.bool true) s c d e f g h r:=bB _ _ _ _ _ _ _ _ (by kernel_rfl)
theorem tD : kR a b c d e f g h i j=bd (PV.not b) λk=>PV.ite k (bd (PV.at_ 4 true a c) λl=>bd (qS (.agg [f,g,h,i]) l) λm=>PV.ite (hd m) (wN a c d e f g h i j) (bd (PV.at_ 4 true a c) λn=>bd (PV.cat 4 32 true (.lst []) (.lst [n])) λo=>bd (PV.cat 4 32 true j o) λq=>bd (PV.bin .add c (.I 1)) λr=>cG a b r d e f g h i q))
 (bd (PV.at_ 4 true a c) λs=>bd (PV.cat 4 32 true (.lst []) (.lst [s])) λt=>bd (PV.cat 4 32 true j t) λu=>bd (PV.bin .add c (.I 1)) λv=>cG a b v d e f g h i u):=bB _ _ _ _ _ _ _ _ (by kernel_rfl)
theorem sB : wN a b c d e f g h i=bd (PV.cat 4 32 true i (.lst [(.agg [e,f,g,h])])) λj=>bd (PV.at_ 4 true a b) λk=>bd (PV.cat 4 32 true (.lst []) (.lst [k])) λl=>bd (PV.cat 4 32 true j l) λm=>bd (PV.bin .add b (.I 1)) λn=>cG a (.bool true) n c d e f g h m:=bB _ _ _ _ _ _ _ _ (by kernel_rfl)
theorem wO : qU a b c=bd (PV.whole 4 b) λd=>bd (PV.cell d 0) λe=>bd (PV.cell d 1) λf=>bd (PV.cell d 2) λg=>bd (PV.cell d 3) λh=>bd (PV.whole 4 c) λi=>bd (PV.cell i 0) λj=>bd (PV.cell i 1) λk=>bd (PV.cell i 2) λl=>bd (PV.cell i 3) λm=>bd (PV.bin .neq a (.I 23)) λn=>PV.ite n (bd (PV.bin .or g l) λo=>bd (PV.one o) λq=>
 some [(.agg [e,f,q,h])]) (bd (PV.bin .neq g (.I 1)) λr=>PV.ite r (some [(.agg [e,f,(.I 2),(.I 0)])]) (bd (PV.bin .neq l (.I 1)) λs=>PV.ite s (some [(.agg [e,f,(.I 2),(.I 0)])]) (bd (PV.bin .neq h m) λt=>PV.ite t (some [(.agg [e,f,(.I 2),(.I 0)])]) (some [(.agg [e,f,g,h])])))):=aX _ _ _ (by kernel_rfl)
theorem zX : bY a b c d=bd (aD a b c d) λe=>bd (PV.bin .sub a (.I 1)) λf=>bd (PV.bin .eql (gd e 0) f) λg=>some [g,(gd e 1),(gd e 2),(gd e 3)]:=bT _ _ _ _ (by kernel_rfl)
theorem aA6 : qD a b c d=bd (jL b c d) λe=>bd (PV.whole 2 (gd e 0)) λf=>bd (PV.cell f 0) λg=>bd (PV.cell f 1) λh=>bd (bY a (gd e 1) (gd e 2) (gd e 3)) λi=>PV.ite (gd i 0) (bd (tU g h (gd i 1) (gd i 2) (gd i 3)) λj=>bd (PV.whole 2 (gd j 0)) λk=>bd (PV.cell k 0) λl=>bd (PV.cell k 1) λm=>
 some [(.agg [l,m]),(gd j 1),(gd j 2),(gd j 3)]) (some [(.agg [g,h]),(gd i 1),(gd i 2),(gd i 3)]):=bT _ _ _ _ (by kernel_rfl)
theorem zY : oW a b c=bd (jL a b c) λd=>bd (PV.whole 2 (gd d 0)) λe=>bd (PV.cell e 0) λf=>bd (PV.cell e 1) λg=>bd (lB (.agg [f,g])) λh=>bd (PV.not (hd h)) λi=>PV.ite i (some [(.agg [(.lst []),(.lst [(.agg [(.I 0),(.I 1),(.lst [(.agg [(.I 6),(.I 0)]),(.agg [(.I 26),(.I 0)]),(.agg [(.I 4),(.I 0)]),(.agg [(.I 25),(.I 0)])])])])]),(gd d 1),(gd d 2),(gd d 3)])
 (some [(.agg [f,g]),(gd d 1),(gd d 2),(gd d 3)]):=bT _ _ _ _ (by kernel_rfl)
theorem zZ : aD a b c d=bd (PV.bin .lss a (.I 2)) λe=>PV.ite e (some [(.I 0),b,c,d]) (bd (PV.len b) λf=>bd (PV.bin .lss c f) λg=>PV.ite g (bd (PV.at_ 1 false b c) λh=>bd (PV.conv .i64 h) λi=>fW a i b c d) (bd (PV.bin .mul d (.I 1103)) λj=>bd (PV.bin .add j (.I 12345)) λk=>bd (PV.bin .rem k (.I 65521)) λl=>
 bd (PV.one l) λm=>bd (PV.len b) λn=>bd (PV.bin .gtr n (.I 0)) λo=>PV.ite o (bd (PV.bin .quo m (.I 7)) λq=>bd (PV.len b) λr=>bd (PV.bin .rem c r) λs=>bd (PV.at_ 1 false b s) λt=>bd (PV.conv .i64 t) λu=>bd (PV.bin .add q u) λv=>fW a v b c m) (fW a (.I 0) b c m))):=bT _ _ _ _ (by kernel_rfl)
theorem vQ : fW a b c d e=bd (PV.bin .add d (.I 1)) λf=>bd (PV.one f) λg=>bd (PV.bin .rem b a) λh=>some [h,c,g,e]:=bB _ _ _ _ _ _ _ _ (by kernel_rfl)
theorem aAa : oX a b c d e=iQ (.I 0) c d e a b (.lst []):=bT _ _ _ _ (by kernel_rfl)
theorem oC : iQ a b c d e f g=bd (PV.at_ 3 true f (.I 0)) λh=>bd (PV.cell h 0) λi=>bd (PV.bin .lss a i) λj=>PV.ite j (bd (PV.bin .lss a (.I 20)) λk=>PV.ite k (bd (aD (.I 9) b c d) λl=>bd (eW (gd l 0)) λm=>bd (aD (.I 5) (gd l 1) (gd l 2) (gd l 3)) λn=>bd (PV.bin .sub (gd n 0) (.I 2)) λo=>
 bd (eW o) λq=>bd (aD (.I 40) (gd n 1) (gd n 2) (gd n 3)) λr=>bd (eW (gd r 0)) λs=>bd (fH (.bool true)) λt=>bd (PV.len f) λu=>bd (aD u (gd r 1) (gd r 2) (gd r 3)) λv=>bd (PV.one (gd v 0)) λw=>bd (PV.cat 3 32 true (.lst []) (.lst [(hd m),(hd q),(hd s),(hd t),(.agg [(.I 3),(.I 0),(.str (bs [113]))]),(.agg [(.I 0),(.I 0),(.str (bs []))]),(.agg [(.I 5),w,(.str (bs []))])])) λx=>
 bd (aD (.I 7) (gd v 1) (gd v 2) (gd v 3)) λy=>bd (PV.inb x (gd y 0)) λz=>bd (PV.at_ 3 true x (gd y 0)) λA=>bd (PV.cat 3 32 true (.lst []) (.lst [A])) λB=>bd (PV.cat 3 32 true g B) λC=>bd (PV.bin .add a (.I 1)) λD=>iQ D (gd y 1) (gd y 2) (gd y 3) e f C) (bd (bY (.I 30) b c d) λE=>PV.ite (gd E 0) (bd (iC (gd E 1) (gd E 2) (gd E 3)) λF=>
 bd (PV.cat 3 32 true (.lst []) (.lst [(gd F 0)])) λG=>bd (PV.cat 3 32 true g G) λH=>some [H,(gd F 1),(gd F 2),(gd F 3)]) (some [g,(gd E 1),(gd E 2),(gd E 3)]))) (bd (bY (.I 30) b c d) λI=>PV.ite (gd I 0) (bd (iC (gd I 1) (gd I 2) (gd I 3)) λJ=>bd (PV.cat 3 32 true (.lst []) (.lst [(gd J 0)])) λK=>bd (PV.cat 3 32 true g K) λL=>some [L,(gd J 1),(gd J 2),(gd J 3)])
 (some [g,(gd I 1),(gd I 2),(gd I 3)])):=bB _ _ _ _ _ _ _ _ (by kernel_rfl)
theorem aEP : eW a=bd (PV.one a) λb=>some [(.agg [(.I 1),b,(.str (bs []))])]:=aX _ _ _ (by kernel_rfl)
theorem aDA : fH a=PV.ite a (some [(.agg [(.I 2),(.I 1),(.str (bs []))])]) (some [(.agg [(.I 2),(.I 0),(.str (bs []))])]):=aX _ _ _ (by kernel_rfl)
theorem aBL : nZ a b c=bd (PV.whole 2 a) λd=>bd (PV.cell d 0) λe=>bd (PV.cell d 1) λf=>bd (aAN (.agg [e,f]) b) λg=>PV.guardFlat (gd g 0) (PV.guardFlat (gd g 1) (PV.guardFlat (gd g 2) (PV.guardFlat (gd g 3) (PV.guardFlat (gd g 4) (PV.guardFlat (gd g 5) (PV.guardFlat (gd g 6) (PV.guardFlat (gd g 7) (PV.guardOwn (.own 4 64 true [.leaf,.leaf,(.own 3 32 true []),(.own 3 32 true [])]) (gd g 8) (
 PV.guardOwn (.own 1 24 true [(.own 3 32 true [])]) (gd g 9) (PV.guardOwn (.own 1 16 false []) (gd g 10) (bd (PV.not (gd g 7)) λh=>PV.ite h (some [(.lst [])]) (bd (aL c (.I 0) (.I 50000)) λi=>bd (PV.not (hd i)) λj=>PV.ite j (some [(.lst [])]) (kC c (.I 0) e f (gd g 0) (gd g 1) (gd g 2) (gd g 3) (gd g 4) (gd g 5) (gd g 6) (.lst []) (gd g 8) (gd g 9) (gd g 10)))))))))))))):=bT _ _ _ _ (by kernel_rfl)
theorem pU : kC a b c d e f g h i j k l m n o=bd (PV.bin .lss b a) λq=>PV.ite q (bd (PV.bin .eql f (.I 0)) λr=>PV.ite r (bd (qE (.agg [c,d]) l (.agg [m,n,e,o,f,g,h,i,j,k])) λs=>PV.guardOwn (.own 4 32 true []) (gd s 0) (bd (vN (.agg [c,d]) (.agg [m,n,e,o,f,g,h,i,j,k])) λt=>PV.guardFlat (gd t 0) (
 PV.guardFlat (gd t 1) (PV.guardFlat (gd t 2) (PV.guardFlat (gd t 3) (PV.guardFlat (gd t 4) (PV.guardFlat (gd t 5) (PV.guardFlat (gd t 6) (PV.guardOwn (.own 4 64 true [.leaf,.leaf,(.own 3 32 true []),(.own 3 32 true [])]) (gd t 7) (PV.guardOwn (.own 1 24 true [(.own 3 32 true [])]) (gd t 8) (PV.guardOwn (.own 1 16 false []) (gd t 9) (bd (PV.bin .add b (.I 1)) λu=>kC a u c d (gd t 0) (gd t 1) (gd t 2) (gd t 3) (gd t 4) (gd t 5) (gd t 6) (gd s 0) (gd t 7) (gd t 8) (gd t 9)))))))))))))
 (some [l])) (some [l]):=bB _ _ _ _ _ _ _ _ (by kernel_rfl)
theorem wR : jL a b c=bd (aD (.I 3) a b c) λd=>gS (gd d 0) (gd d 1) (gd d 2) (gd d 3) (.lst []) (.lst []) (.lst []) (.lst []):=bT _ _ _ _ (by kernel_rfl)
end
end Go.Proofs.YtllmobkkbpdchaaGreat
