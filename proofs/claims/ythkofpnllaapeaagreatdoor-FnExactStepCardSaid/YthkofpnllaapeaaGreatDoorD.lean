/-
  Texts of the proof, part 4: a value-level evaluator and its soundness, what the functions compute, laws about it.
  Conditions: none.
-/
import Derived.Test.YthkofpnllaapeaaGreatDoorC
import Derived.Shelf.Spec.SlicesGrow
import Derived.Shelf.Strconv.Itoa3
import Derived.Shelf.SlGeneric
import Derived.Ground.NamesProg
import Derived.Ground.Names8Prog
import Derived.IntWalk
import Derived.WalkKit
import Derived.ProofKit
import Derived.OpenShut
import Derived.ShutString
import Derived.ChangeOld
set_option linter.all false
namespace Go.Proofs.YthkofpnllaapeaaGreatDoor
noncomputable section
open Go
def aFS (P : Program) (mode : Nat→Option Tmpl) (S : Nat→List DV→St→Option R) : Prop:=∀ g t args s l,mode g=some t→S g args s=some l→jQ P g∧∀ (m : aU) (aT : Array Value),fK m s s.base→args.length=aT.size→
 (∀ (i : Nat) d v,args[i]? = some d→aT[i]? = some v→m.rd d v)→Calls P g aT m.w (fun e w'=>∃ v,e = .returned v∧sF m s.boxes.length (if t.keep then s.lists.length else 0) (some (t.fit s)) l v w')
theorem aCH : ∀ (ts : List (Option Own)) (ks : List (Option OTy)) (n : Nat),numO (fitO ts ks) n=numO ts n
 | [],[],_=>rfl
 | [],_::_,_=>rfl
 | some w::r,some o::q,n=>by
   simp only [fitO,numO]
   cases w.c<;>simp only [aCH r q]
 | some w::r,none::q,n=>by
   simp only [fitO,numO]
   cases w.c<;>simp only [aCH r q]
 | none::r,_::q,n=>by simp only [fitO,numO,aCH r q]
 | some _::_,[],_=>rfl
 | none::_,[],_=>rfl
theorem Tmpl.fit_keep {t : Tmpl} {s : St} : (t.fit s).keep=t.keep:=by
 unfold Tmpl.fit Tmpl.fitK
 split
 ·rfl
 ·rfl
theorem Tmpl.fit_wf {t : Tmpl} {s : St} (h : t.wf=true) : (t.fit s).wf=true:=by
 unfold Tmpl.fit Tmpl.fitK
 split
 ·unfold Tmpl.wf at h ⊢
  simp only [aCH]
  exact h
 ·exact h
theorem Tmpl.fit_nil {t : Tmpl} {s : St} (h : s.lists = []) : t.fit s=t:=by
 unfold Tmpl.fit Tmpl.fitK
 split
 ·rw [h]
  show ({ t with lists:=fitO t.lists []} : Tmpl)=t
  have : fitO t.lists []=t.lists:=by
   cases t.lists with
   | nil=>rfl
   | cons a r=>cases a<;>rfl
  rw [this]
 ·rfl
theorem aDy (l : R) : ∀ (bs : List (Option (List DV))),(fillB l bs).length=bs.length
 | []=>rfl
 | some _::r=>by simp [fillB,aDy l r]
 | none::r=>by simp [fillB,aDy l r]
theorem rW (l : R) : ∀ (bs : List (Option Own)),(fillO l bs).length=bs.length
 | []=>rfl
 | some _::r=>by simp [fillO,rW l r]
 | none::r=>by simp [fillO,rW l r]
theorem aBC (l : R) : ∀ {bs : List (Option (List DV))} {i : Nat} {fs : List DV},(fillB l bs)[i]? = some (some fs)→∃ ts,bs[i]? = some (some ts)
 | [],i,fs,h=>by simp [fillB] at h
 | some t::r,i,fs,h=>by
   cases i with
   | zero=>exact ⟨t,rfl⟩
   | succ i=>simpa using aBC l (bs:=r) (i:=i) (by simpa [fillB] using h)
 | none::r,i,fs,h=>by
   cases i with
   | zero=>simp [fillB] at h
   | succ i=>simpa using aBC l (bs:=r) (i:=i) (by simpa [fillB] using h)
theorem sG (l : R) : ∀ {bs : List (Option Own)} {i : Nat} {w : Own},(fillO l bs)[i]? = some (some w)→∃ ts,bs[i]? = some (some ts)
 | [],i,fs,h=>by simp [fillO] at h
 | some t::r,i,fs,h=>by
   cases i with
   | zero=>exact ⟨t,rfl⟩
   | succ i=>simpa using sG l (bs:=r) (i:=i) (by simpa [fillO] using h)
 | none::r,i,fs,h=>by
   cases i with
   | zero=>simp [fillO] at h
   | succ i=>simpa using sG l (bs:=r) (i:=i) (by simpa [fillO] using h)
theorem aEs {α : Type} : ∀ {l : List (Option α)},allSome l=true→∀ (i : Nat) o,l[i]? = some o→∃ a,o=some a
 | [],_,i,o,h=>by simp at h
 | some a::r,h,i,o,hi=>by
   cases i with
   | zero=>simp at hi;exact ⟨a,hi.symm⟩
   | succ i=>exact aEs (l:=r) h i o (by simpa using hi)
 | none::r,h,_,_,_=>by simp [allSome] at h
theorem getD_some {α : Type} {l : List (Option α)} {i : Nat} {x : α} (h : l.getD i none=some x) : l[i]? = some (some x):=by
 rw [List.getD] at h
 cases hi : l[i]? with
 | none=>rw [hi] at h;cases h
 | some o=>rw [hi] at h;simp at h;rw [h]
theorem zK {m : aU} {s : St} {a : Seen} {r : Nat} (h : (m.pick a.bs a.ls (s.pick a)).owned r) : aFR m a.bs a.ls r:=by
 rcases h with ⟨i,cs,h,rfl⟩ | ⟨l,o,h,hr⟩ | h
 ·have h : (s.pick a).box i=some cs:=h
  rw [zF] at h
  cases hbi : a.bs[i]? with
  | none=>rw [hbi] at h;cases h
  | some b=>
    refine .inl ⟨b,List.mem_of_getElem? hbi,?_⟩
    show m.ρ.box (a.bs.getD i 0)=_
    rw [dQ hbi]
 ·have h : (s.pick a).list l=some o:=h
  rw [vN] at h
  cases hbi : a.ls[l]? with
  | none=>rw [hbi] at h;cases h
  | some l0=>
    refine .inr ⟨l0,List.mem_of_getElem? hbi,?_⟩
    have hr : m.ρ.fp (a.ls.getD l 0) r:=hr
    rw [dQ hbi] at hr
    exact hr
 ·exact h.elim
section
variable {P : Program} {X : Cx} {O : Orc}
theorem aJx (hS : aFS P X.mode O.S) {ft : Foot} {n0 : Nat} {t : Tmpl} {f : Nat} (hm : X.mode f=some t) (hwf : t.wf=true) {args : List DV} {s : St} {k : DV→St→List Nat→Option R} {r : R} (h : liveK O ft n0 t f args s k=some r) :
 jQ P f∧∃ d' s' kl,k d' s' kl=some r∧s.nl≤s'.nl∧∀ (n : Nat) (m : aU) (B L WB WL : Nat→Prop),nS m s B L n→s'.nb≤n+16→s'.nl≤n+16→n≤n0→(∀ b∈ft.rb,B b∧WB b)→(∀ l∈ft.rl,L l∧WL l)→(t.keep=true→∀ x,(B x∧WB x)∧(L x∧WL x))→
  ∀ vs : Array Value,args.length=vs.size→(∀ (i : Nat) d v,args[i]? = some d→vs[i]? = some v→m.rd d v)→
    Calls P f vs m.w (fun e w'=>∃ v,e = .returned v∧∃ m',m'.w=w'∧bT m m' s s' B L WB WL n (scrubKeptD t.keep kl)∧m'.rd d' v):=by
 unfold liveK at h
 generalize ha : reach s fuelR args ⟨[],[]⟩=a at h
 simp only at h
 have hkp : (t.fit (s.pick a)).keep=t.keep:=Tmpl.fit_keep
 have hwf : (t.fit (s.pick a)).wf=true:=Tmpl.fit_wf hwf
 have hS':=fun l=>hS f t (args.map (ren (idx · a.bs 0) (idx · a.ls 0) deep)) (s.pick a) l hm
 rw [← hkp] at hS' ⊢
 generalize t.fit (s.pick a)=t at h hwf hS' ⊢
 generalize hkd : (if t.keep=true then a.ls else [])=kl at h
 split at h
 rotate_left
 ·cases h
 rename_i hc
 simp only [Bool.and_eq_true,List.all_eq_true,Bool.or_eq_true,Nat.blt_eq] at hc
 obtain ⟨⟨⟨⟨hlen,hsome⟩,hbs⟩,hls⟩,hkl⟩:=hc
 have hkl:=nT hkl
 have hlen:=nT hlen
 obtain ⟨l,hl,hk⟩:=aR h
 obtain ⟨hcb,HS⟩:=hS' l hl
 have nod:=gD (s:=s) fuelR args ⟨[],[]⟩ List.nodup_nil List.nodup_nil
 have liv:=eN (s:=s) fuelR args ⟨[],[]⟩ (by simp) (by simp)
 rw [ha] at nod liv
 refine ⟨hcb,_,_,_,hk,Nat.le_add_right _ _,fun n m B L WB WL sit hnb hnl hn0 hB hL hall vs hvl hrd=>?_⟩
 have hnl : s.nl+(t.lists.length - kl.length)≤n+16:=hnl
 have hks : ∀ l∈kl,l∈a.ls:=fun l hl=>by rw [← hkd] at hl;split at hl;exact hl;cases hl
 have hkn : kl.Nodup:=by rw [← hkd];split;exact nod.2.1;exact List.nodup_nil
 have hkk : t.keep=false→kl = []:=fun hf=>by rw [← hkd,hf];rfl
 have hlists : (s.pick a).lists.length=a.ls.length:=pN
 have hnb : s.nb+(t.boxes.length - a.bs.length)≤n+16:=hnb
 have sn1:=sit.nb
 have sn2:=sit.nl
 have lin : ∀ l∈a.ls,l∈ft.rl∨(n≤l∧l<n+16):=fun l hl=>by
  rcases hls l hl with h | ⟨h1,h2⟩
  ·exact .inl (pL.1 h)
  ·have:=nT h1;exact .inr (by omega)
 have hb : ∀ b∈a.bs,m.s.box b=s.box b:=fun b hb=>sit.ab b (.inl (hB b (pL.1 (hbs b hb))).1)
 have hl' : ∀ l∈a.ls,m.s.list l=s.list l:=fun l hl=>sit.al l ((lin l hl).imp (fun h=>(hL l h).1) id)
 have pf:=aAH (a:=a) sit.inv hb hl' nod.1 nod.2.1
 have hboxes : (s.pick a).boxes.length=a.bs.length:=uQ
 refine (HS (m.pick a.bs a.ls (s.pick a)) vs pf (by simpa using hvl) (fun i d v hd hv=>?_)).mono ?_
 ·rw [List.getElem?_map] at hd
  cases hdi : args[i]? with
  | none=>rw [hdi] at hd;cases hd
  | some d0=>rw [hdi] at hd;cases hd;exact aFL hl' deep (hrd i d0 v hdi hv)
 ·rintro e w' ⟨v,rfl,c,hw,cinv,fw,d,s0,a0,hread,hdv,hfull,hub,hul⟩
  rw [hboxes,hlists] at fw
  obtain ⟨hless,lenB,lenL,HB,HO⟩:=Tmpl.read_sound hread hwf
  have lenB : t.boxes.length=a0.bs.length:=lenB.trans uQ
  have lenL : t.lists.length=a0.ls.length:=lenL.trans pN
  refine ⟨v,rfl,?_⟩
  generalize hcsB : ((fillB l t.boxes).map fun o=>o.map fun cs=>cs.map (ren (backFb a.bs s.nb) (backFb kl s.nl) deep))=csB
  have hcsBl : csB.length=t.boxes.length:=by rw [← hcsB,List.length_map,aDy]
  have hab : ∀ b∈a.bs,∃ cs,m.s.box b=some cs:=fun b hbm=>by
   rw [hb b hbm]
   exact Option.ne_none_iff_exists'.1 (liv.1 b hbm)
  have hal : ∀ l∈a.ls,∃ o,m.s.list l=some o:=fun l hlm=>by
   rw [hl' l hlm]
   exact Option.ne_none_iff_exists'.1 (liv.2 l hlm)
  have freshB : ∀ x,s.nb≤x→x<s.nb+(t.boxes.length - a.bs.length)→¬ m.ρ.ub x:=fun x h1 h2=>sit.fb x h1 (by omega)
  have freshL : ∀ x,s.nl≤x→x<s.nl+(t.lists.length - kl.length)→¬ m.ρ.ul x:=fun x h1 h2=>sit.fl x h1 (by omega)
  have hout : ∀ b∈a.bs,¬ (s.nb≤b∧b<s.nb+(csB.length - a.bs.length)):=fun b hbm hr=>by
   obtain ⟨cs,hcs⟩:=hab b hbm
   rw [hcsBl] at hr
   exact freshB b hr.1 hr.2 (sit.inv.ub b cs hcs)
  have scrL : ∀ x,look x (scrubKept t.keep kl s.boxes)=(s.box x).map (·.map (scrubKeptD t.keep kl)):=fun x=>by
   unfold scrubKept scrubKeptD
   cases t.keep with
   | true=>exact aAF kl x s.boxes
   | false=>
     rw [if_neg (by simp),if_neg (by simp)]
     exact jE _
  have boxL : ∀ x,look x (backB a.bs s.nb csB (scrubKept t.keep kl s.boxes))=match dV a.bs s.nb (t.boxes.length - a.bs.length) x with | some i=>csB.getD i none | none=>(s.box x).map (·.map (scrubKeptD t.keep kl)):=fun x=>by
   have:=aBB (x:=x) (cs:=csB) (bs:=a.bs) (n:=s.nb) (old:=scrubKept t.keep kl s.boxes) nod.1 (by rw [hcsBl];exact hlen) hout
   rw [hcsBl,scrL] at this
   exact this
  have houtL : ∀ l0∈kl,¬ (s.nl≤l0∧l0<s.nl+((fillO l t.lists).length - kl.length)):=fun l0 hlm hr=>by
   obtain ⟨o,ho⟩:=hal l0 (hks l0 hlm)
   rw [rW] at hr
   exact freshL l0 hr.1 hr.2 (sit.inv.ul l0 o ho)
  have listL : ∀ x,look x (backB kl s.nl (fillO l t.lists) (s.killL a.ls).lists)=match dV kl s.nl (t.lists.length - kl.length) x with | some i=>(fillO l t.lists).getD i none | none=>(s.killL a.ls).list x:=fun x=>by
   have:=aBB (x:=x) (cs:=fillO l t.lists) (bs:=kl) (n:=s.nl) (old:=(s.killL a.ls).lists) hkn (by rw [rW];exact hkl) houtL
   rw [rW] at this
   exact this
  let S : Sx:={ box:=fun x=>match dV a.bs s.nb (t.boxes.length - a.bs.length) x with | some i=>csB.getD i none | none=>(m.s.box x).map (·.map (scrubKeptD t.keep kl))
                list:=fun x=>match dV kl s.nl (t.lists.length - kl.length) x with | some i=>(fillO l t.lists).getD i none | none=>if x∈a.ls then none else m.s.list x}
  have hbn : ∀ x,(∃ cs,m.s.box x=some cs)→¬ (s.nb≤x∧x<s.nb+(t.boxes.length - a.bs.length)):=fun x ⟨cs,hcs⟩ hr=>freshB x hr.1 hr.2 (sit.inv.ub x cs hcs)
  have cb_fb : ∀ b b',b<t.boxes.length→backFb a.bs s.nb b=some b'→dV a.bs s.nb (t.boxes.length - a.bs.length) b'=some b∧(m.ρ.ub b'∨(s.nb≤b'∧b'<s.nb+(t.boxes.length - a.bs.length))):=by
   intro b b' hlt hbb
   unfold backFb at hbb
   split at hbb
   ·rename_i x hx
    cases hbb
    obtain ⟨cs,hcs⟩:=hab b' (List.mem_of_getElem? hx)
    refine ⟨?_,.inl (sit.inv.ub b' cs hcs)⟩
    unfold dV
    rw [aIm (n:=0) nod.1 hx,Nat.zero_add]
   ·rename_i hx
    cases hbb
    have hge : a.bs.length≤b:=by
     rcases Nat.lt_or_ge b a.bs.length with h | h
     ·rw [List.getElem?_eq_getElem h] at hx;cases hx
     ·exact h
    have hnot : s.nb+(b - a.bs.length)∉a.bs:=fun hm'=>hbn _ (hab _ hm') ⟨by omega,by omega⟩
    refine ⟨?_,.inr ⟨by omega,by omega⟩⟩
    unfold dV
    rw [aCF hnot]
    simp only
    rw [if_pos ⟨by omega,by omega⟩]
    congr 1
    omega
  have cl_fl : ∀ b b',b<t.lists.length→backFb kl s.nl b=some b'→dV kl s.nl (t.lists.length - kl.length) b'=some b∧(m.ρ.ul b'∨(s.nl≤b'∧b'<s.nl+(t.lists.length - kl.length))):=by
   intro b b' hlt hbb
   unfold backFb at hbb
   split at hbb
   ·rename_i x hx
    cases hbb
    obtain ⟨o,ho⟩:=hal b' (hks b' (List.mem_of_getElem? hx))
    refine ⟨?_,.inl (sit.inv.ul b' o ho)⟩
    unfold dV
    rw [aIm (n:=0) hkn hx,Nat.zero_add]
   ·rename_i hx
    cases hbb
    have hge : kl.length≤b:=by
     rcases Nat.lt_or_ge b kl.length with h | h
     ·rw [List.getElem?_eq_getElem h] at hx;cases hx
     ·exact h
    have hnot : s.nl+(b - kl.length)∉kl:=fun hm'=>by
     obtain ⟨o,ho⟩:=hal _ (hks _ hm')
     exact freshL _ (by omega) (by omega) (sit.inv.ul _ o ho)
    refine ⟨?_,.inr ⟨by omega,by omega⟩⟩
    unfold dV
    rw [aCF hnot]
    simp only
    rw [if_pos ⟨by omega,by omega⟩]
    congr 1
    omega
  have ren_ok : ∀ {d : DV} {v : Value},c.rd d v→(m.back c a.bs kl s.nb (t.boxes.length - a.bs.length) s.nl (t.lists.length - kl.length) S).rd (ren (backFb a.bs s.nb) (backFb kl s.nl) deep d) v:=by
   intro d v hd
   refine cZ.renum (fun b b' hu hbb=>?_) (fun l0 l' hu hll=>?_) deep hd
   ·obtain ⟨h1,h2⟩:=cb_fb b b' (by rw [lenB];exact hub b hu) hbb
    refine ⟨h2,?_⟩
    show (match dV a.bs s.nb (t.boxes.length - a.bs.length) b' with | some i=>c.ρ.box i | none=>m.ρ.box b')=_
    rw [h1]
   ·have hlt:=hul l0 hu
    rw [← lenL] at hlt
    obtain ⟨hcl,hcu⟩:=cl_fl l0 l' hlt hll
    refine ⟨hcu,fun hv=>⟨?_,?_,?_,?_⟩⟩
    ·have hv : (match dV kl s.nl (t.lists.length - kl.length) l' with | some i=>(fillO l t.lists).getD i none | none=>if l'∈a.ls then none else m.s.list l')≠none:=hv
     rw [hcl] at hv
     obtain ⟨w1,hw1⟩:=Option.ne_none_iff_exists'.1 hv
     have hg:=getD_some hw1
     obtain ⟨ts,hts⟩:=sG l hg
     obtain ⟨x,w2,g1,_⟩:=HO l0 ts hts
     have g1 : (s0.pick a0).list l0=some w2:=by
      have:=mA (n:=0) g1
      rw [Nat.zero_add] at this
      exact this
     rw [← hfull.list l0] at g1
     exact aU.live_of g1
    ·show (match dV kl s.nl (t.lists.length - kl.length) l' with | some i=>c.ρ.hdr i | none=>_)=_
     rw [hcl]
    ·show (match dV kl s.nl (t.lists.length - kl.length) l' with | some i=>c.ρ.ty i | none=>_)=_
     rw [hcl]
    ·show (match dV kl s.nl (t.lists.length - kl.length) l' with | some i=>c.ρ.fp i | none=>_)=_
     rw [hcl]
  have came : tG m c t.keep a.bs a.ls kl s.nb (t.boxes.length - a.bs.length) s.nl (t.lists.length - kl.length) S:={
   kk:=hkk
   kn:=hkn
   ks:=hks
   row:=fun i l0 hi hlv=>by
    have hkt : t.keep=true:=by
     cases hk2 : t.keep with
     | true=>rfl
     | false=>rw [hkk hk2] at hi;simp at hi
    have hkl2 : kl=a.ls:=by rw [← hkd,hkt];rfl
    rw [hkl2] at hi
    obtain ⟨o,ho⟩:=hal l0 (List.mem_of_getElem? hi)
    have hlt : i<a.ls.length:=(List.getElem?_eq_some_iff.1 hi).1
    rw [hkt] at fw
    have hu : (m.pick a.bs a.ls (s.pick a)).ρ.ul i:=⟨hlt,by rw [dQ hi];exact sit.inv.ul l0 o ho⟩
    obtain ⟨_,q⟩:=fw.row i (by simpa using hlt) hu
    obtain ⟨_,q1,q2⟩:=q hlv
    rw [q1,q2]
    show m.ρ.hdr (a.ls.getD i 0)=_∧m.ρ.ty (a.ls.getD i 0)=_
    rw [dQ hi]
    exact ⟨rfl,rfl⟩
   inv:=sit.inv
   cinv:=cinv
   nb:=nod.1
   ab:=hab
   al:=hal
   size:=fw.size
   os:=fw.os
   tape:=fw.tape
   output:=fw.output
   keep:=fun r hr hn=>fw.keep r hr (fun ho=>hn (zK ho))
   own:=fun r hr=>(fw.own r hr).imp (fun h=>zK h) id
   z:=fun r hr=>(fw.z r hr).imp id (fun h=>h.imp (fun h=>zK h) id)
   zz:=fw.zz
   box:=fun i b hbi=>by
    obtain ⟨cs,hcs⟩:=hab b (List.mem_of_getElem? hbi)
    have:=fw.box i (List.getElem?_eq_some_iff.1 hbi).1 (cs.map (ren (idx · a.bs 0) (idx · a.ls 0) deep)) (by
     show (s.pick a).box i=_
     rw [zF,hbi,Option.bind_some,← hb b (List.mem_of_getElem? hbi),hcs];rfl)
    rw [this.1]
    show m.ρ.box (a.bs.getD i 0)=_
    rw [dQ hbi]
   freshB:=freshB
   freshL:=freshL
   sb:=fun x cs hx=>by
    have hx : (match dV a.bs s.nb (t.boxes.length - a.bs.length) x with | some i=>csB.getD i none | none=>(m.s.box x).map (·.map (scrubKeptD t.keep kl)))=some cs:=hx
    cases hcb : dV a.bs s.nb (t.boxes.length - a.bs.length) x with
    | none=>
      rw [hcb] at hx
      simp only at hx
      cases hmx : m.s.box x with
      | none=>rw [hmx] at hx;cases hx
      | some cs0=>rw [hmx] at hx;cases hx;exact .inr ⟨rfl,cs0,rfl,rfl⟩
    | some i=>
      rw [hcb] at hx
      have hg:=getD_some hx
      rw [← hcsB,List.getElem?_map] at hg
      cases hfi : (fillB l t.boxes)[i]? with
      | none=>rw [hfi] at hg;cases hg
      | some o=>
        rw [hfi] at hg
        simp only [Option.map_some,Option.some.injEq] at hg
        cases o with
        | none=>cases hg
        | some fs=>
          simp only [Option.map_some,Option.some.injEq] at hg
          obtain ⟨ts,hts⟩:=aBC l hfi
          obtain ⟨g1,x',cs0,g2,g3⟩:=HB i ts hts
          rw [hfi] at g1
          cases g1
          have g2 : (s0.pick a0).box i=some cs0:=by
           have:=aBi (n:=0) g2
           rw [Nat.zero_add] at this
           exact this
          rw [← hfull.box i] at g2
          refine .inl ⟨i,cs0,rfl,g2,by rw [← hg,List.length_map];exact g3.1,fun j d0 d1 v0 h1 h2 h3=>?_⟩
          rw [← hg,List.getElem?_map] at h2
          cases hj : (fillDs l ts)[j]? with
          | none=>rw [hj] at h2;cases h2
          | some d2=>
            rw [hj] at h2
            cases h2
            exact ren_ok (g3.2 j d0 d2 h1 hj c v0 h3)
   sbx:=fun x hx=>by
    show ∃ cs,(match dV a.bs s.nb (t.boxes.length - a.bs.length) x with | some i=>csB.getD i none | none=>(m.s.box x).map (·.map (scrubKeptD t.keep kl)))=some cs
    rcases eD a.bs s.nb (t.boxes.length - a.bs.length) x with ⟨i,h1,h2⟩ | ⟨i,h1,h2,h3,h4⟩ | ⟨h1,_⟩
    ·rw [h1]
     have hlt : i<a.bs.length:=(List.getElem?_eq_some_iff.1 h2).1
     have hti : (t.boxes.take a.bs.length)[i]? = some (t.boxes[i]'(by omega)):=by rw [List.getElem?_take,if_pos hlt,List.getElem?_eq_getElem]
     obtain ⟨ts,hts⟩:=aEs hsome i _ hti
     obtain ⟨g1,_⟩:=HB i ts (by rw [List.getElem?_eq_getElem (by omega),hts])
     refine ⟨(fillDs l ts).map (ren (backFb a.bs s.nb) (backFb kl s.nl) deep),?_⟩
     simp only
     rw [List.getD,← hcsB,List.getElem?_map,g1]
     rfl
    ·exact absurd ⟨by omega,by omega⟩ (hbn x hx)
    ·rw [h1]
     obtain ⟨cs,hcs⟩:=hx
     exact ⟨_,by simp only [hcs,Option.map_some];rfl⟩
   sl:=fun x o hx=>by
    have hx : (match dV kl s.nl (t.lists.length - kl.length) x with | some i=>(fillO l t.lists).getD i none | none=>if x∈a.ls then none else m.s.list x)=some o:=hx
    cases hcl : dV kl s.nl (t.lists.length - kl.length) x with
    | none=>
      rw [hcl] at hx
      simp only at hx
      split at hx
      ·cases hx
      ·rename_i hn;exact .inr ⟨rfl,hn,hx⟩
    | some i=>
      rw [hcl] at hx
      have hg:=getD_some hx
      obtain ⟨ts,hts⟩:=sG l hg
      obtain ⟨x',w2,g1,g2,_⟩:=HO i ts hts
      rw [hg] at g2
      cases g2
      have g1 : (s0.pick a0).list i=some o:=by
       have:=mA (n:=0) g1
       rw [Nat.zero_add] at this
       exact this
      rw [← hfull.list i] at g1
      exact .inl ⟨i,rfl,g1⟩}
  have wbs : ∀ b∈a.bs,B b∧WB b:=fun b hbm=>hB b (pL.1 (hbs b hbm))
  refine ⟨m.back c a.bs kl s.nb (t.boxes.length - a.bs.length) s.nl (t.lists.length - kl.length) S,hw,?_,ren_ok (hless c v hdv)⟩
  refine {
   step:=came.step sn1 hnb sn2 hnl
   after:=⟨fun x hx=>?_,fun x hx=>?_,fun x h1 h2=>?_,fun x h1 h2=>?_,fun x h1 h2=>?_,fun x h1 h2=>?_⟩
   nb:=Nat.le_add_right _ _
   nl:=Nat.le_add_right _ _
   ub:=fun x hx hu=>hu.elim id (fun h=>by have hx : s.nb+(t.boxes.length - a.bs.length)≤x:=hx;omega)
   ul:=fun x hx hu=>hu.elim id (fun h=>by have hx : s.nl+(t.lists.length - kl.length)≤x:=hx;omega)}
  ·show (match dV a.bs s.nb (t.boxes.length - a.bs.length) x with | some i=>csB.getD i none | none=>(m.s.box x).map (·.map (scrubKeptD t.keep kl)))=look x (backB a.bs s.nb _ (scrubKept t.keep kl s.boxes))
   rw [boxL x]
   cases dV a.bs s.nb (t.boxes.length - a.bs.length) x with
   | some i=>rfl
   | none=>simp only;rw [sit.ab x hx]
  ·show (match dV kl s.nl (t.lists.length - kl.length) x with | some i=>(fillO l t.lists).getD i none | none=>if x∈a.ls then none else m.s.list x)=look x (backB kl s.nl (fillO l t.lists) (s.killL a.ls).lists)
   rw [listL x]
   cases dV kl s.nl (t.lists.length - kl.length) x with
   | some i=>rfl
   | none=>
     simp only
     rw [eZ,sit.al x hx]
  ·by_cases hkt : t.keep=true
   ·exact absurd ((hall hkt x).1.1) h1
   ·have hkt : t.keep=false:=by simpa using hkt
    show (match dV a.bs s.nb (t.boxes.length - a.bs.length) x with | some i=>csB.getD i none | none=>(m.s.box x).map (fun cs : List DV=>cs.map (scrubKeptD t.keep kl)))=_
    rcases eD a.bs s.nb (t.boxes.length - a.bs.length) x with ⟨i,g1,g2⟩ | ⟨i,g1,g2,g3,g4⟩ | ⟨g1,_⟩
    ·exact absurd (wbs x (List.mem_of_getElem? g2)).1 h1
    ·exact absurd ⟨by omega,by omega⟩ h2
    ·rw [g1,hkt]
     exact (jE _).symm
  ·by_cases hkt : t.keep=true
   ·exact absurd ((hall hkt x).2.1) h1
   ·have hkt : t.keep=false:=by simpa using hkt
    show (match dV kl s.nl (t.lists.length - kl.length) x with | some i=>(fillO l t.lists).getD i none | none=>if x∈a.ls then none else m.s.list x)=_
    rw [hkk hkt]
    rcases eD [] s.nl (t.lists.length - ([] : List Nat).length) x with ⟨i,g1,g2⟩ | ⟨i,g1,g2,g3,_⟩ | ⟨g1,_⟩
    ·simp at g2
    ·exact absurd ⟨by omega,by rw [hkk hkt] at hnl;omega⟩ h2
    ·rw [g1]
     simp only
     rw [if_neg]
     intro hxm
     rcases lin x hxm with h | h
     ·exact h1 (hL x h).1
     ·exact h2 h
  ·by_cases hkt : t.keep=true
   ·exact absurd ((hall hkt x).1.2) h1
   ·have hkt : t.keep=false:=by simpa using hkt
    show look x (backB a.bs s.nb _ (scrubKept t.keep kl s.boxes))=_
    rw [boxL x]
    rcases eD a.bs s.nb (t.boxes.length - a.bs.length) x with ⟨i,g1,g2⟩ | ⟨i,g1,g2,g3,g4⟩ | ⟨g1,_⟩
    ·exact absurd (wbs x (List.mem_of_getElem? g2)).2 h1
    ·exact absurd ⟨by omega,by omega⟩ h2
    ·rw [g1,hkt]
     exact (jE _).symm
  ·by_cases hkt : t.keep=true
   ·exact absurd ((hall hkt x).2.2) h1
   ·have hkt : t.keep=false:=by simpa using hkt
    show look x (backB kl s.nl (fillO l t.lists) (s.killL a.ls).lists)=_
    rw [listL x,hkk hkt]
    rcases eD [] s.nl (t.lists.length - ([] : List Nat).length) x with ⟨i,g1,g2⟩ | ⟨i,g1,g2,g3,_⟩ | ⟨g1,_⟩
    ·simp at g2
    ·exact absurd ⟨by omega,by rw [hkk hkt] at hnl;omega⟩ h2
    ·rw [g1]
     simp only
     rw [eZ,if_neg]
     intro hxm
     rcases lin x hxm with h | h
     ·exact h1 (hL x h).2
     ·exact h2 h
end
theorem aFT : ∀ {cs : List PV} {cts : List OTy},PV.flatCs cts cs=true→∀ (j : Nat) c,cs[j]? = some c→PV.flatO (cts.getD j .leaf) c=true∨c.flat=true
 | [],_,_,j,c,h=>by simp at h
 | x::r,cts,h,j,c,hj=>by
   have tail : ∀ {b : Bool},(b&&PV.flatCs cts.tail r)=true→j≠0→PV.flatO (cts.getD j .leaf) c=true∨c.flat=true:=by
    intro b hb hj0
    simp only [Bool.and_eq_true] at hb
    obtain ⟨q,rfl⟩ : ∃ q,j=q+1:=⟨j - 1,by omega⟩
    have:=aFT hb.2 q c (by simpa using hj)
    cases cts with
    | nil=>simpa [List.getD] using this
    | cons o os=>simpa [List.getD] using this
   by_cases hj0 : j=0
   ·subst hj0
    simp at hj
    subst hj
    cases x with
    | lst xs=>
      unfold PV.flatCs at h
      simp only [Bool.and_eq_true] at h
      cases cts with
      | nil=>simp at h
      | cons o os=>
        cases o with
        | leaf=>simp at h
        | own s e g cts'=>exact .inl (by simpa [List.getD,PV.flatO] using h.1)
    | _=>unfold PV.flatCs at h;simp only [Bool.and_eq_true] at h;exact .inr h.1
   ·cases x<;>(unfold PV.flatCs at h;exact tail h hj0)
theorem aFU : ∀ {xs : List PV} {g : Bool} {cts : List OTy},PV.flatEs g cts xs=true→∀ (i : Nat) x,xs[i]? = some x→PV.flatE g cts x=true
 | [],_,_,_,i,x,h=>by simp at h
 | y::r,g,cts,h,i,x,hi=>by
   unfold PV.flatEs at h
   simp only [Bool.and_eq_true] at h
   cases i with
   | zero=>simp at hi;subst hi;exact h.1
   | succ i=>exact aFU h.2 i x (by simpa using hi)
theorem cH.flat {w : World} {Z Z' : Nat→Prop} {o : OTy} {x : PV} {v : Value} {F : Nat→Prop} (h : cH w Z o x v F) (hf : PV.flatO o x=true∨x.flat=true) (hn : ∀ r,F r→¬ Z' r) : cH w Z' o x v F:=by
 induction h with
 | leaf x v F h hF=>
   rcases hf with hf | hf
   ·simp [PV.flatO] at hf
   ·exact .leaf x v F (h.flat hf) hF
 | hole s e g cts v F h hF=>exact .hole s e g cts v F h hF
 | nil s e g cts F a hF=>exact .nil s e g cts F a hF
 | own s e g cts xs b o cap cells ety cv fp F hh hs ho hl hz he hc hv hr hF hb hd ih=>
   have hf : PV.flatEs g cts xs=true:=by
    rcases hf with hf | hf
    ·simpa [PV.flatO] using hf
    ·simp [PV.flat] at hf
   refine .own s e g cts xs b o cap cells ety cv fp F hh hs ho hl (hn b ((hF b).2 (.inl rfl))) he hc hv (fun i j x hx hj=>?_) hF hb hd
   have hi : i<xs.length:=(List.getElem?_eq_some_iff.1 hx).1
   refine ih i j x hx hj ?_ (fun r hr=>hn r ((hF r).2 (.inr ⟨i,j,hi,hj,hr⟩)))
   have hfe:=aFU hf i x hx
   have hel:=he i x hx
   cases g with
   | true=>
     obtain ⟨cs,rfl,hlen⟩:=yW hel
     rw [eX]
     unfold PV.flatE at hfe
     simp only [Bool.true_and] at hfe
     have hj' : cs[j]? = some (cs[j]'(by omega)):=List.getElem?_eq_getElem (by omega)
     have hg : cs.getD j .hole=cs[j]'(by omega):=by rw [List.getD,hj'];rfl
     rw [hg]
     exact aFT hfe j _ hj'
   | false=>
     have hs1:=aCm hel
     have hj0 : j=0:=by omega
     subst hj0
     show PV.flatO (cts.getD 0 .leaf) x=true∨x.flat=true
     cases x with
     | lst ys=>
       unfold PV.flatE at hfe
       cases cts with
       | nil=>simp at hfe
       | cons o os=>
         cases o with
         | leaf=>simp at hfe
         | own s' e' g' cts'=>exact .inl (by simpa [List.getD,PV.flatO] using hfe)
     | agg cs=>unfold PV.flatE at hfe;simp at hfe
     | _=>unfold PV.flatE at hfe;simp only [Bool.not_false,Bool.true_and] at hfe;exact .inr hfe
inductive yB (l : R) : DV→Prop
 | p (k : IntKind) (i : Int) : (gd l i.toNat).flat=true→yB l (.p (.int k i))
 | ref (n : Nat) (path : eC) : yB l (.ref n path)
 | agg (cs : List DV) : (∀ c∈cs,yB l c)→yB l (.agg cs)
 | tup (cs : List DV) : (∀ c∈cs,yB l c)→yB l (.tup cs)
theorem nV {l : R} : ∀ {cs : List DV} {k : Option R} {r : R},guardCells l cs k=some r→(∀ c∈cs,yB l c)∧k=some r
 | [],k,r,h=>⟨by simp,h⟩
 | .p (.int kk i)::cs,k,r,h=>by
  unfold guardCells at h
  obtain ⟨hf,h'⟩:=zJ h
  obtain ⟨h1,h2⟩:=nV h'
  refine ⟨fun c hc=>?_,h2⟩
  rcases List.mem_cons.1 hc with rfl | hc
  ·exact .p _ _ hf
  ·exact h1 c hc
 | .ref n path::cs,k,r,h=>by
  unfold guardCells at h
  obtain ⟨h1,h2⟩:=nV h
  refine ⟨fun c hc=>?_,h2⟩
  rcases List.mem_cons.1 hc with rfl | hc
  ·exact .ref _ _
  ·exact h1 c hc
 | .p (.bool _)::_,_,_,h=>by simp [guardCells] at h
 | .p (.str _)::_,_,_,h=>by simp [guardCells] at h
 | .p .nil::_,_,_,h=>by simp [guardCells] at h
 | .p .nilf::_,_,_,h=>by simp [guardCells] at h
 | .p (.agg _)::_,_,_,h=>by simp [guardCells] at h
 | .p (.lst _)::_,_,_,h=>by simp [guardCells] at h
 | .p (.bx _)::_,_,_,h=>by simp [guardCells] at h
 | .p (.fn _ _)::_,_,_,h=>by simp [guardCells] at h
 | .p (.tup _)::_,_,_,h=>by simp [guardCells] at h
 | .p .hole::_,_,_,h=>by simp [guardCells] at h
 | .nils::_,_,_,h=>by simp [guardCells] at h
 | .agg _::_,_,_,h=>by simp [guardCells] at h
 | .tup _::_,_,_,h=>by simp [guardCells] at h
 | .fn _ _::_,_,_,h=>by simp [guardCells] at h
 | .ptr _ _::_,_,_,h=>by simp [guardCells] at h
 | .sref _ _ _ _::_,_,_,h=>by simp [guardCells] at h
 | .eptr _ _ _ _::_,_,_,h=>by simp [guardCells] at h
 | .fptr _ _ _ _::_,_,_,h=>by simp [guardCells] at h
 | .bptr _ _::_,_,_,h=>by simp [guardCells] at h
 | .gptr _ _ _ _::_,_,_,h=>by simp [guardCells] at h
 | .nilq _ _::_,_,_,h=>by simp [guardCells] at h
 | .bsl _ _::_,_,_,h=>by simp [guardCells] at h
 | .dead::_,_,_,h=>by simp [guardCells] at h
theorem pO {l : R} : ∀ {cs : List DV} {k : Option R} {r : R},guardAggs l cs k=some r→(∀ c∈cs,yB l c)∧k=some r
 | [],k,r,h=>⟨by simp,h⟩
 | d::cs,k,r,h=>by
   have one : ∀ {d : DV},guardCells l [d] (guardAggs l cs k)=some r→(∀ c∈d::cs,yB l c)∧k=some r:=by
    intro d h
    obtain ⟨h1,h2⟩:=nV h
    obtain ⟨h3,h4⟩:=pO h2
    refine ⟨fun c hc=>?_,h4⟩
    rcases List.mem_cons.1 hc with rfl | hc
    ·exact h1 _ List.mem_cons_self
    ·exact h3 c hc
   cases d with
   | agg ds=>
     unfold guardAggs at h
     obtain ⟨h1,h2⟩:=nV h
     obtain ⟨h3,h4⟩:=pO h2
     refine ⟨fun c hc=>?_,h4⟩
     rcases List.mem_cons.1 hc with rfl | hc
     ·exact .agg _ h1
     ·exact h3 c hc
   | _=>exact one (by simpa only [guardAggs] using h)
theorem aIn {l : R} {d : DV} {k : Option R} {r : R} (h : guardRes l d k=some r) : yB l d∧k=some r:=by
 unfold guardRes at h
 split at h
 ·obtain ⟨h1,h2⟩:=pO h
  exact ⟨.tup _ h1,h2⟩
 ·obtain ⟨h1,h2⟩:=pO h
  exact ⟨h1 _ List.mem_cons_self,h2⟩
theorem aBj {l : R} : ∀ {cs : List (Option Own)} {k : Option R} {r : R},guardRows l cs k=some r→(∀ (i : Nat) w kk j,cs[i]? = some (some w)→w.c = .int kk j→PV.flatO w.o (gd l j.toNat)=true)∧k=some r
 | [],k,r,h=>⟨fun i w kk j hi=>by simp at hi,h⟩
 | none::_,_,_,h=>by simp [guardRows] at h
 | some w::cs,k,r,h=>by
   unfold guardRows at h
   split at h
   ·rename_i kk j hc
    unfold PV.guardOwn at h
    split at h
    ·rename_i hf
     obtain ⟨h1,h2⟩:=aBj h
     refine ⟨fun i w' kk' j' hi hc'=>?_,h2⟩
     cases i with
     | zero=>
       simp at hi
       subst hi
       rw [hc] at hc'
       cases hc'
       exact hf
     | succ i=>exact h1 i w' kk' j' (by simpa using hi) hc'
    ·cases h
   ·cases h
mutual
theorem aBD (l : R) : ∀ (ds : List DV),fillDs l ds=ds.map (fillD l)
 | []=>rfl
 | d::r=>by simp only [fillDs,List.map_cons,aBD l r]
end
theorem yB.rd {l : R} {w : World} {Z Z' : Nat→Prop} {ρ : Loc} {live live' : Nat→Prop} (hl : ∀ x,live' x→live x) {d : DV} (hf : yB l d) : ∀ {v : Value},cZ w Z ρ live (fillD l d) v→cZ w Z' ρ live' (fillD l d) v:=by
 induction hf with
 | p k i hfl=>
   intro v h
   simp only [fillD] at h ⊢
   cases h with
   | p _ _ h=>exact .p _ _ (h.flat hfl)
 | ref n path=>
   intro v h
   simp only [fillD] at h ⊢
   cases h with
   | ref _ _ _ h1 h2 h3=>exact .ref _ _ _ h1 h2 (fun hv=>h3 (hl _ hv))
 | agg cs _ ih=>
   intro v h
   simp only [fillD,aBD] at h ⊢
   cases h with
   | agg _ vs h1 h2 h3=>
     refine .agg _ vs h1 h2 (fun i d v hd hv=>?_)
     rw [List.getElem?_map] at hd
     cases hc : cs[i]? with
     | none=>rw [hc] at hd;cases hd
     | some c=>
       rw [hc] at hd
       cases hd
       exact ih c (List.mem_of_getElem? hc) (h3 i _ v (by rw [List.getElem?_map,hc];rfl) hv)
 | tup cs _ ih=>
   intro v h
   simp only [fillD,aBD] at h ⊢
   cases h with
   | tup _ vs h1 h3=>
     refine .tup _ vs h1 (fun i d v hd hv=>?_)
     rw [List.getElem?_map] at hd
     cases hc : cs[i]? with
     | none=>rw [hc] at hd;cases hd
     | some c=>
       rw [hc] at hd
       cases hd
       exact ih c (List.mem_of_getElem? hc) (h3 i _ v (by rw [List.getElem?_map,hc];rfl) hv)
section
variable {P : Program} {X : Cx} {O : Orc}
theorem lentK_sound (hS : aFS P X.mode O.S) {t : Tmpl} {f : Nat} (hm : X.mode f=some t) (hwf : t.wf=true) {args : List DV} {s : St} {k : DV→St→Option R} {r : R} (h : lentK O t f args s k=some r) :
 jQ P f∧∃ d' s',k d' s'=some r∧∀ (n : Nat) (m : aU) (B L WB WL : Nat→Prop),nS m s B L n→s'.nb≤n+16→s'.nl≤n+16→aFc m s args→
  ∀ vs : Array Value,args.length=vs.size→(∀ (i : Nat) d v,args[i]? = some d→vs[i]? = some v→m.rd d v)→
    Calls P f vs m.w (fun e w'=>∃ v,e = .returned v∧∃ m',m'.w=w'∧bT m m' s s' B L WB WL n id∧m'.rd d' v):=by
 unfold lentK at h
 obtain ⟨ps,h1,hpl,H⟩:=tP h
 obtain ⟨l,hl,h2⟩:=aR h1
 obtain ⟨hflat,h3⟩:=aIn h2
 obtain ⟨hrows,hk⟩:=aBj h3
 obtain ⟨hcb,HS⟩:=hS f t _ _ l hm hl
 rw [Tmpl.fit_nil rfl] at HS
 refine ⟨hcb,_,_,hk,fun n m B L WB WL sit hnb hnl hM vs hvl hrd=>?_⟩
 have hnl : s.nl+t.lists.length≤n+16:=hnl
 have sn1:=sit.nb
 have sn2:=sit.nl
 let m0 : aU:={ w:=m.w,Z:=fun x=>m.Z x∨m.owned x,s:={ box:=fun _=>none,list:=fun _=>none},L:=fun _=>False,
                ρ:={ box:=fun _=>0,hdr:=fun _=>.nilFunc,fp:=fun _ _=>False,ty:=fun _=>.leaf,ub:=fun _=>False,ul:=fun _=>False}}
 have full0 : fK m0 ⟨[],[],0,0,0⟩ 0:={
  inv:={
   ub:=fun _ _ h=>by cases h
   ul:=fun _ _ h=>by cases h
   zlt:=sit.inv.zlt.next (fun _ h=>.inl h) (fun _ _=>rfl) fun r hr=>hr.elim (sit.inv.zlt r) (fun h=>sit.inv.owned_lt h)
   box:=fun _ _ h=>by cases h
   row:=fun _ _ h=>by cases h
   bz:=fun _ _ h=>by cases h
   bb:=fun _ _ _ _ h=>by cases h
   bl:=fun _ _ _ _ h=>by cases h
   ll:=fun _ _ _ _ _ h=>by cases h
   Lz:=fun _ h=>h.elim
   Lb:=fun _ _ _ h=>h
   Ll:=fun _ _ _ _ _ h=>h}
  box:=fun _=>rfl
  list:=fun _=>rfl
  ub:=fun _ h=>h.elim
  ul:=fun _ h=>h.elim}
 have own0 : ∀ r,¬ m0.owned r:=by
  rintro r (⟨_,_,h,_⟩ | ⟨_,_,h,_⟩ | h)
  ·cases h
  ·cases h
  ·exact h
 have hreps:=H m (fun x=>m.Z x∨m.owned x) sit.inv hM (.inl fun r hr=>.inr hr) (fun r hr=>.inl hr) vs hvl hrd
 refine (HS m0 vs full0 (by rw [List.length_map];omega) (fun i d v hd hv=>?_)).mono ?_
 ·rw [List.getElem?_map] at hd
  cases hp : ps[i]? with
  | none=>rw [hp] at hd;cases hd
  | some p=>rw [hp] at hd;cases hd;exact .p _ _ (hreps i p v hp hv)
 ·rintro e w' ⟨v,rfl,c,hw,cinv,fw,d,s0,a0,hread,hdv,hfull,hub,hul⟩
  obtain ⟨hless,lenB,lenL,HB,HO⟩:=Tmpl.read_sound hread hwf
  have lenL : t.lists.length=a0.ls.length:=lenL.trans pN
  refine ⟨v,rfl,?_⟩
  have rowC : ∀ i w,c.s.list i=some w→∃ w0,t.lists[i]? = some (some w0)∧(fillO l t.lists)[i]? = some (some w)∧PV.flatO w.o w.c=true:=by
   intro i w hi
   have hlt : i<t.lists.length:=by rw [lenL];exact hul i (cinv.ul i w hi)
   have hi':=hi
   rw [hfull.list i] at hi'
   cases hti : t.lists[i]'hlt with
   | none=>
     exfalso
     have : ∀ {cs : List (Option Own)} {k : Option R} {r : R},guardRows l cs k=some r→∀ (j : Nat),cs[j]?≠some none:=by
      intro cs
      induction cs with
      | nil=>intro k r _ j;simp
      | cons x xs ih=>
        intro k r h j
        cases x with
        | none=>simp [guardRows] at h
        | some w=>
          unfold guardRows at h
          split at h
          ·unfold PV.guardOwn at h
           split at h
           ·cases j with
            | zero=>simp
            | succ j=>simpa using ih h j
           ·cases h
          ·cases h
     exact this h3 i (by rw [List.getElem?_eq_getElem hlt,hti])
   | some w0=>
     have ht : t.lists[i]? = some (some w0):=by rw [List.getElem?_eq_getElem hlt,hti]
     obtain ⟨x,w1,g1,g2,⟨kk,j,g3,g4⟩,g5⟩:=HO i w0 ht
     have g1 : (s0.pick a0).list i=some w1:=by
      have:=mA (n:=0) g1
      rw [Nat.zero_add] at this
      exact this
     rw [g1] at hi'
     cases hi'
     refine ⟨w0,ht,g2,?_⟩
     have:=hrows i w0 kk j ht g3
     rw [g4,g5] at this
     exact this
  let c1 : aU:={ w:=c.w,Z:=fun x=>c.Z x∧(m.Z x∨m.w.heap.size≤x),s:={ box:=fun _=>none,list:=c.s.list},L:=fun _=>False,ρ:=c.ρ}
  have c1inv : lW c1:={
   ub:=fun _ _ h=>by cases h
   ul:=fun l o h=>cinv.ul l o h
   zlt:=⟨fun r hr=>cinv.zlt r hr.1,sit.inv.zlt.glob.mono (fun r h=>⟨fw.zz r (.inl h),.inl h⟩) (fun r h=>fw.keep r (Nat.lt_of_lt_of_le (sit.inv.zlt r h) (Nat.le_refl _)) (own0 r))⟩
   box:=fun _ _ h=>by cases h
   row:=fun i o hi=>by
    have hi : c.s.list i=some o:=hi
    obtain ⟨g1,g2,g3⟩:=cinv.row i o hi
    obtain ⟨w0,_,_,hf⟩:=rowC i o hi
    exact ⟨g1,g2,g3.flat (.inl hf) (fun r hr hz=>g3.notZ r hr hz.1)⟩
   bz:=fun _ _ h=>by cases h
   bb:=fun _ _ _ _ h=>by cases h
   bl:=fun _ _ _ _ h=>by cases h
   ll:=fun l o l' o' r h h'=>cinv.ll l o l' o' r h h'
   Lz:=fun _ h=>h.elim
   Lb:=fun _ _ _ h=>h
   Ll:=fun _ _ _ _ _ h=>h}
  have c1own : ∀ r,c1.owned r→c.owned r:=by
   rintro r (⟨_,_,h,_⟩ | ⟨l,o,h,hr⟩ | h)
   ·cases h
   ·exact .inr (.inl ⟨l,o,h,hr⟩)
   ·exact h.elim
  let S : Sx:={ box:=m.s.box
                list:=fun x=>match wO s.nl t.lists.length x with | some i=>(fillO l t.lists).getD i none | none=>m.s.list x}
  have freshL : ∀ x,s.nl≤x→x<s.nl+t.lists.length→¬ m.ρ.ul x:=fun x h1 h2=>sit.fl x h1 (by omega)
  have cb0 : ∀ x,dV [] s.nb 0 x=none:=fun x=>by
   unfold dV
   simp only [idx]
   rw [if_neg (by omega)]
  have listC : ∀ i w,(fillO l t.lists)[i]? = some (some w)→c.s.list i=some w:=by
   intro i w hi
   obtain ⟨ts,hts⟩:=sG l hi
   obtain ⟨x',w2,g1,g2,_⟩:=HO i ts hts
   rw [hi] at g2
   cases g2
   have g1 : (s0.pick a0).list i=some w:=by
    have:=mA (n:=0) g1
    rw [Nat.zero_add] at this
    exact this
   rw [← hfull.list i] at g1
   exact g1
  have came : tG m c1 false [] [] [] s.nb 0 s.nl t.lists.length S:={
   kk:=fun _=>rfl
   kn:=List.nodup_nil
   ks:=by simp
   row:=fun i l0 h=>by simp at h
   inv:=sit.inv
   cinv:=c1inv
   nb:=List.nodup_nil
   ab:=by simp
   al:=by simp
   size:=fw.size
   os:=fw.os
   tape:=fw.tape
   output:=fw.output
   keep:=fun r hr _=>fw.keep r hr (own0 r)
   own:=fun r hr=>.inr ((fw.own r (c1own r hr)).resolve_left (own0 r))
   z:=fun r hr=>hr.2.imp id (fun h=>.inr h)
   zz:=fun r hr=>⟨fw.zz r (.inl hr),.inl hr⟩
   box:=fun i b h=>by simp at h
   freshB:=fun x h1 h2=>by omega
   freshL:=freshL
   sb:=fun x cs hx=>.inr ⟨cb0 x,cs,hx,(List.map_id _).symm⟩
   sbx:=fun x hx=>hx
   sl:=fun x o hx=>by
    have hx : (match wO s.nl t.lists.length x with | some i=>(fillO l t.lists).getD i none | none=>m.s.list x)=some o:=hx
    rw [aCG]
    cases hcl : wO s.nl t.lists.length x with
    | none=>rw [hcl] at hx;exact .inr ⟨rfl,by simp,hx⟩
    | some i=>
      rw [hcl] at hx
      exact .inl ⟨i,rfl,listC i o (getD_some hx)⟩}
  have listL : ∀ x,look x (backO s.nl (fillO l t.lists) s.lists)=match wO s.nl t.lists.length x with | some i=>(fillO l t.lists).getD i none | none=>s.list x:=fun x=>by
   have:=aFP (x:=x) (cs:=fillO l t.lists) (n:=s.nl) (old:=s.lists)
   rw [rW] at this
   exact this
  have hres : c1.rd (fillD l t.res) v:=hflat.rd (fun _ h=>h) (hless c v hdv)
  refine ⟨m.back c1 [] [] s.nb 0 s.nl t.lists.length S,hw,?_,?_⟩
  ·refine {
    step:=by have:=came.step sn1 (by omega) sn2 hnl;exact this
    after:=⟨fun x hx=>sit.ab x hx,fun x hx=>?_,fun _ _ _=>rfl,fun x h1 h2=>?_,fun _ _ _=>rfl,fun x h1 h2=>?_⟩
    nb:=Nat.le_refl _
    nl:=Nat.le_add_right _ _
    ub:=fun x hx hu=>hu.elim id (fun h=>by omega)
    ul:=fun x hx hu=>hu.elim id (fun h=>by have hx : s.nl+t.lists.length≤x:=hx;omega)}
   ·show (match wO s.nl t.lists.length x with | some i=>(fillO l t.lists).getD i none | none=>m.s.list x)=look x (backO s.nl (fillO l t.lists) s.lists)
    rw [listL x]
    cases wO s.nl t.lists.length x with
    | some i=>rfl
    | none=>exact sit.al x hx
   ·show (match wO s.nl t.lists.length x with | some i=>(fillO l t.lists).getD i none | none=>m.s.list x)=_
    rcases aFQ s.nl t.lists.length x with ⟨i,g1,g2,g3⟩ | ⟨g1,_⟩
    ·exact absurd ⟨by omega,by omega⟩ h2
    ·rw [g1]
   ·show look x (backO s.nl (fillO l t.lists) s.lists)=_
    rw [listL x]
    rcases aFQ s.nl t.lists.length x with ⟨i,g1,g2,g3⟩ | ⟨g1,_⟩
    ·exact absurd ⟨by omega,by omega⟩ h2
    ·rw [g1]
  ·refine cZ.renum (ρ:=c1.ρ) (live:=c1.s.live) (fun b b' hu hbb=>by cases hbb) (fun l0 l' hu hll=>?_) deep hres
   unfold backFl at hll
   cases hll
   have hlt:=hul l0 hu
   rw [← lenL] at hlt
   have hcl : wO s.nl t.lists.length (s.nl+l0)=some l0:=by
    unfold wO
    rw [if_pos ⟨by omega,by omega⟩]
    congr 1
    omega
   refine ⟨.inr ⟨by omega,by omega⟩,fun hv=>⟨?_,?_,?_,?_⟩⟩
   ·have hv : (match wO s.nl t.lists.length (s.nl+l0) with | some i=>(fillO l t.lists).getD i none | none=>m.s.list (s.nl+l0))≠none:=hv
    rw [hcl] at hv
    obtain ⟨w1,hw1⟩:=Option.ne_none_iff_exists'.1 hv
    have:=listC l0 w1 (getD_some hw1)
    show c.s.list l0≠none
    rw [this];simp
   ·show (match dV [] s.nl t.lists.length (s.nl+l0) with | some i=>c.ρ.hdr i | none=>_)=_
    rw [aCG,hcl]
   ·show (match dV [] s.nl t.lists.length (s.nl+l0) with | some i=>c.ρ.ty i | none=>_)=_
    rw [aCG,hcl]
   ·show (match dV [] s.nl t.lists.length (s.nl+l0) with | some i=>c.ρ.fp i | none=>_)=_
    rw [aCG,hcl]
end
section
variable {P : Program} {X : Cx} {O : Orc}
theorem aBE : ∀ (ds : List DV) (ts : List Nat) (s : St) (k : List DV→St→Option R),ownArgs X ds ts s k=ownCells X ds (ts.map (elemOf X)) s k
 | [],ts,s,k=>by cases ts<;>rfl
 | d::ds,[],s,k=>rfl
 | d::ds,t::ts,s,k=>by
   unfold ownArgs ownCells
   simp only [List.map_cons]
   cases d<;>cases elemOf X t<;>simp only [aBE ds ts]
theorem aG2 {f : Nat} (hP : aDx P O.C) : ∀ ps r,O.C f ps=some r→jQ P f∧∀ (w : World) (Z : Nat→Prop) (aT us : Array Value),ZOk w Z→ps.length=aT.size→
 (∀ (i : Nat) x v,ps[i]? = some x→aT[i]? = some v→fB w Z x v)→([] : List PV).length=us.size→(∀ (i : Nat) x v,([] : List PV)[i]? = some x→us[i]? = some v→fB w Z x v)→
 Calls P f (aT++us) w (fun e w'=>∃ v,e = .returned v∧∃ Z',aCE w w' Z Z'∧fB w' Z' (hd r) v):=by
 intro ps r h
 obtain ⟨h1,h2⟩:=hP f ps r h
 refine ⟨h1,fun w Z aT us hz hl hr hu _=>?_⟩
 have : us = #[]:=Array.eq_empty_of_size_eq_zero hu.symm
 subst this
 rw [Array.append_empty]
 exact h2 w Z aT hz hl hr
theorem aFV (kp : Bool) (kl : List Nat) (t : Nat) (e : Env) : (scrubKeptE kp kl e).get t=scrubKeptD kp kl (e.get t):=by
 unfold scrubKeptE scrubKeptD
 cases kp with
 | true=>exact wH kl t e
 | false=>rfl
theorem aJy (hP : aDx P O.C) (hS : aFS P X.mode O.S) (hwf : ∀ g t,X.mode g=some t→t.wf=true) {f : Nat} {args : List DV} {ts : List Nat} {e : Env} {s : St} {k : DV→Env→St→Option R} {r : R} (h : callK X O f args ts e s k=some r) :
 jQ P f∧∃ d' e' s' scr,k d' e' s'=some r∧(∀ t,e'.get t=scr (e.get t))∧((match X.mode f with | some t=>{ deepFoot s args (!t.lent) with last:=!t.lent&&t.keep} | none=>deepFoot s args false).last=false→scr=_root_.id)∧∀ (n : Nat) (m : aU) (B L WB WL : Nat→Prop),nS m s B L n→s'.nb≤n+16→s'.nl≤n+16→
  (∀ ft,ft=(match X.mode f with | some t=>{ deepFoot s args (!t.lent) with last:=!t.lent&&t.keep} | none=>deepFoot s args false)→ft.Cov B L WB WL∧(ft.ok=true∨∀ x,B x∧L x))→
  ∀ vs : Array Value,args.length=vs.size→(∀ (i : Nat) d v,args[i]? = some d→vs[i]? = some v→m.rd d v)→
    Calls P f vs m.w (fun e w'=>∃ v,e = .returned v∧∃ m',m'.w=w'∧bT m m' s s' B L WB WL n scr∧m'.rd d' v):=by
 unfold callK at h
 split at h
 ·rename_i hmode
  unfold pureK at h
  obtain ⟨hcb,d',hk,H⟩:=aJu (caps:=[]) (k:=fun d s=>k d e s) (aG2 hP) h
  refine ⟨hcb,d',e,s,_root_.id,hk,fun _=>rfl,fun _=>rfl,fun n m B L WB WL sit _ _ hft vs hl hr=>?_⟩
  obtain ⟨C,hok⟩:=hft _ rfl
  rw [hmode] at C hok
  have:=H n m B L WB WL sit (aIl sit C hok) vs #[] hl hr rfl (fun i x v h=>by simp at h)
  rwa [Array.append_empty] at this
 ·rename_i t hmode
  split at h
  ·rename_i hlent
   obtain ⟨hcb,d',s',hk,H⟩:=lentK_sound hS hmode (hwf f t hmode) h
   refine ⟨hcb,d',e,s',_root_.id,hk,fun _=>rfl,fun _=>rfl,fun n m B L WB WL sit hnb hnl hft vs hl hr=>?_⟩
   obtain ⟨C,hok⟩:=hft _ rfl
   rw [hmode] at C hok
   simp only [hlent,Bool.not_true,Bool.false_and] at C hok
   exact H n m B L WB WL sit hnb hnl (aIl sit C hok) vs hl hr
  ·rename_i hlent
   have hlent : t.lent=false:=by simpa using hlent
   rw [aBE] at h
   obtain ⟨ds',s1,h1,hlen,hms,HM⟩:=kM h
   obtain ⟨hcb,d',s',kl,hk,hs1,H⟩:=aJx hS hmode (hwf f t hmode) h1
   refine ⟨hcb,d',scrubKeptE t.keep kl e,s',scrubKeptD t.keep kl,hk,fun t'=>aFV t.keep kl t' e,fun hla=>?_,fun n m B L WB WL sit hnb hnl hft vs hl hr=>?_⟩
   ·rw [hmode] at hla
    simp only [hlent,Bool.not_false,Bool.true_and] at hla
    unfold scrubKeptD
    rw [hla];rfl
   obtain ⟨C,hok⟩:=hft _ rfl
   rw [hmode] at C hok
   simp only [hlent,Bool.not_false,Bool.true_and] at C hok
   obtain ⟨m1,M1,hr1⟩:=HM n m sit.inv sit.nl (by omega) sit.fl vs.toList (fun i d u h1 h2=>hr i d u h1 (by simpa using h2))
   have G1:=M1.goes WB WL sit hms (by omega)
   have sit1:=G1.sit sit
   have hwb : (deepFoot s args true).wb=(deepFoot s args true).rb:=rfl
   have hwl : (deepFoot s args true).wl=(deepFoot s args true).rl:=rfl
   have:=H n m1 B L WB WL sit1 hnb hnl sit.nl (fun b hb=>⟨C.rb b hb,C.wb b (by show b∈(deepFoot s args true).wb;rw [hwb];exact hb)⟩) (fun l hl=>⟨C.rl l hl,C.wl l (by show l∈(deepFoot s args true).wl;rw [hwl];exact hl)⟩) (fun hkp x=>⟨⟨(C.all hkp x).1,(C.all hkp x).2.2.1⟩,⟨(C.all hkp x).2.1,(C.all hkp x).2.2.2⟩⟩) vs (by omega) (fun i d v h1 h2=>hr1 i d v h1 (by simpa using h2))
   rw [M1.w] at this
   refine this.mono ?_
   rintro e w' ⟨v,rfl,m',hw,G,hd⟩
   exact ⟨v,rfl,m',hw,G1.trans G,hd⟩
theorem aKE (hP : aDx P O.C) (hS : aFS P X.mode O.S) (hwf : ∀ g t,X.mode g=some t→t.wf=true) : aCA P X O:=by
 intro d args ts e s k r h
 unfold applyK at h
 split at h
 ·rename_i f caps
  obtain ⟨hcb,d',e',s',scr,hk,he,hid,H⟩:=aJy hP hS hwf h
  have hfeq : callFoot X (.fn f caps) args s=(match X.mode f with | some t=>{ deepFoot s (args++caps) (!t.lent) with last:=!t.lent&&t.keep} | none=>deepFoot s (args++caps) false):=by
   unfold callFoot
   simp only
   cases X.mode f<;>rfl
  refine ⟨d',e',s',scr,hk,he,fun hla=>hid (by rw [← hfeq];exact hla),fun n m B L WB WL sit hnb hnl C hok vf vs hvf hl hr=>?_⟩
  cases hvf with
  | fn _ _ us hul hur=>
    have e1 : (do let df ← Deferred.ofValue (.func (.func f) #[] us.toArray) vs;invoke df.target df.args : Sem Next).run P m.w = .ok (.enter f (vs++us.toArray)) m.w:=by
     simp [Deferred.ofValue,invoke,aCD hcb]
    rw [e1]
    refine (H n m B L WB WL sit hnb hnl (fun ft hft=>?_) (vs++us.toArray) (by simp;omega) (fun i d v hd hv=>?_))
    ·rw [hfeq,← hft] at C hok
     exact ⟨C,hok⟩
    ·rw [Array.getElem?_append] at hv
     split at hv
     ·rename_i hi
      rw [List.getElem?_append_left (by omega)] at hd
      exact hr i d v hd hv
     ·rename_i hi
      rw [List.getElem?_append_right (by omega)] at hd
      refine hur (i - args.length) d v hd ?_
      rw [hl]
      simpa using hv
 ·rename_i v
  cases v with
  | fn f caps=>
    obtain ⟨hcb,d',hk,H⟩:=aJu (P:=P) (f:=f) (C:=fun vs=>PV.apply O.C (.fn f caps) vs) (caps:=caps) (k:=fun d s=>k d e s) (fun ps r0 h0=>by
     have h0 : O.C f (ps++caps)=some r0:=h0
     obtain ⟨h1,h2⟩:=hP f _ _ h0
     refine ⟨h1,fun w Z aT us hz hl hr hul hur=>h2 w Z (aT++us) hz (by simp;omega) (fun i x v hx hv=>?_)⟩
     rw [Array.getElem?_append] at hv
     split at hv
     ·rw [List.getElem?_append_left (by omega)] at hx
      exact hr i x v hx hv
     ·rw [List.getElem?_append_right (by omega)] at hx
      exact hur (i - ps.length) x v hx (by rw [hl];exact hv)) h
    refine ⟨d',e,s,id,hk,fun _=>rfl,fun _=>rfl,fun n m B L WB WL sit hnb hnl C hok vf vs hvf hl hr=>?_⟩
    cases hvf with
    | p _ _ hvf=>cases hvf with
      | fn _ _ us hul hur=>
        have e1 : (do let df ← Deferred.ofValue (.func (.func f) #[] us.toArray) vs;invoke df.target df.args : Sem Next).run P m.w = .ok (.enter f (vs++us.toArray)) m.w:=by
         simp [Deferred.ofValue,invoke,aCD hcb]
        rw [e1]
        exact H n m B L WB WL sit (aIl (ds:=args) (wr:=false) sit C hok) vs us.toArray hl hr (by simpa using hul) (fun i x v hx hv=>hur i x v hx (by simpa using hv))
  | _=>
    exfalso
    split at h<;>
    ·obtain ⟨ps,h1,_⟩:=tP (s:=s) h
     obtain ⟨r0,hr0,_⟩:=aR h1
     simp [PV.apply] at hr0
 ·cases h
end
structure Hyp (P : Program) (T : Tab) (H : Hints) : Prop where
 tab : T=tabOf P
 zero : kA P H.zok
 mixed : P.follows .mixedOrders=true
 code : ∀ (f : Nat) (fn : Func) (c : Code),P.funcs[f]? = some fn→fn.body=some c→codeOk fn.ntmps c=true∧fn.name≠ "runtime.NumGoroutine"
 prim : aDx P fun g args=>(H.prim g).bind fun p=>p args
 primS : ∀ g h,H.primS g=some h→∀ t args s l,H.mode g=some t→h args s=some l→jQ P g∧∀ (m : aU) (aT : Array Value),fK m s s.base→args.length=aT.size→
  (∀ (i : Nat) d v,args[i]? = some d→aT[i]? = some v→m.rd d v)→Calls P g aT m.w (fun e w'=>∃ v,e = .returned v∧sF m s.boxes.length (if t.keep then s.lists.length else 0) (some (t.fit s)) l v w')
 glob : ∀ g,H.glob g=none
 wf : ∀ g t,H.mode g=some t→t.wf=true
section
variable {P : Program} {T : Tab} {H : Hints}
theorem aFW : ∀ (ds : List DV) (n t : Nat),(argEnv n ds).get t=if n≤t then ds.getD (t - n) .dead else .dead
 | [],n,t=>by simp [argEnv,Env.get]
 | d::r,n,t=>by
   unfold argEnv
   simp only [Env.get]
   by_cases h : t=n
   ·subst h;simp
   ·have hb : Nat.beq t n=false:=by
     cases hb : Nat.beq t n with
     | false=>rfl
     | true=>exact absurd (bQ hb) h
    rw [hb]
    simp only [Bool.false_eq_true,if_false]
    rw [aFW]
    by_cases h2 : n≤t
    ·rw [if_pos h2,if_pos (by omega),show t - n=t - (n+1)+1 by omega]
     simp [List.getD]
    ·rw [if_neg h2,if_neg (by omega)]
theorem aJz {m : aU} {args : List DV} {vs : Array Value} {n : Nat} (hl : args.length=vs.size) (hr : ∀ (i : Nat) d v,args[i]? = some d→vs[i]? = some v→m.rd d v) :
 fU m (argEnv 0 args).get ⟨vs++Array.replicate n undef,[]⟩:=by
 intro t
 rw [aFW,if_pos (Nat.zero_le _),Nat.sub_zero]
 by_cases h : t<args.length
 ·have hd : args[t]? = some args[t]:=List.getElem?_eq_getElem h
  have hv : vs[t]? = some (vs[t]'(by omega)):=Array.getElem?_eq_getElem (by omega)
  have e1 : args.getD t .dead=args[t]:=by rw [List.getD,hd];rfl
  have e2 : Act.eval ⟨vs++Array.replicate n undef,[]⟩ (.tmp t)=vs[t]'(by omega):=by
   show (vs++Array.replicate n undef).getD t undef=_
   rw [Array.getD_eq_getD_getElem?,Array.getElem?_append_left (by omega),hv];rfl
  rw [e1,e2]
  exact hr t _ _ hd hv
 ·have e1 : args.getD t .dead = .dead:=by rw [List.getD,List.getElem?_eq_none (by omega)];rfl
  rw [e1]
  exact .dead _
theorem aBk {f : Nat} {fn : Func} {c : Code} (hfn : P.funcs[f]? = some fn) (hc : fn.body=some c) {nb nl : Nat} {out : Option Tmpl} {args : List DV} {s : St} {r : R} (hg : aN4 P f nb nl out [.code c] (argEnv 0 args) s r)
 {m : aU} {vs : Array Value} (hf : fK m s s.base) (hl : args.length=vs.size) (hr : ∀ (i : Nat) d v,args[i]? = some d→vs[i]? = some v→m.rd d v) :
 Calls P f vs m.w (fun e w'=>∃ v,e = .returned v∧sF m nb nl out r v w'):=by
 intro cs
 let b : Frame:={ (default : Frame) with fn:=f,kind:=.normal}
 have henter : Frame.enter P f vs .normal=b.at ⟨vs++Array.replicate (fn.ntmps - vs.size) undef,[]⟩ [.code c]:=by
  simp [Frame.enter,Frame.at,hfn,hc,b]
 obtain ⟨v,w',fr,h1,h2,h3,h4⟩:=hg m ⟨vs++Array.replicate (fn.ntmps - vs.size) undef,[]⟩ fn hfn hf (aJz hl hr) (by simp;omega) rfl b cs rfl rfl
 rw [← henter] at h2
 exact ⟨.returned v,w',fr,⟨v,rfl,h1⟩,h2,h3,h4⟩
theorem aBF {f : Nat} {n nb nl : Nat} {out : Option Tmpl} {e : Env} {s : St} {r : R} (h : runN P T H n f nb nl out (startOf P f) e s=some r) : ∃ fn c,P.funcs[f]? = some fn∧fn.body=some c∧startOf P f = [.code c]:=by
 cases hb : bodyOf P f with
 | none=>
   exfalso
   cases n with
   | zero=>simp [runN] at h
   | succ n=>
     unfold runN at h
     have hs : startOf P f = [.code (.refuse "")]:=by unfold startOf;rw [hb]
     rw [hs] at h
     unfold evalFuel eval at h
     simp at h
 | some c=>
   have hs : startOf P f = [.code c]:=by unfold startOf;rw [hb]
   unfold bodyOf at hb
   cases hf : P.funcs[f]? with
   | none=>rw [hf] at hb;cases hb
   | some fn=>rw [hf] at hb;exact ⟨fn,c,rfl,hb,hs⟩
theorem aOF (hy : Hyp P T H) {g : Nat} {fn : Func} {c : Code} (hg : P.funcs[g]? = some fn) (hc : fn.body=some c) : lT fn.ntmps [.code c]:=fun x hx=>by
 simp at hx;subst hx;exact (hy.code _ _ _ hg hc).1
def aLm (P : Program) (run : Nat→Nat→Nat→Option Tmpl→List Item→Env→St→Option R) : Prop:=∀ (f nb nl : Nat) (out : Option Tmpl) (todo : List Item) (e : Env) (s : St) (r : R) (fn : Func),run f nb nl out todo e s=some r→P.funcs[f]? = some fn→lT fn.ntmps todo→aN4 P f nb nl out todo e s r
def aMY (P : Program) (run : Nat→Nat→Nat→Option Tmpl→List Item→Env→St→Option R) : Prop:=∀ {f nb nl : Nat} {out : Option Tmpl} {e : Env} {s : St} {r : R},run f nb nl out (startOf P f) e s=some r→∃ fn c,P.funcs[f]? = some fn∧fn.body=some c∧startOf P f = [.code c]
variable {run : Nat → Nat → Nat → Option Tmpl → List Item → Env → St → Option R}
theorem aJA (hy : Hyp P T H) (hrun : aLm P run) (hst : aMY P run) (f nb nl : Nat) (out : Option Tmpl) : aDx P (orcOf P H run f nb nl out).C:=by
 intro g args r h
 have h : (match H.prim g with | some h=>h args | none=>run g 0 0 none (startOf P g) (argEnv 0 (args.map .p)) ⟨[],[],0,0,0⟩)=some r:=h
 cases hpr : H.prim g with
 | some p=>
   rw [hpr] at h
   exact hy.prim g args r (by simp only [hpr,Option.bind_some];exact h)
 | none=>
 rw [hpr] at h
 simp only at h
 obtain ⟨fg,c,hfg,hc,hst'⟩:=hst h
 rw [hst'] at h
 have good:=hrun g 0 0 none _ _ _ r fg h hfg (aOF hy hfg hc)
 refine ⟨⟨fg,c,hfg,hc,(hy.code _ _ _ hfg hc).2⟩,fun w Z aT hz hl hr=>?_⟩
 let m0 : aU:={ w:=w,Z:=Z,s:={ box:=fun _=>none,list:=fun _=>none},L:=fun _=>False,
                ρ:={ box:=fun _=>0,hdr:=fun _=>.nilFunc,fp:=fun _ _=>False,ty:=fun _=>.leaf,ub:=fun _=>False,ul:=fun _=>False}}
 have full0 : fK m0 ⟨[],[],0,0,0⟩ 0:={
  inv:={
   ub:=fun _ _ h=>by cases h
   ul:=fun _ _ h=>by cases h
   zlt:=hz
   box:=fun _ _ h=>by cases h
   row:=fun _ _ h=>by cases h
   bz:=fun _ _ h=>by cases h
   bb:=fun _ _ _ _ h=>by cases h
   bl:=fun _ _ _ _ h=>by cases h
   ll:=fun _ _ _ _ _ h=>by cases h
   Lz:=fun _ h=>h.elim
   Lb:=fun _ _ _ h=>h
   Ll:=fun _ _ _ _ _ h=>h}
  box:=fun _=>rfl
  list:=fun _=>rfl
  ub:=fun _ h=>h.elim
  ul:=fun _ h=>h.elim}
 have own0 : ∀ r,¬ m0.owned r:=by
  rintro r (⟨_,_,h,_⟩ | ⟨_,_,h,_⟩ | h)
  ·cases h
  ·cases h
  ·exact h
 refine (aBk hfg hc good (m:=m0) (vs:=aT) full0 (by simpa using hl) (fun i d v hd hv=>?_)).mono ?_
 ·rw [List.getElem?_map] at hd
  cases hp : args[i]? with
  | none=>rw [hp] at hd;cases hd
  | some p=>rw [hp] at hd;cases hd;exact .p _ _ (hr i p v hp hv)
 ·rintro e w' ⟨v,rfl,m',rfl,inv',fw,pv,rfl,hrep⟩
  refine ⟨v,rfl,fun x=>m'.Z x∨m'.owned x,⟨fw.size,fw.os,fw.tape,fw.output,fun r hr=>fw.keep r hr (own0 r),fun r hr=>.inl (fw.zz r hr),fun r hr=>?_⟩,hrep⟩
  rcases hr with hr | hr
  ·rcases fw.z r hr with h | h | h
   ·exact .inl h
   ·exact (own0 r h).elim
   ·exact .inr ⟨h,inv'.zlt r hr⟩
  ·exact .inr ⟨(fw.own r hr).resolve_left (own0 r),inv'.owned_lt hr⟩
theorem aMZ (hy : Hyp P T H) (hrun : aLm P run) (hst : aMY P run) (f nb nl : Nat) (out : Option Tmpl) : aFS P H.mode (orcOf P H run f nb nl out).S:=by
 intro g t args s l hmode h
 have h : (match H.mode g with | some t=>(match H.primS g with | some h=>h args s | none=>run g s.boxes.length (if t.keep then s.lists.length else 0) (some (t.fit s)) (startOf P g) (argEnv 0 args) s) | none=>none)=some l:=h
 rw [hmode] at h
 simp only at h
 cases hps : H.primS g with
 | some p=>
   rw [hps] at h
   exact hy.primS g p hps t args s l hmode h
 | none=>
 rw [hps] at h
 simp only at h
 obtain ⟨fg,c,hfg,hc,hst'⟩:=hst h
 rw [hst'] at h
 have good:=hrun g s.boxes.length (if t.keep then s.lists.length else 0) (some (t.fit s)) _ _ _ l fg h hfg (aOF hy hfg hc)
 exact ⟨⟨fg,c,hfg,hc,(hy.code _ _ _ hfg hc).2⟩,fun m aT hf hl hr=>aBk hfg hc good hf hl hr⟩
theorem aHL (hy : Hyp P T H) : ∀ (n : Nat),aLm P (runN P T H n)
 | 0,_,_,_,_,_,_,_,_,_,h,_,_=>by simp [runN] at h
 | n+1,f,nb,nl,out,todo,e,s,r,fn,h,hfn,hok=>by
   unfold runN at h
   have ih:=aHL hy n
   have hP:=aJA hy ih aBF f nb nl out
   have hS:=aMZ hy ih aBF f nb nl out
   refine aFN (X:=cxOf P T H f nb nl out) (O:=orcOf P H (runN P T H n) f nb nl out) hy.tab hy.zero hy.glob (aKE hP hS hy.wf) hy.mixed hfn ?_ (fun todo e s r h hk=>ih f nb nl out todo e s r fn h hfn hk) evalFuel true todo e s r h hok
   show ((P.funcs[f]?).map (·.results.toList)).getD []=_
   rw [hfn];rfl
end
def aO {β : Type} (a : Option β) (b : Nat→Option β) : Prop:=∀ r,a=some r→∃ N,∀ n,N≤n→b n=some r
section
variable {α β : Type}
theorem aO.none {b : Nat→Option β} : aO (Option.none : Option β) b:=fun r h=>by cases h
theorem aO.rfl (a : Option β) : aO a (fun _=>a):=fun r h=>⟨0,fun _ _=>h⟩
theorem aO.bd {o : Option α} {k : α→Option β} {k' : Nat→α→Option β} (h : ∀ a,aO (k a) (fun n=>k' n a)) : aO (bd o k) (fun n=>bd o (k' n)):=by
 cases o with
 | none=>exact aO.none
 | some a=>exact h a
theorem aO.bd2 {o : Option α} {o' : Nat→Option α} {k : α→Option β} {k' : Nat→α→Option β} (ho : aO o o') (h : ∀ a,aO (k a) (fun n=>k' n a)) : aO (Go.Proofs.YthkofpnllaapeaaGreatDoor.bd o k) (fun n=>Go.Proofs.YthkofpnllaapeaaGreatDoor.bd (o' n) (k' n)):=by
 intro r hr
 obtain ⟨a,ha,hk⟩:=aR hr
 obtain ⟨N,hN⟩:=ho a ha
 obtain ⟨M,hM⟩:=h a r hk
 refine ⟨max N M,fun n hn=>?_⟩
 show Go.Proofs.YthkofpnllaapeaaGreatDoor.bd (o' n) (k' n)=some r
 rw [hN n (by omega)]
 exact hM n (by omega)
theorem aO.pvite {c : PV} {a b : Option β} {a' b' : Nat→Option β} (ha : aO a a') (hb : aO b b') : aO (PV.ite c a b) (fun n=>PV.ite c (a' n) (b' n)):=by
 intro r hr
 rcases vJ hr with ⟨rfl,h⟩ | ⟨rfl,h⟩
 ·obtain ⟨N,hN⟩:=ha r h
  exact ⟨N,fun n hn=>hN n hn⟩
 ·obtain ⟨N,hN⟩:=hb r h
  exact ⟨N,fun n hn=>hN n hn⟩
theorem aO.nilT {c : PV} {a b : Option β} {a' b' : Nat→Option β} (ha : aO a a') (hb : aO b b') : aO (PV.nilT c a b) (fun n=>PV.nilT c (a' n) (b' n)):=by
 intro r hr
 obtain ⟨h1,h2⟩:=aHI hr
 obtain ⟨M,hM⟩:=hb r h2
 cases c with
 | lst xs=>
   cases xs with
   | nil=>
     obtain ⟨N,hN⟩:=ha r (h1 (Eq.refl _))
     refine ⟨max N M,fun n hn=>?_⟩
     show @_root_.ite _ (a' n=b' n) (Classical.propDecidable _) (a' n) Option.none=some r
     rw [hN n (by omega),hM n (by omega),if_pos (Eq.refl _)]
   | cons x xs=>exact ⟨M,fun n hn=>hM n hn⟩
 | _=>cases hr
theorem aO.ite {c : Prop} [Decidable c] {a b : Option β} {a' b' : Nat→Option β} (ha : aO a a') (hb : aO b b') : aO (if c then a else b) (fun n=>if c then a' n else b' n):=by
 by_cases h : c
 ·simp only [h,if_true];exact ha
 ·simp only [h,if_false];exact hb
theorem aO.flat {r : PV} {a : Option β} {a' : Nat→Option β} (ha : aO a a') : aO (PV.guardFlat r a) (fun n=>PV.guardFlat r (a' n)):=by
 unfold PV.guardFlat;exact aO.ite ha aO.none
theorem aO.own {o : OTy} {r : PV} {a : Option β} {a' : Nat→Option β} (ha : aO a a') : aO (PV.guardOwn o r a) (fun n=>PV.guardOwn o r (a' n)):=by
 unfold PV.guardOwn;exact aO.ite ha aO.none
end
section
variable {X : Cx}
theorem aCI {v : PV} : ∀ {m : Nat} {k : List PV→Option R} {k' : Nat→List PV→Option R},(∀ l,aO (k l) (fun n=>k' n l))→aO (cellsK.go v m k) (fun n=>cellsK.go v m (k' n))
 | 0,_,_,h=>h []
 | _+1,_,_,h=>by
   unfold cellsK.go
   exact aCI fun l=>aO.bd fun c=>h _
theorem nG {m : Nat} {d : DV} {k : List DV→Option R} {k' : Nat→List DV→Option R} (h : ∀ l,aO (k l) (fun n=>k' n l)) : aO (cellsK m d k) (fun n=>cellsK m d (k' n)):=by
 cases d<;>simp only [cellsK]<;>first
  | exact aO.none
  | exact aO.ite (h _) aO.none
  | exact aO.bd fun v=>aCI fun l=>h _
theorem jX : ∀ {path : eC} {o : OTy} {c : PV} {k : OTy→PV→Option R} {k' : Nat→OTy→PV→Option R},(∀ o c,aO (k o c) (fun n=>k' n o c))→aO (getK o c path k) (fun n=>getK o c path (k' n))
 | [],_,_,_,_,h=>h _ _
 | (i,j)::r,o,c,k,k',h=>by
   unfold getK
   exact aO.bd fun x=>aO.ite (aO.bd fun y=>jX h) (aO.ite (jX h) aO.none)
theorem vO : ∀ {path : eC} {o : OTy} {c y : PV} {k : PV→Option R} {k' : Nat→PV→Option R},(∀ c,aO (k c) (fun n=>k' n c))→aO (setK o c path y k) (fun n=>setK o c path y (k' n))
 | [],_,_,_,_,_,h=>h _
 | (i,j)::r,o,c,y,k,k',h=>by
   unfold setK
   exact aO.bd fun x=>aO.ite (aO.bd fun z=>vO fun z'=>aO.bd h) (aO.ite (vO fun z'=>aO.bd h) aO.none)
theorem rX {s : St} {d : DV} {k : OTy→PV→Option R} {k' : Nat→OTy→PV→Option R} (h : ∀ o c,aO (k o c) (fun n=>k' n o c)) : aO (rowK s d k) (fun n=>rowK s d (k' n)):=by
 cases d<;>simp only [rowK]<;>try exact aO.none
 ·rename_i l path
  cases s.list l with
  | none=>exact aO.none
  | some w=>exact jX h
 ·rename_i l path lo hi
  cases s.list l with
  | none=>exact aO.none
  | some w=>exact jX fun o c=>aO.bd fun c=>h _ _
theorem aDz {α β : Type} {f : α→(β→Option R)→Option R} (hf : ∀ a k (k' : Nat→β→Option R),(∀ b,aO (k b) (fun n=>k' n b))→aO (f a k) (fun n=>f a (k' n))) :
 ∀ {l : List α} {k : List β→Option R} {k' : Nat→List β→Option R},(∀ b,aO (k b) (fun n=>k' n b))→aO (mapK f l k) (fun n=>mapK f l (k' n))
 | [],_,_,h=>h _
 | d::r,k,k',h=>by
   unfold mapK
   exact hf _ _ _ fun v=>aDz hf fun vs=>h _
theorem aBG {s : St} : ∀ {m : Nat} {d : DV} {k : PV→Option R} {k' : Nat→PV→Option R},(∀ v,aO (k v) (fun n=>k' n v))→aO (snapK s m d k) (fun n=>snapK s m d (k' n))
 | 0,_,_,_,_=>by simp only [snapK];exact aO.none
 | m+1,d,k,k',h=>by
   have mp:=fun {ds : List DV} {k : List PV→Option R} {k' : Nat→List PV→Option R} (h : ∀ v,aO (k v) (fun n=>k' n v))=>aDz (f:=snapK s m) (fun a k k' h=>aBG h) (l:=ds) h
   cases d<;>simp only [snapK]<;>first
    | exact aO.none
    | exact h _
    | exact mp fun vs=>h _
    | exact rX fun _ c=>h _
    | skip
   ·rename_i b off
    cases off with
    | zero=>
      cases s.box b with
      | none=>exact aO.none
      | some cs=>exact mp fun vs=>h _
    | succ n=>exact aO.none
   ·rename_i b n
    cases s.box b with
    | none=>exact aO.none
    | some cs=>exact aO.ite (mp fun vs=>aO.bd fun c=>h _) aO.none
theorem sH {s : St} {m : Nat} {ds : List DV} {k : List PV→Option R} {k' : Nat→List PV→Option R} (h : ∀ v,aO (k v) (fun n=>k' n v)) : aO (snapL s m ds k) (fun n=>snapL s m ds (k' n)):=by
 unfold snapL
 exact aDz (f:=snapK s m) (fun a k k' h=>aBG h) h
theorem aKF {s : St} {d : DV} {k : PV→St→Option R} {k' : Nat→PV→St→Option R} (h : ∀ v s,aO (k v s) (fun n=>k' n v s)) : aO (sinkK s d k) (fun n=>sinkK s d (k' n)):=by
 unfold sinkK
 cases bsOf deep d with
 | nil=>exact aBG fun v=>h _ _
 | cons=>exact aO.none
theorem tQ {ct : OTy} {s : St} {d : DV} {k : PV→St→Option R} {k' : Nat→PV→St→Option R} (h : ∀ v s,aO (k v s) (fun n=>k' n v s)) : aO (sinkAs ct s d k) (fun n=>sinkAs ct s d (k' n)):=by
 cases ct with
 | leaf=>exact aKF h
 | own a b c e=>
   cases d<;>simp only [sinkAs]<;>first
    | exact aO.none
    | exact h _ _
    | skip
   ·rename_i l path
    cases path with
    | nil=>
      dsimp only
      cases s.list l with
      | none=>exact aO.none
      | some w=>exact aO.ite (h _ _) aO.none
    | cons=>exact aO.none
   ·rename_i l path lo hi
    cases path with
    | nil=>
      dsimp only
      cases s.list l with
      | none=>exact aO.none
      | some w=>exact aO.ite (aO.bd fun c=>h _ _) aO.none
    | cons=>exact aO.none
theorem sI {o : OTy} : ∀ {ds : List DV} {s : St} {j : Nat} {k : List PV→St→Option R} {k' : Nat→List PV→St→Option R},(∀ v s,aO (k v s) (fun n=>k' n v s))→aO (sinkCells o s j ds k) (fun n=>sinkCells o s j ds (k' n))
 | [],_,_,_,_,h=>h _ _
 | d::r,s,j,k,k',h=>by
   unfold sinkCells
   exact tQ fun v s=>sI fun vs s=>h _ _
theorem aFX {o : OTy} {s : St} {d : DV} {k : PV→St→Option R} {k' : Nat→PV→St→Option R} (h : ∀ v s,aO (k v s) (fun n=>k' n v s)) : aO (elemK o s d k) (fun n=>elemK o s d (k' n)):=by
 unfold elemK
 cases o.g with
 | true=>
   cases d<;>simp only [if_true]<;>first
    | exact aO.none
    | exact aO.ite (h _ _) aO.none
    | exact aO.ite (sI fun vs s=>h _ _) aO.none
 | false=>
   cases d<;>simp only [Bool.false_eq_true,if_false]<;>first
    | exact aO.none
    | exact tQ h
theorem jY : ∀ {ds : List DV} {ts : List (Option Nat)} {s : St} {k : List DV→St→Option R} {k' : Nat→List DV→St→Option R},(∀ v s,aO (k v s) (fun n=>k' n v s))→aO (ownCells X ds ts s k) (fun n=>ownCells X ds ts s (k' n))
 | [],ts,s,k,k',h=>by cases ts<;>exact h _ _
 | d::ds,[],s,k,k',h=>h _ _
 | d::ds,t::ts,s,k,k',h=>by
   unfold ownCells
   cases d<;>cases t<;>exact jY fun vs s=>h _ _
theorem zL {l : Nat} {path : eC} {i : PV} {o : OTy} {x : PV} : ∀ {m off : Nat} {k : List DV→Option R} {k' : Nat→List DV→Option R},(∀ v,aO (k v) (fun n=>k' n v))→aO (cellsE l path i o x m off k) (fun n=>cellsE l path i o x m off (k' n))
 | 0,_,_,_,h=>h _
 | m+1,off,k,k',h=>by
   unfold cellsE
   exact aO.ite (aO.bd fun y=>zL fun ds=>h _) (zL fun ds=>h _)
theorem aFY {x : PV} {s : Nat} {g : Bool} {off : Nat} {r : TyR} {k : DV→Option R} {k' : Nat→DV→Option R} (h : ∀ v,aO (k v) (fun n=>k' n v)) : aO (partK x s g off r k) (fun n=>partK x s g off r (k' n)):=by
 unfold partK
 exact aO.ite (aO.ite (h _) (aO.bd fun y=>h _)) (aO.ite (aO.bd fun y=>h _) (aO.ite (h _) aO.none))
theorem aEt {c : PV} : ∀ {m off : Nat} {k : List PV→Option R} {k' : Nat→List PV→Option R},(∀ v,aO (k v) (fun n=>k' n v))→aO (loadK.cellsB c m off k) (fun n=>loadK.cellsB c m off (k' n))
 | 0,_,_,_,h=>h _
 | m+1,off,k,k',h=>by
   unfold loadK.cellsB
   exact aO.bd fun v=>aEt fun l=>h _
theorem aKG {t : Nat} {a : DV} {s : St} {k : DV→Option R} {k' : Nat→DV→Option R} (h : ∀ v,aO (k v) (fun n=>k' n v)) : aO (loadK X t a s k) (fun n=>loadK X t a s (k' n)):=by
 unfold loadK
 refine aO.ite aO.none ?_
 cases a<;>(try simp only)<;>first
  | exact aO.none
  | exact aO.ite (aEt fun l=>h _) (aO.bd fun y=>h _)
  | exact aFY h
  | skip
 ·rename_i b off
  cases s.box b with
  | none=>exact aO.none
  | some cs=>
    refine aO.ite (aO.ite (h _) aO.none) ?_
    cases cs[off]? with
    | none=>exact aO.none
    | some d=>exact h _
 ·rename_i l path i off
  cases s.list l with
  | none=>exact aO.none
  | some w=>
    exact jX fun o c=>aO.bd fun x=>aO.ite (aFY h) (aO.ite (aO.ite (zL fun ds=>h _) aO.none)
     (aO.ite (aO.ite (aO.bd fun y=>h _) (aO.ite (h _) aO.none)) (aO.ite (h _) aO.none)))
theorem aAI {d : DV} {k : DV→Option R} {k' : Nat→DV→Option R} (h : ∀ v,aO (k v) (fun n=>k' n v)) : aO (oneK d k) (fun n=>oneK d (k' n)):=by
 cases d<;>simp only [oneK]<;>first
  | exact aO.none
  | exact h _
  | exact aO.bd fun x=>h _
theorem aJB {t b off : Nat} {v : DV} {s : St} {k : St→Option R} {k' : Nat→St→Option R} (h : ∀ v,aO (k v) (fun n=>k' n v)) : aO (storeB X t b off v s k) (fun n=>storeB X t b off v s (k' n)):=by
 unfold storeB
 simp only
 cases s.box b with
 | none=>exact aO.none
 | some cs=>
   refine aO.ite (aO.ite (nG fun vs=>jY fun vs s=>h _) (aO.ite (aAI fun v=>?_) aO.none)) aO.none
   cases v<;>(try simp only)<;>first
    | exact h _
    | skip
   ·cases elemOf X t with
    | none=>exact aO.none
    | some u=>exact h _
   ·rename_i l path lo hi
    cases path with
    | cons=>exact h _
    | nil=>
      cases cs[off]? with
      | none=>exact h _
      | some d=>
        cases d<;>(try simp only)<;>first
         | exact h _
         | skip
        rename_i l' path'
        cases path' with
        | cons=>exact h _
        | nil=>
          refine aO.ite ?_ (h _)
          cases s.list l with
          | none=>exact aO.none
          | some w=>exact aO.bd fun c=>h _
theorem aEu {m : Nat} {c i : PV} : ∀ {ys : List PV} {c : PV} {off : Nat} {k : PV→Option R} {k' : Nat→PV→Option R},(∀ v,aO (k v) (fun n=>k' n v))→aO (storeK.setAll m c i off ys k) (fun n=>storeK.setAll m c i off ys (k' n))
 | [],_,_,_,_,h=>h _
 | y::ys,c,off,k,k',h=>by
   unfold storeK.setAll
   exact aO.bd fun c=>aEu (c:=c) h
theorem aJC {e : Env} {l : Nat} {path : eC} {w : Own} {c : PV} {s : St} {k : Env→St→Option R} {k' : Nat→Env→St→Option R} (h : ∀ e s,aO (k e s) (fun n=>k' n e s)) : aO (storeK.fin e k l path w c s) (fun n=>storeK.fin e (k' n) l path w c s):=by
 unfold storeK.fin
 refine vO fun c'=>?_
 unfold touchK
 exact aO.ite (h _ _) (h _ _)
theorem aFZ {e : Env} {o : OTy} {ds : List DV} {off l : Nat} {path : eC} {i : PV} {s : St} {k : Env→St→Option R} {k' : Nat→Env→St→Option R} (h : ∀ e s,aO (k e s) (fun n=>k' n e s)) : aO (storeK.setIn e k o ds off l path i s) (fun n=>storeK.setIn e (k' n) o ds off l path i s):=by
 unfold storeK.setIn
 refine sI fun ys s=>?_
 cases s.list l with
 | none=>exact aO.none
 | some w=>exact jX fun o c=>aEu (c:=c) fun c=>aJC h
theorem aEv {t : Nat} {a v : DV} {e : Env} {s : St} {k : Env→St→Option R} {k' : Nat→Env→St→Option R} (h : ∀ e s,aO (k e s) (fun n=>k' n e s)) : aO (storeK X t a v e s k) (fun n=>storeK X t a v e s (k' n)):=by
 unfold storeK
 refine aO.ite aO.none ?_
 cases a<;>(try simp only)<;>first
  | exact aO.none
  | exact aJB fun s=>h _ _
  | skip
 rename_i l path i off
 cases s.list l with
 | none=>exact aO.none
 | some w=>
   refine jX fun o c=>aO.ite (aFX fun x s=>?_) (aO.ite (nG fun ds=>aFZ h) (aO.ite (aAI fun v=>aFZ h) aO.none))
   cases s.list l with
   | none=>exact aO.none
   | some w=>exact jX fun o c=>aO.bd fun c=>aJC h
theorem zM {fs : List (Nat × Nat)} : ∀ {ps : List (Nat × DV)} {cs : List DV} {k : List DV→Option R} {k' : Nat→List DV→Option R},(∀ v,aO (k v) (fun n=>k' n v))→aO (buildK X fs ps cs k) (fun n=>buildK X fs ps cs (k' n))
 | [],_,_,_,h=>h _
 | (i,v)::r,cs,k,k',h=>by
   unfold buildK
   cases fs[i]? with
   | none=>exact aO.none
   | some p=>exact aO.ite (aO.ite (nG fun vs=>zM h) (aO.ite (aAI fun v=>zM h) aO.none)) aO.none
theorem aEw {o : OTy} : ∀ {ds : List DV} {s : St} {k : List PV→St→Option R} {k' : Nat→List PV→St→Option R},(∀ v s,aO (k v s) (fun n=>k' n v s))→aO (elemsK o s ds k) (fun n=>elemsK o s ds (k' n))
 | [],_,_,_,h=>h _ _
 | d::r,s,k,k',h=>by
   unfold elemsK
   exact aFX fun v s=>aEw fun vs s=>h _ _
theorem wP {dst : Option Nat} {t : Nat} {d : DV} {e : Env} {s : St} {k : DV→St→Option R} {k' : Nat→DV→St→Option R} (h : ∀ v s,aO (k v s) (fun n=>k' n v s)) : aO (moveK X dst t d e s k) (fun n=>moveK X dst t d e s (k' n)):=by
 cases d<;>simp only [moveK]<;>first
  | exact aO.none
  | exact h _ _
  | skip
 ·cases elemOf X t with
  | none=>exact h _ _
  | some u=>exact h _ _
 ·rename_i l path lo hi
  cases path with
  | cons=>exact h _ _
  | nil=>
    cases dst with
    | none=>exact h _ _
    | some t=>
      dsimp only
      generalize e.get t=d0
      cases d0<;>(try simp only)<;>first
       | exact h _ _
       | skip
      rename_i l' path'
      cases path' with
      | cons=>exact h _ _
      | nil=>
        refine aO.ite ?_ (h _ _)
        cases s.list l with
        | none=>exact aO.none
        | some w=>exact aO.bd fun c=>h _ _
theorem aKH {c a b : DV} {e : Env} {s : St} {k : DV→St→Option R} {k' : Nat→DV→St→Option R} (h : ∀ v s,aO (k v s) (fun n=>k' n v s)) : aO (pickK X c a b e s k) (fun n=>pickK X c a b e s (k' n)):=by
 cases c<;>simp only [pickK]<;>first
  | exact aO.none
  | exact aO.pvite (wP h) (wP h)
theorem aJD {t : Nat} {s : St} {k : DV→St→Option R} {k' : Nat→DV→St→Option R} (h : ∀ v s,aO (k v s) (fun n=>k' n v s)) : aO (allocK X t s k) (fun n=>allocK X t s (k' n)):=by
 unfold allocK
 exact aO.ite (jY fun cs s=>h _ _) aO.none
theorem aL7 {t : Nat} {x : DV} {s : St} {k : DV→St→Option R} {k' : Nat→DV→St→Option R} (h : ∀ v s,aO (k v s) (fun n=>k' n v s)) : aO (boxK X t x s k) (fun n=>boxK X t x s (k' n)):=by
 unfold boxK
 exact aO.ite (nG fun cs=>jY fun cs s=>h _ _) (aAI fun d=>jY fun cs s=>h _ _)
theorem aIo {t : Nat} {ps : List (Nat × DV)} {k : DV→Option R} {k' : Nat→DV→Option R} (h : ∀ v,aO (k v) (fun n=>k' n v)) : aO (buildTK X t ps k) (fun n=>buildTK X t ps (k' n)):=by
 unfold buildTK
 cases (X.T.at t).d<;>(try simp only)<;>first
  | exact aO.none
  | exact aO.ite (zM fun cs=>h _) aO.none
theorem aDA {t m : Nat} {ps : List (Nat × DV)} {s : St} {k : DV→St→Option R} {k' : Nat→DV→St→Option R} (h : ∀ v s,aO (k v s) (fun n=>k' n v s)) : aO (buildSliceK X t m ps s k) (fun n=>buildSliceK X t m ps s (k' n)):=by
 unfold buildSliceK lendK
 cases elemOf X t with
 | none=>exact aO.none
 | some u=>exact aO.ite (aO.ite (h _ _) aO.none) (aO.ite (aEw fun vs s=>aO.bd fun c=>h _ _) aO.none)
theorem aEE {t : Nat} {l c : DV} {s : St} {k : DV→St→Option R} {k' : Nat→DV→St→Option R} (h : ∀ v s,aO (k v s) (fun n=>k' n v s)) : aO (makeSliceK X t l c s k) (fun n=>makeSliceK X t l c s (k' n)):=by
 unfold makeSliceK
 cases elemOf X t with
 | none=>exact aO.none
 | some u=>
   cases l<;>cases c<;>(try simp only)<;>first
    | exact aO.none
    | exact aO.ite (aO.bd fun _=>aO.bd fun y=>aO.pvite (aO.bd fun c=>h _ _) aO.none) aO.none
theorem aF0 {x : DV} {s : St} {k : DV→Option R} {k' : Nat→DV→Option R} (h : ∀ v,aO (k v) (fun n=>k' n v)) : aO (nilCheckK x s k) (fun n=>nilCheckK x s (k' n)):=by
 cases x<;>simp only [nilCheckK]<;>first
  | exact aO.none
  | exact h _
  | exact aO.bd fun v=>h _
  | skip
 rename_i l path i off
 cases s.list l with
 | none=>exact aO.none
 | some w=>exact h _
theorem aKI {op : UnOp} {x : DV} {k : DV→Option R} {k' : Nat→DV→Option R} (h : ∀ v,aO (k v) (fun n=>k' n v)) : aO (unOpK op x k) (fun n=>unOpK op x (k' n)):=by
 cases op<;>cases x<;>simp only [unOpK]<;>first
  | exact aO.none
  | exact aO.bd fun v=>h _
theorem aJE {t : Nat} {x i : DV} {k : DV→Option R} {k' : Nat→DV→Option R} (h : ∀ v,aO (k v) (fun n=>k' n v)) : aO (indexK X t x i k) (fun n=>indexK X t x i (k' n)):=by
 unfold indexK
 cases (X.T.at t).d<;>cases x<;>cases i<;>(try simp only)<;>first
  | exact aO.none
  | exact aO.bd fun v=>h _
  | skip
 refine aO.ite ?_ aO.none
 split
 ·exact aO.bd fun v=>h _
 ·exact aO.none
theorem aF1 {d : DV} {k : DV→Option R} {k' : Nat→DV→Option R} (h : ∀ v,aO (k v) (fun n=>k' n v)) : aO (soK d k) (fun n=>soK d (k' n)):=by
 cases d<;>simp only [soK]<;>first
  | exact aO.bd fun v=>h _
  | exact h _
theorem aG3 {x : DV} {i : Nat} {k : DV→Option R} {k' : Nat→DV→Option R} (h : ∀ v,aO (k v) (fun n=>k' n v)) : aO (extractK x i k) (fun n=>extractK x i (k' n)):=by
 cases x<;>simp only [extractK]<;>first
  | exact aO.none
  | exact aO.bd fun v=>h _
  | skip
 rename_i cs
 cases cs[i]? with
 | none=>exact aO.none
 | some d=>exact h _
theorem aJF {t f : Nat} {x : DV} {k : DV→Option R} {k' : Nat→DV→Option R} (h : ∀ v,aO (k v) (fun n=>k' n v)) : aO (fieldK X t x f k) (fun n=>fieldK X t x f (k' n)):=by
 unfold fieldK
 cases (X.T.at t).d<;>(try simp only)<;>first
  | exact aO.none
  | skip
 rename_i fs
 cases fs[f]? with
 | none=>exact aO.none
 | some p=>
   refine aO.ite aO.none ?_
   cases x<;>(try simp only)<;>first
    | exact aO.none
    | exact aO.ite (aO.bd fun y=>h _) (aO.bd fun y=>h _)
    | skip
   rename_i cs
   refine aO.ite (aO.ite (h _) aO.none) ?_
   cases cs[p.1]? with
   | none=>exact aO.none
   | some d=>exact h _
theorem aEF {t f : Nat} {x : DV} {s : St} {k : DV→Option R} {k' : Nat→DV→Option R} (h : ∀ v,aO (k v) (fun n=>k' n v)) : aO (fieldAddrK X t x f s k) (fun n=>fieldAddrK X t x f s (k' n)):=by
 unfold fieldAddrK
 cases (X.T.at t).d<;>(try simp only)<;>first
  | exact aO.none
  | skip
 rename_i fs
 cases fs[f]? with
 | none=>exact aO.none
 | some p=>
   refine aO.ite aO.none ?_
   cases x<;>(try simp only)<;>first
    | exact aO.none
    | exact h _
    | exact aO.bd fun y=>h _
    | skip
   rename_i l path i off
   cases s.list l with
   | none=>exact aO.none
   | some w=>exact h _
theorem aEG {t : Nat} {x i : DV} {s : St} {k : DV→Option R} {k' : Nat→DV→Option R} (h : ∀ v,aO (k v) (fun n=>k' n v)) : aO (indexAddrK X t x i s k) (fun n=>indexAddrK X t x i s (k' n)):=by
 unfold indexAddrK
 cases (X.T.at t).d<;>cases i<;>(try simp only)<;>first
  | exact aO.none
  | skip
 ·refine aO.ite aO.none ?_
  cases x<;>(try simp only)<;>first
   | exact aO.none
   | exact aO.bd fun y=>h _
   | exact rX fun o c=>aO.ite (aO.bd fun _=>h _) aO.none
   | exact rX fun o c=>aO.ite (aO.bd fun _=>aO.bd fun j=>h _) aO.none
 ·rename_i i
  refine aO.ite aO.none ?_
  cases x<;>cases i<;>(try simp only)<;>first
   | exact aO.none
   | exact aO.ite (h _) aO.none
   | exact aO.ite (aO.bd fun v=>h _) aO.none
theorem aIp {t : Nat} {x : DV} {lo hi : Option DV} {mx : DV} {s : St} {k : DV→St→Option R} {k' : Nat→DV→St→Option R} (h : ∀ v s,aO (k v s) (fun n=>k' n v s)) : aO (noRoomK X t x lo hi mx s k) (fun n=>noRoomK X t x lo hi mx s (k' n)):=by
 unfold noRoomK
 cases elemOf X t with
 | none=>exact aO.none
 | some u=>
   cases x<;>cases lo<;>(try exact aO.none)
   cases hi with
   | none=>exact aO.none
   | some d=>
     cases d<;>cases mx<;>first
      | exact aO.none
      | exact aO.ite (aO.bd fun _=>h _ _) aO.none
theorem aJG {t : Nat} {x : DV} {lo hi : Option DV} {s : St} {k : DV→Option R} {k' : Nat→DV→Option R} (h : ∀ v,aO (k v) (fun n=>k' n v)) : aO (sliceK X t x lo hi s k) (fun n=>sliceK X t x lo hi s (k' n)):=by
 unfold sliceK
 cases sliceK.lowOf lo with
 | none=>exact aO.none
 | some l=>
   cases (X.T.at t).d<;>(try simp only)<;>first
    | exact aO.none
    | skip
   ·cases x<;>(try simp only)<;>first
     | exact aO.none
     | skip
    cases hi with
    | none=>exact aO.bd fun _=>aO.bd fun y=>h _
    | some d=>
      cases d<;>(try simp only)<;>first
       | exact aO.none
       | exact aO.bd fun y=>h _
   ·refine aO.ite aO.none ?_
    cases x<;>(try simp only)<;>first
     | exact aO.none
     | skip
    ·cases hi with
     | none=>exact aO.bd fun _=>aO.bd fun y=>h _
     | some d=>
       cases d<;>(try simp only)<;>first
        | exact aO.none
        | exact aO.bd fun y=>h _
    ·refine rX fun o c=>aO.ite ?_ aO.none
     cases hi with
     | none=>exact aO.bd fun _=>aO.bd fun y=>h _
     | some d=>
       cases d<;>(try simp only)<;>first
        | exact aO.none
        | exact aO.bd fun y=>h _
theorem aL8 {t : Nat} {d : DV} {s : St} {k : DV→Option R} {k' : Nat→DV→Option R} (h : ∀ v,aO (k v) (fun n=>k' n v)) : aO (lenK X t d s k) (fun n=>lenK X t d s (k' n)):=by
 unfold lenK
 cases (X.T.at t).d<;>cases d<;>(try simp only)<;>first
  | exact aO.none
  | exact h _
  | exact aO.bd fun y=>h _
  | exact rX fun _ c=>aO.bd fun y=>h _
theorem aBH : ∀ {ds : List DV} {k : List PV→Option R} {k' : Nat→List PV→Option R},(∀ v,aO (k v) (fun n=>k' n v))→aO (eqK.trees ds k) (fun n=>eqK.trees ds (k' n))
 | [],_,_,h=>h _
 | d::ds,k,k',h=>by
   cases d<;>simp only [eqK.trees]<;>first
    | exact aO.none
    | exact aBH fun vs=>h _
theorem aL9 {op : BinOp} {x : DV} {k : DV→Option R} {k' : Nat→DV→Option R} (h : ∀ v,aO (k v) (fun n=>k' n v)) : aO (nilK op x k) (fun n=>nilK op x (k' n)):=by
 unfold nilK
 cases op<;>cases x<;>(try simp only)<;>first
  | exact aO.none
  | exact aO.bd fun v=>h _
theorem aMa {op : BinOp} {t : Nat} {x y : DV} {k : DV→Option R} {k' : Nat→DV→Option R} (h : ∀ v,aO (k v) (fun n=>k' n v)) : aO (binK X op t x y k) (fun n=>binK X op t x y (k' n)):=by
 unfold binK
 cases (X.T.at t).d<;>(try simp only)<;>first
  | exact aO.none
  | skip
 ·cases x<;>cases y<;>(try simp only)<;>first
  | exact aO.none
  | exact aO.bd fun v=>h _
 ·cases x<;>cases y<;>(try simp only)<;>first
  | exact aO.none
  | exact aO.bd fun v=>h _
 ·cases x<;>cases y<;>(try simp only)<;>first
  | exact aO.none
  | exact aO.bd fun v=>h _
 ·cases x<;>cases y<;>(try simp only)<;>first
   | exact aO.none
   | exact aO.bd fun v=>h _
   | skip
  rename_i v
  cases v<;>cases op<;>(try simp only)<;>first
   | exact aO.none
   | exact h _
 ·cases y<;>(try simp only)<;>first
  | exact aO.none
  | exact aL9 h
 ·unfold eqK
  cases eqKinds X 10 t with
  | none=>exact aO.none
  | some qs=>exact nG fun as_=>nG fun bs=>aBH fun as_=>aBH fun bs=>aO.bd fun v=>h _
theorem aAJ {d : DV} {s : St} {k : PV→Option R} {k' : Nat→PV→Option R} (h : ∀ v,aO (k v) (fun n=>k' n v)) : aO (srcK d s k) (fun n=>srcK d s (k' n)):=by
 cases d<;>simp only [srcK]<;>first
  | exact aO.none
  | exact h _
  | exact rX fun o c=>aO.ite (h _) aO.none
theorem aKJ {a b : Nat} {x : DV} {s : St} {k : DV→Option R} {k' : Nat→DV→Option R} (h : ∀ v,aO (k v) (fun n=>k' n v)) : aO (convK X a b x s k) (fun n=>convK X a b x s (k' n)):=by
 unfold convK
 cases (X.T.at a).d<;>cases (X.T.at b).d<;>(try simp only)<;>first
  | exact aO.none
  | skip
 ·cases x<;>(try simp only)<;>first
  | exact aO.none
  | exact aO.bd fun v=>h _
 ·cases x<;>(try simp only)<;>first
  | exact aO.none
  | exact aO.bd fun v=>h _
 ·rename_i e
  cases x<;>(try simp only)<;>first
   | exact aO.none
   | skip
  cases (X.T.at e).d<;>(try simp only)<;>first
   | exact aO.none
   | skip
  rename_i kk
  cases kk<;>(try simp only)<;>first
   | exact aO.none
   | exact aO.bd fun v=>h _
 ·rename_i e
  cases (X.T.at e).d<;>(try simp only)<;>first
   | exact aO.none
   | skip
  rename_i kk
  cases kk<;>(try simp only)<;>first
   | exact aO.none
   | exact aAJ fun c=>aO.bd fun y=>h _
theorem aF2 {o : OTy} {d : DV} {s : St} {k : PV→St→Option R} {k' : Nat→PV→St→Option R} (h : ∀ v s,aO (k v s) (fun n=>k' n v s)) : aO (appendedK o d s k) (fun n=>appendedK o d s (k' n)):=by
 unfold appendedK
 exact aO.ite (aAJ fun y=>h _ _) (tQ h)
theorem aEx {o : OTy} {c : PV} {q : Option (PV × PV)} {k : PV→Option R} {k' : Nat→PV→Option R} (h : ∀ v,aO (k v) (fun n=>k' n v)) : aO (pieceK o c q k) (fun n=>pieceK o c q (k' n)):=by
 cases q with
 | none=>exact h _
 | some p=>exact aO.bd h
theorem aJH {l : Nat} {path : eC} {q : Option (PV × PV)} {s : St} {k : DV→St→Option R} {k' : Nat→DV→St→Option R} (h : ∀ d s,aO (k d s) (fun n=>k' n d s)) : aO (leaveK l path q s k) (fun n=>leaveK l path q s (k' n)):=by
 unfold leaveK
 cases s.list l with
 | none=>exact aO.none
 | some w=>exact jX fun o c=>aO.ite (aEx fun c1=>vO fun c'=>h _ _) aO.none
theorem aIq {t : Nat} {a v : DV} {e : Env} {s : St} {k : Env→St→Option R} {k' : Nat→Env→St→Option R} (h : ∀ e s,aO (k e s) (fun n=>k' n e s)) : aO (storeLK X t a v e s k) (fun n=>storeLK X t a v e s (k' n)):=by
 unfold storeLK
 split
 ·exact aJH fun _ _=>aEv fun _ _=>aO.ite (h _ _) aO.none
 ·exact aEv h
theorem aHM {d : DV} {te : Nat} {e : Env} {s : St} {l : Nat} {path : eC} {q : Option (PV × PV)} {k : DV→Env→St→Option R} {k' : Nat→DV→Env→St→Option R} (h : ∀ v e s,aO (k v e s) (fun n=>k' n v e s)) : aO (appendK.nest X d te e s k l path q) (fun n=>appendK.nest X d te e s (k' n) l path q):=by
 unfold appendK.nest
 cases s.list l with
 | none=>exact aO.none
 | some w=>
   exact jX fun o c=>aO.ite (aAJ fun y=>aEx fun c=>vO fun c'=>aO.bd fun c2=>h _ _ _) aO.none
theorem aIr {base d : DV} {te : Nat} {e : Env} {s : St} {k : DV→Env→St→Option R} {k' : Nat→DV→Env→St→Option R} (h : ∀ v e s,aO (k v e s) (fun n=>k' n v e s)) : aO (appendK X base d te e s k) (fun n=>appendK X base d te e s (k' n)):=by
 have plain : ∀ (q : Option OTy) (base : DV),aO (match q with
  | some o=>if fits X o te then appendedK o d s fun y s=>sinkAs o s base fun c s=>bd (PV.cat o.s o.e o.g c y) fun c'=>k (.ref s.nl []) e (s.addList ⟨o,c'⟩) else none
  | none=>none) (fun n=>match q with
  | some o=>if fits X o te then appendedK o d s fun y s=>sinkAs o s base fun c s=>bd (PV.cat o.s o.e o.g c y) fun c'=>k' n (.ref s.nl []) e (s.addList ⟨o,c'⟩) else none
  | none=>none):=by
  intro q base
  cases q with
  | none=>exact aO.none
  | some o=>exact aO.ite (aF2 fun y s=>tQ fun c s=>aO.bd fun c'=>h _ _ _) aO.none
 cases base with
 | ref l path=>
   cases path with
   | nil=>exact plain (baseTy X te s (.ref l [])) (.ref l [])
   | cons p r=>exact aHM h
 | sref l path lo hi=>
   cases path with
   | nil=>exact plain (baseTy X te s (.sref l [] lo hi)) (.sref l [] lo hi)
   | cons p r=>exact aHM h
 | p v=>exact plain (baseTy X te s (.p v)) (.p v)
 | nils=>exact plain (baseTy X te s .nils) .nils
 | agg cs=>exact plain (baseTy X te s (.agg cs)) (.agg cs)
 | tup cs=>exact plain (baseTy X te s (.tup cs)) (.tup cs)
 | fn f cs=>exact plain (baseTy X te s (.fn f cs)) (.fn f cs)
 | ptr b off=>exact plain (baseTy X te s (.ptr b off)) (.ptr b off)
 | bsl b n=>exact plain (baseTy X te s (.bsl b n)) (.bsl b n)
 | eptr l path i off=>exact plain (baseTy X te s (.eptr l path i off)) (.eptr l path i off)
 | fptr x s' g off=>exact plain (baseTy X te s (.fptr x s' g off)) (.fptr x s' g off)
 | bptr c off=>exact plain (baseTy X te s (.bptr c off)) (.bptr c off)
 | gptr l path i off=>exact plain (baseTy X te s (.gptr l path i off)) (.gptr l path i off)
 | nilq c neg=>exact plain (baseTy X te s (.nilq c neg)) (.nilq c neg)
 | dead=>exact plain (baseTy X te s .dead) .dead
theorem aHN {d : DV} {e : Env} {s : St} {k : Env→St→Option R} {k' : Nat→Env→St→Option R} (h : ∀ e s,aO (k e s) (fun n=>k' n e s)) : aO (frz1 d e s k) (fun n=>frz1 d e s (k' n)):=by
 unfold frz1
 split
 ·split
  ·exact h _ _
  ·exact h _ _
 ·exact h _ _
theorem vP : ∀ {fs : List (Nat × Option Nat)} {e : Env} {s : St} {k : Env→St→Option R} {k' : Nat→Env→St→Option R},(∀ e s,aO (k e s) (fun n=>k' n e s))→aO (frzK fs e s k) (fun n=>frzK fs e s (k' n))
 | [],_,_,_,_,h=>h _ _
 | (t,none)::r,e,s,k,k',h=>aHN fun e s=>vP h
 | (t,some j)::r,e,s,k,k',h=>by
   unfold frzK
   generalize e.get t=d0
   cases d0<;>(try simp only)<;>first
    | exact vP h
    | skip
   rename_i b off
   cases s.box b with
   | none=>exact vP h
   | some cs=>exact aHN fun e s=>vP h
theorem aEy {te : Nat} {src : DV} {s : St} {l : Nat} {w : Own} {lo hi : PV} {k : DV→St→Option R} {k' : Nat→DV→St→Option R} (h : ∀ v s,aO (k v s) (fun n=>k' n v s)) : aO (copyK.go X te src s k l w lo hi) (fun n=>copyK.go X te src s (k' n) l w lo hi):=by
 unfold copyK.go
 exact aO.ite (aAJ fun y=>aO.bd fun n=>aO.bd fun c=>h _ _) aO.none
theorem aKK {te : Nat} {dst src : DV} {s : St} {k : DV→St→Option R} {k' : Nat→DV→St→Option R} (h : ∀ v s,aO (k v s) (fun n=>k' n v s)) : aO (copyK X te dst src s k) (fun n=>copyK X te dst src s (k' n)):=by
 unfold copyK
 cases dst<;>(try simp only)<;>first
  | exact aO.none
  | skip
 ·rename_i l path
  cases path with
  | cons=>exact aO.none
  | nil=>
    dsimp only
    cases s.list l with
    | none=>exact aO.none
    | some w=>exact aO.bd fun n=>aEy h
 ·rename_i l path lo hi
  cases path with
  | cons=>exact aO.none
  | nil=>
    dsimp only
    cases s.list l with
    | none=>exact aO.none
    | some w=>exact aEy h
end
structure EvO (O : Orc) (O' : Nat→Orc) : Prop where
 L : ∀ todo e s,aO (O.L todo e s) (fun n=>(O' n).L todo e s)
 C : ∀ g args,aO (O.C g args) (fun n=>(O' n).C g args)
 S : ∀ g args s,aO (O.S g args s) (fun n=>(O' n).S g args s)
section
variable {X : Cx} {O : Orc} {O' : Nat → Orc}
theorem yC {l : R} : ∀ {cs : List DV} {a : Option R} {a' : Nat→Option R},aO a a'→aO (guardCells l cs a) (fun n=>guardCells l cs (a' n))
 | [],_,_,h=>h
 | d::cs,a,a',h=>by
   have ih:=yC (l:=l) (cs:=cs) h
   cases d with
   | ref=>simp only [guardCells];exact ih
   | p v=>
     cases v with
     | int=>simp only [guardCells];exact aO.flat ih
     | _=>simp only [guardCells];exact aO.none
   | _=>simp only [guardCells];exact aO.none
theorem zN {l : R} : ∀ {cs : List DV} {a : Option R} {a' : Nat→Option R},aO a a'→aO (guardAggs l cs a) (fun n=>guardAggs l cs (a' n))
 | [],_,_,h=>h
 | d::cs,a,a',h=>by
   have ih:=zN (l:=l) (cs:=cs) h
   cases d<;>(try simp only [guardAggs])<;>exact yC ih
theorem aG4 {l : R} {d : DV} {a : Option R} {a' : Nat→Option R} (h : aO a a') : aO (guardRes l d a) (fun n=>guardRes l d (a' n)):=by
 cases d<;>(try simp only [guardRes])<;>exact zN h
theorem zO {l : R} : ∀ {cs : List (Option Own)} {a : Option R} {a' : Nat→Option R},aO a a'→aO (guardRows l cs a) (fun n=>guardRows l cs (a' n))
 | [],_,_,h=>h
 | none::_,_,_,_=>by simp only [guardRows];exact aO.none
 | some w::cs,a,a',h=>by
   simp only [guardRows]
   cases w.c<;>(try simp only)<;>first
    | exact aO.none
    | exact aO.own (zO h)
theorem aKL (hO : EvO O O') {f : Nat} {args : List DV} {s : St} {k : DV→St→Option R} {k' : Nat→DV→St→Option R} (h : ∀ v s,aO (k v s) (fun n=>k' n v s)) : aO (pureK O f args s k) (fun n=>pureK (O' n) f args s (k' n)):=by
 unfold pureK
 exact aO.ite (sH fun vs=>aO.bd2 (hO.C _ _) fun r=>aO.flat (h _ _)) (sH fun vs=>aO.bd2 (hO.C _ _) fun r=>h _ _)
theorem aKM (hO : EvO O O') {t : Tmpl} {f : Nat} {args : List DV} {s : St} {k : DV→St→Option R} {k' : Nat→DV→St→Option R} (h : ∀ v s,aO (k v s) (fun n=>k' n v s)) : aO (lentK O t f args s k) (fun n=>lentK (O' n) t f args s (k' n)):=by
 unfold lentK
 exact sH fun vs=>aO.bd2 (hO.S _ _ _) fun l=>aG4 (zO (h _ _))
theorem aKN (hO : EvO O O') {ft : Foot} {n0 : Nat} {t : Tmpl} {f : Nat} {args : List DV} {s : St} {k : DV→St→List Nat→Option R} {k' : Nat→DV→St→List Nat→Option R} (h : ∀ v s l,aO (k v s l) (fun n=>k' n v s l)) : aO (liveK O ft n0 t f args s k) (fun n=>liveK (O' n) ft n0 t f args s (k' n)):=by
 unfold liveK
 exact aO.ite (aO.bd2 (hO.S _ _ _) fun l=>h _ _ _) aO.none
theorem aKO (hO : EvO O O') {f : Nat} {args : List DV} {ts : List Nat} {e : Env} {s : St} {k : DV→Env→St→Option R} {k' : Nat→DV→Env→St→Option R} (h : ∀ v e s,aO (k v e s) (fun n=>k' n v e s)) : aO (callK X O f args ts e s k) (fun n=>callK X (O' n) f args ts e s (k' n)):=by
 unfold callK
 cases X.mode f with
 | none=>exact aKL hO fun _ _=>h _ _ _
 | some t=>
   refine aO.ite (aKM hO fun _ _=>h _ _ _) ?_
   simp only [aBE]
   exact jY fun args s=>aKN hO fun _ _ _=>h _ _ _
theorem aF3 (hO : EvO O O') {v : PV} {vs : List PV} : aO (PV.apply O.C v vs) (fun n=>PV.apply (O' n).C v vs):=by
 unfold PV.apply
 cases v<;>(try simp only)<;>first
  | exact aO.none
  | exact hO.C _ _
theorem aJI (hO : EvO O O') {d : DV} {args : List DV} {ts : List Nat} {e : Env} {s : St} {k : DV→Env→St→Option R} {k' : Nat→DV→Env→St→Option R} (h : ∀ v e s,aO (k v e s) (fun n=>k' n v e s)) : aO (applyK X O d args ts e s k) (fun n=>applyK X (O' n) d args ts e s (k' n)):=by
 cases d<;>(try simp only [applyK])<;>first
  | exact aO.none
  | exact aKO hO h
  | exact aO.ite (sH fun vs=>aO.bd2 (aF3 hO) fun r=>aO.flat (h _ _ _)) (sH fun vs=>aO.bd2 (aF3 hO) fun r=>h _ _ _)
theorem aG5 {b : Builtin} {ts : List Nat} {args : List DV} {e : Env} {s : St} {k : DV→Env→St→Option R} {k' : Nat→DV→Env→St→Option R} (h : ∀ v e s,aO (k v e s) (fun n=>k' n v e s)) : aO (builtinK X b ts args e s k) (fun n=>builtinK X b ts args e s (k' n)):=by
 unfold builtinK
 split
 ·exact aL8 fun n=>h _ _ _
 ·rename_i t u a d
  cases elemOf X t with
  | none=>exact aO.none
  | some te=>exact aO.ite (aIr h) aO.none
 ·rename_i t u a d
  cases elemOf X t with
  | none=>exact aO.none
  | some te=>exact aKK fun d s=>h _ _ _
 ·exact aO.bd fun c=>h _ _ _
 ·exact aO.bd fun c=>h _ _ _
 ·exact aO.none
theorem aDB (hO : EvO O O') {o : Oper} {e : Env} {s : St} {k : Kont} {k' : Nat→Kont} (h : ∀ e s,aO (k e s) (fun n=>k' n e s)) : aO (exec X O o e s k) (fun n=>exec X (O' n) o e s (k' n)):=by
 obtain ⟨dst,op,type,pos,after,guard⟩:=o
 cases op<;>simp only [exec]<;>try exact aO.none
 case move=>exact wP fun _ _=>h _ _
 case assign=>exact wP fun _ _=>h _ _
 case pick=>exact aKH fun _ _=>h _ _
 case alloc=>exact aJD fun _ _=>h _ _
 case box=>exact aL7 fun _ _=>h _ _
 case build=>exact aIo fun _=>h _ _
 case buildSlice=>exact aDA fun _ _=>h _ _
 case makeSlice=>exact aEE fun _ _=>h _ _
 case load=>exact aF1 fun _=>aKG fun _=>h _ _
 case store=>exact aF1 fun _=>aIq fun _ _=>h _ _
 case nilCheck=>exact aF1 fun _=>aF0 fun _=>h _ _
 case binOp=>exact aMa fun _=>h _ _
 case unOp=>exact aKI fun _=>h _ _
 case convert=>exact aKJ fun _=>h _ _
 case makeFunc fn first caps=>
  cases fn<;>(try simp only)<;>first
   | exact aO.none
   | exact aO.ite (h _ _) aO.none
 case slice t x lo hi mx=>
  cases mx with
  | none=>exact aJG fun _=>h _ _
  | some _=>exact aIp fun _ _=>h _ _
 case fieldAddr=>exact aEF fun _=>h _ _
 case field=>exact aJF fun _=>h _ _
 case indexAddr=>exact aEG fun _=>h _ _
 case index=>exact aJE fun _=>h _ _
 case extract=>exact aG3 fun _=>h _ _
 case call c=>
  cases c.callee with
  | value f=>exact aJI hO fun _ _ _=>h _ _
  | builtin b=>exact aG5 fun _ _ _=>h _ _
  | invoke _ _=>exact aO.none
theorem gU (hO : EvO O O') {ops : Array Oper} {draw : Bool} : ∀ {r : List Oper} {i : Nat} {acc : List (Nat × Foot)} {e : Env} {s : St} {k : Kont} {k' : Nat→Kont},(∀ e s,aO (k e s) (fun n=>k' n e s))→aO (execOps X O ops draw i acc r e s k) (fun n=>execOps X (O' n) ops draw i acc r e s (k' n))
 | [],i,acc,e,s,k,k',h=>by
  unfold execOps
  exact aO.ite aO.none (h _ _)
 | o::r,i,acc,e,s,k,k',h=>by
   unfold execOps
   simp only [stf,stp]
   cases o.guard with
   | none=>exact aDB hO fun e s'=>aO.ite (gU hO h) aO.none
   | some p=>
     obtain ⟨j,want⟩:=p
     simp only
     cases guardDst ops.toList j with
     | none=>exact aO.none
     | some t=>
       simp only
       generalize e.get t=d0
       have hskip:=gU (ops:=ops) (draw:=draw) (r:=r) (i:=i+1) (acc:=if draw then (i,Foot.none)::acc else []) (e:=put o.dst (.tup []) e) (s:={ s with nb:=s.base+16*i,nl:=s.base+16*i}) hO h
       cases d0<;>(try simp only)<;>first
        | exact aO.none
        | (rename_i cs;cases cs with
           | nil=>exact hskip
           | cons=>exact aO.none)
        | exact aO.pvite (aO.ite (aDB hO fun e s'=>aO.ite (gU hO h) aO.none) (gU hO h)) (aO.ite (gU hO h) (aDB hO fun e s'=>aO.ite (gU hO h) aO.none))
theorem aAK (hO : EvO O O') : ∀ (m : Nat) (first : Bool) (todo : List Item) (e : Env) (s : St),aO (eval X O m first todo e s) (fun n=>eval X (O' n) m first todo e s)
 | 0,_,_,_,_=>by simp only [eval];exact aO.none
 | m+1,first,todo,e,s=>by
   have ih:=aAK hO m
   cases todo with
   | nil=>simp only [eval];exact aO.rfl _
   | cons x k=>
   cases x with
   | inBlock id=>simp only [eval];exact ih _ _ _ _
   | inScope c=>simp only [eval];exact ih _ _ _ _
   | inLoop c=>simp only [eval];exact ih _ _ _ _
   | code c=>
     cases c<;>simp only [eval]<;>first
      | exact aO.none
      | exact aO.rfl _
      | exact ih _ _ _ _
      | skip
     case exit id=>
      cases exitTo id k with
      | none=>exact aO.none
      | some k'=>exact ih _ _ _ _
     case goto l=>
      cases gotoIn l k with
      | none=>exact aO.none
      | some k'=>exact ih _ _ _ _
     case cond c a b=>
      generalize ev X e c=d0
      cases d0<;>(try simp only)<;>first
       | exact aO.none
       | exact aO.nilT (ih _ _ _ _) (ih _ _ _ _)
       | skip
      cases c<;>(try simp only)<;>exact aO.pvite (ih _ _ _ _) (ih _ _ _ _)
     case region id ops draw=>
      refine vP fun e s=>?_
      cases first with
      | true=>exact gU hO fun e s=>ih _ _ _ _
      | false=>
        cases X.cut id with
        | none=>exact gU hO fun e s=>ih _ _ _ _
        | some keep=>exact hO.L _ _ _
   | _=>simp only [eval];exact aO.none
end
section
variable (P : Program) (T : Tab) (H : Hints)
def tH (f nb nl : Nat) (out : Option Tmpl) (todo : List Item) (e : Env) (s : St) : Option R:=
 open Classical in if h : ∃ r,∃ n,runN P T H n f nb nl out todo e s=some r then some h.choose else none
end
section
variable {P : Program} {T : Tab} {H : Hints}
theorem aO.le {β : Type} {a b : Option β} (h : ∀ r,a=some r→b=some r) : aO a (fun _=>b):=fun r hr=>⟨0,fun _ _=>h r hr⟩
theorem aO.of {β : Type} {a b : Option β} (h : aO a (fun _=>b)) : ∀ r,a=some r→b=some r:=fun r hr=>let ⟨N,hN⟩:=h r hr;hN N (Nat.le_refl _)
theorem aF4 {run : Nat→Nat→Nat→Option Tmpl→List Item→Env→St→Option R} {run' : Nat→Nat→Nat→Nat→Option Tmpl→List Item→Env→St→Option R}
 (h : ∀ f nb nl out todo e s,aO (run f nb nl out todo e s) (fun n=>run' n f nb nl out todo e s)) (f nb nl : Nat) (out : Option Tmpl) : EvO (orcOf P H run f nb nl out) (fun n=>orcOf P H (run' n) f nb nl out) where
 L:=fun todo e s=>h _ _ _ _ _ _ _
 C:=fun g args=>by
  simp only [orcOf]
  cases H.prim g with
  | none=>exact h _ _ _ _ _ _ _
  | some p=>exact aO.rfl _
 S:=fun g args s=>by
  simp only [orcOf]
  cases H.mode g with
  | none=>exact aO.none
  | some t=>cases H.primS g with
    | none=>exact h _ _ _ _ _ _ _
    | some p=>exact aO.rfl _
theorem aHO : ∀ (n f nb nl : Nat) (out : Option Tmpl) (todo : List Item) (e : Env) (s : St) (r : R),runN P T H n f nb nl out todo e s=some r→runN P T H (n+1) f nb nl out todo e s=some r
 | 0,_,_,_,_,_,_,_,_,h=>by simp [runN] at h
 | n+1,f,nb,nl,out,todo,e,s,r,h=>by
   have ih:=aHO n
   unfold runN at h ⊢
   exact (aAK (aF4 (run':=fun _=>runN P T H (n+1)) (fun f nb nl out todo e s=>aO.le (ih f nb nl out todo e s)) f nb nl out) evalFuel true todo e s).of r h
theorem aIs {n n' f nb nl : Nat} {out : Option Tmpl} {todo : List Item} {e : Env} {s : St} {r : R} (h : runN P T H n f nb nl out todo e s=some r) (hn : n≤n') : runN P T H n' f nb nl out todo e s=some r:=by
 induction hn with
 | refl=>exact h
 | step _ ih=>exact aHO _ _ _ _ _ _ _ _ _ ih
theorem aLn {n f nb nl : Nat} {out : Option Tmpl} {todo : List Item} {e : Env} {s : St} {r : R} (h : runN P T H n f nb nl out todo e s=some r) : tH P T H f nb nl out todo e s=some r:=by
 unfold tH
 have hex : ∃ r,∃ n,runN P T H n f nb nl out todo e s=some r:=⟨r,n,h⟩
 rw [dif_pos hex]
 obtain ⟨n',h'⟩:=hex.choose_spec
 have h1:=aIs h (Nat.le_max_left n n')
 have h2:=aIs h' (Nat.le_max_right n n')
 rw [h1] at h2
 exact h2.symm
theorem aAL {f nb nl : Nat} {out : Option Tmpl} {todo : List Item} {e : Env} {s : St} {r : R} (h : tH P T H f nb nl out todo e s=some r) : ∃ n,runN P T H n f nb nl out todo e s=some r:=by
 unfold tH at h
 split at h
 ·rename_i hex
  cases h
  exact hex.choose_spec
 ·cases h
theorem aMb (f nb nl : Nat) (out : Option Tmpl) (todo : List Item) (e : Env) (s : St) : aO (tH P T H f nb nl out todo e s) (fun n=>runN P T H n f nb nl out todo e s):=by
 intro r hr
 obtain ⟨n,hn⟩:=aAL hr
 exact ⟨n,fun n' h'=>aIs hn h'⟩
theorem aLo (f nb nl : Nat) (out : Option Tmpl) (todo : List Item) (e : Env) (s : St) :
 tH P T H f nb nl out todo e s=eval (cxOf P T H f nb nl out) (orcOf P H (tH P T H) f nb nl out) evalFuel true todo e s:=by
 cases h : eval (cxOf P T H f nb nl out) (orcOf P H (tH P T H) f nb nl out) evalFuel true todo e s with
 | some r=>
   obtain ⟨N,hN⟩:=aAK (aF4 (run':=fun n=>runN P T H n) aMb f nb nl out) evalFuel true todo e s r h
   refine aLn (n:=N+1) ?_
   unfold runN
   exact hN N (Nat.le_refl _)
 | none=>
   cases h' : tH P T H f nb nl out todo e s with
   | none=>rfl
   | some r=>
     exfalso
     obtain ⟨n,hn⟩:=aAL h'
     cases n with
     | zero=>simp [runN] at hn
     | succ n=>
       unfold runN at hn
       have:=(aAK (aF4 (run':=fun _=>tH P T H) (fun f nb nl out todo e s=>aO.le (fun r h=>aLn h)) f nb nl out) evalFuel true todo e s).of r hn
       rw [h] at this
       cases this
def aM0 (P : Program) (T : Tab) (H : Hints) (f : Nat) (args : List PV) : Option R:=(orcOf P H (tH P T H) 0 0 0 none).C f args
def aOG (P : Program) (T : Tab) (H : Hints) (f : Nat) (args : List DV) (s : St) : Option R:=(orcOf P H (tH P T H) 0 0 0 none).S f args s
theorem aN6 (hy : Hyp P T H) : aLm P (tH P T H):=by
 intro f nb nl out todo e s r fn h hfn hok
 obtain ⟨n,hn⟩:=aAL h
 exact aHL hy n f nb nl out todo e s r fn hn hfn hok
theorem aN7 : aMY P (tH P T H):=by
 intro f nb nl out e s r h
 obtain ⟨n,hn⟩:=aAL h
 exact aBF hn
theorem aJJ (hy : Hyp P T H) {f : Nat} {args : List PV} {r : R} (h : aM0 P T H f args=some r) {w : World} {aT : Array Value} {Z : Nat→Prop} (hz : ZOk w Z) (hl : args.length=aT.size)
 (hr : ∀ (i : Nat) x v,args[i]? = some x→aT[i]? = some v→fB w Z x v) : Calls P f aT w (fun e w'=>∃ v,e = .returned v∧∃ Z',aCE w w' Z Z'∧fB w' Z' (hd r) v):=
 (aJA hy (aN6 hy) aN7 0 0 0 none f args r h).2 w Z aT hz hl hr
theorem aLp (f nb nl : Nat) (out : Option Tmpl) (todo : List Item) (e : Env) (s : St) (r : Option R) (h : eval (cxOf P T H f nb nl out) (orcOf P H (tH P T H) f nb nl out) evalFuel true todo e s=r) : tH P T H f nb nl out todo e s=r:=
 (aLo f nb nl out todo e s).trans h
theorem aM1 (f : Nat) (hp : H.prim f=none) (args : List PV) (r : Option R) (h : eval (cxOf P T H f 0 0 none) (orcOf P H (tH P T H) f 0 0 none) evalFuel true (startOf P f) (argEnv 0 (args.map .p)) ⟨[],[],0,0,0⟩=r) : aM0 P T H f args=r:=by
 show (match H.prim f with | some h=>h args | none=>tH P T H f 0 0 none (startOf P f) (argEnv 0 (args.map .p)) ⟨[],[],0,0,0⟩)=r
 rw [hp]
 exact aLp _ _ _ _ _ _ _ _ h
theorem aM2 (f : Nat) (hp : H.primS f=none) (args : List DV) (s : St) (r : Option R) (h : (match H.mode f with | some t=>eval (cxOf P T H f s.boxes.length (if t.keep then s.lists.length else 0) (some (t.fit s))) (orcOf P H (tH P T H) f s.boxes.length (if t.keep then s.lists.length else 0) (some (t.fit s))) evalFuel true (startOf P f) (argEnv 0 args) s | none=>none)=r) : aOG P T H f args s=r:=by
 show (match H.mode f with | some t=>(match H.primS f with | some h=>h args s | none=>tH P T H f s.boxes.length (if t.keep then s.lists.length else 0) (some (t.fit s)) (startOf P f) (argEnv 0 args) s) | none=>none)=r
 rw [← h,hp]
 cases H.mode f with
 | none=>rfl
 | some t=>exact aLo _ _ _ _ _ _ _
end
def cU (f nb nl : Nat) (out : Option Tmpl) (todo : List Item) (e : Env) (s : St) : Option R:=tH Tryz.prog T bC f nb nl out todo e s
def aL (f : Nat) (args : List PV) : Option R:=aM0 Tryz.prog T bC f args
def bW (f : Nat) (args : List DV) (s : St) : Option R:=aOG Tryz.prog T bC f args s
def orc (f nb nl : Nat) (out : Option Tmpl) : Orc:=orcOf Tryz.prog bC (tH Tryz.prog T bC) f nb nl out
theorem aY (f nb nl : Nat) (out : Option Tmpl) (todo : List Item) (e : Env) (s : St) (r : Option R) (h : eval (cxOf Tryz.prog T bC f nb nl out) (orc f nb nl out) evalFuel true todo e s=r) : cU f nb nl out todo e s=r:=aLp f nb nl out todo e s r h
theorem aK (f : Nat) (args : List PV) (r : Option R) (h : (match bC.prim f with | some p=>p args | none=>eval (cxOf Tryz.prog T bC f 0 0 none) (orc f 0 0 none) evalFuel true (startOf Tryz.prog f) (argEnv 0 (args.map .p)) ⟨[],[],0,0,0⟩)=r) : aL f args=r:=by
 cases hp : bC.prim f with
 | none=>rw [hp] at h;exact aM1 f hp args r h
 | some p=>rw [hp] at h;rw [← h];show (match bC.prim f with | some h=>h args | none=>_)=_;rw [hp]
theorem bS (f : Nat) (args : List DV) (s : St) (r : Option R) (h : (match bC.mode f with | some t=>(match bC.primS f with | some p=>p args s | none=>eval (cxOf Tryz.prog T bC f s.boxes.length (if t.keep then s.lists.length else 0) (some (t.fit s))) (orc f s.boxes.length (if t.keep then s.lists.length else 0) (some (t.fit s))) evalFuel true (startOf Tryz.prog f) (argEnv 0 args) s) | none=>none)=r) : bW f args s=r:=by
 cases hp : bC.primS f with
 | none=>simp only [hp] at h;exact aM2 f hp args s r h
 | some p=>
   simp only [hp] at h
   rw [← h]
   show (match bC.mode f with | some t=>(match bC.primS f with | some h=>h args s | none=>_) | none=>none)=_
   rw [hp]
set_option maxRecDepth 100000 in
theorem aLq : (Tryz.prog.funcs.toList.all fun f=>match f.body with | some c=>codeOk f.ntmps c&&(f.name != "runtime.NumGoroutine") | none=>true)=true:=by kernel_rfl
theorem aN8 : Tryz.prog.follows .mixedOrders=true:=by kernel_rfl
theorem aPw : (aLe.all fun p=>p.2.wf)=true:=by kernel_rfl
theorem aM3 {m m' : aU} {s s' : St} {l : Nat} {scr : DV→DV} {w : Own} {v : Value} {t : Tmpl} (hf : fK m s s.base)
 (G : bT m m' (s.at s.base) s' (fun _=>True) (fun _=>True) (fun b=>b∈([] : List Nat)∨true=true) (fun l=>l∈([] : List Nat)∨true=true) s.base scr) (hl : s'.list l=some w) (hv : m'.rd (.ref l []) v)
 (ht : t.res = .ref 0 []∧t.boxes = []∧t.lists = [some ⟨w.o,.int .i64 0⟩]) : sF m 0 0 (some t) [w.c] v m'.w:=by
 have hf':=(bT.full (f:=⟨[],[],[],[],true,true⟩) hf G).1
 have hb : ∀ b∈([] : List Nat),m'.s.box b=s'.box b:=fun b _=>hf'.box b
 have hl' : ∀ x∈[l],m'.s.list x=s'.list x:=fun x _=>hf'.list x
 have pf:=aAH (a:=⟨[],[l]⟩) hf'.inv hb hl' List.nodup_nil (by simp)
 have fw:=aFM (a:=⟨[],[l]⟩) hf' 0 0 (fun b h=>by omega) (fun b h=>by omega)
 refine ⟨m'.pick [] [l] (s'.pick ⟨[],[l]⟩),rfl,pf.inv,(G.step.fwd hf.inv 0 0).trans fw,?_⟩
 refine ⟨.ref 0 [],s',⟨[],[l]⟩,?_,?_,pf,fun x hx=>hx.1,fun x hx=>hx.1⟩
 ·unfold Tmpl.read
  rw [ht.1,ht.2.1,ht.2.2]
  have e1 : (s'.pick ⟨[],[l]⟩).boxes = []:=rfl
  have e2 : (s'.pick ⟨[],[l]⟩).lists = [(0,some w)]:=by
   show [(0,s'.list l)]=_
   rw [hl]
  rw [e1,e2]
  simp [readD,readB,readO,OTy.same_refl]
 ·have:=aFL (a:=⟨[],[l]⟩) hl' deep hv
  have e : ren (idx · [] 0) (idx · [l] 0) deep (.ref l []) = .ref 0 []:=by
   simp [deep,ren,ren1,idx]
  rw [e] at this
  exact this
theorem aJK {P : Program} {ρ : Go.Shelf.Ren} (L : Lays8.n4 P ρ) {i0 : TypeInfo} {z : Value} (hi0 : P.info? (ρ.t 25)=some i0) (hz0 : i0.zero=some z) (hzs : z.cells.size=i0.size) (hs0 : 0<i0.size) {e : Nat} (hby : i0.bytes=e)
 {args : List DV} {s : St} {r : R} (h : sA e args s=some r) {m : aU} {aT : Array Value} (hf : fK m s s.base) (hl : args.length=aT.size) (hr : ∀ (i : Nat) d v,args[i]? = some d→aT[i]? = some v→m.rd d v)
 {t : Tmpl} {eb : Nat} {g : Bool} (ht : t.res = .ref 0 []∧t.boxes = []∧t.lists = [some ⟨.own i0.size eb g [],.int .i64 0⟩]) :
 Calls P (ρ.f 4) aT m.w (fun e w'=>∃ v,e = .returned v∧sF m 0 0 (some t) r v w'):=by
 unfold sA at h
 split at h
 rotate_left
 ·cases h
 rename_i n _
 split at h
 rotate_left
 ·cases h
 rename_i hc
 obtain ⟨hn,hbound,hlen⟩:=hc
 cases h
 obtain ⟨v0,v1,rfl⟩ : ∃ v0 v1,aT = #[v0,v1]:=by
  match aT,hl with
  | ⟨[a,b]⟩,_=>exact ⟨a,b,rfl⟩
  | ⟨[]⟩,h=>simp at h
  | ⟨[_]⟩,h=>simp at h
  | ⟨_::_::_::_⟩,h=>simp at h
 have h0:=hr 0 _ _ rfl rfl
 have h1:=hr 1 _ _ rfl rfl
 obtain rfl : v1 = .int .i64 n:=by
  cases h1 with
  | p _ _ h1=>cases h1;rfl
 obtain rfl : v0 = .slice none 0 0:=by cases h0;rfl
 obtain ⟨k,rfl⟩:=Int.eq_ofNat_of_zero_le hn
 simp only [Int.toNat_natCast] at hbound
 have sit:=hf.sit (Nat.le_refl s.base)
 have hlf : (OTy.own i0.size eb g []).isLeaf=false:=rfl
 have hmw : m.w.heap.size=m.w.heap.size:=rfl
 have fin : ∀ {w' : World} {v : Value} {F' : Nat→Prop},cH w' m.Z (.own i0.size eb g []) (.lst []) v F'→cX v→(∀ r,F' r→m.w.heap.size≤r)→(∀ r,r<m.w.heap.size→w'.heap[r]? = m.w.heap[r]?)→
  m.w.heap.size≤w'.heap.size→w'.os=m.w.os→w'.tape=m.w.tape→w'.output=m.w.output→sF m 0 0 (some t) [.lst []] v w':=by
  intro w' v F' hro' hcv hF' hw hsize hos htape hout
  have G2:=bT.addRow (B:=fun _=>True) (L:=fun _=>True) (fun b=>b∈([] : List Nat)∨true=true) (fun l=>l∈([] : List Nat)∨true=true) sit (show s.base<s.base+16 by omega) (own:=⟨.own i0.size eb g [],.lst []⟩) hlf hro' (fun r hr=>.inr (hF' r hr)) (fun r hr _=>hw r hr) hsize hos htape hout
  exact aM3 (l:=s.base) hf G2 (w:=⟨.own i0.size eb g [],.lst []⟩) (by simp [St.list,St.addList,St.at,look]) (aU.addRow_rd hcv) ht
 by_cases hroom : 0+k≤0
 ·refine (Any8.slices_Grow_room L none 0 0 k m.w (Nat.le_refl _) (by omega) (by omega) hroom).mono ?_
  rintro e w' ⟨rfl,rfl⟩
  exact ⟨_,rfl,fin (F':=fun _=>False) (.nil _ _ _ _ _ _ (fun _ h=>h)) trivial (fun _ h=>h.elim) (fun _ _=>rfl) (Nat.le_refl _) rfl rfl rfl⟩
 ·refine (Any8.slices_Grow_grow L i0 z hi0 hz0 hs0 none 0 0 k [] m.w (Nat.le_refl _) (by omega) (by rw [hby,Nat.zero_add];exact hbound) (by omega) (by simp) (fun _=>rfl) (fun a h=>by cases h)).mono ?_
  rintro e w' ⟨rfl,rfl⟩
  refine ⟨_,rfl,?_⟩
  generalize hcp : grownCap m.w (0+k) 0 (ρ.t 25)=cp
  have hge : 0+k≤cp:=by rw [← hcp];exact grownCap_ge _ _ _ _
  generalize hcells : (([] : List Value).toArray++Builtin.zeroCells z.cells (0+k - 0)++Builtin.zeroCells z.cells (cp - (0+k)) : Array Value)=cells
  have hcsz : cp*i0.size≤cells.size:=by
   rw [← hcells]
   simp only [Array.size_append,List.size_toArray,List.length_nil,yA,hzs,← Nat.add_mul]
   rw [Nat.zero_add,← Nat.add_mul]
   exact Nat.mul_le_mul_right _ (by omega)
  have hnew : (m.w.drew.alloc (.cells cells (ρ.t 25))).heap[m.w.heap.size]? = some (.cells cells (ρ.t 25) (0,0)):=heap_alloc_new m.w.drew _
  have hro':=(Els.nil (w:=m.w.drew.alloc (.cells cells (ρ.t 25))) (Z:=m.Z) (.own i0.size eb g []) (fun _ _=>.nilFunc) (fun _ _ _=>False)).repO hlf hs0 (b:=m.w.heap.size) (off:=0) (cap:=cp) hnew (by rw [Nat.zero_add];exact hcsz) (by simp) (fun hzr=>by have:=hf.inv.zlt _ hzr;omega)
   (fun i j hi=>by simp at hi) (fun i j hi=>by simp at hi)
  refine fin hro' trivial (fun r hr=>?_) (fun r hr=>heap_alloc_old m.w.drew _ hr) (by simp) rfl rfl rfl
  rcases hr with rfl | ⟨i,j,hi,_⟩
  ·exact Nat.le_refl _
  ·simp at hi
theorem aJL {P : Program} {ρ : Go.Shelf.Ren} (L : LaysM.n171 P ρ) {args : List PV} {r : R} (h : yU args=some r) {w : World} {Z : Nat→Prop} {aT : Array Value} (htab : Lib.TabIs P w "internal/strconv.uint64pow10" .u64 Lib.pow10Tab) (hl : args.length=aT.size)
 (hr : ∀ (i : Nat) x v,args[i]? = some x→aT[i]? = some v→fB w Z x v) : Calls P (ρ.f 171) aT w (fun e w'=>∃ v,e = .returned v∧∃ Z',aCE w w' Z Z'∧fB w' Z' (hd r) v):=by
 unfold yU at h
 split at h
 rotate_left
 ·cases h
 rename_i n
 split at h
 rotate_left
 ·cases h
 rename_i hc
 cases h
 obtain ⟨v0,rfl⟩ : ∃ v0,aT = #[v0]:=by
  match aT,hl with
  | ⟨[a]⟩,_=>exact ⟨a,rfl⟩
  | ⟨[]⟩,h=>simp at h
  | ⟨_::_::_⟩,h=>simp at h
 obtain rfl : v0 = .int .i64 n:=by
  have:=hr 0 _ _ rfl rfl
  cases this;rfl
 refine (Any.strconv_Itoa L n hc.1 hc.2 w htab).mono ?_
 rintro e w' ⟨rfl,k,os,rfl⟩
 have e0 : (Sort.grow (w.drewN k) os).heap=w.heap++os:=rfl
 refine ⟨_,rfl,Z,⟨by rw [e0];simp,rfl,rfl,rfl,fun r hr=>?_,fun _ h=>h,fun _ h=>.inl h⟩,.str _⟩
 rw [e0,Array.getElem?_append_left hr]
end
noncomputable section
open Go Go.Shelf
def Tryz.laysM171_ren : Go.Shelf.Ren:=⟨fun | 171=>224 | 243=>265 | 246=>285 | 283=>304 | 284=>305 | 285=>306 | 286=>307 | 129=>323 | 317=>322 | 318=>324 | 319=>325 | 320=>326 | 337=>335 | 338=>336 | n=>n,fun | 3=>3 | 9=>9 | 2=>2 | 4=>4 | 171=>328 | 0=>0 | 53=>314 | 37=>141 | 5=>5 | 173=>331 | 212=>337 | 51=>311 | 20=>20 | 213=>338 | 46=>202 | 232=>350 | 233=>351 | n=>n,fun | 17=>0 | 18=>2 | 19=>3 | n=>n⟩
theorem Tryz.laysM171 : Go.Proofs.LaysM.n171 Tryz.prog Tryz.laysM171_ren:={
 mixed:=by kernel_rfl
 f129:=Tryz.func323.trans (congrArg some (by kernel_rfl))
 f171:=Tryz.func224.trans (congrArg some (by kernel_rfl))
 f243:=Tryz.func265.trans (congrArg some (by kernel_rfl))
 f246:=Tryz.func285.trans (congrArg some (by kernel_rfl))
 f283:=Tryz.func304.trans (congrArg some (by kernel_rfl))
 f284:=Tryz.func305.trans (congrArg some (by kernel_rfl))
 f285:=Tryz.func306.trans (congrArg some (by kernel_rfl))
 f286:=Tryz.func307.trans (congrArg some (by kernel_rfl))
 f317:=Tryz.func322.trans (congrArg some (by kernel_rfl))
 f318:=Tryz.func324.trans (congrArg some (by kernel_rfl))
 f319:=Tryz.func325.trans (congrArg some (by kernel_rfl))
 f320:=Tryz.func326.trans (congrArg some (by kernel_rfl))
 f337:=Tryz.func335.trans (congrArg some (by kernel_rfl))
 f338:=Tryz.func336.trans (congrArg some (by kernel_rfl))
 t0:=Tryz.underlying0
 a0:=Tryz.isAgg0
 z0:=Tryz.sizeOf0
 v0:=Tryz.zeroValue0
 t2:=Tryz.underlying2
 a2:=Tryz.isAgg2
 z2:=Tryz.sizeOf2
 v2:=Tryz.zeroValue2
 t3:=Tryz.underlying3
 a3:=Tryz.isAgg3
 z3:=Tryz.sizeOf3
 v3:=Tryz.zeroValue3
 t4:=Tryz.underlying4
 a4:=Tryz.isAgg4
 z4:=Tryz.sizeOf4
 v4:=Tryz.zeroValue4
 t5:=Tryz.underlying5
 a5:=Tryz.isAgg5
 z5:=Tryz.sizeOf5
 v5:=Tryz.zeroValue5
 t9:=Tryz.underlying9
 a9:=Tryz.isAgg9
 z9:=Tryz.sizeOf9
 v9:=Tryz.zeroValue9
 t20:=Tryz.underlying20
 a20:=Tryz.isAgg20
 z20:=Tryz.sizeOf20
 v20:=Tryz.zeroValue20
 t37:=Tryz.underlying141
 a37:=Tryz.isAgg141
 z37:=Tryz.sizeOf141
 v37:=Tryz.zeroValue141
 t46:=Tryz.underlying202
 a46:=Tryz.isAgg202
 z46:=Tryz.sizeOf202
 v46:=Tryz.zeroValue202
 t51:=Tryz.underlying311
 a51:=Tryz.isAgg311
 z51:=Tryz.sizeOf311
 v51:=Tryz.zeroValue311
 t53:=Tryz.underlying314
 a53:=Tryz.isAgg314
 z53:=Tryz.sizeOf314
 v53:=Tryz.zeroValue314
 t171:=Tryz.underlying328
 a171:=Tryz.isAgg328
 z171:=Tryz.sizeOf328
 v171:=Tryz.zeroValue328
 t173:=Tryz.underlying331
 a173:=Tryz.isAgg331
 z173:=Tryz.sizeOf331
 v173:=Tryz.zeroValue331
 t212:=Tryz.underlying337
 a212:=Tryz.isAgg337
 z212:=Tryz.sizeOf337
 v212:=Tryz.zeroValue337
 t213:=Tryz.underlying338
 a213:=Tryz.isAgg338
 z213:=Tryz.sizeOf338
 t232:=Tryz.underlying350
 a232:=Tryz.isAgg350
 z232:=Tryz.sizeOf350
 v232:=Tryz.zeroValue350
 t233:=Tryz.underlying351
 a233:=Tryz.isAgg351
 z233:=Tryz.sizeOf351
 v233:=Tryz.zeroValue351
 g17:=by kernel_rfl
 g18:=by kernel_rfl
 g19:=by kernel_rfl
 i0:=by kernel_rfl
 i2:=by kernel_rfl
 i3:=by kernel_rfl
 i4:=by kernel_rfl
 i5:=by kernel_rfl
 i9:=by kernel_rfl
 i20:=by kernel_rfl
 i37:=by kernel_rfl
 i46:=by kernel_rfl
 i51:=by kernel_rfl
 i53:=by kernel_rfl
 i171:=by kernel_rfl
 i173:=by kernel_rfl
 i212:=by kernel_rfl
 i232:=by kernel_rfl
 i233:=by kernel_rfl
 m17:=by kernel_rfl
 m18:=by kernel_rfl
 m19:=by kernel_rfl}
def Tryz.lays8n4_ren : Go.Shelf.Ren:=⟨fun | 4=>250 | n=>n,fun | 22=>40 | 25=>32 | 3=>3 | 4=>4 | 9=>9 | 20=>20 | 0=>0 | n=>n,fun | n=>n⟩
theorem Tryz.lays8n4 : Go.Proofs.Lays8.n4 Tryz.prog Tryz.lays8n4_ren:={
 mixed:=by kernel_rfl
 f4:=⟨Tryz.f250.name,by decide,Tryz.func250.trans (congrArg some (by kernel_rfl))⟩
 t0:=Tryz.underlying0
 a0:=Tryz.isAgg0
 z0:=Tryz.sizeOf0
 v0:=Tryz.zeroValue0
 t3:=Tryz.underlying3
 a3:=Tryz.isAgg3
 z3:=Tryz.sizeOf3
 v3:=Tryz.zeroValue3
 t4:=Tryz.underlying4
 a4:=Tryz.isAgg4
 z4:=Tryz.sizeOf4
 v4:=Tryz.zeroValue4
 t9:=Tryz.underlying9
 a9:=Tryz.isAgg9
 z9:=Tryz.sizeOf9
 v9:=Tryz.zeroValue9
 t20:=Tryz.underlying20
 a20:=Tryz.isAgg20
 z20:=Tryz.sizeOf20
 v20:=Tryz.zeroValue20
 t22:=Tryz.underlying40
 a22:=Tryz.isAgg40
 z22:=Tryz.sizeOf40
 v22:=Tryz.zeroValue40}
end
noncomputable section
open Go
theorem aM4 {α : Type} {n : Nat} : ∀ {l : List (Nat × α)} {a : α},lk n l=some a→∃ p∈l,p.2=a
 | [],a,h=>by simp [lk] at h
 | (m,b)::r,a,h=>by
   unfold lk at h
   split at h
   ·cases h;exact ⟨_,List.mem_cons_self,rfl⟩
   ·obtain ⟨p,h1,h2⟩:=aM4 h
    exact ⟨p,List.mem_cons_of_mem _ h1,h2⟩
theorem aKP {α : Type} {n : Nat} : ∀ {l : List (Nat × α)} {a : α},lk n l=some a→(n,a)∈l
 | [],a,h=>by simp [lk] at h
 | (m,b)::r,a,h=>by
   unfold lk at h
   split at h
   ·rename_i hb
    cases h
    rw [bQ hb]
    exact List.mem_cons_self
   ·exact List.mem_cons_of_mem _ (aKP h)
theorem aEz {g : Nat} (h : ((Tryz.prog.funcs[g]?).bind (·.body)).isSome=true) : jQ Tryz.prog g:=by
 cases hf : Tryz.prog.funcs[g]? with
 | none=>rw [hf] at h;cases h
 | some fn=>
   rw [hf] at h
   cases hb : fn.body with
   | none=>simp [hb] at h
   | some c=>
     have hc:=aLq
     rw [List.all_eq_true] at hc
     have:=hc fn (by rw [← Array.getElem?_toList] at hf;exact List.mem_of_getElem? hf)
     rw [hb] at this
     simp only [Bool.and_eq_true,bne_iff_ne,ne_eq] at this
     exact ⟨fn,c,hf,hb,this.2⟩
set_option maxRecDepth 100000 in
theorem aOT {w : World} {Z : Nat→Prop} (h : aBv w Z) : Lib.TabIs Tryz.prog w "internal/strconv.uint64pow10" .u64 Lib.pow10Tab:=by
 obtain ⟨_,ty,fz,h⟩:=h
 unfold Lib.TabIs World.var?
 rw [show Tryz.prog.globalNamed "internal/strconv.uint64pow10" = some aMR by kernel_rfl]
 simp only [Option.bind_some,h]
set_option maxRecDepth 100000 in
theorem aOU : aDx Tryz.prog fun g args=>(bC.prim g).bind fun p=>p args:=by
 intro g args r h
 have h : ((bC.prim g).bind fun p=>p args)=some r:=h
 cases hp : bC.prim g with
 | none=>rw [hp] at h;cases h
 | some p=>
   rw [hp] at h
   have h : p args=some r:=h
   have hm:=aKP (show lk g aH2=some p from hp)
   simp only [aH2,List.mem_cons,List.not_mem_nil,or_false,Prod.mk.injEq] at hm
   obtain ⟨rfl,rfl⟩:=hm
   exact ⟨aEz (by kernel_rfl),fun w Z aT hz hl hr=>aJL Tryz.laysM171 h (aOT hz.glob) hl hr⟩
set_option maxRecDepth 100000 in
theorem aPx : (Tryz.prog.info? (Tryz.lays8n4_ren.t 25)).map (fun i=>(i.size,i.bytes,i.zero.map (·.cells.size)))=some (3,32,some 3):=by kernel_rfl
set_option maxRecDepth 100000 in
theorem aN9 : ∀ g h,bC.primS g=some h→∀ t args s l,bC.mode g=some t→h args s=some l→jQ Tryz.prog g∧∀ (m : aU) (aT : Array Value),fK m s s.base→args.length=aT.size→
 (∀ (i : Nat) d v,args[i]? = some d→aT[i]? = some v→m.rd d v)→Calls Tryz.prog g aT m.w (fun e w'=>∃ v,e = .returned v∧sF m s.boxes.length (if t.keep then s.lists.length else 0) (some (t.fit s)) l v w'):=by
 intro g h hp t args s l ht h
 have hm:=aKP (show lk g aFp=some _ from hp)
 simp only [aFp,List.mem_cons,List.not_mem_nil,or_false,Prod.mk.injEq] at hm
 obtain ⟨rfl,rfl⟩:=hm
 refine ⟨aEz (by kernel_rfl),fun m aT hf hl hr=>?_⟩
 have htt : bC.mode 250=some ⟨false,false,.ref 0 [],[],[some ⟨.own 3 32 true [],.int .i64 0⟩],true⟩:=by kernel_rfl
 rw [htt] at ht
 cases ht
 have tg:=aPx
 cases hi : Tryz.prog.info? (Tryz.lays8n4_ren.t 25) with
 | none=>rw [hi] at tg;cases tg
 | some i0=>
   rw [hi] at tg
   simp only [Option.map_some,Option.some.injEq,Prod.mk.injEq] at tg
   cases hz : i0.zero with
   | none=>rw [hz] at tg;cases tg.2.2
   | some z=>
     rw [hz] at tg
     simp only [Option.map_some,Option.some.injEq] at tg
     have hb : s.boxes.length=0:=by
      have : ∀ a,sA 32 args s=some a→s.boxes = []:=fun a h=>by
       unfold sA at h
       split at h
       ·assumption
       ·cases h
      rw [this _ h];rfl
     rw [hb]
     exact aJK Tryz.lays8n4 hi hz (by omega) (by omega) tg.2.1 h hf hl hr (g:=true) (eb:=32) (t:=⟨false,false,.ref 0 [],[],[some ⟨.own 3 32 true [],.int .i64 0⟩],true⟩) ⟨rfl,rfl,by rw [tg.1]⟩
theorem aLr : ∀ (l : List Nat),(l.map fun t=>(Tryz.prog.info? t).bind (·.zero))=(l.map fun t=>some (zeroVal T t))→∀ t,mem t l=true→(Tryz.prog.info? t).bind (·.zero)=some (zeroVal T t)
 | [],_,t,h=>by simp [mem] at h
 | x::r,h,t,hm=>by
   simp only [List.map_cons,List.cons.injEq] at h
   unfold mem at hm
   split at hm
   ·rename_i hx
    rw [bQ hx];exact h.1
   ·exact aLr r h.2 t hm
theorem hyp : Hyp Tryz.prog T bC where
 tab:=aOE.symm
 zero:=fun t h=>by
  rw [aOE]
  exact aLr aN1 aPs t h
 mixed:=aN8
 code:=fun f fn c hf hc=>by
  have h:=aLq
  rw [List.all_eq_true] at h
  have:=h fn (by rw [← Array.getElem?_toList] at hf;exact List.mem_of_getElem? hf)
  rw [hc] at this
  simp only [Bool.and_eq_true,bne_iff_ne,ne_eq] at this
  exact this
 prim:=aOU
 primS:=aN9
 glob:=fun _=>rfl
 wf:=fun g t h=>by
  obtain ⟨p,hp,rfl⟩:=aM4 h
  have:=aPw
  rw [List.all_eq_true] at this
  exact this p hp
end
noncomputable section
open Go Go.IntWalk
def Ok (P : R→Prop) (o : Option R) : Prop:=∃ r,o=some r∧P r
section
variable {P Q : R → Prop}
theorem Ok.eq {r : R} {o : Option R} (h : Ok (fun x=>x=r) o) : o=some r:=by
 obtain ⟨x,h1,rfl⟩:=h
 exact h1
theorem Ok.of {r : R} {o : Option R} (h : o=some r) : Ok (fun x=>x=r) o:=⟨r,h,rfl⟩
theorem Ok.mono {o : Option R} (h : Ok Q o) (hq : ∀ r,Q r→P r) : Ok P o:=by
 obtain ⟨x,h1,h2⟩:=h
 exact ⟨x,h1,hq x h2⟩
theorem aB {r : R} (h : P r) : Ok P (some r):=⟨r,rfl,h⟩
theorem dB {α : Type} {o : Option α} {k : α→Option R} (a : α) (h : o=some a) (hk : Ok P (k a)) : Ok P (bd o k):=by rw [h];exact hk
theorem aH {o : Option R} {k : R→Option R} (h : Ok Q o) (hk : ∀ r,Q r→Ok P (k r)) : Ok P (bd o k):=by
 obtain ⟨r,h1,h2⟩:=h
 rw [h1]
 exact hk r h2
theorem aC {p : Prop} [Decidable p] {x y : Option R} (h1 : p→Ok P x) (h2 : ¬ p→Ok P y) : Ok P (PV.ite (.bool (decide p)) x y):=by
 by_cases h : p
 ·rw [decide_eq_true h];exact h1 h
 ·rw [decide_eq_false h];exact h2 h
theorem aI {p : Prop} [Decidable p] {x y : Option R} (h1 : ¬ p→Ok P x) (h2 : p→Ok P y) : Ok P (PV.ite (.bool (!decide p)) x y):=by
 by_cases h : p
 ·rw [decide_eq_true h];exact h2 h
 ·rw [decide_eq_false h];exact h1 h
theorem aZ {b : Bool} {x y : Option R} (h1 : b=true→Ok P x) (h2 : b=false→Ok P y) : Ok P (PV.ite (.bool b) x y):=by
 cases b
 ·exact h2 rfl
 ·exact h1 rfl
theorem aW {x y : Option R} (h1 : Ok P x) : Ok P (PV.ite (.bool true) x y):=h1
theorem aP {x y : Option R} (h1 : Ok P y) : Ok P (PV.ite (.bool false) x y):=h1
variable {k : PV → Option R} {kk : IntKind} {a b : Int}
theorem iH {op : BinOp} (h1 : op≠.shl) (h2 : op≠.shr) : PV.bin op (.int kk a) (.int kk b)=PV.intBin op kk a b:=by
 cases op<;>simp [PV.bin]<;>first | exact absurd rfl h1 | exact absurd rfl h2
theorem aF (h : Ok P (k (.bool (decide (a<b))))) : Ok P (bd (PV.bin .lss (.int kk a) (.int kk b)) k):=dB _ (by rw [iH (by simp) (by simp)];rfl) h
theorem jF (h : Ok P (k (.bool (decide (a≤b))))) : Ok P (bd (PV.bin .leq (.int kk a) (.int kk b)) k):=dB _ (by rw [iH (by simp) (by simp)];rfl) h
theorem gE (h : Ok P (k (.bool (decide (b<a))))) : Ok P (bd (PV.bin .gtr (.int kk a) (.int kk b)) k):=dB _ (by rw [iH (by simp) (by simp)];rfl) h
theorem nW (h : Ok P (k (.bool (decide (b≤a))))) : Ok P (bd (PV.bin .geq (.int kk a) (.int kk b)) k):=dB _ (by rw [iH (by simp) (by simp)];rfl) h
theorem aG (h : Ok P (k (.bool (decide (a=b))))) : Ok P (bd (PV.bin .eql (.int kk a) (.int kk b)) k):=dB _ (by rw [iH (by simp) (by simp)];rfl) h
theorem bF (h : Ok P (k (.bool (!decide (a=b))))) : Ok P (bd (PV.bin .neq (.int kk a) (.int kk b)) k):=dB _ (by rw [iH (by simp) (by simp)];rfl) h
theorem aN (hr : -9223372036854775808≤a+b∧a+b≤9223372036854775807) (h : Ok P (k (.int .i64 (a+b)))) : Ok P (bd (PV.bin .add (.int .i64 a) (.int .i64 b)) k):=
 dB _ (by rw [iH (by simp) (by simp)];simp only [PV.intBin];rw [i64_in _ hr]) h
theorem bN (hr : -9223372036854775808≤a - b∧a - b≤9223372036854775807) (h : Ok P (k (.int .i64 (a - b)))) : Ok P (bd (PV.bin .sub (.int .i64 a) (.int .i64 b)) k):=
 dB _ (by rw [iH (by simp) (by simp)];simp only [PV.intBin];rw [i64_in _ hr]) h
theorem aM5 (hr : -9223372036854775808≤a*b∧a*b≤9223372036854775807) (h : Ok P (k (.int .i64 (a*b)))) : Ok P (bd (PV.bin .mul (.int .i64 a) (.int .i64 b)) k):=
 dB _ (by rw [iH (by simp) (by simp)];simp only [PV.intBin];rw [i64_in _ hr]) h
theorem aM6 (h0 : 0≤a) (hb : 0<b) (h : Ok P (k (.int kk (a % b)))) : Ok P (bd (PV.bin .rem (.int kk a) (.int kk b)) k):=
 dB _ (by rw [iH (by simp) (by simp)];simp only [PV.intBin];rw [if_neg (by omega),Int.tmod_eq_emod_of_nonneg h0]) h
theorem aM7 (h0 : 0≤a) (hb : 0<b) (hr : a≤9223372036854775807) (h : Ok P (k (.int .i64 (a / b)))) : Ok P (bd (PV.bin .quo (.int .i64 a) (.int .i64 b)) k):=
 dB _ (by rw [iH (by simp) (by simp)];simp only [PV.intBin];rw [if_neg (by omega),i64_quo _ _ ⟨h0,hr,by omega⟩]) h
theorem aKQ (hr : -9223372036854775808≤0 - a∧0 - a≤9223372036854775807) (h : Ok P (k (.int .i64 (0 - a)))) : Ok P (bd (PV.neg (.int .i64 a)) k):=
 dB _ (by simp only [PV.neg];rw [i64_in _ hr]) h
theorem bH {x : Bool} (h : Ok P (k (.bool (!x)))) : Ok P (bd (PV.not (.bool x)) k):=h
theorem wQ {x y : Bool} (h : Ok P (k (.bool (x==y)))) : Ok P (bd (PV.beq .eql (.bool x) (.bool y)) k):=h
theorem bJ {xs : List PV} (h : Ok P (k (.int .i64 xs.length))) : Ok P (bd (PV.len (.lst xs)) k):=h
theorem nX {s : ByteArray} (h : Ok P (k (.int .i64 s.size))) : Ok P (bd (PV.slen (.str s)) k):=h
theorem aOV (hr : -9223372036854775808≤a∧a≤9223372036854775807) (h : Ok P (k (.int .i64 a))) : Ok P (bd (PV.conv .i64 (.int kk a)) k):=dB _ (by simp only [PV.conv];rw [i64_in _ hr]) h
theorem aOH (hr : 0≤a∧a≤255) (h : Ok P (k (.int .u8 a))) : Ok P (bd (PV.conv .u8 (.int kk a)) k):=dB _ (by simp only [PV.conv];rw [u8_in _ hr]) h
theorem aOa {s : Nat} {g : Bool} {xs : List PV} {i : Int} (h0 : 0≤i) (h1 : i<xs.length) (he : ∀ x∈xs,x.isEl s g=true) : ∃ x,x∈xs∧xs[i.toNat]? = some x∧PV.at_ s g (.lst xs) (.int kk i)=some x:=by
 have hlt : i.toNat<xs.length:=by omega
 refine ⟨xs[i.toNat],List.getElem_mem _,List.getElem?_eq_getElem hlt,?_⟩
 simp only [PV.at_]
 rw [if_pos h0,List.getElem?_eq_getElem hlt]
 simp only
 rw [if_pos (he _ (List.getElem_mem _))]
theorem aM8 {s : Nat} {g : Bool} {xs : List PV} {i : Int} (h0 : 0≤i) (h1 : i<xs.length) (he : ∀ x∈xs,x.isEl s g=true) (h : ∀ x,x∈xs→xs[i.toNat]? = some x→Ok P (k x)) :
 Ok P (bd (PV.at_ s g (.lst xs) (.int kk i)) k):=by
 obtain ⟨x,h2,h3,h4⟩:=aOa (kk:=kk) h0 h1 he
 exact dB x h4 (h x h2 h3)
theorem aBI {xs : List PV} {i : Int} (h0 : 0≤i) (h1 : i<xs.length) (h : Ok P (k (.lst xs))) : Ok P (bd (PV.inb (.lst xs) (.int kk i)) k):=
 dB _ (by simp only [PV.inb];rw [if_pos ⟨h0,h1⟩]) h
theorem kB {s e : Nat} {g : Bool} {xs ys : List PV} (hb : (xs.length+ys.length)*e≤140737488355328) (he : ∀ x∈ys,x.isEl s g=true) (h : Ok P (k (.lst (xs++ys)))) : Ok P (bd (PV.cat s e g (.lst xs) (.lst ys)) k):=
 dB _ (by
  simp only [PV.cat,PV.elems]
  rw [if_pos ⟨hb,List.all_eq_true.2 he⟩]) h
theorem zP {s : Nat} {g : Bool} {xs : List PV} {m n : Int} {k1 k2 : IntKind} (h0 : 0≤m) (h1 : m≤n) (h2 : n≤xs.length) (he : ∀ x∈xs,x.isEl s g=true) (h : Ok P (k (.lst ((xs.take n.toNat).drop m.toNat)))) :
 Ok P (bd (PV.cut s g (.lst xs) (.int k1 m) (.int k2 n)) k):=
 dB _ (by
  have hh : PV.headIs s g xs=true:=by
   cases xs with
   | nil=>rfl
   | cons x r=>exact he x List.mem_cons_self
  simp only [PV.cut,hh,if_true,PV.bound]
  rw [if_pos ⟨by omega,h2⟩,Option.bind_some,if_pos ⟨h0,by omega⟩,Option.bind_some]) h
theorem aBJ {s : Nat} {xs cs : List PV} {i : Int} {off : Nat} {v : PV} (h0 : 0≤i) (hx : xs[i.toNat]? = some (.agg cs)) (hc : cs.length=s) (ho : off<s) (hv : v.isEl 1 false=true) (h : Ok P (k (.lst (xs.set i.toNat (.agg (cs.set off v)))))) :
 Ok P (bd (PV.setCell s (.lst xs) (.int kk i) off v) k):=
 dB _ (by
  simp only [PV.setCell]
  rw [if_pos h0,hx]
  simp only
  rw [if_pos ⟨hc,ho,hv⟩]) h
theorem aF5 {s : Nat} {g : Bool} {xs : List PV} {i : Int} {v : PV} (h0 : 0≤i) (h1 : i<xs.length) (hv : v.isEl s g=true) (h : Ok P (k (.lst (xs.set i.toNat v)))) :
 Ok P (bd (PV.setAt s g (.lst xs) (.int kk i) v) k):=
 dB _ (by simp only [PV.setAt];rw [if_pos ⟨h0,h1,hv⟩]) h
theorem bD {x : PV} (hx : x.isEl 1 false=true) (h : Ok P (k x)) : Ok P (bd (PV.one x) k):=dB x (by simp only [PV.one];rw [if_pos hx]) h
theorem aA {cs : List PV} {j : Nat} {y : PV} (hy : cs[j]? = some y) (h : Ok P (k y)) : Ok P (bd (PV.cell (.agg cs) j) k):=dB y hy h
theorem bE {cs : List PV} {j : Nat} {y : PV} (hy : cs[j]? = some y) (h : Ok P (k y)) : Ok P (bd (PV.comp (.tup cs) j) k):=dB y hy h
theorem aD {cs : List PV} {n : Nat} (hy : cs.length=n) (h : Ok P (k (.agg cs))) : Ok P (bd (PV.whole n (.agg cs)) k):=dB _ (by simp only [PV.whole];rw [if_pos (by rw [hy];exact Nat.beq_refl n)]) h
theorem eS {r : PV} {o : Option R} (hf : r.flat=true) (h : Ok P o) : Ok P (PV.guardFlat r o):=by
 unfold PV.guardFlat;rw [if_pos hf];exact h
theorem dR {t : OTy} {r : PV} {o : Option R} (hf : PV.flatO t r=true) (h : Ok P o) : Ok P (PV.guardOwn t r o):=by
 unfold PV.guardOwn;rw [if_pos hf];exact h
theorem sJ {C : Nat→List PV→Option R} {kr : R→Option R} {f : Nat} {caps args : List PV} {o : Option R} (e : C f (args++caps)=o) (h : Ok Q o) (hk : ∀ r,Q r→Ok P (kr r)) : Ok P (bd (PV.apply C (.fn f caps) args) kr):=by
 refine aH (Q:=Q) ?_ hk
 show Ok Q (C f (args++caps))
 rw [e]
 exact h
theorem sK {cs : List PV} {j : Nat} {y : PV} (hy : cs[j]? = some y) (h : Ok P (k y)) : Ok P (bd (PV.deref (.bx cs) j) k):=dB y hy h
theorem aF6 : ∀ l : List Int,(l.map (PV.int .u8)).mapM PV.byteOf=some (l.map fun x=>UInt8.ofNat x.toNat)
 | []=>rfl
 | x::r=>by
   rw [List.map_cons,List.mapM_cons,aF6 r]
   rfl
def wR (l : List Int) : PV:=.lst (l.map (PV.int .u8))
theorem vQ {s : ByteArray} (h : Ok P (k (.bool false))) : Ok P (bd (PV.bin .neq (.str s) (.str s)) k):=dB _ (by simp [PV.bin,PV.strBin]) h
theorem aJM {l : List Int} (h : Ok P (k (.str ⟨(l.map fun x=>UInt8.ofNat x.toNat).toArray⟩))) : Ok P (bd (PV.toStr (wR l)) k):=
 dB _ (by
  show PV.toStr (.lst (l.map (PV.int .u8)))=_
  simp only [PV.toStr]
  rw [aF6]
  rfl) h
theorem rG {s e : Nat} {g : Bool} {ys : List PV} (hb : ys.length*e≤140737488355328) (he : ∀ x∈ys,x.isEl s g=true) (h : Ok P (k (.lst ys))) : Ok P (bd (PV.cat s e g (.lst []) (.lst ys)) k):=
 kB (by simpa using hb) he h
theorem aJN {xs : List PV} (h : Ok P (k (.lst xs))) : Ok P (bd (PV.isLst (.lst xs)) k):=h
theorem aJO {q : IntKind} {n : Int} (h : Ok P (k (.int q n))) : Ok P (bd (PV.isInt (.int q n)) k):=h
theorem zQ {s : Nat} {g : Bool} {xs : List PV} {i : Int} {x : PV} (h0 : 0≤i) (hx : xs[i.toNat]? = some x) (he : x.isEl s g=true) (h : Ok P (k x)) : Ok P (bd (PV.at_ s g (.lst xs) (.int kk i)) k):=
 dB x (by simp only [PV.at_];rw [if_pos h0,hx];simp only;rw [if_pos he]) h
theorem aLs {cs : List PV} {i : Int} {n : Nat} {x : PV} (h0 : 0≤i∧i<n∧cs.length=n) (hx : cs[i.toNat]? = some x) (he : x.isEl 1 false=true) (h : Ok P (k x)) : Ok P (bd (PV.ix n (.agg cs) (.int kk i)) k):=
 dB x (by simp only [PV.ix];rw [if_pos h0,hx];simp only;rw [if_pos he]) h
end
theorem aLt {xs : List PV} {r : R} {x y : Option R} (hx : xs = []→Ok (fun q=>q=r) x) (hy : Ok (fun q=>q=r) y) : Ok (fun q=>q=r) (PV.nilT (.lst xs) x y):=by
 cases xs with
 | nil=>
   have h1:=(hx rfl).eq
   have h2:=hy.eq
   refine ⟨r,?_,rfl⟩
   show @_root_.ite _ (x=y) (Classical.propDecidable _) x none=some r
   rw [h1,h2,if_pos rfl]
 | cons a l=>exact hy
end
noncomputable section
open Go Go.ChangeShapes Go.WideShapes Go.ChangeAt Go.RowKit
def aFe (w : World) (a : Option Addr) (len cap : Nat) (zs : List Int) : Prop:=
 (a=none∧len=0∧cap=0∧zs = [])∨
 ∃ x,a=some x∧len≤cap∧cap≤maxLen∧zs.length=cap∧(∀ i,i<zs.length→w.cell? (x.add i)=some (.int .u8 (zs.getD i 0)))∧∀ n∈zs,(Lit.int .u8 n).wf=true
theorem cell_inv {w : World} {a : Addr} {v : Value} (h : w.cell? a=some v) : a.spot=none∧∃ c e fz,w.heap[a.block]? = some (.cells c e fz)∧c[a.off]? = some v:=by
 unfold World.cell? at h
 split at h
 ·rename_i c e fz hc
  split at h
  ·cases h
  ·rename_i hs
   exact ⟨by simpa using hs,c,e,fz,hc,h⟩
 ·cases h
theorem aFe.rep {w : World} {a : Option Addr} {len cap : Nat} {zs : List Int} (h : aFe w a len cap zs) : fB w (fun r=>r<w.heap.size) (wR (zs.take len)) (.slice a len cap):=by
 rcases h with ⟨rfl,rfl,rfl,rfl⟩ | ⟨x,rfl,hl,_,hz,hc,_⟩
 ·exact .empty none 0
 ·by_cases h0 : len=0
  ·subst h0;exact .empty _ cap
  ·have hlen : ((zs.take len).map (PV.int .u8)).length=len:=by simp;omega
   obtain ⟨hsp,c,e,fz,hh,hc0⟩:=cell_inv (hc 0 (by omega))
   have hx : x=⟨x.block,x.off,none⟩:=by
    have : x.spot=none:=by
     have h1 : (x.add 0).spot=none:=hsp
     unfold Addr.add at h1
     split at h1<;>simp_all
    cases x;simp_all
   rw [hx] at hc ⊢
   have hb : (x.add 0).block=x.block:=by unfold Addr.add;split<;>rfl
   rw [hb] at hh
   have:=fB.lst (w:=w) (Z:=fun r=>r<w.heap.size) ((zs.take len).map (PV.int .u8)) x.block x.off 1 cap false c e fz (fun i _=>.int .u8 (zs.getD i 0)) (Array.getElem?_eq_some_iff.1 hh).1 hh (by omega) (by omega)
    (fun i y hy=>by
     rw [List.getElem?_map] at hy
     cases hi : (zs.take len)[i]? with
     | none=>rw [hi] at hy;cases hy
     | some q=>rw [hi] at hy;cases hy;rfl)
    (fun i j hi hj=>by
     have hj0 : j=0:=by omega
     subst hj0
     have h1:=hc i (by omega)
     rw [iP] at h1
     obtain ⟨_,c',e',fz',hh',hc'⟩:=cell_inv h1
     have hh' : w.heap[x.block]? = some (.cells c' e' fz'):=hh'
     rw [hh] at hh'
     cases hh'
     simpa using hc')
    (fun _ _ _ _=>trivial)
    (fun i j y hy hj=>by
     rw [List.getElem?_map] at hy
     cases hi : (zs.take len)[i]? with
     | none=>rw [hi] at hy;cases hy
     | some q=>
       rw [hi] at hy
       cases hy
       have hlt : i<(zs.take len).length:=(List.getElem?_eq_some_iff.1 hi).1
       have : zs.getD i 0=q:=by
        rw [List.getElem?_take] at hi
        split at hi
        ·rw [List.getD,hi];rfl
        ·cases hi
       rw [this]
       exact .int _ _)
   rw [hlen] at this
   exact this
theorem aFe.wf {w : World} {a : Option Addr} {len cap : Nat} {zs : List Int} (h : aFe w a len cap zs) : ∀ x∈zs.take len,(Lit.int .u8 x).wf=true:=by
 intro x hx
 rcases h with ⟨_,_,_,rfl⟩ | ⟨_,_,_,_,_,_,hw⟩
 ·simp at hx
 ·exact hw x (List.mem_of_mem_take hx)
theorem aKR (n : Nat) (args : List PV) (aT : Array Value) (h : aL n args=some [.bool true]) {w : World} (gz : aBv w fun r=>r<w.heap.size) (hl : args.length=aT.size) (hr : ∀ (i : Nat) x v,args[i]? = some x→aT[i]? = some v→fB w (fun r=>r<w.heap.size) x v) :
 Calls Tryz.prog n aT w fun e w'=>e = .returned (.bool true)∧Below w.heap.size w w':=by
 refine (aJJ hyp h (Z:=fun r=>r<w.heap.size) ⟨fun _ h=>h,gz⟩ hl hr).mono ?_
 rintro e w' ⟨v,rfl,Z',pe,hrep⟩
 have hrep : fB w' Z' (.bool true) v:=hrep
 rw [hrep.bool_inv]
 exact ⟨rfl,pe.os,pe.tape,pe.output,pe.size,pe.old⟩
theorem own : ownKnob Tryz.prog.godebug=none:=by kernel_rfl
theorem aLu : laidOutB Tryz.prog=true:=by kernel_rfl
end
noncomputable section
open Go
def pB (x0 x1 : PV) : Option R:=aL 5 [x0,x1]
def uR (x0 x1 : PV) : Option R:=aL 7 [x0,x1]
def mB (x0 x1 : PV) : Option R:=aL 8 [x0,x1]
def iQ (x0 x1 x2 : PV) : Option R:=cU 8 0 0 (bC.mode 8) (todoOf Tryz.prog 8 5) [(0,.p x0),(1,.p x1),(5,.p x2)] ⟨[],[],0,0,0⟩
def pC (x0 x1 : PV) : Option R:=aL 13 [x0,x1]
def pP (x0 x1 : PV) : Option R:=aL 14 [x0,x1]
def mC (x0 x1 : PV) : Option R:=aL 15 [x0,x1]
def lD (x0 x1 x2 : PV) : Option R:=cU 15 0 0 (bC.mode 15) (todoOf Tryz.prog 15 4) [(0,.p x0),(1,.p x1),(5,.p x2)] ⟨[],[],0,0,0⟩
def tR (x0 x1 : PV) : Option R:=aL 19 [x0,x1]
def aDC (x0 x1 : PV) : Option R:=aL 25 [x0,x1]
def nY (x0 x1 : PV) : Option R:=aL 38 [x0,x1]
def gV (x0 x1 x2 : PV) : Option R:=cU 38 0 0 (bC.mode 38) (todoOf Tryz.prog 38 5) [(0,.p x0),(1,.p x1),(5,.p x2)] ⟨[],[],0,0,0⟩
def wS (x0 x1 : PV) : Option R:=aL 39 [x0,x1]
def jR (x0 x1 x2 : PV) : Option R:=cU 39 0 0 (bC.mode 39) (todoOf Tryz.prog 39 5) [(0,.p x0),(1,.p x1),(5,.p x2)] ⟨[],[],0,0,0⟩
def rH (x0 x1 : PV) : Option R:=aL 40 [x0,x1]
def uS (x0 x1 : PV) : Option R:=aL 49 [x0,x1]
def lE (x0 x1 x2 : PV) : Option R:=cU 49 0 0 (bC.mode 49) (todoOf Tryz.prog 49 4) [(0,.p x0),(1,.p x1),(5,.p x2)] ⟨[],[],0,0,0⟩
def zR (x0 x1 : PV) : Option R:=aL 50 [x0,x1]
def nZ (x0 x1 x2 : PV) : Option R:=cU 50 0 0 (bC.mode 50) (todoOf Tryz.prog 50 4) [(0,.p x0),(1,.p x1),(5,.p x2)] ⟨[],[],0,0,0⟩
def oA (x0 x1 : PV) : Option R:=aL 33 [x0,x1]
def kE (x0 x1 x2 : PV) : Option R:=cU 33 0 0 (bC.mode 33) (todoOf Tryz.prog 33 4) [(0,.p x0),(1,.p x1),(5,.p x2)] ⟨[],[],0,0,0⟩
def rI (x0 x1 : PV) : Option R:=aL 51 [x0,x1]
def wU (x0 x1 : PV) : Option R:=aL 52 [x0,x1]
def mJ (x0 x1 x2 : PV) : Option R:=cU 52 0 0 (bC.mode 52) (todoOf Tryz.prog 52 4) [(0,.p x0),(1,.p x1),(5,.p x2)] ⟨[],[],0,0,0⟩
def qI (x0 x1 : PV) : Option R:=aL 57 [x0,x1]
def jG (x0 x1 x2 : PV) : Option R:=cU 57 0 0 (bC.mode 57) (todoOf Tryz.prog 57 2) [(0,.p x0),(1,.p x1),(5,.p x2)] ⟨[],[],0,0,0⟩
def uT (x0 x1 : PV) : Option R:=aL 58 [x0,x1]
def lF (x0 x1 x2 : PV) : Option R:=cU 58 0 0 (bC.mode 58) (todoOf Tryz.prog 58 2) [(0,.p x0),(1,.p x1),(5,.p x2)] ⟨[],[],0,0,0⟩
def pD (x0 x1 : PV) : Option R:=aL 37 [x0,x1]
def iI (x0 x1 x2 : PV) : Option R:=cU 37 0 0 (bC.mode 37) (todoOf Tryz.prog 37 2) [(0,.p x0),(1,.p x1),(5,.p x2)] ⟨[],[],0,0,0⟩
def uU (x0 x1 : PV) : Option R:=aL 63 [x0,x1]
def iR (x0 x1 x2 : PV) : Option R:=cU 63 0 0 (bC.mode 63) (todoOf Tryz.prog 63 5) [(0,.p x0),(1,.p x1),(5,.p x2)] ⟨[],[],0,0,0⟩
def zS (x0 x1 : PV) : Option R:=aL 64 [x0,x1]
def kN (x0 x1 x2 : PV) : Option R:=cU 64 0 0 (bC.mode 64) (todoOf Tryz.prog 64 5) [(0,.p x0),(1,.p x1),(5,.p x2)] ⟨[],[],0,0,0⟩
def zT (x0 x1 : PV) : Option R:=aL 80 [x0,x1]
def wV (x0 x1 : PV) : Option R:=aL 89 [x0,x1]
def aBK (x0 x1 : PV) : Option R:=aL 90 [x0,x1]
def zU (x0 x1 : PV) : Option R:=aL 91 [x0,x1]
def jS (x0 x1 : PV) : Option R:=aL 93 [x0,x1]
def jH (x0 x1 x2 : PV) : Option R:=cU 93 0 0 (bC.mode 93) (todoOf Tryz.prog 93 2) [(0,.p x0),(1,.p x1),(5,.p x2)] ⟨[],[],0,0,0⟩
def fV (x0 : PV) : Option R:=aL 54 [x0]
def lG (x0 x1 : PV) : Option R:=cU 54 0 0 (bC.mode 54) (todoOf Tryz.prog 54 4) [(0,.p x0),(3,.p x1)] ⟨[],[],0,0,0⟩
def wW (x0 x1 : PV) : Option R:=aL 102 [x0,x1]
def aBL (x0 x1 : PV) : Option R:=aL 103 [x0,x1]
def zV (x0 x1 : PV) : Option R:=aL 128 [x0,x1]
def zW (x0 x1 : PV) : Option R:=aL 145 [x0,x1]
def oB (x0 x1 x2 : PV) : Option R:=cU 145 0 0 (bC.mode 145) (todoOf Tryz.prog 145 4) [(0,.p x0),(1,.p x1),(5,.p x2)] ⟨[],[],0,0,0⟩
def aBM (x0 x1 : PV) : Option R:=aL 206 [x0,x1]
def fW (x0 : PV) : Option R:=bW 10 [.p x0] ⟨[],[],0,0,0⟩
def mD (x0 : PV) : Option R:=bW 11 [.p x0] ⟨[],[],0,0,0⟩
def lH (x0 x1 x2 : PV) : Option R:=cU 11 0 0 (bC.mode 11) (todoOf Tryz.prog 11 3) [(0,.p x0),(3,.ref 0 []),(4,.p x1)] ⟨[],[(0,some ⟨(.own 3 32 true []),x2⟩)],0,0,1⟩
def rJ (x0 : PV) : Option R:=aL 46 [x0]
def aPy (x0 x1 x2 : PV) : Option R:=bW 9 [.p x0,.p x1,.p x2] ⟨[],[],0,0,0⟩
def aM (x0 x1 x2 : PV) : Option R:=aL 42 [x0,x1,x2]
def aPz (x0 x1 x2 : PV) : Option R:=bW 12 [.p x0,.p x1,.p x2] ⟨[],[],0,0,0⟩
def qJ (x0 x1 x2 : PV) : Option R:=bW 16 [.agg [.ref 0 [],.ref 1 []],.p x0] ⟨[],[(0,some ⟨(.own 1 16 false []),x1⟩),(1,some ⟨(.own 3 40 true [.leaf,.leaf,(.own 2 16 true [])]),x2⟩)],0,0,2⟩
def aMQ (x0 x1 : PV) : Option R:=bW 17 [.ref 0 [],.p x0] ⟨[],[(0,some ⟨(.own 3 32 true []),x1⟩)],0,0,1⟩
def tS (x0 x1 x2 x3 x4 x5 x6 x7 x8 x9 x10 : PV) : Option R:=bW 18 [.agg [.ref 0 [],.ref 1 [],.p x0,.ref 2 [],.p x1,.p x2,.p x3,.p x4,.p x5,.p x6],.p x7] ⟨[],[(0,some ⟨(.own 4 64 true [.leaf,.leaf,(.own 3 32 true []),(.own 3 32 true [])]),x8⟩),(1,some ⟨(.own 1 24 true [(.own 3 32 true [])]),x9⟩),(2,some ⟨(.own 1 16 false []),x10⟩)],0,0,3⟩
def pE (x0 : PV) : Option R:=bW 27 [.p x0] ⟨[],[],0,0,0⟩
def aAM (x0 x1 : PV) : Option R:=bW 26 [.p x0,.p x1] ⟨[],[],0,0,0⟩
def vR (x0 x1 : PV) : Option R:=aL 65 [x0,x1]
def wX (x0 : PV) : Option R:=aL 81 [x0]
def aCJ (x0 x1 : PV) : Option R:=aL 104 [x0,x1]
def gP (x0 x1 x2 x3 x4 x5 x6 x7 x8 x9 x10 x11 x12 x13 : PV) : Option R:=cU 104 0 0 (bC.mode 104) (todoOf Tryz.prog 104 5) [(2,.ptr 0 0),(3,.ptr 1 0),(5,.p x0),(6,.p x1)] ⟨[(0,some [.p x2,.p x3]),(1,some [.p x4,.p x5,.p x6,.p x7,.p x8,.p x9,.p x10,.p x11,.p x12,.p x13])],[],0,0,2⟩
def eG (x0 x1 x2 x3 x4 x5 x6 x7 x8 x9 x10 x11 x12 x13 : PV) : Option R:=cU 104 0 0 (bC.mode 104) (todoOf Tryz.prog 104 10) [(2,.ptr 0 0),(3,.ptr 1 0),(5,.p x0),(7,.p x1)] ⟨[(0,some [.p x2,.p x3]),(1,some [.p x4,.p x5,.p x6,.p x7,.p x8,.p x9,.p x10,.p x11,.p x12,.p x13])],[],0,0,2⟩
def bK (x0 x1 x2 x3 x4 x5 x6 x7 x8 x9 x10 x11 x12 x13 : PV) : Option R:=cU 104 0 0 (bC.mode 104) (todoOf Tryz.prog 104 21) [(2,.ptr 0 0),(3,.ptr 1 0),(5,.p x0),(8,.p x1)] ⟨[(0,some [.p x2,.p x3]),(1,some [.p x4,.p x5,.p x6,.p x7,.p x8,.p x9,.p x10,.p x11,.p x12,.p x13])],[],0,0,2⟩
def zX (x0 : PV) : Option R:=aL 129 [x0]
def kO (x0 x1 x2 x3 x4 x5 : PV) : Option R:=cU 129 0 0 (bC.mode 129) (todoOf Tryz.prog 129 4) [(1,.ptr 0 0),(2,.ptr 1 0),(3,.p x0)] ⟨[(0,some [.p x1,.p x2]),(1,some [.p x3,.p x4,.p x5])],[],0,0,2⟩
def iS (x0 x1 x2 x3 x4 x5 x6 x7 x8 : PV) : Option R:=cU 129 0 0 (bC.mode 129) (todoOf Tryz.prog 129 9) [(1,.ptr 0 0),(2,.ptr 1 0),(3,.p x0),(4,.p x1),(5,.p x2),(6,.p x3)] ⟨[(0,some [.p x4,.p x5]),(1,some [.p x6,.p x7,.p x8])],[],0,0,2⟩
def jT (x0 x1 x2 x3 x4 x5 x6 x7 x8 x9 x10 x11 : PV) : Option R:=cU 129 0 0 (bC.mode 129) (todoOf Tryz.prog 129 18) [(1,.ptr 0 0),(2,.ptr 1 0),(3,.p x0),(4,.p x1),(5,.p x2),(6,.p x3),(9,.p x4),(10,.p x5),(11,.p x6)] ⟨[(0,some [.p x7,.p x8]),(1,some [.p x9,.p x10,.p x11])],[],0,0,2⟩
def gQ (x0 x1 x2 x3 x4 x5 x6 x7 x8 x9 x10 x11 : PV) : Option R:=cU 129 0 0 (bC.mode 129) (todoOf Tryz.prog 129 23) [(1,.ptr 0 0),(2,.ptr 1 0),(3,.p x0),(4,.p x1),(5,.p x2),(6,.p x3),(9,.p x4),(10,.p x5),(12,.p x6)] ⟨[(0,some [.p x7,.p x8]),(1,some [.p x9,.p x10,.p x11])],[],0,0,2⟩
def wY (x0 x1 x2 : PV) : Option R:=aL 82 [x0,x1,x2]
def iT (x0 x1 x2 : PV) : Option R:=aL 155 [x0,x1,x2]
def gW (x0 x1 x2 x3 x4 : PV) : Option R:=cU 155 0 0 (bC.mode 155) (todoOf Tryz.prog 155 2) [(1,.p x0),(2,.p x1),(3,.ptr 0 0),(7,.p x2)] ⟨[(0,some [.p x3,.p x4])],[],0,0,1⟩
def lI (x0 : PV) : Option R:=aL 131 [x0]
def mK (x0 x1 : PV) : Option R:=cU 131 0 0 (bC.mode 131) (todoOf Tryz.prog 131 4) [(0,.p x0),(3,.p x1)] ⟨[],[],0,0,0⟩
def mL (x0 x1 x2 x3 : PV) : Option R:=aL 156 [x0,x1,x2,x3]
def uV (x0 : PV) : Option R:=aL 193 [x0]
def lJ (x0 x1 x2 : PV) : Option R:=cU 193 0 0 (bC.mode 193) (todoOf Tryz.prog 193 4) [(1,.ptr 0 0),(3,.p x0)] ⟨[(0,some [.p x1,.p x2])],[],0,0,1⟩
def iU (x0 x1 x2 : PV) : Option R:=cU 193 0 0 (bC.mode 193) (todoOf Tryz.prog 193 9) [(1,.ptr 0 0),(4,.p x0)] ⟨[(0,some [.p x1,.p x2])],[],0,0,1⟩
def kF (x0 x1 x2 x3 x4 x5 x6 : PV) : Option R:=cU 193 0 0 (bC.mode 193) (todoOf Tryz.prog 193 15) [(1,.ptr 0 0),(4,.p x0),(5,.ptr 1 0),(6,.p x1)] ⟨[(0,some [.p x2,.p x3]),(1,some [.p x4,.p x5,.p x6])],[],0,0,2⟩
def iV (x0 x1 : PV) : Option R:=aL 194 [x0,x1]
def kG (x0 x1 x2 x3 x4 : PV) : Option R:=cU 194 0 0 (bC.mode 194) (todoOf Tryz.prog 194 4) [(2,.ptr 0 0),(5,.p x0),(6,.ref 0 []),(7,.p x1)] ⟨[(0,some [.p x2,.p x3])],[(0,some ⟨(.own 1 8 false []),x4⟩)],0,0,2⟩
def gX (x0 x1 x2 x3 x4 : PV) : Option R:=cU 194 0 0 (bC.mode 194) (todoOf Tryz.prog 194 9) [(2,.ptr 0 0),(5,.p x0),(6,.ref 0 []),(8,.p x1)] ⟨[(0,some [.p x2,.p x3])],[(0,some ⟨(.own 1 8 false []),x4⟩)],0,0,2⟩
def dT (x0 x1 x2 x3 x4 x5 : PV) : Option R:=cU 194 0 0 (bC.mode 194) (todoOf Tryz.prog 194 12) [(2,.ptr 0 0),(5,.p x0),(6,.ref 0 []),(8,.p x1),(9,.p x2)] ⟨[(0,some [.p x3,.p x4])],[(0,some ⟨(.own 1 8 false []),x5⟩)],0,0,2⟩
def eE (x0 x1 x2 x3 x4 x5 x6 x7 x8 : PV) : Option R:=cU 194 0 0 (bC.mode 194) (todoOf Tryz.prog 194 19) [(2,.ptr 0 0),(5,.p x0),(6,.ref 0 []),(8,.p x1),(9,.p x2),(12,.p x3),(13,.p x4),(14,.p x5)] ⟨[(0,some [.p x6,.p x7])],[(0,some ⟨(.own 1 8 false []),x8⟩)],0,0,2⟩
def sL (x0 x1 x2 x3 x4 x5 x6 x7 : PV) : Option R:=cU 194 0 0 (bC.mode 194) (todoOf Tryz.prog 194 22) [(2,.ptr 0 0),(5,.p x0),(6,.ref 0 []),(9,.p x1),(12,.p x2),(13,.p x3),(14,.p x4)] ⟨[(0,some [.p x5,.p x6])],[(0,some ⟨(.own 1 8 false []),x7⟩)],0,0,2⟩
def tT (x0 x1 : PV) : Option R:=aL 195 [x0,x1]
def rK (x0 x1 : PV) : Option R:=aL 196 [x0,x1]
def yD (x0 x1 x2 x3 : PV) : Option R:=cU 196 0 0 (bC.mode 196) (todoOf Tryz.prog 196 3) [(1,.p x0),(2,.ptr 0 0),(5,.ref 0 [])] ⟨[(0,some [.p x1,.p x2])],[(0,some ⟨(.own 1 8 false []),x3⟩)],0,0,2⟩
def mN (x0 x1 x2 : PV) : Option R:=cU 196 0 0 (bC.mode 196) (todoOf Tryz.prog 196 4) [(2,.ptr 0 0),(5,.ref 0 [])] ⟨[(0,some [.p x0,.p x1])],[(0,some ⟨(.own 1 8 false []),x2⟩)],0,0,2⟩
def mO (x0 x1 x2 : PV) : Option R:=cU 196 0 0 (bC.mode 196) (todoOf Tryz.prog 196 5) [(2,.ptr 0 0),(5,.ref 0 [])] ⟨[(0,some [.p x0,.p x1])],[(0,some ⟨(.own 1 8 false []),x2⟩)],0,0,2⟩
def fX (x0 : PV) : Option R:=aL 130 [x0]
def aBN (x0 x1 x2 : PV) : Option R:=aL 247 [x0,x1,x2]
def vS (x0 x1 : PV) : Option R:=bW 28 [.p x0,.p x1] ⟨[],[],0,0,0⟩
def vT (x0 x1 : PV) : Option R:=aL 68 [x0,x1]
def zY (x0 : PV) : Option R:=aL 107 [x0]
def wZ (x0 : PV) : Option R:=aL 109 [x0]
def jU (x0 x1 x2 x3 x4 : PV) : Option R:=cU 109 0 0 (bC.mode 109) (todoOf Tryz.prog 109 3) [(1,.ptr 0 0),(3,.ref 0 []),(8,.p x0),(9,.p x1)] ⟨[(0,some [.p x2,.p x3])],[(0,some ⟨(.own 1 24 false []),x4⟩)],0,0,2⟩
def aHP (x0 x1 x2 : PV) : Option R:=aL 108 [x0,x1,x2]
def gY (x0 x1 x2 x3 x4 x5 x6 x7 x8 x9 x10 x11 x12 x13 x14 x15 x16 : PV) : Option R:=cU 108 0 0 (bC.mode 108) (todoOf Tryz.prog 108 8) [(1,.p x0),(3,.ptr 0 0),(5,.ptr 1 0),(7,.ptr 2 0),(43,.p x1),(44,.p x2),(45,.p x3)] ⟨[(0,some [.p x4,.p x5]),(1,some [.p x6,.p x7,.p x8,.p x9,.p x10,.p x11,.p x12,.p x13,.p x14,.p x15]),(2,some [.p x16])],[],0,0,3⟩
def zZ (x0 : PV) : Option R:=aL 157 [x0]
def kP (x0 x1 x2 x3 x4 x5 x6 : PV) : Option R:=cU 157 0 0 (bC.mode 157) (todoOf Tryz.prog 157 4) [(1,.ptr 0 0),(2,.ptr 1 0),(16,.p x0),(17,.p x1)] ⟨[(0,some [.p x2,.p x3]),(1,some [.p x4,.p x5,.p x6])],[],0,0,2⟩
def kQ (x0 x1 x2 x3 x4 x5 x6 x7 x8 x9 x10 x11 : PV) : Option R:=cU 157 0 0 (bC.mode 157) (todoOf Tryz.prog 157 8) [(1,.ptr 0 0),(2,.ptr 1 0),(3,.p x0),(4,.ptr 2 0),(16,.p x1),(17,.p x2),(28,.p x3),(29,.p x4),(30,.p x5)] ⟨[(0,some [.p x6,.p x7]),(1,some [.p x8,.p x9,.p x10]),(2,some [.p x11])],[],0,0,3⟩
def tU (x0 x1 : PV) : Option R:=aL 166 [x0,x1]
def kR (x0 x1 x2 x3 x4 : PV) : Option R:=cU 166 0 0 (bC.mode 166) (todoOf Tryz.prog 166 5) [(2,.ptr 0 0),(5,.p x0),(6,.ref 0 []),(7,.p x1)] ⟨[(0,some [.p x2,.p x3])],[(0,some ⟨(.own 1 8 false []),x4⟩)],0,0,2⟩
def gF (x0 x1 x2 x3 x4 x5 x6 x7 : PV) : Option R:=cU 166 0 0 (bC.mode 166) (todoOf Tryz.prog 166 8) [(2,.ptr 0 0),(5,.p x0),(6,.ref 0 []),(7,.p x1),(27,.p x2),(28,.p x3),(29,.p x4)] ⟨[(0,some [.p x5,.p x6])],[(0,some ⟨(.own 1 8 false []),x7⟩)],0,0,2⟩
def eR (x0 x1 x2 x3 x4 x5 x6 x7 x8 x9 x10 x11 x12 : PV) : Option R:=cU 166 0 0 (bC.mode 166) (todoOf Tryz.prog 166 13) [(2,.ptr 0 0),(5,.p x0),(6,.ref 0 []),(7,.p x1),(10,.p x2),(11,.p x3),(27,.p x4),(28,.p x5),(29,.p x6),(51,.p x7),(52,.p x8),(53,.p x9)] ⟨[(0,some [.p x10,.p x11])],[(0,some ⟨(.own 1 8 false []),x12⟩)],0,0,2⟩
def yE (x0 x1 x2 x3 x4 x5 x6 x7 x8 x9 x10 x11 x12 : PV) : Option R:=cU 166 0 0 (bC.mode 166) (todoOf Tryz.prog 166 16) [(2,.ptr 0 0),(5,.p x0),(6,.ref 0 []),(10,.p x1),(11,.p x2),(13,.p x3),(27,.p x4),(28,.p x5),(29,.p x6),(51,.p x7),(52,.p x8),(53,.p x9)] ⟨[(0,some [.p x10,.p x11])],[(0,some ⟨(.own 1 8 false []),x12⟩)],0,0,2⟩
def tV (x0 : PV) : Option R:=aL 158 [x0]
def cA (x0 x1 x2 : PV) : Option R:=aL 88 [x0,x1,x2]
def dK (x0 x1 : PV) : Option R:=aL 159 [x0,x1]
def aAa (x0 : PV) : Option R:=aL 160 [x0]
def rL (x0 x1 x2 x3 x4 x5 x6 : PV) : Option R:=aL 165 [x0,x1,x2,x3,x4,x5,x6]
def uW (x0 : PV) : Option R:=aL 209 [x0]
def lK (x0 x1 x2 x3 x4 : PV) : Option R:=cU 209 0 0 (bC.mode 209) (todoOf Tryz.prog 209 4) [(1,.ptr 0 0),(22,.p x0),(23,.p x1),(24,.p x2)] ⟨[(0,some [.p x3,.p x4])],[],0,0,1⟩
def tW (x0 x1 x2 : PV) : Option R:=aL 210 [x0,x1,x2]
def rM (x0 x1 : PV) : Option R:=aL 211 [x0,x1]
def iW (x0 x1 : PV) : Option R:=aL 212 [x0,x1]
def fS (x0 x1 : PV) : Option R:=aL 213 [x0,x1]
def aBl (x0 x1 x2 : PV) : Option R:=aL 214 [x0,x1,x2]
def fD (x0 x1 : PV) : Option R:=aL 215 [x0,x1]
def uX (x0 : PV) : Option R:=aL 216 [x0]
def iX (x0 x1 : PV) : Option R:=aL 217 [x0,x1]
def dL (x0 x1 x2 x3 : PV) : Option R:=cU 217 0 0 (bC.mode 217) (todoOf Tryz.prog 217 2) [(0,.p x0),(1,.p x1),(7,.p x2),(8,.p x3)] ⟨[],[],0,0,0⟩
def nH (x0 : PV) : Option R:=aL 161 [x0]
def oC (x0 x1 x2 : PV) : Option R:=cU 161 0 0 (bC.mode 161) (todoOf Tryz.prog 161 2) [(0,.p x0),(5,.p x1),(6,.p x2)] ⟨[],[],0,0,0⟩
def cK (x0 x1 : PV) : Option R:=aL 75 [x0,x1]
def yF (x0 : PV) : Option R:=aL 252 [x0]
def dW (x0 x1 : PV) : Option R:=aL 253 [x0,x1]
def yG (x0 x1 x2 : PV) : Option R:=aL 254 [x0,x1,x2]
def tX (x0 x1 : PV) : Option R:=aL 168 [x0,x1]
def mP (x0 x1 x2 x3 : PV) : Option R:=cU 168 0 0 (bC.mode 168) (todoOf Tryz.prog 168 24) [(2,.ptr 0 0),(3,.ptr 1 0)] ⟨[(0,some [.p x0,.p x1]),(1,some [.p x2,.p x3])],[],0,0,2⟩
def yH (x0 x1 x2 x3 : PV) : Option R:=cU 168 0 0 (bC.mode 168) (todoOf Tryz.prog 168 25) [(2,.ptr 0 0),(3,.ptr 1 0)] ⟨[(0,some [.p x0,.p x1]),(1,some [.p x2,.p x3])],[],0,0,2⟩
def kS (x0 x1 : PV) : Option R:=aL 256 [x0,x1]
def fE (x0 x1 x2 x3 : PV) : Option R:=cU 256 0 0 (bC.mode 256) (todoOf Tryz.prog 256 2) [(0,.p x0),(1,.p x1),(7,.p x2),(8,.p x3)] ⟨[],[],0,0,0⟩
def mE (x0 x1 : PV) : Option R:=aL 257 [x0,x1]
def eJ (x0 x1 x2 x3 : PV) : Option R:=cU 257 0 0 (bC.mode 257) (todoOf Tryz.prog 257 2) [(0,.p x0),(1,.p x1),(7,.p x2),(8,.p x3)] ⟨[],[],0,0,0⟩
def gG (x0 x1 : PV) : Option R:=aL 258 [x0,x1]
def bL (x0 x1 x2 x3 : PV) : Option R:=cU 258 0 0 (bC.mode 258) (todoOf Tryz.prog 258 2) [(0,.p x0),(1,.p x1),(7,.p x2),(8,.p x3)] ⟨[],[],0,0,0⟩
def gH (x0 x1 : PV) : Option R:=aL 281 [x0,x1]
def cW (x0 x1 x2 x3 : PV) : Option R:=cU 281 0 0 (bC.mode 281) (todoOf Tryz.prog 281 2) [(0,.p x0),(1,.p x1),(7,.p x2),(8,.p x3)] ⟨[],[],0,0,0⟩
def aBO (x0 x1 x2 : PV) : Option R:=aL 255 [x0,x1,x2]
def kT (x0 : PV) : Option R:=aL 218 [x0]
def oD (x0 : PV) : Option R:=bW 44 [.p x0] ⟨[],[],0,0,0⟩
def kH (x0 x1 x2 : PV) : Option R:=cU 44 0 0 (bC.mode 44) (todoOf Tryz.prog 44 3) [(0,.p x0),(3,.ref 0 []),(4,.p x1)] ⟨[],[(0,some ⟨(.own 1 16 false []),x2⟩)],0,0,1⟩
def xA (x0 : PV) : Option R:=bW 45 [.p x0] ⟨[],[],0,0,0⟩
def jV (x0 x1 x2 : PV) : Option R:=cU 45 0 0 (bC.mode 45) (todoOf Tryz.prog 45 3) [(0,.p x0),(3,.ref 0 []),(4,.p x1)] ⟨[],[(0,some ⟨(.own 3 40 true [.leaf,.leaf,(.own 2 16 true [])]),x2⟩)],0,0,1⟩
def aOW (x0 x1 : PV) : Option R:=bW 41 [.p x0,.p x1] ⟨[],[],0,0,0⟩
def xB (x0 x1 : PV) : Option R:=bW 43 [.p x0,.p x1] ⟨[],[],0,0,0⟩
def aPA (x0 x1 x2 : PV) : Option R:=bW 47 [.p x0,.p x1,.p x2,.p (.fn 48 [])] ⟨[],[],0,0,0⟩
def lL (x0 x1 : PV) : Option R:=bW 36 [.ref 0 [],.p x0] ⟨[],[(0,some ⟨(.own 1 16 false []),x1⟩)],0,0,1⟩
def iJ (x0 x1 x2 : PV) : Option R:=cU 36 0 1 ((bC.mode 36).map (Tmpl.fitK · [some (.own 1 16 false [])])) (todoOf Tryz.prog 36 2) [(0,.ref 0 []),(1,.p x0),(5,.p x1)] ⟨[],[(0,some ⟨(.own 1 16 false []),x2⟩)],0,0,1⟩
def sM (x0 x1 : PV) : Option R:=bW 53 [.ref 0 [],.p x0] ⟨[],[(0,some ⟨(.own 3 40 true [.leaf,.leaf,(.own 2 16 true [])]),x1⟩)],0,0,1⟩
def kI (x0 x1 x2 : PV) : Option R:=cU 53 0 1 ((bC.mode 53).map (Tmpl.fitK · [some (.own 3 40 true [.leaf,.leaf,(.own 2 16 true [])])])) (todoOf Tryz.prog 53 2) [(0,.ref 0 []),(1,.p x0),(5,.p x1)] ⟨[],[(0,some ⟨(.own 3 40 true [.leaf,.leaf,(.own 2 16 true [])]),x2⟩)],0,0,1⟩
def qK (x0 x1 : PV) : Option R:=bW 55 [.ref 0 [],.p x0] ⟨[],[(0,some ⟨(.own 4 64 true [.leaf,.leaf,(.own 3 32 true []),(.own 3 32 true [])]),x1⟩)],0,0,1⟩
def jI (x0 x1 x2 : PV) : Option R:=cU 55 0 1 ((bC.mode 55).map (Tmpl.fitK · [some (.own 4 64 true [.leaf,.leaf,(.own 3 32 true []),(.own 3 32 true [])])])) (todoOf Tryz.prog 55 2) [(0,.ref 0 []),(1,.p x0),(5,.p x1)] ⟨[],[(0,some ⟨(.own 4 64 true [.leaf,.leaf,(.own 3 32 true []),(.own 3 32 true [])]),x2⟩)],0,0,1⟩
def uY (x0 x1 : PV) : Option R:=bW 56 [.ref 0 [],.p x0] ⟨[],[(0,some ⟨(.own 1 24 true [(.own 3 32 true [])]),x1⟩)],0,0,1⟩
def lM (x0 x1 x2 : PV) : Option R:=cU 56 0 1 ((bC.mode 56).map (Tmpl.fitK · [some (.own 1 24 true [(.own 3 32 true [])])])) (todoOf Tryz.prog 56 2) [(0,.ref 0 []),(1,.p x0),(5,.p x1)] ⟨[],[(0,some ⟨(.own 1 24 true [(.own 3 32 true [])]),x2⟩)],0,0,1⟩
def uZ (x0 : PV) : Option R:=bW 66 [.p x0] ⟨[],[],0,0,0⟩
def iY (x0 x1 x2 : PV) : Option R:=cU 66 0 0 (bC.mode 66) (todoOf Tryz.prog 66 3) [(0,.p x0),(3,.ref 0 []),(4,.p x1)] ⟨[],[(0,some ⟨(.own 4 64 true [.leaf,.leaf,(.own 3 32 true []),(.own 3 32 true [])]),x2⟩)],0,0,1⟩
def aAb (x0 : PV) : Option R:=bW 67 [.p x0] ⟨[],[],0,0,0⟩
def kU (x0 x1 x2 : PV) : Option R:=cU 67 0 0 (bC.mode 67) (todoOf Tryz.prog 67 3) [(0,.p x0),(3,.ref 0 []),(4,.p x1)] ⟨[],[(0,some ⟨(.own 1 24 true [(.own 3 32 true [])]),x2⟩)],0,0,1⟩
def jZ (x0 : PV) : Option R:=bW 69 [.p x0] ⟨[],[],0,0,0⟩
def xC (x0 x1 x2 x3 x4 x5 x6 x7 x8 x9 x10 x11 : PV) : Option R:=bW 70 [.ptr 0 0,.agg [.p x0,.p x1]] ⟨[(0,some [.ref 0 [],.ref 1 [],.p x2,.ref 2 [],.p x3,.p x4,.p x5,.p x6,.p x7,.p x8])],[(0,some ⟨(.own 4 64 true [.leaf,.leaf,(.own 3 32 true []),(.own 3 32 true [])]),x9⟩),(1,some ⟨(.own 1 24 true [(.own 3 32 true [])]),x10⟩),(2,some ⟨(.own 1 16 false []),x11⟩)],0,0,4⟩
def oE (x0 x1 x2 x3 x4 x5 x6 x7 x8 x9 x10 x11 x12 x13 x14 x15 x16 x17 x18 x19 x20 x21 x22 : PV) : Option R:=bW 162 [.agg [.p x0,.p x1,.p x2,.p x3,.p x4,.p x5,.p x6,.p x7,.p x8,.p x9],.fn 163 [.ptr 0 0,.ptr 1 0,.ptr 2 0]] ⟨[(0,some [.p x10]),(1,some [.p x11,.p x12]),(2,some [.p x13,.p x14,.p x15,.p x16,.p x17,.p x18,.p x19,.p x20,.p x21,.p x22])],[],0,0,3⟩
def eO (x0 x1 x2 x3 x4 x5 x6 x7 x8 x9 x10 x11 x12 x13 x14 x15 x16 x17 x18 x19 x20 x21 x22 x23 x24 x25 : PV) : Option R:=cU 162 3 0 (bC.mode 162) (todoOf Tryz.prog 162 2) [(1,.fn 163 [.ptr 0 0,.ptr 1 0,.ptr 2 0]),(2,.ptr 3 0),(13,.p x0),(14,.p x1),(15,.p x2)] ⟨[(0,some [.p x3]),(1,some [.p x4,.p x5]),(2,some [.p x6,.p x7,.p x8,.p x9,.p x10,.p x11,.p x12,.p x13,.p x14,.p x15]),(3,some [.p x16,.p x17,.p x18,.p x19,.p x20,.p x21,.p x22,.p x23,.p x24,.p x25])],[],0,0,4⟩
def eP (x0 x1 x2 x3 x4 x5 x6 x7 x8 x9 x10 x11 x12 x13 x14 x15 x16 x17 x18 x19 x20 x21 x22 x23 x24 x25 x26 x27 x28 : PV) : Option R:=cU 162 3 0 (bC.mode 162) (todoOf Tryz.prog 162 5) [(1,.fn 163 [.ptr 0 0,.ptr 1 0,.ptr 2 0]),(2,.ptr 3 0),(13,.p x0),(14,.p x1),(15,.p x2),(24,.ref 0 []),(25,.p x3),(26,.p x4)] ⟨[(0,some [.p x5]),(1,some [.p x6,.p x7]),(2,some [.p x8,.p x9,.p x10,.p x11,.p x12,.p x13,.p x14,.p x15,.p x16,.p x17]),(3,some [.p x18,.p x19,.p x20,.p x21,.p x22,.p x23,.p x24,.p x25,.p x26,.p x27])],[(0,some ⟨(.own 3 32 true []),x28⟩)],0,0,5⟩
def dE (x0 x1 x2 x3 x4 x5 x6 x7 x8 x9 x10 x11 x12 x13 x14 x15 x16 x17 x18 x19 x20 x21 x22 x23 x24 x25 : PV) : Option R:=cU 162 3 0 (bC.mode 162) (todoOf Tryz.prog 162 11) [(1,.fn 163 [.ptr 0 0,.ptr 1 0,.ptr 2 0]),(2,.ptr 3 0),(36,.p x0),(37,.p x1),(38,.p x2)] ⟨[(0,some [.p x3]),(1,some [.p x4,.p x5]),(2,some [.p x6,.p x7,.p x8,.p x9,.p x10,.p x11,.p x12,.p x13,.p x14,.p x15]),(3,some [.p x16,.p x17,.p x18,.p x19,.p x20,.p x21,.p x22,.p x23,.p x24,.p x25])],[],0,0,4⟩
def eF (x0 x1 x2 x3 x4 x5 x6 x7 x8 x9 x10 x11 x12 x13 x14 x15 x16 x17 x18 x19 x20 x21 x22 x23 x24 x25 x26 x27 x28 : PV) : Option R:=cU 162 3 0 (bC.mode 162) (todoOf Tryz.prog 162 14) [(1,.fn 163 [.ptr 0 0,.ptr 1 0,.ptr 2 0]),(2,.ptr 3 0),(36,.p x0),(37,.p x1),(38,.p x2),(43,.p x3),(44,.p x4),(45,.p x5)] ⟨[(0,some [.p x6]),(1,some [.p x7,.p x8]),(2,some [.p x9,.p x10,.p x11,.p x12,.p x13,.p x14,.p x15,.p x16,.p x17,.p x18]),(3,some [.p x19,.p x20,.p x21,.p x22,.p x23,.p x24,.p x25,.p x26,.p x27,.p x28])],[],0,0,4⟩
def kC (x0 x1 : PV) : Option R:=bW 219 [.p x0,.p x1] ⟨[],[],0,0,0⟩
def mG (x0 x1 : PV) : Option R:=cU 219 0 0 (bC.mode 219) (todoOf Tryz.prog 219 3) [(0,.p x0),(1,.p x1)] ⟨[],[],0,0,0⟩
def mH (x0 x1 : PV) : Option R:=cU 219 0 0 (bC.mode 219) (todoOf Tryz.prog 219 6) [(0,.p x0),(6,.p x1)] ⟨[],[],0,0,0⟩
def fA (x0 x1 : PV) : Option R:=cU 219 0 0 (bC.mode 219) (todoOf Tryz.prog 219 8) [(7,.ref 0 []),(8,.p x0)] ⟨[],[(0,some ⟨(.own 1 8 false []),x1⟩)],0,0,1⟩
def aBm (x0 x1 : PV) : Option R:=aL 259 [x0,x1]
def yI (x0 x1 : PV) : Option R:=aL 283 [x0,x1]
def aAc (x0 : PV) : Option R:=bW 86 [.p x0] ⟨[],[],0,0,0⟩
def jJ (x0 : PV) : Option R:=bW 83 [.p x0] ⟨[],[],0,0,0⟩
def mQ (x0 x1 x2 x3 x4 x5 x6 x7 x8 x9 x10 x11 x12 x13 x14 x15 x16 x17 x18 x19 x20 x21 : PV) : Option R:=cU 83 0 0 (bC.mode 83) (todoOf Tryz.prog 83 3) [(1,.ptr 0 0),(2,.ptr 1 0),(3,.ref 3 []),(4,.p x0)] ⟨[(0,some [.p x1,.p x2,.p x3,.p x4,.p x5,.p x6,.p x7,.p x8,.p x9,.p x10]),(1,some [.ref 0 [],.ref 1 [],.p x11,.ref 2 [],.p x12,.p x13,.p x14,.p x15,.p x16,.p x17])],[(0,some ⟨(.own 4 64 true [.leaf,.leaf,(.own 3 32 true []),(.own 3 32 true [])]),x18⟩),(1,some ⟨(.own 1 24 true [(.own 3 32 true [])]),x19⟩),(2,some ⟨(.own 1 16 false []),x20⟩),(3,some ⟨(.own 4 64 true [.leaf,.leaf,(.own 3 32 true []),(.own 3 32 true [])]),x21⟩)],0,0,6⟩
def dY (x0 x1 x2 x3 x4 x5 x6 x7 x8 x9 x10 x11 x12 : PV) : Option R:=bW 84 [.ptr 0 0] ⟨[(0,some [.p x0,.p x1,.ref 0 [],.ref 1 [],.p x2,.ref 2 [],.p x3,.p x4,.p x5,.p x6,.p x7,.p x8,.p x9])],[(0,some ⟨(.own 4 64 true [.leaf,.leaf,(.own 3 32 true []),(.own 3 32 true [])]),x10⟩),(1,some ⟨(.own 1 24 true [(.own 3 32 true [])]),x11⟩),(2,some ⟨(.own 1 16 false []),x12⟩)],0,0,4⟩
def sN (x0 x1 x2 x3 x4 x5 x6 x7 x8 x9 x10 x11 x12 x13 x14 : PV) : Option R:=bW 85 [.ptr 0 0,.agg [.p x0,.p x1]] ⟨[(0,some [.p x2,.p x3,.ref 0 [],.ref 1 [],.p x4,.ref 2 [],.p x5,.p x6,.p x7,.p x8,.p x9,.p x10,.p x11])],[(0,some ⟨(.own 4 64 true [.leaf,.leaf,(.own 3 32 true []),(.own 3 32 true [])]),x12⟩),(1,some ⟨(.own 1 24 true [(.own 3 32 true [])]),x13⟩),(2,some ⟨(.own 1 16 false []),x14⟩)],0,0,4⟩
def pS (x0 : PV) : Option R:=aL 135 [x0]
def fT (x0 : PV) : Option R:=aL 136 [x0]
def mW (x0 x1 x2 : PV) : Option R:=aL 138 [x0,x1,x2]
def aBP (x0 : PV) : Option R:=aL 139 [x0]
def sO (x0 x1 : PV) : Option R:=aL 141 [x0,x1]
def aBQ (x0 x1 : PV) : Option R:=aL 197 [x0,x1]
def aBn (x0 x1 x2 x3 x4 x5 x6 x7 x8 : PV) : Option R:=cU 197 0 0 (bC.mode 197) (todoOf Tryz.prog 197 2) [(2,.ptr 0 0),(3,.ptr 1 0),(4,.ptr 2 0)] ⟨[(0,some [.p x0,.p x1,.p x2]),(1,some [.p x3,.p x4,.p x5]),(2,some [.p x6,.p x7,.p x8])],[],0,0,3⟩
def aBR (x0 x1 : PV) : Option R:=aL 198 [x0,x1]
def aBS (x0 x1 : PV) : Option R:=aL 199 [x0,x1]
def aAd (x0 x1 : PV) : Option R:=aL 200 [x0,x1]
def aAe (x0 x1 x2 x3 x4 x5 x6 x7 x8 : PV) : Option R:=cU 200 0 0 (bC.mode 200) (todoOf Tryz.prog 200 2) [(2,.ptr 0 0),(3,.ptr 1 0),(4,.ptr 2 0)] ⟨[(0,some [.p x0,.p x1,.p x2]),(1,some [.p x3,.p x4,.p x5]),(2,some [.p x6,.p x7,.p x8])],[],0,0,3⟩
def oF (x0 x1 x2 x3 x4 x5 x6 x7 x8 : PV) : Option R:=cU 200 0 0 (bC.mode 200) (todoOf Tryz.prog 200 3) [(2,.ptr 0 0),(3,.ptr 1 0),(4,.ptr 2 0)] ⟨[(0,some [.p x0,.p x1,.p x2]),(1,some [.p x3,.p x4,.p x5]),(2,some [.p x6,.p x7,.p x8])],[],0,0,3⟩
def aAf (x0 x1 x2 x3 x4 x5 x6 x7 x8 : PV) : Option R:=cU 200 0 0 (bC.mode 200) (todoOf Tryz.prog 200 4) [(2,.ptr 0 0),(3,.ptr 1 0),(4,.ptr 2 0)] ⟨[(0,some [.p x0,.p x1,.p x2]),(1,some [.p x3,.p x4,.p x5]),(2,some [.p x6,.p x7,.p x8])],[],0,0,3⟩
def aAg (x0 x1 : PV) : Option R:=aL 201 [x0,x1]
def dZ (x0 : PV) : Option R:=aL 183 [x0]
def gR (x0 x1 x2 : PV) : Option R:=aL 248 [x0,x1,x2]
def vA (x0 x1 x2 : PV) : Option R:=aL 280 [x0,x1,x2]
def aOX (x0 x1 : PV) : Option R:=bW 87 [.p x0,.p x1] ⟨[],[],0,0,0⟩
def xD (x0 x1 x2 : PV) : Option R:=aL 164 [x0,x1,x2]
def vB (x0 x1 x2 : PV) : Option R:=bW 92 [.ref 0 [(x0,2)],.p x1] ⟨[],[(0,some ⟨(.own 3 40 true [.leaf,.leaf,(.own 2 16 true [])]),x2⟩)],0,0,1⟩
def lN (x0 x1 x2 x3 : PV) : Option R:=cU 92 0 1 ((bC.mode 92).map (Tmpl.fitK · [some (.own 3 40 true [.leaf,.leaf,(.own 2 16 true [])])])) (todoOf Tryz.prog 92 2) [(0,.ref 0 [(x0,2)]),(1,.p x1),(5,.p x2)] ⟨[],[(0,some ⟨(.own 3 40 true [.leaf,.leaf,(.own 2 16 true [])]),x3⟩)],0,0,1⟩
def mX (x0 x1 x2 : PV) : Option R:=bW 17 [.ref 0 [(x0,2)],.p x1] ⟨[],[(0,some ⟨(.own 4 64 true [.leaf,.leaf,(.own 3 32 true []),(.own 3 32 true [])]),x2⟩)],0,0,1⟩
def gZ (x0 x1 x2 x3 : PV) : Option R:=cU 17 0 1 ((bC.mode 17).map (Tmpl.fitK · [some (.own 4 64 true [.leaf,.leaf,(.own 3 32 true []),(.own 3 32 true [])])])) (todoOf Tryz.prog 17 2) [(0,.ref 0 [(x0,2)]),(1,.p x1),(5,.p x2)] ⟨[],[(0,some ⟨(.own 4 64 true [.leaf,.leaf,(.own 3 32 true []),(.own 3 32 true [])]),x3⟩)],0,0,1⟩
def mY (x0 x1 x2 : PV) : Option R:=bW 17 [.ref 0 [(x0,3)],.p x1] ⟨[],[(0,some ⟨(.own 4 64 true [.leaf,.leaf,(.own 3 32 true []),(.own 3 32 true [])]),x2⟩)],0,0,1⟩
def hH (x0 x1 x2 x3 : PV) : Option R:=cU 17 0 1 ((bC.mode 17).map (Tmpl.fitK · [some (.own 4 64 true [.leaf,.leaf,(.own 3 32 true []),(.own 3 32 true [])])])) (todoOf Tryz.prog 17 2) [(0,.ref 0 [(x0,3)]),(1,.p x1),(5,.p x2)] ⟨[],[(0,some ⟨(.own 4 64 true [.leaf,.leaf,(.own 3 32 true []),(.own 3 32 true [])]),x3⟩)],0,0,1⟩
def mZ (x0 x1 x2 : PV) : Option R:=bW 17 [.ref 0 [(x0,0)],.p x1] ⟨[],[(0,some ⟨(.own 1 24 true [(.own 3 32 true [])]),x2⟩)],0,0,1⟩
def hJ (x0 x1 x2 x3 : PV) : Option R:=cU 17 0 1 ((bC.mode 17).map (Tmpl.fitK · [some (.own 1 24 true [(.own 3 32 true [])])])) (todoOf Tryz.prog 17 2) [(0,.ref 0 [(x0,0)]),(1,.p x1),(5,.p x2)] ⟨[],[(0,some ⟨(.own 1 24 true [(.own 3 32 true [])]),x3⟩)],0,0,1⟩
def xE (x0 : PV) : Option R:=bW 105 [.p x0] ⟨[],[],0,0,0⟩
def aBT (x0 : PV) : Option R:=bW 106 [.p x0] ⟨[],[],0,0,0⟩
def qL (x0 : PV) : Option R:=bW 110 [.p x0] ⟨[],[],0,0,0⟩
def jK (x0 x1 x2 x3 : PV) : Option R:=cU 110 0 0 (bC.mode 110) (todoOf Tryz.prog 110 3) [(3,.ref 0 []),(7,.p x0),(8,.p x1),(9,.p x2)] ⟨[],[(0,some ⟨(.own 4 64 true [.leaf,.leaf,(.own 3 32 true []),(.own 3 32 true [])]),x3⟩)],0,0,1⟩
def vC (x0 : PV) : Option R:=bW 111 [.p x0] ⟨[],[],0,0,0⟩
def lO (x0 x1 x2 x3 : PV) : Option R:=cU 111 0 0 (bC.mode 111) (todoOf Tryz.prog 111 3) [(3,.ref 0 []),(7,.p x0),(8,.p x1),(9,.p x2)] ⟨[],[(0,some ⟨(.own 1 24 true [(.own 3 32 true [])]),x3⟩)],0,0,1⟩
def gI (x0 : PV) : Option R:=bW 112 [.p x0] ⟨[],[],0,0,0⟩
def aBU (x0 x1 x2 x3 x4 x5 x6 x7 x8 x9 x10 x11 : PV) : Option R:=bW 113 [.ptr 0 0,.agg [.p x0,.p x1]] ⟨[(0,some [.ref 0 [],.ref 1 [],.p x2,.ref 2 [],.p x3,.p x4,.p x5,.p x6,.p x7,.p x8])],[(0,some ⟨(.own 4 64 true [.leaf,.leaf,(.own 3 32 true []),(.own 3 32 true [])]),x9⟩),(1,some ⟨(.own 1 24 true [(.own 3 32 true [])]),x10⟩),(2,some ⟨(.own 1 16 false []),x11⟩)],0,0,4⟩
def iZ (x0 x1 x2 x3 x4 x5 x6 x7 x8 x9 x10 x11 x12 x13 x14 x15 x16 : PV) : Option R:=cU 113 1 0 (bC.mode 113) (todoOf Tryz.prog 113 74) [(0,.ptr 0 0),(3,.ptr 1 0),(5,.eptr 0 [] x0 0),(9,.p x1),(10,.ref 3 []),(12,.p x2),(21,.p x3)] ⟨[(0,some [.ref 0 [],.ref 1 [],.p x4,.ref 2 [],.p x5,.p x6,.p x7,.p x8,.p x9,.p x10]),(1,some [.p x11,.p x12])],[(0,some ⟨(.own 4 64 true [.leaf,.leaf,(.own 3 32 true []),(.own 3 32 true [])]),x13⟩),(1,some ⟨(.own 1 24 true [(.own 3 32 true [])]),x14⟩),(2,some ⟨(.own 1 16 false []),x15⟩),(3,some ⟨(.own 3 32 true []),x16⟩)],0,0,6⟩
def xF (x0 : PV) : Option R:=aL 169 [x0]
def kV (x0 : PV) : Option R:=aL 170 [x0]
def gS (x0 : PV) : Option R:=aL 171 [x0]
def aAh (x0 x1 : PV) : Option R:=aL 172 [x0,x1]
def aBV (x0 : PV) : Option R:=aL 173 [x0]
def sP (x0 x1 : PV) : Option R:=aL 177 [x0,x1]
def aBW (x0 x1 : PV) : Option R:=aL 220 [x0,x1]
def aBX (x0 x1 : PV) : Option R:=aL 221 [x0,x1]
def aBY (x0 x1 : PV) : Option R:=aL 222 [x0,x1]
def aAi (x0 x1 : PV) : Option R:=aL 223 [x0,x1]
def strconv_Itoa (x0 : PV) : Option R:=aL 224 [x0]
def nB (x0 : PV) : Option R:=aL 225 [x0]
def rY (x0 x1 x2 : PV) : Option R:=aL 150 [x0,x1,x2]
def oG (x0 x1 x2 : PV) : Option R:=aL 260 [x0,x1,x2]
def xG (x0 x1 : PV) : Option R:=aL 261 [x0,x1]
def xH (x0 x1 : PV) : Option R:=aL 262 [x0,x1]
def xI (x0 x1 : PV) : Option R:=aL 263 [x0,x1]
def qM (x0 x1 : PV) : Option R:=aL 264 [x0,x1]
def kJ (x0 : PV) : Option R:=aL 266 [x0]
def lP (x0 : PV) : Option R:=aL 284 [x0]
def dA (x0 : PV) : Option R:=bW 205 [.p x0] ⟨[],[],0,0,0⟩
def bR (x0 x1 x2 x3 x4 : PV) : Option R:=cU 205 0 0 (bC.mode 205) (todoOf Tryz.prog 205 3) [(0,.p x0),(3,.p x1),(9,.p x2),(10,.p x3),(11,.p x4)] ⟨[],[],0,0,0⟩
def bP (x0 x1 x2 x3 : PV) : Option R:=cU 205 0 0 (bC.mode 205) (todoOf Tryz.prog 205 11) [(6,.ref 0 []),(25,.p x0),(26,.p x1),(27,.p x2)] ⟨[],[(0,some ⟨(.own 3 32 true []),x3⟩)],0,0,1⟩
def nI (x0 x1 x2 x3 x4 x5 x6 x7 x8 x9 x10 x11 x12 x13 x14 x15 : PV) : Option R:=bW 163 [.agg [.p x0,.p x1,.p x2],.ptr 0 0,.ptr 1 0,.ptr 2 0] ⟨[(0,some [.p x3]),(1,some [.p x4,.p x5]),(2,some [.p x6,.p x7,.p x8,.p x9,.p x10,.p x11,.p x12,.p x13,.p x14,.p x15])],[],0,0,3⟩
def aAj (x0 : PV) : Option R:=bW 142 [.p x0] ⟨[],[],0,0,0⟩
def oH (x0 x1 x2 : PV) : Option R:=cU 142 0 0 (bC.mode 142) (todoOf Tryz.prog 142 3) [(0,.p x0),(3,.ref 0 []),(4,.p x1)] ⟨[],[(0,some ⟨(.own 2 16 true []),x2⟩)],0,0,1⟩
def aBZ (x0 : PV) : Option R:=aL 202 [x0]
def oI (x0 : PV) : Option R:=bW 132 [.p x0] ⟨[],[],0,0,0⟩
def pF (x0 : PV) : Option R:=bW 133 [.p x0] ⟨[],[],0,0,0⟩
def iK (x0 x1 x2 : PV) : Option R:=cU 133 0 0 (bC.mode 133) (todoOf Tryz.prog 133 3) [(0,.p x0),(3,.ref 0 []),(4,.p x1)] ⟨[],[(0,some ⟨(.own 1 24 true [(.own 3 32 true [])]),x2⟩)],0,0,1⟩
def gC (x0 x1 x2 x3 x4 x5 x6 x7 x8 x9 x10 x11 x12 x13 : PV) : Option R:=bW 134 [.ptr 0 0,.p x0] ⟨[(0,some [.p x1,.p x2,.ref 0 [],.ref 1 [],.p x3,.ref 2 [],.p x4,.p x5,.p x6,.p x7,.p x8,.p x9,.p x10])],[(0,some ⟨(.own 4 64 true [.leaf,.leaf,(.own 3 32 true []),(.own 3 32 true [])]),x11⟩),(1,some ⟨(.own 1 24 true [(.own 3 32 true [])]),x12⟩),(2,some ⟨(.own 1 16 false []),x13⟩)],0,0,4⟩
def bI (x0 x1 x2 x3 x4 x5 x6 x7 x8 x9 x10 x11 x12 x13 x14 x15 : PV) : Option R:=bW 134 [.ptr 0 0,.agg [.p x0,.p x1,.p x2]] ⟨[(0,some [.p x3,.p x4,.ref 0 [],.ref 1 [],.p x5,.ref 2 [],.p x6,.p x7,.p x8,.p x9,.p x10,.p x11,.p x12])],[(0,some ⟨(.own 4 64 true [.leaf,.leaf,(.own 3 32 true []),(.own 3 32 true [])]),x13⟩),(1,some ⟨(.own 1 24 true [(.own 3 32 true [])]),x14⟩),(2,some ⟨(.own 1 16 false []),x15⟩)],0,0,4⟩
def aV (x0 x1 x2 x3 x4 x5 x6 x7 x8 x9 x10 x11 x12 : PV) : Option R:=bW 137 [.ptr 0 0] ⟨[(0,some [.p x0,.p x1,.ref 0 [],.ref 1 [],.p x2,.ref 2 [],.p x3,.p x4,.p x5,.p x6,.p x7,.p x8,.p x9])],[(0,some ⟨(.own 4 64 true [.leaf,.leaf,(.own 3 32 true []),(.own 3 32 true [])]),x10⟩),(1,some ⟨(.own 1 24 true [(.own 3 32 true [])]),x11⟩),(2,some ⟨(.own 1 16 false []),x12⟩)],0,0,4⟩
def lQ (x0 x1 x2 x3 x4 x5 x6 x7 x8 x9 x10 x11 x12 x13 x14 : PV) : Option R:=bW 140 [.ptr 0 0,.p x0,.p x1] ⟨[(0,some [.p x2,.p x3,.ref 0 [],.ref 1 [],.p x4,.ref 2 [],.p x5,.p x6,.p x7,.p x8,.p x9,.p x10,.p x11])],[(0,some ⟨(.own 4 64 true [.leaf,.leaf,(.own 3 32 true []),(.own 3 32 true [])]),x12⟩),(1,some ⟨(.own 1 24 true [(.own 3 32 true [])]),x13⟩),(2,some ⟨(.own 1 16 false []),x14⟩)],0,0,4⟩
def iL (x0 x1 x2 x3 x4 x5 x6 x7 x8 x9 x10 x11 x12 x13 x14 x15 x16 : PV) : Option R:=cU 140 1 0 (bC.mode 140) (todoOf Tryz.prog 140 5) [(0,.ptr 0 0),(1,.p x0),(2,.p x1),(7,.ref 3 []),(8,.p x2)] ⟨[(0,some [.p x3,.p x4,.ref 0 [],.ref 1 [],.p x5,.ref 2 [],.p x6,.p x7,.p x8,.p x9,.p x10,.p x11,.p x12])],[(0,some ⟨(.own 4 64 true [.leaf,.leaf,(.own 3 32 true []),(.own 3 32 true [])]),x13⟩),(1,some ⟨(.own 1 24 true [(.own 3 32 true [])]),x14⟩),(2,some ⟨(.own 1 16 false []),x15⟩),(3,some ⟨(.own 3 32 true []),x16⟩)],0,0,5⟩
def hU (x0 x1 x2 x3 x4 x5 x6 x7 x8 x9 x10 x11 x12 x13 x14 : PV) : Option R:=cU 140 1 0 (bC.mode 140) (todoOf Tryz.prog 140 10) [(0,.ptr 0 0),(1,.p x0),(7,.ref 3 [])] ⟨[(0,some [.p x1,.p x2,.ref 0 [],.ref 1 [],.p x3,.ref 2 [],.p x4,.p x5,.p x6,.p x7,.p x8,.p x9,.p x10])],[(0,some ⟨(.own 4 64 true [.leaf,.leaf,(.own 3 32 true []),(.own 3 32 true [])]),x11⟩),(1,some ⟨(.own 1 24 true [(.own 3 32 true [])]),x12⟩),(2,some ⟨(.own 1 16 false []),x13⟩),(3,some ⟨(.own 3 32 true []),x14⟩)],0,0,5⟩
def xJ (x0 x1 x2 : PV) : Option R:=bW 144 [.p x0,.p x1,.p x2] ⟨[],[],0,0,0⟩
def bX (x0 : PV) : Option R:=bW 167 [.p x0] ⟨[],[],0,0,0⟩
def aAN (x0 : PV) : Option R:=bW 174 [.p x0] ⟨[],[],0,0,0⟩
def pQ (x0 x1 x2 x3 x4 x5 x6 x7 x8 x9 x10 x11 : PV) : Option R:=bW 175 [.ptr 0 0,.p x0,.p x1] ⟨[(0,some [.ref 0 [],.ref 1 [],.p x2,.ref 2 [],.p x3,.p x4,.p x5,.p x6,.p x7,.p x8])],[(0,some ⟨(.own 4 64 true [.leaf,.leaf,(.own 3 32 true []),(.own 3 32 true [])]),x9⟩),(1,some ⟨(.own 1 24 true [(.own 3 32 true [])]),x10⟩),(2,some ⟨(.own 1 16 false []),x11⟩)],0,0,4⟩
def sQ (x0 x1 x2 x3 x4 x5 x6 x7 x8 x9 x10 : PV) : Option R:=bW 176 [.ptr 0 0,.p x0] ⟨[(0,some [.ref 0 [],.ref 1 [],.p x1,.ref 2 [],.p x2,.p x3,.p x4,.p x5,.p x6,.p x7])],[(0,some ⟨(.own 4 64 true [.leaf,.leaf,(.own 3 32 true []),(.own 3 32 true [])]),x8⟩),(1,some ⟨(.own 1 24 true [(.own 3 32 true [])]),x9⟩),(2,some ⟨(.own 1 16 false []),x10⟩)],0,0,4⟩
def eL (x0 : PV) : Option R:=bW 250 [.nils,.p x0] ⟨[],[],0,0,0⟩
theorem aA5 (x0 x1 : PV) : pB x0 x1=bd (PV.whole 2 x0) fun v0=>bd (PV.cell v0 0) fun v1=>bd (PV.cell v0 1) fun v2=>bd (PV.whole 10 x1) fun v3=>bd (PV.cell v3 0) fun v4=>bd (PV.cell v3 1) fun v5=>bd (PV.cell v3 2) fun v6=>bd (PV.cell v3 3) fun v7=>bd (PV.cell v3 4) fun v8=>bd (PV.cell v3 5) fun v9=>bd (PV.cell v3 6) fun v10=>bd (PV.cell v3 7) fun v11=>
 bd (PV.cell v3 8) fun v12=>bd (PV.cell v3 9) fun v13=>bd (uR (.agg [v1,v2]) (.int .i64 1048576)) fun r14=>bd (PV.bin .lss (hd r14) (.int .i64 0)) fun v15=>PV.ite v15 (some [.bool true]) (bd (aDC (.agg [v4,v5,v6,v7,v8,v9,v10,v11,v12,v13]) (hd r14)) fun r16=>bd (PV.bin .lss (hd r16) (.int .i64 0)) fun v17=>PV.ite v17 (some [.bool true]) (bd (fW (.agg [v1,v2])) fun r18=>
 PV.guardOwn (.own 1 16 false []) (gd r18 0) (PV.guardOwn (.own 3 40 true [.leaf,.leaf,(.own 2 16 true [])]) (gd r18 1) (bd (pE (.agg [v4,v5,v6,v7,v8,v9,v10,v11,v12,v13])) fun r19=>PV.guardFlat (gd r19 0) (PV.guardFlat (gd r19 1) (PV.guardFlat (gd r19 2) (PV.guardFlat (gd r19 3) (PV.guardFlat (gd r19 4) (PV.guardFlat (gd r19 5) (PV.guardFlat (gd r19 6) (PV.guardOwn (.own 4 64 true [.leaf,.leaf,(.own 3 32 true []),(.own 3 32 true [])]) (gd r19 7) (
 PV.guardOwn (.own 1 24 true [(.own 3 32 true [])]) (gd r19 8) (PV.guardOwn (.own 1 16 false []) (gd r19 9) (bd (aAM (.agg [(gd r18 0),(gd r18 1)]) (.agg [(gd r19 7),(gd r19 8),(gd r19 0),(gd r19 9),(gd r19 1),(gd r19 2),(gd r19 3),(gd r19 4),(gd r19 5),(gd r19 6)])) fun r20=>PV.guardFlat (gd r20 0) (PV.guardFlat (gd r20 1) (PV.guardFlat (gd r20 2) (PV.guardFlat (gd r20 3) (PV.guardFlat (gd r20 4) (
 PV.guardFlat (gd r20 5) (PV.guardFlat (gd r20 6) (PV.guardOwn (.own 4 64 true [.leaf,.leaf,(.own 3 32 true []),(.own 3 32 true [])]) (gd r20 7) (PV.guardOwn (.own 1 24 true [(.own 3 32 true [])]) (gd r20 8) (PV.guardOwn (.own 1 16 false []) (gd r20 9) (bd (fW (.agg [v1,v2])) fun r21=>PV.guardOwn (.own 1 16 false []) (gd r21 0) (PV.guardOwn (.own 3 40 true [.leaf,.leaf,(.own 2 16 true [])]) (gd r21 1) (
 bd (pE (.agg [v4,v5,v6,v7,v8,v9,v10,v11,v12,v13])) fun r22=>PV.guardFlat (gd r22 0) (PV.guardFlat (gd r22 1) (PV.guardFlat (gd r22 2) (PV.guardFlat (gd r22 3) (PV.guardFlat (gd r22 4) (PV.guardFlat (gd r22 5) (PV.guardFlat (gd r22 6) (PV.guardOwn (.own 4 64 true [.leaf,.leaf,(.own 3 32 true []),(.own 3 32 true [])]) (gd r22 7) (PV.guardOwn (.own 1 24 true [(.own 3 32 true [])]) (gd r22 8) (
 PV.guardOwn (.own 1 16 false []) (gd r22 9) (bd (vS (.agg [(gd r21 0),(gd r21 1)]) (.agg [(gd r22 7),(gd r22 8),(gd r22 0),(gd r22 9),(gd r22 1),(gd r22 2),(gd r22 3),(gd r22 4),(gd r22 5),(gd r22 6)])) fun r23=>PV.guardFlat (gd r23 0) (PV.guardFlat (gd r23 1) (PV.guardFlat (gd r23 2) (PV.guardFlat (gd r23 3) (PV.guardFlat (gd r23 4) (PV.guardFlat (gd r23 5) (PV.guardFlat (gd r23 6) (
 PV.guardOwn (.own 4 64 true [.leaf,.leaf,(.own 3 32 true []),(.own 3 32 true [])]) (gd r23 7) (PV.guardOwn (.own 1 24 true [(.own 3 32 true [])]) (gd r23 8) (PV.guardOwn (.own 1 16 false []) (gd r23 9) (bd (pC (.agg [(gd r23 7),(gd r23 8),(gd r23 0),(gd r23 9),(gd r23 1),(gd r23 2),(gd r23 3),(gd r23 4),(gd r23 5),(gd r23 6)]) (.agg [(gd r20 7),(gd r20 8),(gd r20 0),(gd r20 9),(gd r20 1),(gd r20 2),(gd r20 3),(gd r20 4),(gd r20 5),(gd r20 6)])) fun r24=>
 PV.guardFlat (hd r24) (bd (PV.not (hd r24)) fun v25=>PV.ite v25 (some [.bool false]) (bd (fW (.agg [v1,v2])) fun r26=>PV.guardOwn (.own 1 16 false []) (gd r26 0) (PV.guardOwn (.own 3 40 true [.leaf,.leaf,(.own 2 16 true [])]) (gd r26 1) (bd (pP (.agg [(gd r21 0),(gd r21 1)]) (.agg [(gd r26 0),(gd r26 1)])) fun r27=>PV.guardFlat (hd r27) (bd (PV.not (hd r27)) fun v28=>
 PV.ite v28 (some [.bool false]) (bd (pE (.agg [v4,v5,v6,v7,v8,v9,v10,v11,v12,v13])) fun r29=>PV.guardFlat (gd r29 0) (PV.guardFlat (gd r29 1) (PV.guardFlat (gd r29 2) (PV.guardFlat (gd r29 3) (PV.guardFlat (gd r29 4) (PV.guardFlat (gd r29 5) (PV.guardFlat (gd r29 6) (PV.guardOwn (.own 4 64 true [.leaf,.leaf,(.own 3 32 true []),(.own 3 32 true [])]) (gd r29 7) (PV.guardOwn (.own 1 24 true [(.own 3 32 true [])]) (gd r29 8) (
 PV.guardOwn (.own 1 16 false []) (gd r29 9) (bd (pC (.agg [(gd r22 7),(gd r22 8),(gd r22 0),(gd r22 9),(gd r22 1),(gd r22 2),(gd r22 3),(gd r22 4),(gd r22 5),(gd r22 6)]) (.agg [(gd r29 7),(gd r29 8),(gd r29 0),(gd r29 9),(gd r29 1),(gd r29 2),(gd r29 3),(gd r29 4),(gd r29 5),(gd r29 6)])) fun r30=>PV.guardFlat (hd r30) (bd (PV.not (hd r30)) fun v31=>PV.ite v31 (some [.bool false])
 (bd (qJ (.int .i64 1) (gd r21 0) (gd r21 1)) fun r32=>bd (tS (gd r22 0) (gd r22 1) (gd r22 2) (gd r22 3) (gd r22 4) (gd r22 5) (gd r22 6) (gd r32 0) (gd r22 7) (gd r22 8) (gd r22 9)) fun r33=>bd (PV.bin .lss (gd r33 0) (.int .i64 0)) fun v34=>PV.ite v34 (some [.bool false]) (bd (pC (.agg [(gd r23 7),(gd r23 8),(gd r23 0),(gd r23 9),(gd r23 1),(gd r23 2),(gd r23 3),(gd r23 4),(gd r23 5),(gd r23 6)]) (.agg [(gd r20 7),(gd r20 8),(gd r20 0),(gd r20 9),(gd r20 1),(gd r20 2),(gd r20 3),(gd r20 4),(gd r20 5),(gd r20 6)])) fun r35=>
 PV.guardFlat (hd r35) (bd (PV.not (hd r35)) fun v36=>PV.ite v36 (some [.bool false]) (bd (tS (gd r23 0) (gd r23 1) (gd r23 2) (gd r23 3) (gd r23 4) (gd r23 5) (gd r23 6) (.int .i64 1) (gd r23 7) (gd r23 8) (gd r23 9)) fun r37=>bd (tR (.agg [(gd r37 1),(gd r37 2),(gd r23 0),(gd r37 3),(gd r23 1),(gd r23 2),(gd r23 3),(gd r23 4),(gd r23 5),(gd r23 6)]) (.int .i64 1)) fun r38=>
 PV.guardFlat (hd r38) (bd (PV.bin .lss (hd r38) (.int .i64 0)) fun v39=>PV.ite v39 (some [.bool false]) (bd (PV.bin .neq (hd r38) (gd r37 0)) fun v40=>PV.ite v40 (some [.bool false]) (bd (fW (.agg [v1,v2])) fun r41=>PV.guardOwn (.own 1 16 false []) (gd r41 0) (PV.guardOwn (.own 3 40 true [.leaf,.leaf,(.own 2 16 true [])]) (gd r41 1) (bd (pE (.agg [v4,v5,v6,v7,v8,v9,v10,v11,v12,v13])) fun r42=>
 PV.guardFlat (gd r42 0) (PV.guardFlat (gd r42 1) (PV.guardFlat (gd r42 2) (PV.guardFlat (gd r42 3) (PV.guardFlat (gd r42 4) (PV.guardFlat (gd r42 5) (PV.guardFlat (gd r42 6) (PV.guardOwn (.own 4 64 true [.leaf,.leaf,(.own 3 32 true []),(.own 3 32 true [])]) (gd r42 7) (PV.guardOwn (.own 1 24 true [(.own 3 32 true [])]) (gd r42 8) (PV.guardOwn (.own 1 16 false []) (gd r42 9) (bd (vS (.agg [(gd r41 0),(gd r41 1)]) (.agg [(gd r42 7),(gd r42 8),(gd r42 0),(gd r42 9),(gd r42 1),(gd r42 2),(gd r42 3),(gd r42 4),(gd r42 5),(gd r42 6)])) fun r43=>
 PV.guardFlat (gd r43 0) (PV.guardFlat (gd r43 1) (PV.guardFlat (gd r43 2) (PV.guardFlat (gd r43 3) (PV.guardFlat (gd r43 4) (PV.guardFlat (gd r43 5) (PV.guardFlat (gd r43 6) (PV.guardOwn (.own 4 64 true [.leaf,.leaf,(.own 3 32 true []),(.own 3 32 true [])]) (gd r43 7) (PV.guardOwn (.own 1 24 true [(.own 3 32 true [])]) (gd r43 8) (PV.guardOwn (.own 1 16 false []) (gd r43 9) (bd (pC (.agg [(gd r43 7),(gd r43 8),(gd r43 0),(gd r43 9),(gd r43 1),(gd r43 2),(gd r43 3),(gd r43 4),(gd r43 5),(gd r43 6)]) (.agg [(gd r20 7),(gd r20 8),(gd r20 0),(gd r20 9),(gd r20 1),(gd r20 2),(gd r20 3),(gd r20 4),(gd r20 5),(gd r20 6)])) fun r44=>
 PV.guardFlat (hd r44) (bd (PV.not (hd r44)) fun v45=>PV.ite v45 (some [.bool false]) (bd (tR (.agg [(gd r37 1),(gd r37 2),(gd r23 0),(gd r37 3),(gd r23 1),(gd r23 2),(gd r23 3),(gd r23 4),(gd r23 5),(gd r23 6)]) (.int .i64 1)) fun r46=>PV.guardFlat (hd r46) (bd (PV.bin .lss (hd r46) (.int .i64 0)) fun v47=>PV.ite v47 (some [.bool false]) (bd (PV.bin .neq (hd r46) (gd r37 0)) fun v48=>
 PV.ite v48 (some [.bool false]) (some [.bool true]))))))))))))))))))))))))))))))))))))))))))))))))))))))))))))))))))))))))))))))))))))))))))))))))):=aK _ _ _ (by kernel_rfl)
theorem aDD (x0 x1 : PV) : uR x0 x1=bd (PV.whole 2 x0) fun v0=>bd (PV.cell v0 0) fun v1=>bd (PV.cell v0 1) fun v2=>bd (nY v1 x1) fun r3=>bd (PV.bin .lss (hd r3) (.int .i64 0)) fun v4=>PV.ite v4 (some [(.int .i64 (-1))]) (bd (wS v2 (hd r3)) fun r5=>bd (PV.bin .lss (hd r5) (.int .i64 0)) fun v6=>PV.ite v6 (some [(.int .i64 (-1))]) (some [(hd r5)])):=aK _ _ _ (by kernel_rfl)
theorem aDE (x0 x1 : PV) : mB x0 x1=bd (PV.len x0) fun v0=>bd (PV.bin .sub x1 v0) fun v1=>bd (PV.bin .lss v1 (.int .i64 0)) fun v2=>PV.ite v2 (some [(.int .i64 (-1))]) (iQ x0 v1 (.int .i64 0)):=aK _ _ _ (by kernel_rfl)
theorem qR (x0 x1 x2 : PV) : iQ x0 x1 x2=bd (PV.len x0) fun v0=>bd (PV.bin .lss x2 v0) fun v1=>PV.ite v1 (bd (PV.at_ 3 true x0 x2) fun v2=>bd (rH v2 x1) fun r3=>bd (PV.bin .lss (hd r3) (.int .i64 0)) fun v4=>PV.ite v4 (some [(.int .i64 (-1))]) (bd (PV.bin .add x2 (.int .i64 1)) fun v5=>iQ x0 (hd r3) v5)) (some [x1]):=aY _ _ _ _ _ _ _ _ (by kernel_rfl)
theorem aIt (x0 x1 : PV) : pC x0 x1=bd (PV.whole 10 x0) fun v0=>bd (PV.cell v0 0) fun v1=>bd (PV.cell v0 1) fun v2=>bd (PV.cell v0 2) fun v3=>bd (PV.cell v0 3) fun v4=>bd (PV.cell v0 4) fun v5=>bd (PV.cell v0 5) fun v6=>bd (PV.cell v0 6) fun v7=>bd (PV.cell v0 7) fun v8=>bd (PV.cell v0 8) fun v9=>bd (PV.cell v0 9) fun v10=>bd (PV.whole 10 x1) fun v11=>bd (PV.cell v11 0) fun v12=>
 bd (PV.cell v11 1) fun v13=>bd (PV.cell v11 2) fun v14=>bd (PV.cell v11 3) fun v15=>bd (PV.cell v11 4) fun v16=>bd (PV.cell v11 5) fun v17=>bd (PV.cell v11 6) fun v18=>bd (PV.cell v11 7) fun v19=>bd (PV.cell v11 8) fun v20=>bd (PV.cell v11 9) fun v21=>bd (uS v1 v12) fun r22=>bd (PV.not (hd r22)) fun v23=>PV.ite v23 (some [.bool false]) (bd (zR v2 v13) fun r24=>
 bd (PV.not (hd r24)) fun v25=>PV.ite v25 (some [.bool false]) (bd (PV.bin .neq v3 v14) fun v26=>PV.ite v26 (some [.bool false]) (bd (oA v4 v15) fun r27=>bd (PV.not (hd r27)) fun v28=>PV.ite v28 (some [.bool false]) (bd (PV.bin .neq v5 v16) fun v29=>PV.ite v29 (some [.bool false]) (bd (PV.bin .neq v6 v17) fun v30=>PV.ite v30 (some [.bool false]) (bd (rI (.agg [v7,v8,v9]) (.agg [v18,v19,v20])) fun r31=>
 bd (PV.not (hd r31)) fun v32=>PV.ite v32 (some [.bool false]) (bd (PV.bin .neq v10 v21) fun v33=>PV.ite v33 (some [.bool false]) (some [.bool true])))))))):=aK _ _ _ (by kernel_rfl)
theorem aDF (x0 x1 : PV) : pP x0 x1=bd (PV.whole 2 x0) fun v0=>bd (PV.cell v0 0) fun v1=>bd (PV.cell v0 1) fun v2=>bd (PV.whole 2 x1) fun v3=>bd (PV.cell v3 0) fun v4=>bd (PV.cell v3 1) fun v5=>bd (oA v1 v4) fun r6=>bd (PV.not (hd r6)) fun v7=>PV.ite v7 (some [.bool false]) (bd (wU v2 v5) fun r8=>bd (PV.not (hd r8)) fun v9=>PV.ite v9
 (some [.bool false]) (some [.bool true])):=aK _ _ _ (by kernel_rfl)
theorem aDG (x0 x1 : PV) : mC x0 x1=bd (PV.len x0) fun v0=>bd (PV.len x1) fun v1=>bd (PV.bin .neq v0 v1) fun v2=>PV.ite v2 (some [.bool false]) (lD x0 x1 (.int .i64 0)):=aK _ _ _ (by kernel_rfl)
theorem qS (x0 x1 x2 : PV) : lD x0 x1 x2=bd (PV.len x0) fun v0=>bd (PV.bin .lss x2 v0) fun v1=>PV.ite v1 (bd (PV.at_ 3 true x0 x2) fun v2=>bd (PV.at_ 3 true x1 x2) fun v3=>bd (rI v2 v3) fun r4=>bd (PV.not (hd r4)) fun v5=>PV.ite v5 (some [.bool false]) (bd (PV.bin .add x2 (.int .i64 1)) fun v6=>lD x0 x1 v6)) (some [.bool true]):=aY _ _ _ _ _ _ _ _ (by kernel_rfl)
theorem aF7 (x0 x1 : PV) : tR x0 x1=bd (PV.whole 10 x0) fun v0=>bd (PV.cell v0 0) fun v1=>bd (PV.cell v0 1) fun v2=>bd (PV.cell v0 2) fun v3=>bd (PV.cell v0 3) fun v4=>bd (PV.cell v0 4) fun v5=>bd (PV.cell v0 5) fun v6=>bd (PV.cell v0 6) fun v7=>bd (PV.cell v0 7) fun v8=>bd (PV.cell v0 8) fun v9=>bd (PV.cell v0 9) fun v10=>bd (qI v1 x1) fun r11=>
 bd (PV.bin .lss (hd r11) (.int .i64 0)) fun v12=>PV.ite v12 (some [(.int .i64 (-1))]) (bd (uT v2 (hd r11)) fun r13=>bd (PV.bin .lss (hd r13) (.int .i64 0)) fun v14=>PV.ite v14 (some [(.int .i64 (-1))]) (bd (pD v4 (hd r13)) fun r15=>bd (PV.bin .lss (hd r15) (.int .i64 0)) fun v16=>PV.ite v16 (some [(.int .i64 (-1))]) (some [(hd r15)]))):=aK _ _ _ (by kernel_rfl)
theorem aIu (x0 x1 : PV) : aDC x0 x1=bd (PV.whole 10 x0) fun v0=>bd (PV.cell v0 0) fun v1=>bd (PV.cell v0 1) fun v2=>bd (PV.cell v0 2) fun v3=>bd (PV.cell v0 3) fun v4=>bd (PV.cell v0 4) fun v5=>bd (PV.cell v0 5) fun v6=>bd (PV.cell v0 6) fun v7=>bd (PV.cell v0 7) fun v8=>bd (PV.cell v0 8) fun v9=>bd (PV.cell v0 9) fun v10=>bd (uU v1 x1) fun r11=>
 bd (PV.bin .lss (hd r11) (.int .i64 0)) fun v12=>PV.ite v12 (some [(.int .i64 (-1))]) (bd (zS v2 (hd r11)) fun r13=>bd (PV.bin .lss (hd r13) (.int .i64 0)) fun v14=>PV.ite v14 (some [(.int .i64 (-1))]) (bd (nY v4 (hd r13)) fun r15=>bd (PV.bin .lss (hd r15) (.int .i64 0)) fun v16=>PV.ite v16 (some [(.int .i64 (-1))]) (bd (rH (.agg [v7,v8,v9]) (hd r15)) fun r17=>
 bd (PV.bin .lss (hd r17) (.int .i64 0)) fun v18=>PV.ite v18 (some [(.int .i64 (-1))]) (some [(hd r17)])))):=aK _ _ _ (by kernel_rfl)
theorem aCK (x0 x1 : PV) : nY x0 x1=bd (PV.len x0) fun v0=>bd (PV.bin .sub x1 v0) fun v1=>bd (PV.bin .lss v1 (.int .i64 0)) fun v2=>PV.ite v2 (some [(.int .i64 (-1))]) (gV x0 v1 (.int .i64 0)):=aK _ _ _ (by kernel_rfl)
theorem pT (x0 x1 x2 : PV) : gV x0 x1 x2=bd (PV.len x0) fun v0=>bd (PV.bin .lss x2 v0) fun v1=>PV.ite v1 (bd (PV.at_ 1 false x0 x2) fun v2=>bd (PV.slen v2) fun v3=>bd (PV.bin .sub x1 v3) fun v4=>bd (PV.bin .lss v4 (.int .i64 0)) fun v5=>PV.ite v5 (some [(.int .i64 (-1))]) (bd (PV.bin .add x2 (.int .i64 1)) fun v6=>gV x0 v4 v6)) (some [x1]):=aY _ _ _ _ _ _ _ _ (by kernel_rfl)
theorem aEH (x0 x1 : PV) : wS x0 x1=bd (PV.len x0) fun v0=>bd (PV.bin .sub x1 v0) fun v1=>bd (PV.bin .lss v1 (.int .i64 0)) fun v2=>PV.ite v2 (some [(.int .i64 (-1))]) (jR x0 v1 (.int .i64 0)):=aK _ _ _ (by kernel_rfl)
theorem sR (x0 x1 x2 : PV) : jR x0 x1 x2=bd (PV.len x0) fun v0=>bd (PV.bin .lss x2 v0) fun v1=>PV.ite v1 (bd (PV.at_ 3 true x0 x2) fun v2=>bd (zT v2 x1) fun r3=>bd (PV.bin .lss (hd r3) (.int .i64 0)) fun v4=>PV.ite v4 (some [(.int .i64 (-1))]) (bd (PV.bin .add x2 (.int .i64 1)) fun v5=>jR x0 (hd r3) v5)) (some [x1]):=aY _ _ _ _ _ _ _ _ (by kernel_rfl)
theorem aEI (x0 x1 : PV) : rH x0 x1=bd (PV.whole 3 x0) fun v0=>bd (PV.cell v0 0) fun v1=>bd (PV.cell v0 1) fun v2=>bd (PV.cell v0 2) fun v3=>bd (PV.slen v3) fun v4=>bd (PV.bin .sub x1 v4) fun v5=>bd (PV.bin .lss v5 (.int .i64 0)) fun v6=>PV.ite v6 (some [(.int .i64 (-1))]) (some [v5]):=aK _ _ _ (by kernel_rfl)
theorem aDH (x0 x1 : PV) : uS x0 x1=bd (PV.len x0) fun v0=>bd (PV.len x1) fun v1=>bd (PV.bin .neq v0 v1) fun v2=>PV.ite v2 (some [.bool false]) (lE x0 x1 (.int .i64 0)):=aK _ _ _ (by kernel_rfl)
theorem qT (x0 x1 x2 : PV) : lE x0 x1 x2=bd (PV.len x0) fun v0=>bd (PV.bin .lss x2 v0) fun v1=>PV.ite v1 (bd (PV.at_ 4 true x0 x2) fun v2=>bd (PV.at_ 4 true x1 x2) fun v3=>bd (wV v2 v3) fun r4=>bd (PV.not (hd r4)) fun v5=>PV.ite v5 (some [.bool false]) (bd (PV.bin .add x2 (.int .i64 1)) fun v6=>lE x0 x1 v6)) (some [.bool true]):=aY _ _ _ _ _ _ _ _ (by kernel_rfl)
theorem aF8 (x0 x1 : PV) : zR x0 x1=bd (PV.len x0) fun v0=>bd (PV.len x1) fun v1=>bd (PV.bin .neq v0 v1) fun v2=>PV.ite v2 (some [.bool false]) (nZ x0 x1 (.int .i64 0)):=aK _ _ _ (by kernel_rfl)
theorem tY (x0 x1 x2 : PV) : nZ x0 x1 x2=bd (PV.len x0) fun v0=>bd (PV.bin .lss x2 v0) fun v1=>PV.ite v1 (bd (PV.at_ 1 true x0 x2) fun v2=>bd (PV.at_ 1 true x1 x2) fun v3=>bd (aBK v2 v3) fun r4=>bd (PV.not (hd r4)) fun v5=>PV.ite v5 (some [.bool false]) (bd (PV.bin .add x2 (.int .i64 1)) fun v6=>nZ x0 x1 v6)) (some [.bool true]):=aY _ _ _ _ _ _ _ _ (by kernel_rfl)
theorem aCL (x0 x1 : PV) : oA x0 x1=bd (PV.len x0) fun v0=>bd (PV.len x1) fun v1=>bd (PV.bin .neq v0 v1) fun v2=>PV.ite v2 (some [.bool false]) (kE x0 x1 (.int .i64 0)):=aK _ _ _ (by kernel_rfl)
theorem pU (x0 x1 x2 : PV) : kE x0 x1 x2=bd (PV.len x0) fun v0=>bd (PV.bin .lss x2 v0) fun v1=>PV.ite v1 (bd (PV.at_ 1 false x0 x2) fun v2=>bd (PV.at_ 1 false x1 x2) fun v3=>bd (PV.bin .neq v2 v3) fun v4=>PV.ite v4 (some [.bool false]) (bd (PV.bin .add x2 (.int .i64 1)) fun v5=>kE x0 x1 v5)) (some [.bool true]):=aY _ _ _ _ _ _ _ _ (by kernel_rfl)
theorem aEJ (x0 x1 : PV) : rI x0 x1=bd (PV.whole 3 x0) fun v0=>bd (PV.cell v0 0) fun v1=>bd (PV.cell v0 1) fun v2=>bd (PV.cell v0 2) fun v3=>bd (PV.whole 3 x1) fun v4=>bd (PV.cell v4 0) fun v5=>bd (PV.cell v4 1) fun v6=>bd (PV.cell v4 2) fun v7=>bd (PV.bin .neq v1 v5) fun v8=>PV.ite v8 (some [.bool false]) (bd (PV.bin .neq v2 v6) fun v9=>PV.ite v9 (some [.bool false])
 (bd (PV.bin .neq v3 v7) fun v10=>PV.ite v10 (some [.bool false]) (some [.bool true]))):=aK _ _ _ (by kernel_rfl)
theorem aEK (x0 x1 : PV) : wU x0 x1=bd (PV.len x0) fun v0=>bd (PV.len x1) fun v1=>bd (PV.bin .neq v0 v1) fun v2=>PV.ite v2 (some [.bool false]) (mJ x0 x1 (.int .i64 0)):=aK _ _ _ (by kernel_rfl)
theorem sS (x0 x1 x2 : PV) : mJ x0 x1 x2=bd (PV.len x0) fun v0=>bd (PV.bin .lss x2 v0) fun v1=>PV.ite v1 (bd (PV.at_ 3 true x0 x2) fun v2=>bd (PV.at_ 3 true x1 x2) fun v3=>bd (zU v2 v3) fun r4=>bd (PV.not (hd r4)) fun v5=>PV.ite v5 (some [.bool false]) (bd (PV.bin .add x2 (.int .i64 1)) fun v6=>mJ x0 x1 v6)) (some [.bool true]):=aY _ _ _ _ _ _ _ _ (by kernel_rfl)
theorem aB0 (x0 x1 : PV) : qI x0 x1=jG x0 x1 (.int .i64 0):=aK _ _ _ (by kernel_rfl)
theorem oQ (x0 x1 x2 : PV) : jG x0 x1 x2=bd (PV.len x0) fun v0=>bd (PV.bin .lss x2 v0) fun v1=>PV.ite v1 (bd (PV.at_ 4 true x0 x2) fun v2=>bd (PV.cell v2 0) fun v3=>bd (PV.bin .neq v3 x1) fun v4=>PV.ite v4 (some [(.int .i64 (-1))]) (bd (PV.bin .add x1 (.int .i64 1)) fun v5=>bd (PV.at_ 4 true x0 x2) fun v6=>bd (PV.cell v6 1) fun v7=>bd (PV.bin .neq v7 v5) fun v8=>
 PV.ite v8 (some [(.int .i64 (-1))]) (bd (PV.bin .add v5 (.int .i64 1)) fun v9=>bd (PV.at_ 4 true x0 x2) fun v10=>bd (PV.cell v10 2) fun v11=>bd (jS v11 v9) fun r12=>bd (PV.bin .lss (hd r12) (.int .i64 0)) fun v13=>PV.ite v13 (some [(.int .i64 (-1))]) (bd (PV.at_ 4 true x0 x2) fun v14=>bd (PV.cell v14 3) fun v15=>bd (jS v15 (hd r12)) fun r16=>bd (PV.bin .lss (hd r16) (.int .i64 0)) fun v17=>
 PV.ite v17 (some [(.int .i64 (-1))]) (bd (PV.bin .add x2 (.int .i64 1)) fun v18=>jG x0 (hd r16) v18))))) (some [x1]):=aY _ _ _ _ _ _ _ _ (by kernel_rfl)
theorem aDI (x0 x1 : PV) : uT x0 x1=lF x0 x1 (.int .i64 0):=aK _ _ _ (by kernel_rfl)
theorem qU (x0 x1 x2 : PV) : lF x0 x1 x2=bd (PV.len x0) fun v0=>bd (PV.bin .lss x2 v0) fun v1=>PV.ite v1 (bd (PV.at_ 1 true x0 x2) fun v2=>bd (PV.cell v2 0) fun v3=>bd (jS v3 x1) fun r4=>bd (PV.bin .lss (hd r4) (.int .i64 0)) fun v5=>PV.ite v5 (some [(.int .i64 (-1))]) (bd (PV.bin .add x2 (.int .i64 1)) fun v6=>lF x0 (hd r4) v6))
 (some [x1]):=aY _ _ _ _ _ _ _ _ (by kernel_rfl)
theorem aA6 (x0 x1 : PV) : pD x0 x1=iI x0 x1 (.int .i64 0):=aK _ _ _ (by kernel_rfl)
theorem oJ (x0 x1 x2 : PV) : iI x0 x1 x2=bd (PV.len x0) fun v0=>bd (PV.bin .lss x2 v0) fun v1=>PV.ite v1 (bd (PV.at_ 1 false x0 x2) fun v2=>bd (fV x1) fun r3=>bd (PV.bin .neq v2 (hd r3)) fun v4=>PV.ite v4 (some [(.int .i64 (-1))]) (bd (PV.bin .add x1 (.int .i64 1)) fun v5=>bd (PV.bin .add x2 (.int .i64 1)) fun v6=>iI x0 v5 v6))
 (some [x1]):=aY _ _ _ _ _ _ _ _ (by kernel_rfl)
theorem aDJ (x0 x1 : PV) : uU x0 x1=bd (PV.len x0) fun v0=>bd (PV.bin .sub x1 v0) fun v1=>bd (PV.bin .lss v1 (.int .i64 0)) fun v2=>PV.ite v2 (some [(.int .i64 (-1))]) (iR x0 v1 (.int .i64 0)):=aK _ _ _ (by kernel_rfl)
theorem qV (x0 x1 x2 : PV) : iR x0 x1 x2=bd (PV.len x0) fun v0=>bd (PV.bin .lss x2 v0) fun v1=>PV.ite v1 (bd (PV.at_ 4 true x0 x2) fun v2=>bd (wW v2 x1) fun r3=>bd (PV.bin .lss (hd r3) (.int .i64 0)) fun v4=>PV.ite v4 (some [(.int .i64 (-1))]) (bd (PV.bin .add x2 (.int .i64 1)) fun v5=>iR x0 (hd r3) v5)) (some [x1]):=aY _ _ _ _ _ _ _ _ (by kernel_rfl)
theorem aF9 (x0 x1 : PV) : zS x0 x1=bd (PV.len x0) fun v0=>bd (PV.bin .sub x1 v0) fun v1=>bd (PV.bin .lss v1 (.int .i64 0)) fun v2=>PV.ite v2 (some [(.int .i64 (-1))]) (kN x0 v1 (.int .i64 0)):=aK _ _ _ (by kernel_rfl)
theorem tZ (x0 x1 x2 : PV) : kN x0 x1 x2=bd (PV.len x0) fun v0=>bd (PV.bin .lss x2 v0) fun v1=>PV.ite v1 (bd (PV.at_ 1 true x0 x2) fun v2=>bd (aBL v2 x1) fun r3=>bd (PV.bin .lss (hd r3) (.int .i64 0)) fun v4=>PV.ite v4 (some [(.int .i64 (-1))]) (bd (PV.bin .add x2 (.int .i64 1)) fun v5=>kN x0 (hd r3) v5)) (some [x1]):=aY _ _ _ _ _ _ _ _ (by kernel_rfl)
theorem aGa (x0 x1 : PV) : zT x0 x1=bd (PV.whole 3 x0) fun v0=>bd (PV.cell v0 0) fun v1=>bd (PV.cell v0 1) fun v2=>bd (PV.cell v0 2) fun v3=>bd (zV v3 x1) fun r4=>bd (PV.bin .lss (hd r4) (.int .i64 0)) fun v5=>PV.ite v5 (some [(.int .i64 (-1))]) (some [(hd r4)]):=aK _ _ _ (by kernel_rfl)
theorem aEL (x0 x1 : PV) : wV x0 x1=bd (PV.whole 4 x0) fun v0=>bd (PV.cell v0 0) fun v1=>bd (PV.cell v0 1) fun v2=>bd (PV.cell v0 2) fun v3=>bd (PV.cell v0 3) fun v4=>bd (PV.whole 4 x1) fun v5=>bd (PV.cell v5 0) fun v6=>bd (PV.cell v5 1) fun v7=>bd (PV.cell v5 2) fun v8=>bd (PV.cell v5 3) fun v9=>bd (PV.bin .neq v1 v6) fun v10=>PV.ite v10 (some [.bool false])
 (bd (PV.bin .neq v2 v7) fun v11=>PV.ite v11 (some [.bool false]) (bd (mC v3 v8) fun r12=>bd (PV.not (hd r12)) fun v13=>PV.ite v13 (some [.bool false]) (bd (mC v4 v9) fun r14=>bd (PV.not (hd r14)) fun v15=>PV.ite v15 (some [.bool false]) (some [.bool true])))):=aK _ _ _ (by kernel_rfl)
theorem aG6 (x0 x1 : PV) : aBK x0 x1=bd (PV.whole 1 x0) fun v0=>bd (PV.cell v0 0) fun v1=>bd (PV.whole 1 x1) fun v2=>bd (PV.cell v2 0) fun v3=>bd (mC v1 v3) fun r4=>bd (PV.not (hd r4)) fun v5=>PV.ite v5 (some [.bool false]) (some [.bool true]):=aK _ _ _ (by kernel_rfl)
theorem aGb (x0 x1 : PV) : zU x0 x1=bd (PV.whole 3 x0) fun v0=>bd (PV.cell v0 0) fun v1=>bd (PV.cell v0 1) fun v2=>bd (PV.cell v0 2) fun v3=>bd (PV.whole 3 x1) fun v4=>bd (PV.cell v4 0) fun v5=>bd (PV.cell v4 1) fun v6=>bd (PV.cell v4 2) fun v7=>bd (PV.bin .neq v1 v5) fun v8=>PV.ite v8 (some [.bool false]) (bd (PV.bin .neq v2 v6) fun v9=>PV.ite v9 (some [.bool false])
 (bd (zW v3 v7) fun r10=>bd (PV.not (hd r10)) fun v11=>PV.ite v11 (some [.bool false]) (some [.bool true]))):=aK _ _ _ (by kernel_rfl)
theorem aB1 (x0 x1 : PV) : jS x0 x1=jH x0 x1 (.int .i64 0):=aK _ _ _ (by kernel_rfl)
theorem oR (x0 x1 x2 : PV) : jH x0 x1 x2=bd (PV.len x0) fun v0=>bd (PV.bin .lss x2 v0) fun v1=>PV.ite v1 (bd (PV.at_ 3 true x0 x2) fun v2=>bd (PV.cell v2 0) fun v3=>bd (PV.bin .neq v3 x1) fun v4=>PV.ite v4 (some [(.int .i64 (-1))]) (bd (PV.bin .add x1 (.int .i64 1)) fun v5=>bd (PV.at_ 3 true x0 x2) fun v6=>bd (PV.cell v6 1) fun v7=>bd (PV.bin .neq v7 v5) fun v8=>
 PV.ite v8 (some [(.int .i64 (-1))]) (bd (PV.bin .add v5 (.int .i64 1)) fun v9=>bd (PV.at_ 3 true x0 x2) fun v10=>bd (PV.cell v10 2) fun v11=>bd (fV v9) fun r12=>bd (PV.bin .neq v11 (hd r12)) fun v13=>PV.ite v13 (some [(.int .i64 (-1))]) (bd (PV.bin .add v9 (.int .i64 1)) fun v14=>bd (PV.bin .add x2 (.int .i64 1)) fun v15=>jH x0 v14 v15)))) (some [x1]):=aY _ _ _ _ _ _ _ _ (by kernel_rfl)
theorem aDK (x0 : PV) : fV x0=bd (PV.bin .leq x0 (.int .i64 0)) fun v0=>PV.ite v0 (some [(.str (bs [109,48]))]) (lG x0 (.str (bs []))):=aK _ _ _ (by kernel_rfl)
theorem qW (x0 x1 : PV) : lG x0 x1=bd (PV.bin .gtr x0 (.int .i64 0)) fun v0=>PV.ite v0 (bd (PV.bin .rem x0 (.int .i64 10)) fun v1=>bd (PV.bin .add (.int .i64 48) v1) fun v2=>bd (PV.conv .u8 v2) fun v3=>bd (PV.cat 1 1 false (.lst []) (.lst [v3])) fun v4=>bd (PV.toStr v4) fun v5=>bd (PV.bin .add v5 x1) fun v6=>bd (PV.bin .quo x0 (.int .i64 10)) fun v7=>
 lG v7 v6) (bd (PV.bin .add (.str (bs [109])) x1) fun v8=>some [v8]):=aY _ _ _ _ _ _ _ _ (by kernel_rfl)
theorem aEM (x0 x1 : PV) : wW x0 x1=bd (PV.whole 4 x0) fun v0=>bd (PV.cell v0 0) fun v1=>bd (PV.cell v0 1) fun v2=>bd (PV.cell v0 2) fun v3=>bd (PV.cell v0 3) fun v4=>bd (mB v3 x1) fun r5=>bd (PV.bin .lss (hd r5) (.int .i64 0)) fun v6=>PV.ite v6 (some [(.int .i64 (-1))]) (bd (mB v4 (hd r5)) fun r7=>bd (PV.bin .lss (hd r7) (.int .i64 0)) fun v8=>
 PV.ite v8 (some [(.int .i64 (-1))]) (some [(hd r7)])):=aK _ _ _ (by kernel_rfl)
theorem aG7 (x0 x1 : PV) : aBL x0 x1=bd (PV.whole 1 x0) fun v0=>bd (PV.cell v0 0) fun v1=>bd (mB v1 x1) fun r2=>bd (PV.bin .lss (hd r2) (.int .i64 0)) fun v3=>PV.ite v3 (some [(.int .i64 (-1))]) (some [(hd r2)]):=aK _ _ _ (by kernel_rfl)
theorem aGc (x0 x1 : PV) : zV x0 x1=bd (PV.len x0) fun v0=>bd (PV.bin .sub x1 v0) fun v1=>bd (PV.bin .lss v1 (.int .i64 0)) fun v2=>PV.ite v2 (some [(.int .i64 (-1))]) (some [v1]):=aK _ _ _ (by kernel_rfl)
theorem aGd (x0 x1 : PV) : zW x0 x1=bd (PV.len x0) fun v0=>bd (PV.len x1) fun v1=>bd (PV.bin .neq v0 v1) fun v2=>PV.ite v2 (some [.bool false]) (oB x0 x1 (.int .i64 0)):=aK _ _ _ (by kernel_rfl)
theorem uA (x0 x1 x2 : PV) : oB x0 x1 x2=bd (PV.len x0) fun v0=>bd (PV.bin .lss x2 v0) fun v1=>PV.ite v1 (bd (PV.at_ 2 true x0 x2) fun v2=>bd (PV.at_ 2 true x1 x2) fun v3=>bd (aBM v2 v3) fun r4=>bd (PV.not (hd r4)) fun v5=>PV.ite v5 (some [.bool false]) (bd (PV.bin .add x2 (.int .i64 1)) fun v6=>oB x0 x1 v6)) (some [.bool true]):=aY _ _ _ _ _ _ _ _ (by kernel_rfl)
theorem aG8 (x0 x1 : PV) : aBM x0 x1=bd (PV.whole 2 x0) fun v0=>bd (PV.cell v0 0) fun v1=>bd (PV.cell v0 1) fun v2=>bd (PV.whole 2 x1) fun v3=>bd (PV.cell v3 0) fun v4=>bd (PV.cell v3 1) fun v5=>bd (PV.bin .neq v1 v4) fun v6=>PV.ite v6 (some [.bool false]) (bd (PV.bin .neq v2 v5) fun v7=>PV.ite v7 (some [.bool false]) (some [.bool true])):=aK _ _ _ (by kernel_rfl)
theorem aDL (x0 : PV) : fW x0=bd (PV.whole 2 x0) fun v0=>bd (PV.cell v0 0) fun v1=>bd (PV.cell v0 1) fun v2=>bd (oD v1) fun r3=>PV.guardOwn (.own 1 16 false []) (gd r3 0) (bd (xA v2) fun r4=>PV.guardOwn (.own 3 40 true [.leaf,.leaf,(.own 2 16 true [])]) (gd r4 0) (some [(gd r3 0),(gd r4 0)])):=bS _ _ _ _ (by kernel_rfl)
theorem aDM (x0 : PV) : mD x0=bd (PV.len x0) fun v0=>bd (PV.zeros 32 (.agg [(.int .i64 0),(.int .i64 0),(.str (bs []))]) v0) fun v1=>bd (PV.bin .leq v0 v0) fun v2=>PV.ite v2 (bd (PV.zeros 32 (.agg [(.int .i64 0),(.int .i64 0),(.str (bs []))]) v0) fun v3=>lH x0 (.int .i64 0) v3) (none):=bS _ _ _ _ (by kernel_rfl)
theorem qX (x0 x1 x2 : PV) : lH x0 x1 x2=bd (PV.len x0) fun v0=>bd (PV.bin .lss x1 v0) fun v1=>PV.ite v1 (bd (PV.at_ 3 true x0 x1) fun v2=>bd (rJ v2) fun r3=>bd (PV.inb x2 x1) fun v4=>bd (PV.setAt 3 true x2 x1 (hd r3)) fun v5=>bd (PV.bin .add x1 (.int .i64 1)) fun v6=>lH x0 v6 v5) (some [x2]):=aY _ _ _ _ _ _ _ _ (by kernel_rfl)
theorem aEN (x0 : PV) : rJ x0=bd (PV.whole 3 x0) fun v0=>bd (PV.cell v0 0) fun v1=>bd (PV.cell v0 1) fun v2=>bd (PV.cell v0 2) fun v3=>bd (PV.one v1) fun v4=>bd (PV.one v2) fun v5=>bd (PV.one v3) fun v6=>some [(.agg [v4,v5,v6])]:=aK _ _ _ (by kernel_rfl)
theorem aB2 (x0 x1 x2 : PV) : aM x0 x1 x2=bd (PV.bin .geq x0 x1) fun v0=>PV.ite v0 (bd (PV.bin .leq x0 x2) fun v1=>some [v1]) (some [.bool false]):=aK _ _ _ (by kernel_rfl)
theorem aB3 (x0 x1 x2 : PV) : qJ x0 x1 x2=bd (lL x0 x1) fun r0=>bd (sM (gd r0 0) x2) fun r1=>some [(gd r1 0),(gd r0 1),(gd r1 1)]:=bS _ _ _ _ (by kernel_rfl)
theorem aGe (x0 x1 x2 x3 x4 x5 x6 x7 x8 x9 x10 : PV) : tS x0 x1 x2 x3 x4 x5 x6 x7 x8 x9 x10=bd (qK x7 x8) fun r0=>bd (uY (gd r0 0) x9) fun r1=>bd (lL (gd r1 0) x10) fun r2=>some [(gd r2 0),(gd r0 1),(gd r1 1),(gd r2 1)]:=bS _ _ _ _ (by kernel_rfl)
theorem aIv (x0 : PV) : pE x0=bd (PV.whole 10 x0) fun v0=>bd (PV.cell v0 0) fun v1=>bd (PV.cell v0 1) fun v2=>bd (PV.cell v0 2) fun v3=>bd (PV.cell v0 3) fun v4=>bd (PV.cell v0 4) fun v5=>bd (PV.cell v0 5) fun v6=>bd (PV.cell v0 6) fun v7=>bd (PV.cell v0 7) fun v8=>bd (PV.cell v0 8) fun v9=>bd (PV.cell v0 9) fun v10=>bd (uZ v1) fun r11=>PV.guardOwn (.own 4 64 true [.leaf,.leaf,(.own 3 32 true []),(.own 3 32 true [])]) (gd r11 0) (
 bd (aAb v2) fun r12=>PV.guardOwn (.own 1 24 true [(.own 3 32 true [])]) (gd r12 0) (bd (PV.one v3) fun v13=>bd (oD v4) fun r14=>PV.guardOwn (.own 1 16 false []) (gd r14 0) (bd (PV.one v5) fun v15=>bd (PV.one v6) fun v16=>bd (rJ (.agg [v7,v8,v9])) fun r17=>bd (PV.whole 3 (hd r17)) fun v18=>bd (PV.cell v18 0) fun v19=>bd (PV.cell v18 1) fun v20=>bd (PV.cell v18 2) fun v21=>
 bd (PV.one v10) fun v22=>some [v13,v15,v16,v19,v20,v21,v22,(gd r11 0),(gd r12 0),(gd r14 0)]))):=bS _ _ _ _ (by kernel_rfl)
theorem aIw (x0 x1 : PV) : aAM x0 x1=bd (PV.whole 2 x0) fun v0=>bd (PV.cell v0 0) fun v1=>bd (PV.cell v0 1) fun v2=>bd (PV.whole 10 x1) fun v3=>bd (PV.cell v3 0) fun v4=>bd (PV.cell v3 1) fun v5=>bd (PV.cell v3 2) fun v6=>bd (PV.cell v3 3) fun v7=>bd (PV.cell v3 4) fun v8=>bd (PV.cell v3 5) fun v9=>bd (PV.cell v3 6) fun v10=>bd (PV.cell v3 7) fun v11=>bd (PV.cell v3 8) fun v12=>
 bd (PV.cell v3 9) fun v13=>bd (vR (.agg [v1,v2]) (.agg [v4,v5,v6,v7,v8,v9,v10,v11,v12,v13])) fun r14=>bd (PV.not (hd r14)) fun v15=>PV.ite v15 (some [(.int .i64 0),(.int .i64 0),(.int .i64 0),(.int .i64 0),(.int .i64 0),(.str (bs [])),(.int .i64 0),(.lst []),(.lst []),(.lst [])]) (bd (xB (.agg [v1,v2]) (.agg [v4,v5,v6,v7,v8,v9,v10,v11,v12,v13])) fun r16=>
 PV.guardFlat (gd r16 0) (PV.guardFlat (gd r16 1) (PV.guardFlat (gd r16 2) (PV.guardFlat (gd r16 3) (PV.guardFlat (gd r16 4) (PV.guardFlat (gd r16 5) (PV.guardFlat (gd r16 6) (PV.guardOwn (.own 4 64 true [.leaf,.leaf,(.own 3 32 true []),(.own 3 32 true [])]) (gd r16 7) (PV.guardOwn (.own 1 24 true [(.own 3 32 true [])]) (gd r16 8) (PV.guardOwn (.own 1 16 false []) (gd r16 9) (some [(gd r16 0),(gd r16 1),(gd r16 2),(gd r16 3),(gd r16 4),(gd r16 5),(gd r16 6),(gd r16 7),(gd r16 8),(gd r16 9)]))))))))))):=bS _ _ _ _ (by kernel_rfl)
theorem aCM (x0 x1 : PV) : vR x0 x1=bd (PV.whole 2 x0) fun v0=>bd (PV.cell v0 0) fun v1=>bd (PV.cell v0 1) fun v2=>bd (PV.whole 10 x1) fun v3=>bd (PV.cell v3 0) fun v4=>bd (PV.cell v3 1) fun v5=>bd (PV.cell v3 2) fun v6=>bd (PV.cell v3 3) fun v7=>bd (PV.cell v3 4) fun v8=>bd (PV.cell v3 5) fun v9=>bd (PV.cell v3 6) fun v10=>bd (PV.cell v3 7) fun v11=>bd (PV.cell v3 8) fun v12=>
 bd (PV.cell v3 9) fun v13=>bd (wX (.agg [v1,v2])) fun r14=>PV.ite (hd r14) (bd (aCJ (.agg [v1,v2]) (.agg [v4,v5,v6,v7,v8,v9,v10,v11,v12,v13])) fun r15=>some [(hd r15)]) (some [.bool false]):=aK _ _ _ (by kernel_rfl)
theorem aEO (x0 : PV) : wX x0=bd (PV.whole 2 x0) fun v0=>bd (PV.cell v0 0) fun v1=>bd (PV.cell v0 1) fun v2=>bd (zX (.agg [v1,v2])) fun r3=>bd (PV.cell (hd r3) 0) fun v4=>bd (PV.bin .eql v4 (.int .i64 0)) fun v5=>some [v5]:=aK _ _ _ (by kernel_rfl)
theorem yJ (x0 x1 : PV) : aCJ x0 x1=bd (PV.whole 2 x0) fun v0=>bd (PV.cell v0 0) fun v1=>bd (PV.cell v0 1) fun v2=>bd (PV.whole 10 x1) fun v3=>bd (PV.cell v3 0) fun v4=>bd (PV.cell v3 1) fun v5=>bd (PV.cell v3 2) fun v6=>bd (PV.cell v3 3) fun v7=>bd (PV.cell v3 4) fun v8=>bd (PV.cell v3 5) fun v9=>bd (PV.cell v3 6) fun v10=>bd (PV.cell v3 7) fun v11=>
 bd (PV.cell v3 8) fun v12=>bd (PV.cell v3 9) fun v13=>bd (PV.len v5) fun v14=>bd (PV.bin .gtr v14 (.int .i64 120)) fun v15=>PV.ite v15 (some [.bool false]) (bd (aM v6 v14 (.int .i64 120)) fun r16=>bd (PV.not (hd r16)) fun v17=>PV.ite v17 (some [.bool false]) (bd (PV.len v7) fun v18=>bd (PV.bin .gtr v18 (.int .i64 200)) fun v19=>PV.ite v19 (some [.bool false]) (bd (aM v13 (.int .i64 0) (.int .i64 50000)) fun r20=>
 bd (PV.not (hd r20)) fun v21=>PV.ite v21 (some [.bool false]) (bd (wY (.agg [v1,v2]) (.agg [v10,v11,v12]) v14) fun r22=>bd (PV.not (hd r22)) fun v23=>PV.ite v23 (some [.bool false]) (gP v14 (.int .i64 0) v1 v2 v4 v5 v6 v7 v8 v9 v10 v11 v12 v13))))):=aK _ _ _ (by kernel_rfl)
theorem jL (x0 x1 x2 x3 x4 x5 x6 x7 x8 x9 x10 x11 x12 x13 : PV) : gP x0 x1 x2 x3 x4 x5 x6 x7 x8 x9 x10 x11 x12 x13=bd (PV.bin .lss x1 x0) fun v0=>PV.ite v0 (bd (PV.at_ 1 true x5 x1) fun v1=>bd (PV.cell v1 0) fun v2=>bd (PV.len v2) fun v3=>bd (PV.bin .gtr v3 (.int .i64 6)) fun v4=>PV.ite v4 (some [.bool false]) (bd (PV.at_ 1 true x5 x1) fun v5=>bd (PV.cell v5 0) fun v6=>
 bd (iT (.agg [x2,x3]) v6 x0) fun r7=>bd (PV.not (hd r7)) fun v8=>PV.ite v8 (some [.bool false]) (bd (PV.bin .add x1 (.int .i64 1)) fun v9=>gP x0 v9 x2 x3 x4 x5 x6 x7 x8 x9 x10 x11 x12 x13))) (eG x0 (.int .i64 0) x2 x3 x4 x5 x6 x7 x8 x9 x10 x11 x12 x13):=aY _ _ _ _ _ _ _ _ (by kernel_rfl)
theorem iM (x0 x1 x2 x3 x4 x5 x6 x7 x8 x9 x10 x11 x12 x13 : PV) : eG x0 x1 x2 x3 x4 x5 x6 x7 x8 x9 x10 x11 x12 x13=bd (PV.len x7) fun v0=>bd (PV.bin .lss x1 v0) fun v1=>PV.ite v1 (bd (PV.at_ 1 false x7 x1) fun v2=>bd (lI v2) fun r3=>bd (PV.not (hd r3)) fun v4=>PV.ite v4 (some [.bool false]) (bd (PV.bin .add x1 (.int .i64 1)) fun v5=>eG x0 v5 x2 x3 x4 x5 x6 x7 x8 x9 x10 x11 x12 x13))
 (bd (PV.bin .eql x8 (.int .i64 1)) fun v6=>PV.ite v6 (bd (PV.len x4) fun v7=>bd (PV.bin .eql v7 (.int .i64 0)) fun v8=>PV.ite v8 (bd (PV.bin .eql x9 (.int .i64 0)) fun v9=>some [v9]) (some [.bool false])) (bd (PV.bin .neq x8 (.int .i64 0)) fun v10=>PV.ite v10 (bd (PV.bin .neq x8 (.int .i64 2)) fun v11=>PV.ite v11 (some [.bool false]) (bd (PV.ceq [1,1,2] .neq (.agg [x10,x11,x12]) (.agg [(.int .i64 0),(.int .i64 0),(.str (bs []))])) fun v12=>
 PV.ite v12 (some [.bool false]) (bd (PV.len x4) fun v13=>bd (aM v13 (.int .i64 1) (.int .i64 24)) fun r14=>bd (PV.not (hd r14)) fun v15=>PV.ite v15 (some [.bool false]) (bd (PV.bin .eql x8 (.int .i64 0)) fun v16=>PV.ite v16 (bd (PV.bin .neq x9 (.int .i64 0)) fun v17=>PV.ite v17 (some [.bool false]) (bd (PV.bin .eql x8 (.int .i64 2)) fun v18=>PV.ite v18 (bd (aM x9 (.int .i64 1) (.int .i64 8)) fun r19=>
 bd (PV.not (hd r19)) fun v20=>PV.ite v20 (some [.bool false]) (bK x0 (.int .i64 0) x2 x3 x4 x5 x6 x7 x8 x9 x10 x11 x12 x13)) (bK x0 (.int .i64 0) x2 x3 x4 x5 x6 x7 x8 x9 x10 x11 x12 x13))) (bd (PV.bin .eql x8 (.int .i64 2)) fun v21=>PV.ite v21 (bd (aM x9 (.int .i64 1) (.int .i64 8)) fun r22=>bd (PV.not (hd r22)) fun v23=>PV.ite v23 (some [.bool false])
 (bK x0 (.int .i64 0) x2 x3 x4 x5 x6 x7 x8 x9 x10 x11 x12 x13)) (bK x0 (.int .i64 0) x2 x3 x4 x5 x6 x7 x8 x9 x10 x11 x12 x13)))))) (bd (PV.ceq [1,1,2] .neq (.agg [x10,x11,x12]) (.agg [(.int .i64 0),(.int .i64 0),(.str (bs []))])) fun v24=>PV.ite v24 (some [.bool false]) (bd (PV.len x4) fun v25=>bd (aM v25 (.int .i64 1) (.int .i64 24)) fun r26=>bd (PV.not (hd r26)) fun v27=>
 PV.ite v27 (some [.bool false]) (bd (PV.bin .eql x8 (.int .i64 0)) fun v28=>PV.ite v28 (bd (PV.bin .neq x9 (.int .i64 0)) fun v29=>PV.ite v29 (some [.bool false]) (bd (PV.bin .eql x8 (.int .i64 2)) fun v30=>PV.ite v30 (bd (aM x9 (.int .i64 1) (.int .i64 8)) fun r31=>bd (PV.not (hd r31)) fun v32=>PV.ite v32 (some [.bool false]) (bK x0 (.int .i64 0) x2 x3 x4 x5 x6 x7 x8 x9 x10 x11 x12 x13))
 (bK x0 (.int .i64 0) x2 x3 x4 x5 x6 x7 x8 x9 x10 x11 x12 x13))) (bd (PV.bin .eql x8 (.int .i64 2)) fun v33=>PV.ite v33 (bd (aM x9 (.int .i64 1) (.int .i64 8)) fun r34=>bd (PV.not (hd r34)) fun v35=>PV.ite v35 (some [.bool false]) (bK x0 (.int .i64 0) x2 x3 x4 x5 x6 x7 x8 x9 x10 x11 x12 x13)) (bK x0 (.int .i64 0) x2 x3 x4 x5 x6 x7 x8 x9 x10 x11 x12 x13))))))):=aY _ _ _ _ _ _ _ _ (by kernel_rfl)
theorem iN (x0 x1 x2 x3 x4 x5 x6 x7 x8 x9 x10 x11 x12 x13 : PV) : bK x0 x1 x2 x3 x4 x5 x6 x7 x8 x9 x10 x11 x12 x13=bd (PV.len x4) fun v0=>bd (PV.bin .lss x1 v0) fun v1=>PV.ite v1 (bd (PV.at_ 4 true x4 x1) fun v2=>bd (PV.len x4) fun v3=>bd (PV.bin .sub v3 (.int .i64 1)) fun v4=>bd (PV.bin .eql x1 v4) fun v5=>bd (mL (.agg [x2,x3]) v2 x0 v5) fun r6=>
 bd (PV.not (hd r6)) fun v7=>PV.ite v7 (some [.bool false]) (bd (PV.bin .add x1 (.int .i64 1)) fun v8=>bK x0 v8 x2 x3 x4 x5 x6 x7 x8 x9 x10 x11 x12 x13)) (some [.bool true]):=aY _ _ _ _ _ _ _ _ (by kernel_rfl)
theorem aGf (x0 : PV) : zX x0=bd (PV.whole 2 x0) fun v0=>bd (PV.cell v0 0) fun v1=>bd (PV.cell v0 1) fun v2=>bd (uV (.agg [v1,v2])) fun r3=>bd (PV.not (hd r3)) fun v4=>PV.ite v4 (some [(.agg [(.int .i64 1),(.int .i64 0),(.int .i64 0)])]) (kO (.int .i64 0) v1 v2 (.int .i64 0) (.int .i64 0) (.int .i64 0)):=aK _ _ _ (by kernel_rfl)
theorem uB (x0 x1 x2 x3 x4 x5 : PV) : kO x0 x1 x2 x3 x4 x5=bd (PV.len x2) fun v0=>bd (PV.bin .lss x0 v0) fun v1=>PV.ite v1 (bd (PV.at_ 3 true x2 x0) fun v2=>bd (PV.cell v2 2) fun v3=>bd (iV (.agg [x1,x2]) x0) fun r4=>iS x0 v3 (hd r4) (.int .i64 0) x1 x2 x3 x4 x5) (some [(.agg [(.int .i64 0),(.int .i64 0),(.int .i64 0)])]):=aY _ _ _ _ _ _ _ _ (by kernel_rfl)
theorem uC (x0 x1 x2 x3 x4 x5 x6 x7 x8 : PV) : iS x0 x1 x2 x3 x4 x5 x6 x7 x8=bd (PV.len x1) fun v0=>bd (PV.bin .lss x3 v0) fun v1=>PV.ite v1 (bd (PV.at_ 1 false x2 x3) fun v2=>bd (PV.bin .lss v2 (.int .i64 0)) fun v3=>PV.ite v3 (bd (PV.bin .add x3 (.int .i64 1)) fun v4=>iS x0 x1 x2 v4 x4 x5 x6 x7 x8) (bd (PV.at_ 2 true x1 x3) fun v5=>bd (tT (.agg [x4,x5]) v5) fun r6=>
 bd (PV.comp (hd r6) 0) fun v7=>bd (PV.comp (hd r6) 1) fun v8=>bd (PV.at_ 1 false x2 x3) fun v9=>bd (PV.bin .sub v9 v7) fun v10=>bd (PV.bin .add v10 v8) fun v11=>bd (PV.at_ 1 false x2 x3) fun v12=>bd (PV.bin .lss v12 v7) fun v13=>PV.ite v13 (bd (PV.one x0) fun v14=>bd (PV.one x3) fun v15=>some [(.agg [(.int .i64 2),v14,v15])]) (bd (PV.bin .gtr v11 (.int .i64 16)) fun v16=>PV.ite v16
 (bd (PV.one x0) fun v17=>bd (PV.one x3) fun v18=>some [(.agg [(.int .i64 2),v17,v18])]) (bd (PV.at_ 2 true x1 x3) fun v19=>bd (rK v19 x3) fun r20=>jT x0 x1 x2 x3 v11 (hd r20) (.int .i64 0) x4 x5 x6 x7 x8)))) (bd (PV.bin .add x0 (.int .i64 1)) fun v21=>kO v21 x4 x5 x6 x7 x8):=aY _ _ _ _ _ _ _ _ (by kernel_rfl)
theorem sT (x0 x1 x2 x3 x4 x5 x6 x7 x8 x9 x10 x11 : PV) : jT x0 x1 x2 x3 x4 x5 x6 x7 x8 x9 x10 x11=bd (PV.len x5) fun v0=>bd (PV.bin .lss x6 v0) fun v1=>PV.ite v1 (bd (PV.at_ 1 false x5 x6) fun v2=>bd (PV.len x1) fun v3=>bd (PV.bin .geq v2 v3) fun v4=>PV.ite v4 (bd (PV.one x0) fun v5=>bd (PV.one x3) fun v6=>some [(.agg [(.int .i64 3),v5,v6])]) (bd (PV.bin .add x6 (.int .i64 1)) fun v7=>
 jT x0 x1 x2 x3 x4 x5 v7 x7 x8 x9 x10 x11)) (gQ x0 x1 x2 x3 x4 x5 (.int .i64 0) x7 x8 x9 x10 x11):=aY _ _ _ _ _ _ _ _ (by kernel_rfl)
theorem sU (x0 x1 x2 x3 x4 x5 x6 x7 x8 x9 x10 x11 : PV) : gQ x0 x1 x2 x3 x4 x5 x6 x7 x8 x9 x10 x11=bd (PV.len x5) fun v0=>bd (PV.bin .lss x6 v0) fun v1=>PV.ite v1 (bd (PV.at_ 1 false x5 x6) fun v2=>bd (PV.at_ 1 false x2 v2) fun v3=>bd (PV.bin .neq v3 x4) fun v4=>PV.ite v4 (bd (PV.one x0) fun v5=>bd (PV.one x3) fun v6=>some [(.agg [(.int .i64 4),v5,v6])])
 (bd (PV.bin .add x6 (.int .i64 1)) fun v7=>gQ x0 x1 x2 x3 x4 x5 v7 x7 x8 x9 x10 x11)) (bd (PV.bin .add x3 (.int .i64 1)) fun v8=>iS x0 x1 x2 v8 x7 x8 x9 x10 x11):=aY _ _ _ _ _ _ _ _ (by kernel_rfl)
theorem aG9 (x0 x1 x2 : PV) : wY x0 x1 x2=bd (PV.whole 2 x0) fun v0=>bd (PV.cell v0 0) fun v1=>bd (PV.cell v0 1) fun v2=>bd (PV.whole 3 x1) fun v3=>bd (PV.cell v3 0) fun v4=>bd (PV.cell v3 1) fun v5=>bd (PV.cell v3 2) fun v6=>bd (PV.bin .neq v4 (.int .i64 3)) fun v7=>PV.ite v7 (bd (PV.bin .neq v6 (.str (bs []))) fun v8=>PV.ite v8 (some [.bool false]) (bd (PV.bin .eql v4 (.int .i64 0)) fun v9=>
 PV.ite v9 (bd (PV.bin .eql v5 (.int .i64 0)) fun v10=>some [v10]) (bd (PV.bin .eql v4 (.int .i64 1)) fun v11=>PV.ite v11 (bd (fX v5) fun r12=>some [(hd r12)]) (bd (PV.bin .eql v4 (.int .i64 2)) fun v13=>PV.ite v13 (bd (aM v5 (.int .i64 0) (.int .i64 1)) fun r14=>some [(hd r14)]) (bd (PV.bin .eql v4 (.int .i64 3)) fun v15=>PV.ite v15 (bd (PV.bin .eql v5 (.int .i64 0)) fun v16=>
 PV.ite v16 (bd (lI v6) fun r17=>some [(hd r17)]) (some [.bool false])) (bd (PV.bin .eql v4 (.int .i64 4)) fun v18=>PV.ite v18 (bd (PV.bin .geq v5 (.int .i64 0)) fun v19=>PV.ite v19 (bd (PV.bin .lss v5 x2) fun v20=>some [v20]) (some [.bool false])) (bd (PV.bin .eql v4 (.int .i64 5)) fun v21=>PV.ite v21 (bd (PV.len v2) fun v22=>bd (PV.bin .sub v22 (.int .i64 1)) fun v23=>bd (aM v5 (.int .i64 0) v23) fun r24=>
 some [(hd r24)]) (some [.bool false])))))))) (bd (PV.bin .eql v4 (.int .i64 0)) fun v25=>PV.ite v25 (bd (PV.bin .eql v5 (.int .i64 0)) fun v26=>some [v26]) (bd (PV.bin .eql v4 (.int .i64 1)) fun v27=>PV.ite v27 (bd (fX v5) fun r28=>some [(hd r28)]) (bd (PV.bin .eql v4 (.int .i64 2)) fun v29=>PV.ite v29 (bd (aM v5 (.int .i64 0) (.int .i64 1)) fun r30=>some [(hd r30)])
 (bd (PV.bin .eql v4 (.int .i64 3)) fun v31=>PV.ite v31 (bd (PV.bin .eql v5 (.int .i64 0)) fun v32=>PV.ite v32 (bd (lI v6) fun r33=>some [(hd r33)]) (some [.bool false])) (bd (PV.bin .eql v4 (.int .i64 4)) fun v34=>PV.ite v34 (bd (PV.bin .geq v5 (.int .i64 0)) fun v35=>PV.ite v35 (bd (PV.bin .lss v5 x2) fun v36=>some [v36]) (some [.bool false])) (bd (PV.bin .eql v4 (.int .i64 5)) fun v37=>
 PV.ite v37 (bd (PV.len v2) fun v38=>bd (PV.bin .sub v38 (.int .i64 1)) fun v39=>bd (aM v5 (.int .i64 0) v39) fun r40=>some [(hd r40)]) (some [.bool false]))))))):=aK _ _ _ (by kernel_rfl)
end
end Go.Proofs.YthkofpnllaapeaaGreatDoor
