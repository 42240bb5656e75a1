/-
  Texts of the proof, part 4: a value-level evaluator and its soundness, what the functions compute, laws about it.
  Conditions: none.
-/
import Derived.Test.YthkofpnllaapeaaGreatDoorC
import Derived.Shelf.Spec.SlicesGrow
import Derived.Shelf.Strconv.Itoa3
import Derived.Shelf.SlGeneric
import Derived.Ground.NamesProg
import Derived.Ground.Names8Prog
import Derived.Shelf.Spec.SlicesInsertGrow
import Derived.IntWalk
import Derived.WalkKit
import Derived.ProofKit
import Derived.OpenShut
import Derived.ShutString
import Derived.ChangeOld
set_option linter.all false
namespace Go.Proofs.YthkofpnllaapeaaGreatDoor
noncomputable section
open Go
def aFu (P : Program) (mode : Nat→Option Tmpl) (S : Nat→List DV→St→Option R) : Prop:=∀ g t args s l,mode g=some t→S g args s=some l→iT P g∧∀ (m : aS) (aO : Array Value),fE m s s.base→args.length=aO.size→
 (∀ (i : Nat) d v,args[i]? = some d→aO[i]? = some v→m.rd d v)→Calls P g aO m.w (fun e w'=>∃ v,e = .returned v∧oE m s.boxes.length (if t.keep then s.lists.length else 0) (some (t.fit s)) l v w')
theorem aCb : ∀ (ts : List (Option Own)) (ks : List (Option OTy)) (n : Nat),numO (fitO ts ks) n=numO ts n
 | [],[],_=>rfl
 | [],_::_,_=>rfl
 | some w::r,some o::q,n=>by
   simp only [fitO,numO]
   cases w.c<;>simp only [aCb r q]
 | some w::r,none::q,n=>by
   simp only [fitO,numO]
   cases w.c<;>simp only [aCb r q]
 | none::r,_::q,n=>by simp only [fitO,numO,aCb r q]
 | some _::_,[],_=>rfl
 | none::_,[],_=>rfl
theorem Tmpl.fit_keep {t : Tmpl} {s : St} : (t.fit s).keep=t.keep:=by
 unfold Tmpl.fit Tmpl.fitK
 split
 ·rfl
 ·rfl
theorem Tmpl.fit_wf {t : Tmpl} {s : St} (h : t.wf=true) : (t.fit s).wf=true:=by
 unfold Tmpl.fit Tmpl.fitK
 split
 ·unfold Tmpl.wf at h ⊢
  simp only [aCb]
  exact h
 ·exact h
theorem Tmpl.fit_nil {t : Tmpl} {s : St} (h : s.lists = []) : t.fit s=t:=by
 unfold Tmpl.fit Tmpl.fitK
 split
 ·rw [h]
  show ({ t with lists:=fitO t.lists []} : Tmpl)=t
  have : fitO t.lists []=t.lists:=by
   cases t.lists with
   | nil=>rfl
   | cons a r=>cases a<;>rfl
  rw [this]
 ·rfl
theorem aDe (l : R) : ∀ (bs : List (Option (List DV))),(fillB l bs).length=bs.length
 | []=>rfl
 | some _::r=>by simp [fillB,aDe l r]
 | none::r=>by simp [fillB,aDe l r]
theorem rE (l : R) : ∀ (bs : List (Option Own)),(fillO l bs).length=bs.length
 | []=>rfl
 | some _::r=>by simp [fillO,rE l r]
 | none::r=>by simp [fillO,rE l r]
theorem aAX (l : R) : ∀ {bs : List (Option (List DV))} {i : Nat} {fs : List DV},(fillB l bs)[i]? = some (some fs)→∃ ts,bs[i]? = some (some ts)
 | [],i,fs,h=>by simp [fillB] at h
 | some t::r,i,fs,h=>by
   cases i with
   | zero=>exact ⟨t,rfl⟩
   | succ i=>simpa using aAX l (bs:=r) (i:=i) (by simpa [fillB] using h)
 | none::r,i,fs,h=>by
   cases i with
   | zero=>simp [fillB] at h
   | succ i=>simpa using aAX l (bs:=r) (i:=i) (by simpa [fillB] using h)
theorem rO (l : R) : ∀ {bs : List (Option Own)} {i : Nat} {w : Own},(fillO l bs)[i]? = some (some w)→∃ ts,bs[i]? = some (some ts)
 | [],i,fs,h=>by simp [fillO] at h
 | some t::r,i,fs,h=>by
   cases i with
   | zero=>exact ⟨t,rfl⟩
   | succ i=>simpa using rO l (bs:=r) (i:=i) (by simpa [fillO] using h)
 | none::r,i,fs,h=>by
   cases i with
   | zero=>simp [fillO] at h
   | succ i=>simpa using rO l (bs:=r) (i:=i) (by simpa [fillO] using h)
theorem aD7 {α : Type} : ∀ {l : List (Option α)},allSome l=true→∀ (i : Nat) o,l[i]? = some o→∃ a,o=some a
 | [],_,i,o,h=>by simp at h
 | some a::r,h,i,o,hi=>by
   cases i with
   | zero=>simp at hi;exact ⟨a,hi.symm⟩
   | succ i=>exact aD7 (l:=r) h i o (by simpa using hi)
 | none::r,h,_,_,_=>by simp [allSome] at h
theorem getD_some {α : Type} {l : List (Option α)} {i : Nat} {x : α} (h : l.getD i none=some x) : l[i]? = some (some x):=by
 rw [List.getD] at h
 cases hi : l[i]? with
 | none=>rw [hi] at h;cases h
 | some o=>rw [hi] at h;simp at h;rw [h]
theorem yD {m : aS} {s : St} {a : Seen} {r : Nat} (h : (m.pick a.bs a.ls (s.pick a)).owned r) : aFt m a.bs a.ls r:=by
 rcases h with ⟨i,cs,h,rfl⟩ | ⟨l,o,h,hr⟩ | h
 ·have h : (s.pick a).box i=some cs:=h
  rw [xY] at h
  cases hbi : a.bs[i]? with
  | none=>rw [hbi] at h;cases h
  | some b=>
    refine .inl ⟨b,List.mem_of_getElem? hbi,?_⟩
    show m.ρ.box (a.bs.getD i 0)=_
    rw [dI hbi]
 ·have h : (s.pick a).list l=some o:=h
  rw [uT] at h
  cases hbi : a.ls[l]? with
  | none=>rw [hbi] at h;cases h
  | some l0=>
    refine .inr ⟨l0,List.mem_of_getElem? hbi,?_⟩
    have hr : m.ρ.fp (a.ls.getD l 0) r:=hr
    rw [dI hbi] at hr
    exact hr
 ·exact h.elim
section
variable {P : Program} {X : Cx} {O : Orc}
theorem aI1 (hS : aFu P X.mode O.S) {ft : Foot} {n0 : Nat} {t : Tmpl} {f : Nat} (hm : X.mode f=some t) (hwf : t.wf=true) {args : List DV} {s : St} {k : DV→St→List Nat→Option R} {r : R} (h : liveK O ft n0 t f args s k=some r) :
 iT P f∧∃ d' s' kl,k d' s' kl=some r∧s.nl≤s'.nl∧∀ (n : Nat) (m : aS) (B L WB WL : Nat→Prop),mP m s B L n→s'.nb≤n+16→s'.nl≤n+16→n≤n0→(∀ b∈ft.rb,B b∧WB b)→(∀ l∈ft.rl,L l∧WL l)→(t.keep=true→∀ x,(B x∧WB x)∧(L x∧WL x))→
  ∀ vs : Array Value,args.length=vs.size→(∀ (i : Nat) d v,args[i]? = some d→vs[i]? = some v→m.rd d v)→
    Calls P f vs m.w (fun e w'=>∃ v,e = .returned v∧∃ m',m'.w=w'∧bJ m m' s s' B L WB WL n (scrubKeptD t.keep kl)∧m'.rd d' v):=by
 unfold liveK at h
 generalize ha : reach s fuelR args ⟨[],[]⟩=a at h
 simp only at h
 have hkp : (t.fit (s.pick a)).keep=t.keep:=Tmpl.fit_keep
 have hwf : (t.fit (s.pick a)).wf=true:=Tmpl.fit_wf hwf
 have hS':=fun l=>hS f t (args.map (ren (idx · a.bs 0) (idx · a.ls 0) deep)) (s.pick a) l hm
 rw [← hkp] at hS' ⊢
 generalize t.fit (s.pick a)=t at h hwf hS' ⊢
 generalize hkd : (if t.keep=true then a.ls else [])=kl at h
 split at h
 rotate_left
 ·cases h
 rename_i hc
 simp only [Bool.and_eq_true,List.all_eq_true,Bool.or_eq_true,Nat.blt_eq] at hc
 obtain ⟨⟨⟨⟨hlen,hsome⟩,hbs⟩,hls⟩,hkl⟩:=hc
 have hkl:=mQ hkl
 have hlen:=mQ hlen
 obtain ⟨l,hl,hk⟩:=aN h
 obtain ⟨hcb,HS⟩:=hS' l hl
 have nod:=fY (s:=s) fuelR args ⟨[],[]⟩ List.nodup_nil List.nodup_nil
 have liv:=eQ (s:=s) fuelR args ⟨[],[]⟩ (by simp) (by simp)
 rw [ha] at nod liv
 refine ⟨hcb,_,_,_,hk,Nat.le_add_right _ _,fun n m B L WB WL sit hnb hnl hn0 hB hL hall vs hvl hrd=>?_⟩
 have hnl : s.nl+(t.lists.length - kl.length)≤n+16:=hnl
 have hks : ∀ l∈kl,l∈a.ls:=fun l hl=>by rw [← hkd] at hl;split at hl;exact hl;cases hl
 have hkn : kl.Nodup:=by rw [← hkd];split;exact nod.2.1;exact List.nodup_nil
 have hkk : t.keep=false→kl = []:=fun hf=>by rw [← hkd,hf];rfl
 have hlists : (s.pick a).lists.length=a.ls.length:=oR
 have hnb : s.nb+(t.boxes.length - a.bs.length)≤n+16:=hnb
 have sn1:=sit.nb
 have sn2:=sit.nl
 have lin : ∀ l∈a.ls,l∈ft.rl∨(n≤l∧l<n+16):=fun l hl=>by
  rcases hls l hl with h | ⟨h1,h2⟩
  ·exact .inl (oP.1 h)
  ·have:=mQ h1;exact .inr (by omega)
 have hb : ∀ b∈a.bs,m.s.box b=s.box b:=fun b hb=>sit.ab b (.inl (hB b (oP.1 (hbs b hb))).1)
 have hl' : ∀ l∈a.ls,m.s.list l=s.list l:=fun l hl=>sit.al l ((lin l hl).imp (fun h=>(hL l h).1) id)
 have pf:=zZ (a:=a) sit.inv hb hl' nod.1 nod.2.1
 have hboxes : (s.pick a).boxes.length=a.bs.length:=tZ
 refine (HS (m.pick a.bs a.ls (s.pick a)) vs pf (by simpa using hvl) (fun i d v hd hv=>?_)).mono ?_
 ·rw [List.getElem?_map] at hd
  cases hdi : args[i]? with
  | none=>rw [hdi] at hd;cases hd
  | some d0=>rw [hdi] at hd;cases hd;exact aFn hl' deep (hrd i d0 v hdi hv)
 ·rintro e w' ⟨v,rfl,c,hw,cinv,fw,d,s0,a0,hread,hdv,hfull,hub,hul⟩
  rw [hboxes,hlists] at fw
  obtain ⟨hless,lenB,lenL,HB,HO⟩:=Tmpl.read_sound hread hwf
  have lenB : t.boxes.length=a0.bs.length:=lenB.trans tZ
  have lenL : t.lists.length=a0.ls.length:=lenL.trans oR
  refine ⟨v,rfl,?_⟩
  generalize hcsB : ((fillB l t.boxes).map fun o=>o.map fun cs=>cs.map (ren (backFb a.bs s.nb) (backFb kl s.nl) deep))=csB
  have hcsBl : csB.length=t.boxes.length:=by rw [← hcsB,List.length_map,aDe]
  have hab : ∀ b∈a.bs,∃ cs,m.s.box b=some cs:=fun b hbm=>by
   rw [hb b hbm]
   exact Option.ne_none_iff_exists'.1 (liv.1 b hbm)
  have hal : ∀ l∈a.ls,∃ o,m.s.list l=some o:=fun l hlm=>by
   rw [hl' l hlm]
   exact Option.ne_none_iff_exists'.1 (liv.2 l hlm)
  have freshB : ∀ x,s.nb≤x→x<s.nb+(t.boxes.length - a.bs.length)→¬ m.ρ.ub x:=fun x h1 h2=>sit.fb x h1 (by omega)
  have freshL : ∀ x,s.nl≤x→x<s.nl+(t.lists.length - kl.length)→¬ m.ρ.ul x:=fun x h1 h2=>sit.fl x h1 (by omega)
  have hout : ∀ b∈a.bs,¬ (s.nb≤b∧b<s.nb+(csB.length - a.bs.length)):=fun b hbm hr=>by
   obtain ⟨cs,hcs⟩:=hab b hbm
   rw [hcsBl] at hr
   exact freshB b hr.1 hr.2 (sit.inv.ub b cs hcs)
  have scrL : ∀ x,look x (scrubKept t.keep kl s.boxes)=(s.box x).map (·.map (scrubKeptD t.keep kl)):=fun x=>by
   unfold scrubKept scrubKeptD
   cases t.keep with
   | true=>exact zX kl x s.boxes
   | false=>
     rw [if_neg (by simp),if_neg (by simp)]
     exact iK _
  have boxL : ∀ x,look x (backB a.bs s.nb csB (scrubKept t.keep kl s.boxes))=match dS a.bs s.nb (t.boxes.length - a.bs.length) x with | some i=>csB.getD i none | none=>(s.box x).map (·.map (scrubKeptD t.keep kl)):=fun x=>by
   have:=aAW (x:=x) (cs:=csB) (bs:=a.bs) (n:=s.nb) (old:=scrubKept t.keep kl s.boxes) nod.1 (by rw [hcsBl];exact hlen) hout
   rw [hcsBl,scrL] at this
   exact this
  have houtL : ∀ l0∈kl,¬ (s.nl≤l0∧l0<s.nl+((fillO l t.lists).length - kl.length)):=fun l0 hlm hr=>by
   obtain ⟨o,ho⟩:=hal l0 (hks l0 hlm)
   rw [rE] at hr
   exact freshL l0 hr.1 hr.2 (sit.inv.ul l0 o ho)
  have listL : ∀ x,look x (backB kl s.nl (fillO l t.lists) (s.killL a.ls).lists)=match dS kl s.nl (t.lists.length - kl.length) x with | some i=>(fillO l t.lists).getD i none | none=>(s.killL a.ls).list x:=fun x=>by
   have:=aAW (x:=x) (cs:=fillO l t.lists) (bs:=kl) (n:=s.nl) (old:=(s.killL a.ls).lists) hkn (by rw [rE];exact hkl) houtL
   rw [rE] at this
   exact this
  let S : Sx:={ box:=fun x=>match dS a.bs s.nb (t.boxes.length - a.bs.length) x with | some i=>csB.getD i none | none=>(m.s.box x).map (·.map (scrubKeptD t.keep kl))
                list:=fun x=>match dS kl s.nl (t.lists.length - kl.length) x with | some i=>(fillO l t.lists).getD i none | none=>if x∈a.ls then none else m.s.list x}
  have hbn : ∀ x,(∃ cs,m.s.box x=some cs)→¬ (s.nb≤x∧x<s.nb+(t.boxes.length - a.bs.length)):=fun x ⟨cs,hcs⟩ hr=>freshB x hr.1 hr.2 (sit.inv.ub x cs hcs)
  have cb_fb : ∀ b b',b<t.boxes.length→backFb a.bs s.nb b=some b'→dS a.bs s.nb (t.boxes.length - a.bs.length) b'=some b∧(m.ρ.ub b'∨(s.nb≤b'∧b'<s.nb+(t.boxes.length - a.bs.length))):=by
   intro b b' hlt hbb
   unfold backFb at hbb
   split at hbb
   ·rename_i x hx
    cases hbb
    obtain ⟨cs,hcs⟩:=hab b' (List.mem_of_getElem? hx)
    refine ⟨?_,.inl (sit.inv.ub b' cs hcs)⟩
    unfold dS
    rw [aHZ (n:=0) nod.1 hx,Nat.zero_add]
   ·rename_i hx
    cases hbb
    have hge : a.bs.length≤b:=by
     rcases Nat.lt_or_ge b a.bs.length with h | h
     ·rw [List.getElem?_eq_getElem h] at hx;cases hx
     ·exact h
    have hnot : s.nb+(b - a.bs.length)∉a.bs:=fun hm'=>hbn _ (hab _ hm') ⟨by omega,by omega⟩
    refine ⟨?_,.inr ⟨by omega,by omega⟩⟩
    unfold dS
    rw [aB9 hnot]
    simp only
    rw [if_pos ⟨by omega,by omega⟩]
    congr 1
    omega
  have cl_fl : ∀ b b',b<t.lists.length→backFb kl s.nl b=some b'→dS kl s.nl (t.lists.length - kl.length) b'=some b∧(m.ρ.ul b'∨(s.nl≤b'∧b'<s.nl+(t.lists.length - kl.length))):=by
   intro b b' hlt hbb
   unfold backFb at hbb
   split at hbb
   ·rename_i x hx
    cases hbb
    obtain ⟨o,ho⟩:=hal b' (hks b' (List.mem_of_getElem? hx))
    refine ⟨?_,.inl (sit.inv.ul b' o ho)⟩
    unfold dS
    rw [aHZ (n:=0) hkn hx,Nat.zero_add]
   ·rename_i hx
    cases hbb
    have hge : kl.length≤b:=by
     rcases Nat.lt_or_ge b kl.length with h | h
     ·rw [List.getElem?_eq_getElem h] at hx;cases hx
     ·exact h
    have hnot : s.nl+(b - kl.length)∉kl:=fun hm'=>by
     obtain ⟨o,ho⟩:=hal _ (hks _ hm')
     exact freshL _ (by omega) (by omega) (sit.inv.ul _ o ho)
    refine ⟨?_,.inr ⟨by omega,by omega⟩⟩
    unfold dS
    rw [aB9 hnot]
    simp only
    rw [if_pos ⟨by omega,by omega⟩]
    congr 1
    omega
  have ren_ok : ∀ {d : DV} {v : Value},c.rd d v→(m.back c a.bs kl s.nb (t.boxes.length - a.bs.length) s.nl (t.lists.length - kl.length) S).rd (ren (backFb a.bs s.nb) (backFb kl s.nl) deep d) v:=by
   intro d v hd
   refine cQ.renum (fun b b' hu hbb=>?_) (fun l0 l' hu hll=>?_) deep hd
   ·obtain ⟨h1,h2⟩:=cb_fb b b' (by rw [lenB];exact hub b hu) hbb
    refine ⟨h2,?_⟩
    show (match dS a.bs s.nb (t.boxes.length - a.bs.length) b' with | some i=>c.ρ.box i | none=>m.ρ.box b')=_
    rw [h1]
   ·have hlt:=hul l0 hu
    rw [← lenL] at hlt
    obtain ⟨hcl,hcu⟩:=cl_fl l0 l' hlt hll
    refine ⟨hcu,fun hv=>⟨?_,?_,?_,?_⟩⟩
    ·have hv : (match dS kl s.nl (t.lists.length - kl.length) l' with | some i=>(fillO l t.lists).getD i none | none=>if l'∈a.ls then none else m.s.list l')≠none:=hv
     rw [hcl] at hv
     obtain ⟨w1,hw1⟩:=Option.ne_none_iff_exists'.1 hv
     have hg:=getD_some hw1
     obtain ⟨ts,hts⟩:=rO l hg
     obtain ⟨x,w2,g1,_⟩:=HO l0 ts hts
     have g1 : (s0.pick a0).list l0=some w2:=by
      have:=lH (n:=0) g1
      rw [Nat.zero_add] at this
      exact this
     rw [← hfull.list l0] at g1
     exact aS.live_of g1
    ·show (match dS kl s.nl (t.lists.length - kl.length) l' with | some i=>c.ρ.hdr i | none=>_)=_
     rw [hcl]
    ·show (match dS kl s.nl (t.lists.length - kl.length) l' with | some i=>c.ρ.ty i | none=>_)=_
     rw [hcl]
    ·show (match dS kl s.nl (t.lists.length - kl.length) l' with | some i=>c.ρ.fp i | none=>_)=_
     rw [hcl]
  have came : sS m c t.keep a.bs a.ls kl s.nb (t.boxes.length - a.bs.length) s.nl (t.lists.length - kl.length) S:={
   kk:=hkk
   kn:=hkn
   ks:=hks
   row:=fun i l0 hi hlv=>by
    have hkt : t.keep=true:=by
     cases hk2 : t.keep with
     | true=>rfl
     | false=>rw [hkk hk2] at hi;simp at hi
    have hkl2 : kl=a.ls:=by rw [← hkd,hkt];rfl
    rw [hkl2] at hi
    obtain ⟨o,ho⟩:=hal l0 (List.mem_of_getElem? hi)
    have hlt : i<a.ls.length:=(List.getElem?_eq_some_iff.1 hi).1
    rw [hkt] at fw
    have hu : (m.pick a.bs a.ls (s.pick a)).ρ.ul i:=⟨hlt,by rw [dI hi];exact sit.inv.ul l0 o ho⟩
    obtain ⟨_,q⟩:=fw.row i (by simpa using hlt) hu
    obtain ⟨_,q1,q2⟩:=q hlv
    rw [q1,q2]
    show m.ρ.hdr (a.ls.getD i 0)=_∧m.ρ.ty (a.ls.getD i 0)=_
    rw [dI hi]
    exact ⟨rfl,rfl⟩
   inv:=sit.inv
   cinv:=cinv
   nb:=nod.1
   ab:=hab
   al:=hal
   size:=fw.size
   os:=fw.os
   tape:=fw.tape
   output:=fw.output
   keep:=fun r hr hn=>fw.keep r hr (fun ho=>hn (yD ho))
   own:=fun r hr=>(fw.own r hr).imp (fun h=>yD h) id
   z:=fun r hr=>(fw.z r hr).imp id (fun h=>h.imp (fun h=>yD h) id)
   zz:=fw.zz
   box:=fun i b hbi=>by
    obtain ⟨cs,hcs⟩:=hab b (List.mem_of_getElem? hbi)
    have:=fw.box i (List.getElem?_eq_some_iff.1 hbi).1 (cs.map (ren (idx · a.bs 0) (idx · a.ls 0) deep)) (by
     show (s.pick a).box i=_
     rw [xY,hbi,Option.bind_some,← hb b (List.mem_of_getElem? hbi),hcs];rfl)
    rw [this.1]
    show m.ρ.box (a.bs.getD i 0)=_
    rw [dI hbi]
   freshB:=freshB
   freshL:=freshL
   sb:=fun x cs hx=>by
    have hx : (match dS a.bs s.nb (t.boxes.length - a.bs.length) x with | some i=>csB.getD i none | none=>(m.s.box x).map (·.map (scrubKeptD t.keep kl)))=some cs:=hx
    cases hcb : dS a.bs s.nb (t.boxes.length - a.bs.length) x with
    | none=>
      rw [hcb] at hx
      simp only at hx
      cases hmx : m.s.box x with
      | none=>rw [hmx] at hx;cases hx
      | some cs0=>rw [hmx] at hx;cases hx;exact .inr ⟨rfl,cs0,rfl,rfl⟩
    | some i=>
      rw [hcb] at hx
      have hg:=getD_some hx
      rw [← hcsB,List.getElem?_map] at hg
      cases hfi : (fillB l t.boxes)[i]? with
      | none=>rw [hfi] at hg;cases hg
      | some o=>
        rw [hfi] at hg
        simp only [Option.map_some,Option.some.injEq] at hg
        cases o with
        | none=>cases hg
        | some fs=>
          simp only [Option.map_some,Option.some.injEq] at hg
          obtain ⟨ts,hts⟩:=aAX l hfi
          obtain ⟨g1,x',cs0,g2,g3⟩:=HB i ts hts
          rw [hfi] at g1
          cases g1
          have g2 : (s0.pick a0).box i=some cs0:=by
           have:=aAC (n:=0) g2
           rw [Nat.zero_add] at this
           exact this
          rw [← hfull.box i] at g2
          refine .inl ⟨i,cs0,rfl,g2,by rw [← hg,List.length_map];exact g3.1,fun j d0 d1 v0 h1 h2 h3=>?_⟩
          rw [← hg,List.getElem?_map] at h2
          cases hj : (fillDs l ts)[j]? with
          | none=>rw [hj] at h2;cases h2
          | some d2=>
            rw [hj] at h2
            cases h2
            exact ren_ok (g3.2 j d0 d2 h1 hj c v0 h3)
   sbx:=fun x hx=>by
    show ∃ cs,(match dS a.bs s.nb (t.boxes.length - a.bs.length) x with | some i=>csB.getD i none | none=>(m.s.box x).map (·.map (scrubKeptD t.keep kl)))=some cs
    rcases eF a.bs s.nb (t.boxes.length - a.bs.length) x with ⟨i,h1,h2⟩ | ⟨i,h1,h2,h3,h4⟩ | ⟨h1,_⟩
    ·rw [h1]
     have hlt : i<a.bs.length:=(List.getElem?_eq_some_iff.1 h2).1
     have hti : (t.boxes.take a.bs.length)[i]? = some (t.boxes[i]'(by omega)):=by rw [List.getElem?_take,if_pos hlt,List.getElem?_eq_getElem]
     obtain ⟨ts,hts⟩:=aD7 hsome i _ hti
     obtain ⟨g1,_⟩:=HB i ts (by rw [List.getElem?_eq_getElem (by omega),hts])
     refine ⟨(fillDs l ts).map (ren (backFb a.bs s.nb) (backFb kl s.nl) deep),?_⟩
     simp only
     rw [List.getD,← hcsB,List.getElem?_map,g1]
     rfl
    ·exact absurd ⟨by omega,by omega⟩ (hbn x hx)
    ·rw [h1]
     obtain ⟨cs,hcs⟩:=hx
     exact ⟨_,by simp only [hcs,Option.map_some];rfl⟩
   sl:=fun x o hx=>by
    have hx : (match dS kl s.nl (t.lists.length - kl.length) x with | some i=>(fillO l t.lists).getD i none | none=>if x∈a.ls then none else m.s.list x)=some o:=hx
    cases hcl : dS kl s.nl (t.lists.length - kl.length) x with
    | none=>
      rw [hcl] at hx
      simp only at hx
      split at hx
      ·cases hx
      ·rename_i hn;exact .inr ⟨rfl,hn,hx⟩
    | some i=>
      rw [hcl] at hx
      have hg:=getD_some hx
      obtain ⟨ts,hts⟩:=rO l hg
      obtain ⟨x',w2,g1,g2,_⟩:=HO i ts hts
      rw [hg] at g2
      cases g2
      have g1 : (s0.pick a0).list i=some o:=by
       have:=lH (n:=0) g1
       rw [Nat.zero_add] at this
       exact this
      rw [← hfull.list i] at g1
      exact .inl ⟨i,rfl,g1⟩}
  have wbs : ∀ b∈a.bs,B b∧WB b:=fun b hbm=>hB b (oP.1 (hbs b hbm))
  refine ⟨m.back c a.bs kl s.nb (t.boxes.length - a.bs.length) s.nl (t.lists.length - kl.length) S,hw,?_,ren_ok (hless c v hdv)⟩
  refine {
   step:=came.step sn1 hnb sn2 hnl
   after:=⟨fun x hx=>?_,fun x hx=>?_,fun x h1 h2=>?_,fun x h1 h2=>?_,fun x h1 h2=>?_,fun x h1 h2=>?_⟩
   nb:=Nat.le_add_right _ _
   nl:=Nat.le_add_right _ _
   ub:=fun x hx hu=>hu.elim id (fun h=>by have hx : s.nb+(t.boxes.length - a.bs.length)≤x:=hx;omega)
   ul:=fun x hx hu=>hu.elim id (fun h=>by have hx : s.nl+(t.lists.length - kl.length)≤x:=hx;omega)}
  ·show (match dS a.bs s.nb (t.boxes.length - a.bs.length) x with | some i=>csB.getD i none | none=>(m.s.box x).map (·.map (scrubKeptD t.keep kl)))=look x (backB a.bs s.nb _ (scrubKept t.keep kl s.boxes))
   rw [boxL x]
   cases dS a.bs s.nb (t.boxes.length - a.bs.length) x with
   | some i=>rfl
   | none=>simp only;rw [sit.ab x hx]
  ·show (match dS kl s.nl (t.lists.length - kl.length) x with | some i=>(fillO l t.lists).getD i none | none=>if x∈a.ls then none else m.s.list x)=look x (backB kl s.nl (fillO l t.lists) (s.killL a.ls).lists)
   rw [listL x]
   cases dS kl s.nl (t.lists.length - kl.length) x with
   | some i=>rfl
   | none=>
     simp only
     rw [eP,sit.al x hx]
  ·by_cases hkt : t.keep=true
   ·exact absurd ((hall hkt x).1.1) h1
   ·have hkt : t.keep=false:=by simpa using hkt
    show (match dS a.bs s.nb (t.boxes.length - a.bs.length) x with | some i=>csB.getD i none | none=>(m.s.box x).map (fun cs : List DV=>cs.map (scrubKeptD t.keep kl)))=_
    rcases eF a.bs s.nb (t.boxes.length - a.bs.length) x with ⟨i,g1,g2⟩ | ⟨i,g1,g2,g3,g4⟩ | ⟨g1,_⟩
    ·exact absurd (wbs x (List.mem_of_getElem? g2)).1 h1
    ·exact absurd ⟨by omega,by omega⟩ h2
    ·rw [g1,hkt]
     exact (iK _).symm
  ·by_cases hkt : t.keep=true
   ·exact absurd ((hall hkt x).2.1) h1
   ·have hkt : t.keep=false:=by simpa using hkt
    show (match dS kl s.nl (t.lists.length - kl.length) x with | some i=>(fillO l t.lists).getD i none | none=>if x∈a.ls then none else m.s.list x)=_
    rw [hkk hkt]
    rcases eF [] s.nl (t.lists.length - ([] : List Nat).length) x with ⟨i,g1,g2⟩ | ⟨i,g1,g2,g3,_⟩ | ⟨g1,_⟩
    ·simp at g2
    ·exact absurd ⟨by omega,by rw [hkk hkt] at hnl;omega⟩ h2
    ·rw [g1]
     simp only
     rw [if_neg]
     intro hxm
     rcases lin x hxm with h | h
     ·exact h1 (hL x h).1
     ·exact h2 h
  ·by_cases hkt : t.keep=true
   ·exact absurd ((hall hkt x).1.2) h1
   ·have hkt : t.keep=false:=by simpa using hkt
    show look x (backB a.bs s.nb _ (scrubKept t.keep kl s.boxes))=_
    rw [boxL x]
    rcases eF a.bs s.nb (t.boxes.length - a.bs.length) x with ⟨i,g1,g2⟩ | ⟨i,g1,g2,g3,g4⟩ | ⟨g1,_⟩
    ·exact absurd (wbs x (List.mem_of_getElem? g2)).2 h1
    ·exact absurd ⟨by omega,by omega⟩ h2
    ·rw [g1,hkt]
     exact (iK _).symm
  ·by_cases hkt : t.keep=true
   ·exact absurd ((hall hkt x).2.2) h1
   ·have hkt : t.keep=false:=by simpa using hkt
    show look x (backB kl s.nl (fillO l t.lists) (s.killL a.ls).lists)=_
    rw [listL x,hkk hkt]
    rcases eF [] s.nl (t.lists.length - ([] : List Nat).length) x with ⟨i,g1,g2⟩ | ⟨i,g1,g2,g3,_⟩ | ⟨g1,_⟩
    ·simp at g2
    ·exact absurd ⟨by omega,by rw [hkk hkt] at hnl;omega⟩ h2
    ·rw [g1]
     simp only
     rw [eP,if_neg]
     intro hxm
     rcases lin x hxm with h | h
     ·exact h1 (hL x h).2
     ·exact h2 h
end
theorem aFv : ∀ {cs : List PV} {cts : List OTy},PV.flatCs cts cs=true→∀ (j : Nat) c,cs[j]? = some c→PV.flatO (cts.getD j .leaf) c=true∨c.flat=true
 | [],_,_,j,c,h=>by simp at h
 | x::r,cts,h,j,c,hj=>by
   have tail : ∀ {b : Bool},(b&&PV.flatCs cts.tail r)=true→j≠0→PV.flatO (cts.getD j .leaf) c=true∨c.flat=true:=by
    intro b hb hj0
    simp only [Bool.and_eq_true] at hb
    obtain ⟨q,rfl⟩ : ∃ q,j=q+1:=⟨j - 1,by omega⟩
    have:=aFv hb.2 q c (by simpa using hj)
    cases cts with
    | nil=>simpa [List.getD] using this
    | cons o os=>simpa [List.getD] using this
   by_cases hj0 : j=0
   ·subst hj0
    simp at hj
    subst hj
    cases x with
    | lst xs=>
      unfold PV.flatCs at h
      simp only [Bool.and_eq_true] at h
      cases cts with
      | nil=>simp at h
      | cons o os=>
        cases o with
        | leaf=>simp at h
        | own s e g cts'=>exact .inl (by simpa [List.getD,PV.flatO] using h.1)
    | _=>unfold PV.flatCs at h;simp only [Bool.and_eq_true] at h;exact .inr h.1
   ·cases x<;>(unfold PV.flatCs at h;exact tail h hj0)
theorem aFw : ∀ {xs : List PV} {g : Bool} {cts : List OTy},PV.flatEs g cts xs=true→∀ (i : Nat) x,xs[i]? = some x→PV.flatE g cts x=true
 | [],_,_,_,i,x,h=>by simp at h
 | y::r,g,cts,h,i,x,hi=>by
   unfold PV.flatEs at h
   simp only [Bool.and_eq_true] at h
   cases i with
   | zero=>simp at hi;subst hi;exact h.1
   | succ i=>exact aFw h.2 i x (by simpa using hi)
theorem bZ.flat {w : World} {Z Z' : Nat→Prop} {o : OTy} {x : PV} {v : Value} {F : Nat→Prop} (h : bZ w Z o x v F) (hf : PV.flatO o x=true∨x.flat=true) (hn : ∀ r,F r→¬ Z' r) : bZ w Z' o x v F:=by
 induction h with
 | leaf x v F h hF=>
   rcases hf with hf | hf
   ·simp [PV.flatO] at hf
   ·exact .leaf x v F (h.flat hf) hF
 | hole s e g cts v F h hF=>exact .hole s e g cts v F h hF
 | nil s e g cts F a hF=>exact .nil s e g cts F a hF
 | own s e g cts xs b o cap cells ety cv fp F hh hs ho hl hz he hc hv hr hF hb hd ih=>
   have hf : PV.flatEs g cts xs=true:=by
    rcases hf with hf | hf
    ·simpa [PV.flatO] using hf
    ·simp [PV.flat] at hf
   refine .own s e g cts xs b o cap cells ety cv fp F hh hs ho hl (hn b ((hF b).2 (.inl rfl))) he hc hv (fun i j x hx hj=>?_) hF hb hd
   have hi : i<xs.length:=(List.getElem?_eq_some_iff.1 hx).1
   refine ih i j x hx hj ?_ (fun r hr=>hn r ((hF r).2 (.inr ⟨i,j,hi,hj,hr⟩)))
   have hfe:=aFw hf i x hx
   have hel:=he i x hx
   cases g with
   | true=>
     obtain ⟨cs,rfl,hlen⟩:=xQ hel
     rw [eY]
     unfold PV.flatE at hfe
     simp only [Bool.true_and] at hfe
     have hj' : cs[j]? = some (cs[j]'(by omega)):=List.getElem?_eq_getElem (by omega)
     have hg : cs.getD j .hole=cs[j]'(by omega):=by rw [List.getD,hj'];rfl
     rw [hg]
     exact aFv hfe j _ hj'
   | false=>
     have hs1:=aBQ hel
     have hj0 : j=0:=by omega
     subst hj0
     show PV.flatO (cts.getD 0 .leaf) x=true∨x.flat=true
     cases x with
     | lst ys=>
       unfold PV.flatE at hfe
       cases cts with
       | nil=>simp at hfe
       | cons o os=>
         cases o with
         | leaf=>simp at hfe
         | own s' e' g' cts'=>exact .inl (by simpa [List.getD,PV.flatO] using hfe)
     | agg cs=>unfold PV.flatE at hfe;simp at hfe
     | _=>unfold PV.flatE at hfe;simp only [Bool.not_false,Bool.true_and] at hfe;exact .inr hfe
inductive wZ (l : R) : DV→Prop
 | p (k : IntKind) (i : Int) : (gd l i.toNat).flat=true→wZ l (.p (.int k i))
 | ref (n : Nat) (path : eE) : wZ l (.ref n path)
 | agg (cs : List DV) : (∀ c∈cs,wZ l c)→wZ l (.agg cs)
 | tup (cs : List DV) : (∀ c∈cs,wZ l c)→wZ l (.tup cs)
theorem mW {l : R} : ∀ {cs : List DV} {k : Option R} {r : R},guardCells l cs k=some r→(∀ c∈cs,wZ l c)∧k=some r
 | [],k,r,h=>⟨by simp,h⟩
 | .p (.int kk i)::cs,k,r,h=>by
  unfold guardCells at h
  obtain ⟨hf,h'⟩:=yC h
  obtain ⟨h1,h2⟩:=mW h'
  refine ⟨fun c hc=>?_,h2⟩
  rcases List.mem_cons.1 hc with rfl | hc
  ·exact .p _ _ hf
  ·exact h1 c hc
 | .ref n path::cs,k,r,h=>by
  unfold guardCells at h
  obtain ⟨h1,h2⟩:=mW h
  refine ⟨fun c hc=>?_,h2⟩
  rcases List.mem_cons.1 hc with rfl | hc
  ·exact .ref _ _
  ·exact h1 c hc
 | .p (.bool _)::_,_,_,h=>by simp [guardCells] at h
 | .p (.str _)::_,_,_,h=>by simp [guardCells] at h
 | .p .nil::_,_,_,h=>by simp [guardCells] at h
 | .p .nilf::_,_,_,h=>by simp [guardCells] at h
 | .p (.agg _)::_,_,_,h=>by simp [guardCells] at h
 | .p (.lst _)::_,_,_,h=>by simp [guardCells] at h
 | .p (.bx _)::_,_,_,h=>by simp [guardCells] at h
 | .p (.fn _ _)::_,_,_,h=>by simp [guardCells] at h
 | .p (.tup _)::_,_,_,h=>by simp [guardCells] at h
 | .p .hole::_,_,_,h=>by simp [guardCells] at h
 | .nils::_,_,_,h=>by simp [guardCells] at h
 | .agg _::_,_,_,h=>by simp [guardCells] at h
 | .tup _::_,_,_,h=>by simp [guardCells] at h
 | .fn _ _::_,_,_,h=>by simp [guardCells] at h
 | .ptr _ _::_,_,_,h=>by simp [guardCells] at h
 | .sref _ _ _ _::_,_,_,h=>by simp [guardCells] at h
 | .eptr _ _ _ _::_,_,_,h=>by simp [guardCells] at h
 | .fptr _ _ _ _::_,_,_,h=>by simp [guardCells] at h
 | .bptr _ _::_,_,_,h=>by simp [guardCells] at h
 | .gptr _ _ _ _::_,_,_,h=>by simp [guardCells] at h
 | .nilq _ _::_,_,_,h=>by simp [guardCells] at h
 | .bsl _ _::_,_,_,h=>by simp [guardCells] at h
 | .dead::_,_,_,h=>by simp [guardCells] at h
theorem oS {l : R} : ∀ {cs : List DV} {k : Option R} {r : R},guardAggs l cs k=some r→(∀ c∈cs,wZ l c)∧k=some r
 | [],k,r,h=>⟨by simp,h⟩
 | d::cs,k,r,h=>by
   have one : ∀ {d : DV},guardCells l [d] (guardAggs l cs k)=some r→(∀ c∈d::cs,wZ l c)∧k=some r:=by
    intro d h
    obtain ⟨h1,h2⟩:=mW h
    obtain ⟨h3,h4⟩:=oS h2
    refine ⟨fun c hc=>?_,h4⟩
    rcases List.mem_cons.1 hc with rfl | hc
    ·exact h1 _ List.mem_cons_self
    ·exact h3 c hc
   cases d with
   | agg ds=>
     unfold guardAggs at h
     obtain ⟨h1,h2⟩:=mW h
     obtain ⟨h3,h4⟩:=oS h2
     refine ⟨fun c hc=>?_,h4⟩
     rcases List.mem_cons.1 hc with rfl | hc
     ·exact .agg _ h1
     ·exact h3 c hc
   | _=>exact one (by simpa only [guardAggs] using h)
theorem aH0 {l : R} {d : DV} {k : Option R} {r : R} (h : guardRes l d k=some r) : wZ l d∧k=some r:=by
 unfold guardRes at h
 split at h
 ·obtain ⟨h1,h2⟩:=oS h
  exact ⟨.tup _ h1,h2⟩
 ·obtain ⟨h1,h2⟩:=oS h
  exact ⟨h1 _ List.mem_cons_self,h2⟩
theorem aAD {l : R} : ∀ {cs : List (Option Own)} {k : Option R} {r : R},guardRows l cs k=some r→(∀ (i : Nat) w kk j,cs[i]? = some (some w)→w.c = .int kk j→PV.flatO w.o (gd l j.toNat)=true)∧k=some r
 | [],k,r,h=>⟨fun i w kk j hi=>by simp at hi,h⟩
 | none::_,_,_,h=>by simp [guardRows] at h
 | some w::cs,k,r,h=>by
   unfold guardRows at h
   split at h
   ·rename_i kk j hc
    unfold PV.guardOwn at h
    split at h
    ·rename_i hf
     obtain ⟨h1,h2⟩:=aAD h
     refine ⟨fun i w' kk' j' hi hc'=>?_,h2⟩
     cases i with
     | zero=>
       simp at hi
       subst hi
       rw [hc] at hc'
       cases hc'
       exact hf
     | succ i=>exact h1 i w' kk' j' (by simpa using hi) hc'
    ·cases h
   ·cases h
mutual
theorem aAY (l : R) : ∀ (ds : List DV),fillDs l ds=ds.map (fillD l)
 | []=>rfl
 | d::r=>by simp only [fillDs,List.map_cons,aAY l r]
end
theorem wZ.rd {l : R} {w : World} {Z Z' : Nat→Prop} {ρ : Loc} {live live' : Nat→Prop} (hl : ∀ x,live' x→live x) {d : DV} (hf : wZ l d) : ∀ {v : Value},cQ w Z ρ live (fillD l d) v→cQ w Z' ρ live' (fillD l d) v:=by
 induction hf with
 | p k i hfl=>
   intro v h
   simp only [fillD] at h ⊢
   cases h with
   | p _ _ h=>exact .p _ _ (h.flat hfl)
 | ref n path=>
   intro v h
   simp only [fillD] at h ⊢
   cases h with
   | ref _ _ _ h1 h2 h3=>exact .ref _ _ _ h1 h2 (fun hv=>h3 (hl _ hv))
 | agg cs _ ih=>
   intro v h
   simp only [fillD,aAY] at h ⊢
   cases h with
   | agg _ vs h1 h2 h3=>
     refine .agg _ vs h1 h2 (fun i d v hd hv=>?_)
     rw [List.getElem?_map] at hd
     cases hc : cs[i]? with
     | none=>rw [hc] at hd;cases hd
     | some c=>
       rw [hc] at hd
       cases hd
       exact ih c (List.mem_of_getElem? hc) (h3 i _ v (by rw [List.getElem?_map,hc];rfl) hv)
 | tup cs _ ih=>
   intro v h
   simp only [fillD,aAY] at h ⊢
   cases h with
   | tup _ vs h1 h3=>
     refine .tup _ vs h1 (fun i d v hd hv=>?_)
     rw [List.getElem?_map] at hd
     cases hc : cs[i]? with
     | none=>rw [hc] at hd;cases hd
     | some c=>
       rw [hc] at hd
       cases hd
       exact ih c (List.mem_of_getElem? hc) (h3 i _ v (by rw [List.getElem?_map,hc];rfl) hv)
section
variable {P : Program} {X : Cx} {O : Orc}
theorem lentK_sound (hS : aFu P X.mode O.S) {t : Tmpl} {f : Nat} (hm : X.mode f=some t) (hwf : t.wf=true) {args : List DV} {s : St} {k : DV→St→Option R} {r : R} (h : lentK O t f args s k=some r) :
 iT P f∧∃ d' s',k d' s'=some r∧∀ (n : Nat) (m : aS) (B L WB WL : Nat→Prop),mP m s B L n→s'.nb≤n+16→s'.nl≤n+16→aEQ m s args→
  ∀ vs : Array Value,args.length=vs.size→(∀ (i : Nat) d v,args[i]? = some d→vs[i]? = some v→m.rd d v)→
    Calls P f vs m.w (fun e w'=>∃ v,e = .returned v∧∃ m',m'.w=w'∧bJ m m' s s' B L WB WL n id∧m'.rd d' v):=by
 unfold lentK at h
 obtain ⟨ps,h1,hpl,H⟩:=tA h
 obtain ⟨l,hl,h2⟩:=aN h1
 obtain ⟨hflat,h3⟩:=aH0 h2
 obtain ⟨hrows,hk⟩:=aAD h3
 obtain ⟨hcb,HS⟩:=hS f t _ _ l hm hl
 rw [Tmpl.fit_nil rfl] at HS
 refine ⟨hcb,_,_,hk,fun n m B L WB WL sit hnb hnl hM vs hvl hrd=>?_⟩
 have hnl : s.nl+t.lists.length≤n+16:=hnl
 have sn1:=sit.nb
 have sn2:=sit.nl
 let m0 : aS:={ w:=m.w,Z:=fun x=>m.Z x∨m.owned x,s:={ box:=fun _=>none,list:=fun _=>none},L:=fun _=>False,
                ρ:={ box:=fun _=>0,hdr:=fun _=>.nilFunc,fp:=fun _ _=>False,ty:=fun _=>.leaf,ub:=fun _=>False,ul:=fun _=>False}}
 have full0 : fE m0 ⟨[],[],0,0,0⟩ 0:={
  inv:={
   ub:=fun _ _ h=>by cases h
   ul:=fun _ _ h=>by cases h
   zlt:=sit.inv.zlt.next (fun _ h=>.inl h) (fun _ _=>rfl) fun r hr=>hr.elim (sit.inv.zlt r) (fun h=>sit.inv.owned_lt h)
   box:=fun _ _ h=>by cases h
   row:=fun _ _ h=>by cases h
   bz:=fun _ _ h=>by cases h
   bb:=fun _ _ _ _ h=>by cases h
   bl:=fun _ _ _ _ h=>by cases h
   ll:=fun _ _ _ _ _ h=>by cases h
   Lz:=fun _ h=>h.elim
   Lb:=fun _ _ _ h=>h
   Ll:=fun _ _ _ _ _ h=>h}
  box:=fun _=>rfl
  list:=fun _=>rfl
  ub:=fun _ h=>h.elim
  ul:=fun _ h=>h.elim}
 have own0 : ∀ r,¬ m0.owned r:=by
  rintro r (⟨_,_,h,_⟩ | ⟨_,_,h,_⟩ | h)
  ·cases h
  ·cases h
  ·exact h
 have hreps:=H m (fun x=>m.Z x∨m.owned x) sit.inv hM (.inl fun r hr=>.inr hr) (fun r hr=>.inl hr) vs hvl hrd
 refine (HS m0 vs full0 (by rw [List.length_map];omega) (fun i d v hd hv=>?_)).mono ?_
 ·rw [List.getElem?_map] at hd
  cases hp : ps[i]? with
  | none=>rw [hp] at hd;cases hd
  | some p=>rw [hp] at hd;cases hd;exact .p _ _ (hreps i p v hp hv)
 ·rintro e w' ⟨v,rfl,c,hw,cinv,fw,d,s0,a0,hread,hdv,hfull,hub,hul⟩
  obtain ⟨hless,lenB,lenL,HB,HO⟩:=Tmpl.read_sound hread hwf
  have lenL : t.lists.length=a0.ls.length:=lenL.trans oR
  refine ⟨v,rfl,?_⟩
  have rowC : ∀ i w,c.s.list i=some w→∃ w0,t.lists[i]? = some (some w0)∧(fillO l t.lists)[i]? = some (some w)∧PV.flatO w.o w.c=true:=by
   intro i w hi
   have hlt : i<t.lists.length:=by rw [lenL];exact hul i (cinv.ul i w hi)
   have hi':=hi
   rw [hfull.list i] at hi'
   cases hti : t.lists[i]'hlt with
   | none=>
     exfalso
     have : ∀ {cs : List (Option Own)} {k : Option R} {r : R},guardRows l cs k=some r→∀ (j : Nat),cs[j]?≠some none:=by
      intro cs
      induction cs with
      | nil=>intro k r _ j;simp
      | cons x xs ih=>
        intro k r h j
        cases x with
        | none=>simp [guardRows] at h
        | some w=>
          unfold guardRows at h
          split at h
          ·unfold PV.guardOwn at h
           split at h
           ·cases j with
            | zero=>simp
            | succ j=>simpa using ih h j
           ·cases h
          ·cases h
     exact this h3 i (by rw [List.getElem?_eq_getElem hlt,hti])
   | some w0=>
     have ht : t.lists[i]? = some (some w0):=by rw [List.getElem?_eq_getElem hlt,hti]
     obtain ⟨x,w1,g1,g2,⟨kk,j,g3,g4⟩,g5⟩:=HO i w0 ht
     have g1 : (s0.pick a0).list i=some w1:=by
      have:=lH (n:=0) g1
      rw [Nat.zero_add] at this
      exact this
     rw [g1] at hi'
     cases hi'
     refine ⟨w0,ht,g2,?_⟩
     have:=hrows i w0 kk j ht g3
     rw [g4,g5] at this
     exact this
  let c1 : aS:={ w:=c.w,Z:=fun x=>c.Z x∧(m.Z x∨m.w.heap.size≤x),s:={ box:=fun _=>none,list:=c.s.list},L:=fun _=>False,ρ:=c.ρ}
  have c1inv : lF c1:={
   ub:=fun _ _ h=>by cases h
   ul:=fun l o h=>cinv.ul l o h
   zlt:=⟨fun r hr=>cinv.zlt r hr.1,sit.inv.zlt.glob.mono (fun r h=>⟨fw.zz r (.inl h),.inl h⟩) (fun r h=>fw.keep r (Nat.lt_of_lt_of_le (sit.inv.zlt r h) (Nat.le_refl _)) (own0 r))⟩
   box:=fun _ _ h=>by cases h
   row:=fun i o hi=>by
    have hi : c.s.list i=some o:=hi
    obtain ⟨g1,g2,g3⟩:=cinv.row i o hi
    obtain ⟨w0,_,_,hf⟩:=rowC i o hi
    exact ⟨g1,g2,g3.flat (.inl hf) (fun r hr hz=>g3.notZ r hr hz.1)⟩
   bz:=fun _ _ h=>by cases h
   bb:=fun _ _ _ _ h=>by cases h
   bl:=fun _ _ _ _ h=>by cases h
   ll:=fun l o l' o' r h h'=>cinv.ll l o l' o' r h h'
   Lz:=fun _ h=>h.elim
   Lb:=fun _ _ _ h=>h
   Ll:=fun _ _ _ _ _ h=>h}
  have c1own : ∀ r,c1.owned r→c.owned r:=by
   rintro r (⟨_,_,h,_⟩ | ⟨l,o,h,hr⟩ | h)
   ·cases h
   ·exact .inr (.inl ⟨l,o,h,hr⟩)
   ·exact h.elim
  let S : Sx:={ box:=m.s.box
                list:=fun x=>match vN s.nl t.lists.length x with | some i=>(fillO l t.lists).getD i none | none=>m.s.list x}
  have freshL : ∀ x,s.nl≤x→x<s.nl+t.lists.length→¬ m.ρ.ul x:=fun x h1 h2=>sit.fl x h1 (by omega)
  have cb0 : ∀ x,dS [] s.nb 0 x=none:=fun x=>by
   unfold dS
   simp only [idx]
   rw [if_neg (by omega)]
  have listC : ∀ i w,(fillO l t.lists)[i]? = some (some w)→c.s.list i=some w:=by
   intro i w hi
   obtain ⟨ts,hts⟩:=rO l hi
   obtain ⟨x',w2,g1,g2,_⟩:=HO i ts hts
   rw [hi] at g2
   cases g2
   have g1 : (s0.pick a0).list i=some w:=by
    have:=lH (n:=0) g1
    rw [Nat.zero_add] at this
    exact this
   rw [← hfull.list i] at g1
   exact g1
  have came : sS m c1 false [] [] [] s.nb 0 s.nl t.lists.length S:={
   kk:=fun _=>rfl
   kn:=List.nodup_nil
   ks:=by simp
   row:=fun i l0 h=>by simp at h
   inv:=sit.inv
   cinv:=c1inv
   nb:=List.nodup_nil
   ab:=by simp
   al:=by simp
   size:=fw.size
   os:=fw.os
   tape:=fw.tape
   output:=fw.output
   keep:=fun r hr _=>fw.keep r hr (own0 r)
   own:=fun r hr=>.inr ((fw.own r (c1own r hr)).resolve_left (own0 r))
   z:=fun r hr=>hr.2.imp id (fun h=>.inr h)
   zz:=fun r hr=>⟨fw.zz r (.inl hr),.inl hr⟩
   box:=fun i b h=>by simp at h
   freshB:=fun x h1 h2=>by omega
   freshL:=freshL
   sb:=fun x cs hx=>.inr ⟨cb0 x,cs,hx,(List.map_id _).symm⟩
   sbx:=fun x hx=>hx
   sl:=fun x o hx=>by
    have hx : (match vN s.nl t.lists.length x with | some i=>(fillO l t.lists).getD i none | none=>m.s.list x)=some o:=hx
    rw [aCa]
    cases hcl : vN s.nl t.lists.length x with
    | none=>rw [hcl] at hx;exact .inr ⟨rfl,by simp,hx⟩
    | some i=>
      rw [hcl] at hx
      exact .inl ⟨i,rfl,listC i o (getD_some hx)⟩}
  have listL : ∀ x,look x (backO s.nl (fillO l t.lists) s.lists)=match vN s.nl t.lists.length x with | some i=>(fillO l t.lists).getD i none | none=>s.list x:=fun x=>by
   have:=aFr (x:=x) (cs:=fillO l t.lists) (n:=s.nl) (old:=s.lists)
   rw [rE] at this
   exact this
  have hres : c1.rd (fillD l t.res) v:=hflat.rd (fun _ h=>h) (hless c v hdv)
  refine ⟨m.back c1 [] [] s.nb 0 s.nl t.lists.length S,hw,?_,?_⟩
  ·refine {
    step:=by have:=came.step sn1 (by omega) sn2 hnl;exact this
    after:=⟨fun x hx=>sit.ab x hx,fun x hx=>?_,fun _ _ _=>rfl,fun x h1 h2=>?_,fun _ _ _=>rfl,fun x h1 h2=>?_⟩
    nb:=Nat.le_refl _
    nl:=Nat.le_add_right _ _
    ub:=fun x hx hu=>hu.elim id (fun h=>by omega)
    ul:=fun x hx hu=>hu.elim id (fun h=>by have hx : s.nl+t.lists.length≤x:=hx;omega)}
   ·show (match vN s.nl t.lists.length x with | some i=>(fillO l t.lists).getD i none | none=>m.s.list x)=look x (backO s.nl (fillO l t.lists) s.lists)
    rw [listL x]
    cases vN s.nl t.lists.length x with
    | some i=>rfl
    | none=>exact sit.al x hx
   ·show (match vN s.nl t.lists.length x with | some i=>(fillO l t.lists).getD i none | none=>m.s.list x)=_
    rcases aFs s.nl t.lists.length x with ⟨i,g1,g2,g3⟩ | ⟨g1,_⟩
    ·exact absurd ⟨by omega,by omega⟩ h2
    ·rw [g1]
   ·show look x (backO s.nl (fillO l t.lists) s.lists)=_
    rw [listL x]
    rcases aFs s.nl t.lists.length x with ⟨i,g1,g2,g3⟩ | ⟨g1,_⟩
    ·exact absurd ⟨by omega,by omega⟩ h2
    ·rw [g1]
  ·refine cQ.renum (ρ:=c1.ρ) (live:=c1.s.live) (fun b b' hu hbb=>by cases hbb) (fun l0 l' hu hll=>?_) deep hres
   unfold backFl at hll
   cases hll
   have hlt:=hul l0 hu
   rw [← lenL] at hlt
   have hcl : vN s.nl t.lists.length (s.nl+l0)=some l0:=by
    unfold vN
    rw [if_pos ⟨by omega,by omega⟩]
    congr 1
    omega
   refine ⟨.inr ⟨by omega,by omega⟩,fun hv=>⟨?_,?_,?_,?_⟩⟩
   ·have hv : (match vN s.nl t.lists.length (s.nl+l0) with | some i=>(fillO l t.lists).getD i none | none=>m.s.list (s.nl+l0))≠none:=hv
    rw [hcl] at hv
    obtain ⟨w1,hw1⟩:=Option.ne_none_iff_exists'.1 hv
    have:=listC l0 w1 (getD_some hw1)
    show c.s.list l0≠none
    rw [this];simp
   ·show (match dS [] s.nl t.lists.length (s.nl+l0) with | some i=>c.ρ.hdr i | none=>_)=_
    rw [aCa,hcl]
   ·show (match dS [] s.nl t.lists.length (s.nl+l0) with | some i=>c.ρ.ty i | none=>_)=_
    rw [aCa,hcl]
   ·show (match dS [] s.nl t.lists.length (s.nl+l0) with | some i=>c.ρ.fp i | none=>_)=_
    rw [aCa,hcl]
end
section
variable {P : Program} {X : Cx} {O : Orc}
theorem aAZ : ∀ (ds : List DV) (ts : List Nat) (s : St) (k : List DV→St→Option R),ownArgs X ds ts s k=ownCells X ds (ts.map (elemOf X)) s k
 | [],ts,s,k=>by cases ts<;>rfl
 | d::ds,[],s,k=>rfl
 | d::ds,t::ts,s,k=>by
   unfold ownArgs ownCells
   simp only [List.map_cons]
   cases d<;>cases elemOf X t<;>simp only [aAZ ds ts]
theorem aGE {f : Nat} (hP : aDd P O.C) : ∀ ps r,O.C f ps=some r→iT P f∧∀ (w : World) (Z : Nat→Prop) (aO us : Array Value),ZOk w Z→ps.length=aO.size→
 (∀ (i : Nat) x v,ps[i]? = some x→aO[i]? = some v→eZ w Z x v)→([] : List PV).length=us.size→(∀ (i : Nat) x v,([] : List PV)[i]? = some x→us[i]? = some v→eZ w Z x v)→
 Calls P f (aO++us) w (fun e w'=>∃ v,e = .returned v∧∃ Z',aB8 w w' Z Z'∧eZ w' Z' (hd r) v):=by
 intro ps r h
 obtain ⟨h1,h2⟩:=hP f ps r h
 refine ⟨h1,fun w Z aO us hz hl hr hu _=>?_⟩
 have : us = #[]:=Array.eq_empty_of_size_eq_zero hu.symm
 subst this
 rw [Array.append_empty]
 exact h2 w Z aO hz hl hr
theorem aFx (kp : Bool) (kl : List Nat) (t : Nat) (e : Env) : (scrubKeptE kp kl e).get t=scrubKeptD kp kl (e.get t):=by
 unfold scrubKeptE scrubKeptD
 cases kp with
 | true=>exact vH kl t e
 | false=>rfl
theorem aI2 (hP : aDd P O.C) (hS : aFu P X.mode O.S) (hwf : ∀ g t,X.mode g=some t→t.wf=true) {f : Nat} {args : List DV} {ts : List Nat} {e : Env} {s : St} {k : DV→Env→St→Option R} {r : R} (h : callK X O f args ts e s k=some r) :
 iT P f∧∃ d' e' s' scr,k d' e' s'=some r∧(∀ t,e'.get t=scr (e.get t))∧((match X.mode f with | some t=>{ deepFoot s args (!t.lent) with last:=!t.lent&&t.keep} | none=>deepFoot s args false).last=false→scr=_root_.id)∧∀ (n : Nat) (m : aS) (B L WB WL : Nat→Prop),mP m s B L n→s'.nb≤n+16→s'.nl≤n+16→
  (∀ ft,ft=(match X.mode f with | some t=>{ deepFoot s args (!t.lent) with last:=!t.lent&&t.keep} | none=>deepFoot s args false)→ft.Cov B L WB WL∧(ft.ok=true∨∀ x,B x∧L x))→
  ∀ vs : Array Value,args.length=vs.size→(∀ (i : Nat) d v,args[i]? = some d→vs[i]? = some v→m.rd d v)→
    Calls P f vs m.w (fun e w'=>∃ v,e = .returned v∧∃ m',m'.w=w'∧bJ m m' s s' B L WB WL n scr∧m'.rd d' v):=by
 unfold callK at h
 split at h
 ·rename_i hmode
  unfold pureK at h
  obtain ⟨hcb,d',hk,H⟩:=aIY (caps:=[]) (k:=fun d s=>k d e s) (aGE hP) h
  refine ⟨hcb,d',e,s,_root_.id,hk,fun _=>rfl,fun _=>rfl,fun n m B L WB WL sit _ _ hft vs hl hr=>?_⟩
  obtain ⟨C,hok⟩:=hft _ rfl
  rw [hmode] at C hok
  have:=H n m B L WB WL sit (aHY sit C hok) vs #[] hl hr rfl (fun i x v h=>by simp at h)
  rwa [Array.append_empty] at this
 ·rename_i t hmode
  split at h
  ·rename_i hlent
   obtain ⟨hcb,d',s',hk,H⟩:=lentK_sound hS hmode (hwf f t hmode) h
   refine ⟨hcb,d',e,s',_root_.id,hk,fun _=>rfl,fun _=>rfl,fun n m B L WB WL sit hnb hnl hft vs hl hr=>?_⟩
   obtain ⟨C,hok⟩:=hft _ rfl
   rw [hmode] at C hok
   simp only [hlent,Bool.not_true,Bool.false_and] at C hok
   exact H n m B L WB WL sit hnb hnl (aHY sit C hok) vs hl hr
  ·rename_i hlent
   have hlent : t.lent=false:=by simpa using hlent
   rw [aAZ] at h
   obtain ⟨ds',s1,h1,hlen,hms,HM⟩:=jT h
   obtain ⟨hcb,d',s',kl,hk,hs1,H⟩:=aI1 hS hmode (hwf f t hmode) h1
   refine ⟨hcb,d',scrubKeptE t.keep kl e,s',scrubKeptD t.keep kl,hk,fun t'=>aFx t.keep kl t' e,fun hla=>?_,fun n m B L WB WL sit hnb hnl hft vs hl hr=>?_⟩
   ·rw [hmode] at hla
    simp only [hlent,Bool.not_false,Bool.true_and] at hla
    unfold scrubKeptD
    rw [hla];rfl
   obtain ⟨C,hok⟩:=hft _ rfl
   rw [hmode] at C hok
   simp only [hlent,Bool.not_false,Bool.true_and] at C hok
   obtain ⟨m1,M1,hr1⟩:=HM n m sit.inv sit.nl (by omega) sit.fl vs.toList (fun i d u h1 h2=>hr i d u h1 (by simpa using h2))
   have G1:=M1.goes WB WL sit hms (by omega)
   have sit1:=G1.sit sit
   have hwb : (deepFoot s args true).wb=(deepFoot s args true).rb:=rfl
   have hwl : (deepFoot s args true).wl=(deepFoot s args true).rl:=rfl
   have:=H n m1 B L WB WL sit1 hnb hnl sit.nl (fun b hb=>⟨C.rb b hb,C.wb b (by show b∈(deepFoot s args true).wb;rw [hwb];exact hb)⟩) (fun l hl=>⟨C.rl l hl,C.wl l (by show l∈(deepFoot s args true).wl;rw [hwl];exact hl)⟩) (fun hkp x=>⟨⟨(C.all hkp x).1,(C.all hkp x).2.2.1⟩,⟨(C.all hkp x).2.1,(C.all hkp x).2.2.2⟩⟩) vs (by omega) (fun i d v h1 h2=>hr1 i d v h1 (by simpa using h2))
   rw [M1.w] at this
   refine this.mono ?_
   rintro e w' ⟨v,rfl,m',hw,G,hd⟩
   exact ⟨v,rfl,m',hw,G1.trans G,hd⟩
theorem aKe (hP : aDd P O.C) (hS : aFu P X.mode O.S) (hwf : ∀ g t,X.mode g=some t→t.wf=true) : aB4 P X O:=by
 intro d args ts e s k r h
 unfold applyK at h
 split at h
 ·rename_i f caps
  obtain ⟨hcb,d',e',s',scr,hk,he,hid,H⟩:=aI2 hP hS hwf h
  have hfeq : callFoot X (.fn f caps) args s=(match X.mode f with | some t=>{ deepFoot s (args++caps) (!t.lent) with last:=!t.lent&&t.keep} | none=>deepFoot s (args++caps) false):=by
   unfold callFoot
   simp only
   cases X.mode f<;>rfl
  refine ⟨d',e',s',scr,hk,he,fun hla=>hid (by rw [← hfeq];exact hla),fun n m B L WB WL sit hnb hnl C hok vf vs hvf hl hr=>?_⟩
  cases hvf with
  | fn _ _ us hul hur=>
    have e1 : (do let df ← Deferred.ofValue (.func (.func f) #[] us.toArray) vs;invoke df.target df.args : Sem Next).run P m.w = .ok (.enter f (vs++us.toArray)) m.w:=by
     simp [Deferred.ofValue,invoke,aB7 hcb]
    rw [e1]
    refine (H n m B L WB WL sit hnb hnl (fun ft hft=>?_) (vs++us.toArray) (by simp;omega) (fun i d v hd hv=>?_))
    ·rw [hfeq,← hft] at C hok
     exact ⟨C,hok⟩
    ·rw [Array.getElem?_append] at hv
     split at hv
     ·rename_i hi
      rw [List.getElem?_append_left (by omega)] at hd
      exact hr i d v hd hv
     ·rename_i hi
      rw [List.getElem?_append_right (by omega)] at hd
      refine hur (i - args.length) d v hd ?_
      rw [hl]
      simpa using hv
 ·rename_i v
  cases v with
  | fn f caps=>
    obtain ⟨hcb,d',hk,H⟩:=aIY (P:=P) (f:=f) (C:=fun vs=>PV.apply O.C (.fn f caps) vs) (caps:=caps) (k:=fun d s=>k d e s) (fun ps r0 h0=>by
     have h0 : O.C f (ps++caps)=some r0:=h0
     obtain ⟨h1,h2⟩:=hP f _ _ h0
     refine ⟨h1,fun w Z aO us hz hl hr hul hur=>h2 w Z (aO++us) hz (by simp;omega) (fun i x v hx hv=>?_)⟩
     rw [Array.getElem?_append] at hv
     split at hv
     ·rw [List.getElem?_append_left (by omega)] at hx
      exact hr i x v hx hv
     ·rw [List.getElem?_append_right (by omega)] at hx
      exact hur (i - ps.length) x v hx (by rw [hl];exact hv)) h
    refine ⟨d',e,s,id,hk,fun _=>rfl,fun _=>rfl,fun n m B L WB WL sit hnb hnl C hok vf vs hvf hl hr=>?_⟩
    cases hvf with
    | p _ _ hvf=>cases hvf with
      | fn _ _ us hul hur=>
        have e1 : (do let df ← Deferred.ofValue (.func (.func f) #[] us.toArray) vs;invoke df.target df.args : Sem Next).run P m.w = .ok (.enter f (vs++us.toArray)) m.w:=by
         simp [Deferred.ofValue,invoke,aB7 hcb]
        rw [e1]
        exact H n m B L WB WL sit (aHY (ds:=args) (wr:=false) sit C hok) vs us.toArray hl hr (by simpa using hul) (fun i x v hx hv=>hur i x v hx (by simpa using hv))
  | _=>
    exfalso
    split at h<;>
    ·obtain ⟨ps,h1,_⟩:=tA (s:=s) h
     obtain ⟨r0,hr0,_⟩:=aN h1
     simp [PV.apply] at hr0
 ·cases h
end
structure Hyp (P : Program) (T : Tab) (H : Hints) : Prop where
 tab : T=tabOf P
 zero : jB P H.zok
 mixed : P.follows .mixedOrders=true
 code : ∀ (f : Nat) (fn : Func) (c : Code),P.funcs[f]? = some fn→fn.body=some c→codeOk fn.ntmps c=true∧fn.name≠ "runtime.NumGoroutine"
 prim : aDd P fun g args=>(H.prim g).bind fun p=>p args
 primS : ∀ g h,H.primS g=some h→∀ t args s l,H.mode g=some t→h args s=some l→iT P g∧∀ (m : aS) (aO : Array Value),fE m s s.base→args.length=aO.size→
  (∀ (i : Nat) d v,args[i]? = some d→aO[i]? = some v→m.rd d v)→Calls P g aO m.w (fun e w'=>∃ v,e = .returned v∧oE m s.boxes.length (if t.keep then s.lists.length else 0) (some (t.fit s)) l v w')
 glob : ∀ g,H.glob g=none
 wf : ∀ g t,H.mode g=some t→t.wf=true
section
variable {P : Program} {T : Tab} {H : Hints}
theorem aFy : ∀ (ds : List DV) (n t : Nat),(argEnv n ds).get t=if n≤t then ds.getD (t - n) .dead else .dead
 | [],n,t=>by simp [argEnv,Env.get]
 | d::r,n,t=>by
   unfold argEnv
   simp only [Env.get]
   by_cases h : t=n
   ·subst h;simp
   ·have hb : Nat.beq t n=false:=by
     cases hb : Nat.beq t n with
     | false=>rfl
     | true=>exact absurd (bH hb) h
    rw [hb]
    simp only [Bool.false_eq_true,if_false]
    rw [aFy]
    by_cases h2 : n≤t
    ·rw [if_pos h2,if_pos (by omega),show t - n=t - (n+1)+1 by omega]
     simp [List.getD]
    ·rw [if_neg h2,if_neg (by omega)]
theorem aI3 {m : aS} {args : List DV} {vs : Array Value} {n : Nat} (hl : args.length=vs.size) (hr : ∀ (i : Nat) d v,args[i]? = some d→vs[i]? = some v→m.rd d v) :
 fR m (argEnv 0 args).get ⟨vs++Array.replicate n undef,[]⟩:=by
 intro t
 rw [aFy,if_pos (Nat.zero_le _),Nat.sub_zero]
 by_cases h : t<args.length
 ·have hd : args[t]? = some args[t]:=List.getElem?_eq_getElem h
  have hv : vs[t]? = some (vs[t]'(by omega)):=Array.getElem?_eq_getElem (by omega)
  have e1 : args.getD t .dead=args[t]:=by rw [List.getD,hd];rfl
  have e2 : Act.eval ⟨vs++Array.replicate n undef,[]⟩ (.tmp t)=vs[t]'(by omega):=by
   show (vs++Array.replicate n undef).getD t undef=_
   rw [Array.getD_eq_getD_getElem?,Array.getElem?_append_left (by omega),hv];rfl
  rw [e1,e2]
  exact hr t _ _ hd hv
 ·have e1 : args.getD t .dead = .dead:=by rw [List.getD,List.getElem?_eq_none (by omega)];rfl
  rw [e1]
  exact .dead _
theorem aAE {f : Nat} {fn : Func} {c : Code} (hfn : P.funcs[f]? = some fn) (hc : fn.body=some c) {nb nl : Nat} {out : Option Tmpl} {args : List DV} {s : St} {r : R} (hg : aNA P f nb nl out [.code c] (argEnv 0 args) s r)
 {m : aS} {vs : Array Value} (hf : fE m s s.base) (hl : args.length=vs.size) (hr : ∀ (i : Nat) d v,args[i]? = some d→vs[i]? = some v→m.rd d v) :
 Calls P f vs m.w (fun e w'=>∃ v,e = .returned v∧oE m nb nl out r v w'):=by
 intro cs
 let b : Frame:={ (default : Frame) with fn:=f,kind:=.normal}
 have henter : Frame.enter P f vs .normal=b.at ⟨vs++Array.replicate (fn.ntmps - vs.size) undef,[]⟩ [.code c]:=by
  simp [Frame.enter,Frame.at,hfn,hc,b]
 obtain ⟨v,w',fr,h1,h2,h3,h4⟩:=hg m ⟨vs++Array.replicate (fn.ntmps - vs.size) undef,[]⟩ fn hfn hf (aI3 hl hr) (by simp;omega) rfl b cs rfl rfl
 rw [← henter] at h2
 exact ⟨.returned v,w',fr,⟨v,rfl,h1⟩,h2,h3,h4⟩
theorem aA0 {f : Nat} {n nb nl : Nat} {out : Option Tmpl} {e : Env} {s : St} {r : R} (h : runN P T H n f nb nl out (startOf P f) e s=some r) : ∃ fn c,P.funcs[f]? = some fn∧fn.body=some c∧startOf P f = [.code c]:=by
 cases hb : bodyOf P f with
 | none=>
   exfalso
   cases n with
   | zero=>simp [runN] at h
   | succ n=>
     unfold runN at h
     have hs : startOf P f = [.code (.refuse "")]:=by unfold startOf;rw [hb]
     rw [hs] at h
     unfold evalFuel eval at h
     simp at h
 | some c=>
   have hs : startOf P f = [.code c]:=by unfold startOf;rw [hb]
   unfold bodyOf at hb
   cases hf : P.funcs[f]? with
   | none=>rw [hf] at hb;cases hb
   | some fn=>rw [hf] at hb;exact ⟨fn,c,rfl,hb,hs⟩
theorem aOo (hy : Hyp P T H) {g : Nat} {fn : Func} {c : Code} (hg : P.funcs[g]? = some fn) (hc : fn.body=some c) : lA fn.ntmps [.code c]:=fun x hx=>by
 simp at hx;subst hx;exact (hy.code _ _ _ hg hc).1
def aKY (P : Program) (run : Nat→Nat→Nat→Option Tmpl→List Item→Env→St→Option R) : Prop:=∀ (f nb nl : Nat) (out : Option Tmpl) (todo : List Item) (e : Env) (s : St) (r : R) (fn : Func),run f nb nl out todo e s=some r→P.funcs[f]? = some fn→lA fn.ntmps todo→aNA P f nb nl out todo e s r
def aMz (P : Program) (run : Nat→Nat→Nat→Option Tmpl→List Item→Env→St→Option R) : Prop:=∀ {f nb nl : Nat} {out : Option Tmpl} {e : Env} {s : St} {r : R},run f nb nl out (startOf P f) e s=some r→∃ fn c,P.funcs[f]? = some fn∧fn.body=some c∧startOf P f = [.code c]
variable {run : Nat → Nat → Nat → Option Tmpl → List Item → Env → St → Option R}
theorem aI4 (hy : Hyp P T H) (hrun : aKY P run) (hst : aMz P run) (f nb nl : Nat) (out : Option Tmpl) : aDd P (orcOf P H run f nb nl out).C:=by
 intro g args r h
 have h : (match H.prim g with | some h=>h args | none=>run g 0 0 none (startOf P g) (argEnv 0 (args.map .p)) ⟨[],[],0,0,0⟩)=some r:=h
 cases hpr : H.prim g with
 | some p=>
   rw [hpr] at h
   exact hy.prim g args r (by simp only [hpr,Option.bind_some];exact h)
 | none=>
 rw [hpr] at h
 simp only at h
 obtain ⟨fg,c,hfg,hc,hst'⟩:=hst h
 rw [hst'] at h
 have good:=hrun g 0 0 none _ _ _ r fg h hfg (aOo hy hfg hc)
 refine ⟨⟨fg,c,hfg,hc,(hy.code _ _ _ hfg hc).2⟩,fun w Z aO hz hl hr=>?_⟩
 let m0 : aS:={ w:=w,Z:=Z,s:={ box:=fun _=>none,list:=fun _=>none},L:=fun _=>False,
                ρ:={ box:=fun _=>0,hdr:=fun _=>.nilFunc,fp:=fun _ _=>False,ty:=fun _=>.leaf,ub:=fun _=>False,ul:=fun _=>False}}
 have full0 : fE m0 ⟨[],[],0,0,0⟩ 0:={
  inv:={
   ub:=fun _ _ h=>by cases h
   ul:=fun _ _ h=>by cases h
   zlt:=hz
   box:=fun _ _ h=>by cases h
   row:=fun _ _ h=>by cases h
   bz:=fun _ _ h=>by cases h
   bb:=fun _ _ _ _ h=>by cases h
   bl:=fun _ _ _ _ h=>by cases h
   ll:=fun _ _ _ _ _ h=>by cases h
   Lz:=fun _ h=>h.elim
   Lb:=fun _ _ _ h=>h
   Ll:=fun _ _ _ _ _ h=>h}
  box:=fun _=>rfl
  list:=fun _=>rfl
  ub:=fun _ h=>h.elim
  ul:=fun _ h=>h.elim}
 have own0 : ∀ r,¬ m0.owned r:=by
  rintro r (⟨_,_,h,_⟩ | ⟨_,_,h,_⟩ | h)
  ·cases h
  ·cases h
  ·exact h
 refine (aAE hfg hc good (m:=m0) (vs:=aO) full0 (by simpa using hl) (fun i d v hd hv=>?_)).mono ?_
 ·rw [List.getElem?_map] at hd
  cases hp : args[i]? with
  | none=>rw [hp] at hd;cases hd
  | some p=>rw [hp] at hd;cases hd;exact .p _ _ (hr i p v hp hv)
 ·rintro e w' ⟨v,rfl,m',rfl,inv',fw,pv,rfl,hrep⟩
  refine ⟨v,rfl,fun x=>m'.Z x∨m'.owned x,⟨fw.size,fw.os,fw.tape,fw.output,fun r hr=>fw.keep r hr (own0 r),fun r hr=>.inl (fw.zz r hr),fun r hr=>?_⟩,hrep⟩
  rcases hr with hr | hr
  ·rcases fw.z r hr with h | h | h
   ·exact .inl h
   ·exact (own0 r h).elim
   ·exact .inr ⟨h,inv'.zlt r hr⟩
  ·exact .inr ⟨(fw.own r hr).resolve_left (own0 r),inv'.owned_lt hr⟩
theorem aMA (hy : Hyp P T H) (hrun : aKY P run) (hst : aMz P run) (f nb nl : Nat) (out : Option Tmpl) : aFu P H.mode (orcOf P H run f nb nl out).S:=by
 intro g t args s l hmode h
 have h : (match H.mode g with | some t=>(match H.primS g with | some h=>h args s | none=>run g s.boxes.length (if t.keep then s.lists.length else 0) (some (t.fit s)) (startOf P g) (argEnv 0 args) s) | none=>none)=some l:=h
 rw [hmode] at h
 simp only at h
 cases hps : H.primS g with
 | some p=>
   rw [hps] at h
   exact hy.primS g p hps t args s l hmode h
 | none=>
 rw [hps] at h
 simp only at h
 obtain ⟨fg,c,hfg,hc,hst'⟩:=hst h
 rw [hst'] at h
 have good:=hrun g s.boxes.length (if t.keep then s.lists.length else 0) (some (t.fit s)) _ _ _ l fg h hfg (aOo hy hfg hc)
 exact ⟨⟨fg,c,hfg,hc,(hy.code _ _ _ hfg hc).2⟩,fun m aO hf hl hr=>aAE hfg hc good hf hl hr⟩
theorem aHn (hy : Hyp P T H) : ∀ (n : Nat),aKY P (runN P T H n)
 | 0,_,_,_,_,_,_,_,_,_,h,_,_=>by simp [runN] at h
 | n+1,f,nb,nl,out,todo,e,s,r,fn,h,hfn,hok=>by
   unfold runN at h
   have ih:=aHn hy n
   have hP:=aI4 hy ih aA0 f nb nl out
   have hS:=aMA hy ih aA0 f nb nl out
   refine aFp (X:=cxOf P T H f nb nl out) (O:=orcOf P H (runN P T H n) f nb nl out) hy.tab hy.zero hy.glob (aKe hP hS hy.wf) hy.mixed hfn ?_ (fun todo e s r h hk=>ih f nb nl out todo e s r fn h hfn hk) evalFuel true todo e s r h hok
   show ((P.funcs[f]?).map (·.results.toList)).getD []=_
   rw [hfn];rfl
end
def aL {β : Type} (a : Option β) (b : Nat→Option β) : Prop:=∀ r,a=some r→∃ N,∀ n,N≤n→b n=some r
section
variable {α β : Type}
theorem aL.none {b : Nat→Option β} : aL (Option.none : Option β) b:=fun r h=>by cases h
theorem aL.rfl (a : Option β) : aL a (fun _=>a):=fun r h=>⟨0,fun _ _=>h⟩
theorem aL.bd {o : Option α} {k : α→Option β} {k' : Nat→α→Option β} (h : ∀ a,aL (k a) (fun n=>k' n a)) : aL (bd o k) (fun n=>bd o (k' n)):=by
 cases o with
 | none=>exact aL.none
 | some a=>exact h a
theorem aL.bd2 {o : Option α} {o' : Nat→Option α} {k : α→Option β} {k' : Nat→α→Option β} (ho : aL o o') (h : ∀ a,aL (k a) (fun n=>k' n a)) : aL (Go.Proofs.YthkofpnllaapeaaGreatDoor.bd o k) (fun n=>Go.Proofs.YthkofpnllaapeaaGreatDoor.bd (o' n) (k' n)):=by
 intro r hr
 obtain ⟨a,ha,hk⟩:=aN hr
 obtain ⟨N,hN⟩:=ho a ha
 obtain ⟨M,hM⟩:=h a r hk
 refine ⟨max N M,fun n hn=>?_⟩
 show Go.Proofs.YthkofpnllaapeaaGreatDoor.bd (o' n) (k' n)=some r
 rw [hN n (by omega)]
 exact hM n (by omega)
theorem aL.pvite {c : PV} {a b : Option β} {a' b' : Nat→Option β} (ha : aL a a') (hb : aL b b') : aL (PV.ite c a b) (fun n=>PV.ite c (a' n) (b' n)):=by
 intro r hr
 rcases uP hr with ⟨rfl,h⟩ | ⟨rfl,h⟩
 ·obtain ⟨N,hN⟩:=ha r h
  exact ⟨N,fun n hn=>hN n hn⟩
 ·obtain ⟨N,hN⟩:=hb r h
  exact ⟨N,fun n hn=>hN n hn⟩
theorem aL.nilT {c : PV} {a b : Option β} {a' b' : Nat→Option β} (ha : aL a a') (hb : aL b b') : aL (PV.nilT c a b) (fun n=>PV.nilT c (a' n) (b' n)):=by
 intro r hr
 obtain ⟨h1,h2⟩:=aHk hr
 obtain ⟨M,hM⟩:=hb r h2
 cases c with
 | lst xs=>
   cases xs with
   | nil=>
     obtain ⟨N,hN⟩:=ha r (h1 (Eq.refl _))
     refine ⟨max N M,fun n hn=>?_⟩
     show @_root_.ite _ (a' n=b' n) (Classical.propDecidable _) (a' n) Option.none=some r
     rw [hN n (by omega),hM n (by omega),if_pos (Eq.refl _)]
   | cons x xs=>exact ⟨M,fun n hn=>hM n hn⟩
 | _=>cases hr
theorem aL.ite {c : Prop} [Decidable c] {a b : Option β} {a' b' : Nat→Option β} (ha : aL a a') (hb : aL b b') : aL (if c then a else b) (fun n=>if c then a' n else b' n):=by
 by_cases h : c
 ·simp only [h,if_true];exact ha
 ·simp only [h,if_false];exact hb
theorem aL.flat {r : PV} {a : Option β} {a' : Nat→Option β} (ha : aL a a') : aL (PV.guardFlat r a) (fun n=>PV.guardFlat r (a' n)):=by
 unfold PV.guardFlat;exact aL.ite ha aL.none
theorem aL.own {o : OTy} {r : PV} {a : Option β} {a' : Nat→Option β} (ha : aL a a') : aL (PV.guardOwn o r a) (fun n=>PV.guardOwn o r (a' n)):=by
 unfold PV.guardOwn;exact aL.ite ha aL.none
end
section
variable {X : Cx}
theorem aCc {v : PV} : ∀ {m : Nat} {k : List PV→Option R} {k' : Nat→List PV→Option R},(∀ l,aL (k l) (fun n=>k' n l))→aL (cellsK.go v m k) (fun n=>cellsK.go v m (k' n))
 | 0,_,_,h=>h []
 | _+1,_,_,h=>by
   unfold cellsK.go
   exact aCc fun l=>aL.bd fun c=>h _
theorem mD {m : Nat} {d : DV} {k : List DV→Option R} {k' : Nat→List DV→Option R} (h : ∀ l,aL (k l) (fun n=>k' n l)) : aL (cellsK m d k) (fun n=>cellsK m d (k' n)):=by
 cases d<;>simp only [cellsK]<;>first
  | exact aL.none
  | exact aL.ite (h _) aL.none
  | exact aL.bd fun v=>aCc fun l=>h _
theorem iZ : ∀ {path : eE} {o : OTy} {c : PV} {k : OTy→PV→Option R} {k' : Nat→OTy→PV→Option R},(∀ o c,aL (k o c) (fun n=>k' n o c))→aL (getK o c path k) (fun n=>getK o c path (k' n))
 | [],_,_,_,_,h=>h _ _
 | (i,j)::r,o,c,k,k',h=>by
   unfold getK
   exact aL.bd fun x=>aL.ite (aL.bd fun y=>iZ h) (aL.ite (iZ h) aL.none)
theorem uU : ∀ {path : eE} {o : OTy} {c y : PV} {k : PV→Option R} {k' : Nat→PV→Option R},(∀ c,aL (k c) (fun n=>k' n c))→aL (setK o c path y k) (fun n=>setK o c path y (k' n))
 | [],_,_,_,_,_,h=>h _
 | (i,j)::r,o,c,y,k,k',h=>by
   unfold setK
   exact aL.bd fun x=>aL.ite (aL.bd fun z=>uU fun z'=>aL.bd h) (aL.ite (uU fun z'=>aL.bd h) aL.none)
theorem rF {s : St} {d : DV} {k : OTy→PV→Option R} {k' : Nat→OTy→PV→Option R} (h : ∀ o c,aL (k o c) (fun n=>k' n o c)) : aL (rowK s d k) (fun n=>rowK s d (k' n)):=by
 cases d<;>simp only [rowK]<;>try exact aL.none
 ·rename_i l path
  cases s.list l with
  | none=>exact aL.none
  | some w=>exact iZ h
 ·rename_i l path lo hi
  cases s.list l with
  | none=>exact aL.none
  | some w=>exact iZ fun o c=>aL.bd fun c=>h _ _
theorem aDf {α β : Type} {f : α→(β→Option R)→Option R} (hf : ∀ a k (k' : Nat→β→Option R),(∀ b,aL (k b) (fun n=>k' n b))→aL (f a k) (fun n=>f a (k' n))) :
 ∀ {l : List α} {k : List β→Option R} {k' : Nat→List β→Option R},(∀ b,aL (k b) (fun n=>k' n b))→aL (mapK f l k) (fun n=>mapK f l (k' n))
 | [],_,_,h=>h _
 | d::r,k,k',h=>by
   unfold mapK
   exact hf _ _ _ fun v=>aDf hf fun vs=>h _
theorem aA1 {s : St} : ∀ {m : Nat} {d : DV} {k : PV→Option R} {k' : Nat→PV→Option R},(∀ v,aL (k v) (fun n=>k' n v))→aL (snapK s m d k) (fun n=>snapK s m d (k' n))
 | 0,_,_,_,_=>by simp only [snapK];exact aL.none
 | m+1,d,k,k',h=>by
   have mp:=fun {ds : List DV} {k : List PV→Option R} {k' : Nat→List PV→Option R} (h : ∀ v,aL (k v) (fun n=>k' n v))=>aDf (f:=snapK s m) (fun a k k' h=>aA1 h) (l:=ds) h
   cases d<;>simp only [snapK]<;>first
    | exact aL.none
    | exact h _
    | exact mp fun vs=>h _
    | exact rF fun _ c=>h _
    | skip
   ·rename_i b off
    cases off with
    | zero=>
      cases s.box b with
      | none=>exact aL.none
      | some cs=>exact mp fun vs=>h _
    | succ n=>exact aL.none
   ·rename_i b n
    cases s.box b with
    | none=>exact aL.none
    | some cs=>exact aL.ite (mp fun vs=>aL.bd fun c=>h _) aL.none
theorem rP {s : St} {m : Nat} {ds : List DV} {k : List PV→Option R} {k' : Nat→List PV→Option R} (h : ∀ v,aL (k v) (fun n=>k' n v)) : aL (snapL s m ds k) (fun n=>snapL s m ds (k' n)):=by
 unfold snapL
 exact aDf (f:=snapK s m) (fun a k k' h=>aA1 h) h
theorem aKf {s : St} {d : DV} {k : PV→St→Option R} {k' : Nat→PV→St→Option R} (h : ∀ v s,aL (k v s) (fun n=>k' n v s)) : aL (sinkK s d k) (fun n=>sinkK s d (k' n)):=by
 unfold sinkK
 cases bsOf deep d with
 | nil=>exact aA1 fun v=>h _ _
 | cons=>exact aL.none
theorem tB {ct : OTy} {s : St} {d : DV} {k : PV→St→Option R} {k' : Nat→PV→St→Option R} (h : ∀ v s,aL (k v s) (fun n=>k' n v s)) : aL (sinkAs ct s d k) (fun n=>sinkAs ct s d (k' n)):=by
 cases ct with
 | leaf=>exact aKf h
 | own a b c e=>
   cases d<;>simp only [sinkAs]<;>first
    | exact aL.none
    | exact h _ _
    | skip
   ·rename_i l path
    cases path with
    | nil=>
      dsimp only
      cases s.list l with
      | none=>exact aL.none
      | some w=>exact aL.ite (h _ _) aL.none
    | cons=>exact aL.none
   ·rename_i l path lo hi
    cases path with
    | nil=>
      dsimp only
      cases s.list l with
      | none=>exact aL.none
      | some w=>exact aL.ite (aL.bd fun c=>h _ _) aL.none
    | cons=>exact aL.none
theorem rQ {o : OTy} : ∀ {ds : List DV} {s : St} {j : Nat} {k : List PV→St→Option R} {k' : Nat→List PV→St→Option R},(∀ v s,aL (k v s) (fun n=>k' n v s))→aL (sinkCells o s j ds k) (fun n=>sinkCells o s j ds (k' n))
 | [],_,_,_,_,h=>h _ _
 | d::r,s,j,k,k',h=>by
   unfold sinkCells
   exact tB fun v s=>rQ fun vs s=>h _ _
theorem aFz {o : OTy} {s : St} {d : DV} {k : PV→St→Option R} {k' : Nat→PV→St→Option R} (h : ∀ v s,aL (k v s) (fun n=>k' n v s)) : aL (elemK o s d k) (fun n=>elemK o s d (k' n)):=by
 unfold elemK
 cases o.g with
 | true=>
   cases d<;>simp only [if_true]<;>first
    | exact aL.none
    | exact aL.ite (h _ _) aL.none
    | exact aL.ite (rQ fun vs s=>h _ _) aL.none
 | false=>
   cases d<;>simp only [Bool.false_eq_true,if_false]<;>first
    | exact aL.none
    | exact tB h
theorem jA : ∀ {ds : List DV} {ts : List (Option Nat)} {s : St} {k : List DV→St→Option R} {k' : Nat→List DV→St→Option R},(∀ v s,aL (k v s) (fun n=>k' n v s))→aL (ownCells X ds ts s k) (fun n=>ownCells X ds ts s (k' n))
 | [],ts,s,k,k',h=>by cases ts<;>exact h _ _
 | d::ds,[],s,k,k',h=>h _ _
 | d::ds,t::ts,s,k,k',h=>by
   unfold ownCells
   cases d<;>cases t<;>exact jA fun vs s=>h _ _
theorem yE {l : Nat} {path : eE} {i : PV} {o : OTy} {x : PV} : ∀ {m off : Nat} {k : List DV→Option R} {k' : Nat→List DV→Option R},(∀ v,aL (k v) (fun n=>k' n v))→aL (cellsE l path i o x m off k) (fun n=>cellsE l path i o x m off (k' n))
 | 0,_,_,_,h=>h _
 | m+1,off,k,k',h=>by
   unfold cellsE
   exact aL.ite (aL.bd fun y=>yE fun ds=>h _) (yE fun ds=>h _)
theorem aFA {x : PV} {s : Nat} {g : Bool} {off : Nat} {r : TyR} {k : DV→Option R} {k' : Nat→DV→Option R} (h : ∀ v,aL (k v) (fun n=>k' n v)) : aL (partK x s g off r k) (fun n=>partK x s g off r (k' n)):=by
 unfold partK
 exact aL.ite (aL.ite (h _) (aL.bd fun y=>h _)) (aL.ite (aL.bd fun y=>h _) (aL.ite (h _) aL.none))
theorem aD8 {c : PV} : ∀ {m off : Nat} {k : List PV→Option R} {k' : Nat→List PV→Option R},(∀ v,aL (k v) (fun n=>k' n v))→aL (loadK.cellsB c m off k) (fun n=>loadK.cellsB c m off (k' n))
 | 0,_,_,_,h=>h _
 | m+1,off,k,k',h=>by
   unfold loadK.cellsB
   exact aL.bd fun v=>aD8 fun l=>h _
theorem aKg {t : Nat} {a : DV} {s : St} {k : DV→Option R} {k' : Nat→DV→Option R} (h : ∀ v,aL (k v) (fun n=>k' n v)) : aL (loadK X t a s k) (fun n=>loadK X t a s (k' n)):=by
 unfold loadK
 refine aL.ite aL.none ?_
 cases a<;>(try simp only)<;>first
  | exact aL.none
  | exact aL.ite (aD8 fun l=>h _) (aL.bd fun y=>h _)
  | exact aFA h
  | skip
 ·rename_i b off
  cases s.box b with
  | none=>exact aL.none
  | some cs=>
    refine aL.ite (aL.ite (h _) aL.none) ?_
    cases cs[off]? with
    | none=>exact aL.none
    | some d=>exact h _
 ·rename_i l path i off
  cases s.list l with
  | none=>exact aL.none
  | some w=>
    exact iZ fun o c=>aL.bd fun x=>aL.ite (aFA h) (aL.ite (aL.ite (yE fun ds=>h _) aL.none)
     (aL.ite (aL.ite (aL.bd fun y=>h _) (aL.ite (h _) aL.none)) (aL.ite (h _) aL.none)))
theorem aAa {d : DV} {k : DV→Option R} {k' : Nat→DV→Option R} (h : ∀ v,aL (k v) (fun n=>k' n v)) : aL (oneK d k) (fun n=>oneK d (k' n)):=by
 cases d<;>simp only [oneK]<;>first
  | exact aL.none
  | exact h _
  | exact aL.bd fun x=>h _
theorem aI5 {t b off : Nat} {v : DV} {s : St} {k : St→Option R} {k' : Nat→St→Option R} (h : ∀ v,aL (k v) (fun n=>k' n v)) : aL (storeB X t b off v s k) (fun n=>storeB X t b off v s (k' n)):=by
 unfold storeB
 simp only
 cases s.box b with
 | none=>exact aL.none
 | some cs=>
   refine aL.ite (aL.ite (mD fun vs=>jA fun vs s=>h _) (aL.ite (aAa fun v=>?_) aL.none)) aL.none
   cases v<;>(try simp only)<;>first
    | exact h _
    | skip
   ·cases elemOf X t with
    | none=>exact aL.none
    | some u=>exact h _
   ·rename_i l path lo hi
    cases path with
    | cons=>exact h _
    | nil=>
      cases cs[off]? with
      | none=>exact h _
      | some d=>
        cases d<;>(try simp only)<;>first
         | exact h _
         | skip
        rename_i l' path'
        cases path' with
        | cons=>exact h _
        | nil=>
          refine aL.ite ?_ (h _)
          cases s.list l with
          | none=>exact aL.none
          | some w=>exact aL.bd fun c=>h _
theorem aD9 {m : Nat} {c i : PV} : ∀ {ys : List PV} {c : PV} {off : Nat} {k : PV→Option R} {k' : Nat→PV→Option R},(∀ v,aL (k v) (fun n=>k' n v))→aL (storeK.setAll m c i off ys k) (fun n=>storeK.setAll m c i off ys (k' n))
 | [],_,_,_,_,h=>h _
 | y::ys,c,off,k,k',h=>by
   unfold storeK.setAll
   exact aL.bd fun c=>aD9 (c:=c) h
theorem aI6 {e : Env} {l : Nat} {path : eE} {w : Own} {c : PV} {s : St} {k : Env→St→Option R} {k' : Nat→Env→St→Option R} (h : ∀ e s,aL (k e s) (fun n=>k' n e s)) : aL (storeK.fin e k l path w c s) (fun n=>storeK.fin e (k' n) l path w c s):=by
 unfold storeK.fin
 refine uU fun c'=>?_
 unfold touchK
 exact aL.ite (h _ _) (h _ _)
theorem aFB {e : Env} {o : OTy} {ds : List DV} {off l : Nat} {path : eE} {i : PV} {s : St} {k : Env→St→Option R} {k' : Nat→Env→St→Option R} (h : ∀ e s,aL (k e s) (fun n=>k' n e s)) : aL (storeK.setIn e k o ds off l path i s) (fun n=>storeK.setIn e (k' n) o ds off l path i s):=by
 unfold storeK.setIn
 refine rQ fun ys s=>?_
 cases s.list l with
 | none=>exact aL.none
 | some w=>exact iZ fun o c=>aD9 (c:=c) fun c=>aI6 h
theorem aEa {t : Nat} {a v : DV} {e : Env} {s : St} {k : Env→St→Option R} {k' : Nat→Env→St→Option R} (h : ∀ e s,aL (k e s) (fun n=>k' n e s)) : aL (storeK X t a v e s k) (fun n=>storeK X t a v e s (k' n)):=by
 unfold storeK
 refine aL.ite aL.none ?_
 cases a<;>(try simp only)<;>first
  | exact aL.none
  | exact aI5 fun s=>h _ _
  | skip
 rename_i l path i off
 cases s.list l with
 | none=>exact aL.none
 | some w=>
   refine iZ fun o c=>aL.ite (aFz fun x s=>?_) (aL.ite (mD fun ds=>aFB h) (aL.ite (aAa fun v=>aFB h) aL.none))
   cases s.list l with
   | none=>exact aL.none
   | some w=>exact iZ fun o c=>aL.bd fun c=>aI6 h
theorem yF {fs : List (Nat × Nat)} : ∀ {ps : List (Nat × DV)} {cs : List DV} {k : List DV→Option R} {k' : Nat→List DV→Option R},(∀ v,aL (k v) (fun n=>k' n v))→aL (buildK X fs ps cs k) (fun n=>buildK X fs ps cs (k' n))
 | [],_,_,_,h=>h _
 | (i,v)::r,cs,k,k',h=>by
   unfold buildK
   cases fs[i]? with
   | none=>exact aL.none
   | some p=>exact aL.ite (aL.ite (mD fun vs=>yF h) (aL.ite (aAa fun v=>yF h) aL.none)) aL.none
theorem aEb {o : OTy} : ∀ {ds : List DV} {s : St} {k : List PV→St→Option R} {k' : Nat→List PV→St→Option R},(∀ v s,aL (k v s) (fun n=>k' n v s))→aL (elemsK o s ds k) (fun n=>elemsK o s ds (k' n))
 | [],_,_,_,h=>h _ _
 | d::r,s,k,k',h=>by
   unfold elemsK
   exact aFz fun v s=>aEb fun vs s=>h _ _
theorem vO {dst : Option Nat} {t : Nat} {d : DV} {e : Env} {s : St} {k : DV→St→Option R} {k' : Nat→DV→St→Option R} (h : ∀ v s,aL (k v s) (fun n=>k' n v s)) : aL (moveK X dst t d e s k) (fun n=>moveK X dst t d e s (k' n)):=by
 cases d<;>simp only [moveK]<;>first
  | exact aL.none
  | exact h _ _
  | skip
 ·cases elemOf X t with
  | none=>exact h _ _
  | some u=>exact h _ _
 ·rename_i l path lo hi
  cases path with
  | cons=>exact h _ _
  | nil=>
    cases dst with
    | none=>exact h _ _
    | some t=>
      dsimp only
      generalize e.get t=d0
      cases d0<;>(try simp only)<;>first
       | exact h _ _
       | skip
      rename_i l' path'
      cases path' with
      | cons=>exact h _ _
      | nil=>
        refine aL.ite ?_ (h _ _)
        cases s.list l with
        | none=>exact aL.none
        | some w=>exact aL.bd fun c=>h _ _
theorem aKh {c a b : DV} {e : Env} {s : St} {k : DV→St→Option R} {k' : Nat→DV→St→Option R} (h : ∀ v s,aL (k v s) (fun n=>k' n v s)) : aL (pickK X c a b e s k) (fun n=>pickK X c a b e s (k' n)):=by
 cases c<;>simp only [pickK]<;>first
  | exact aL.none
  | exact aL.pvite (vO h) (vO h)
theorem aI7 {t : Nat} {s : St} {k : DV→St→Option R} {k' : Nat→DV→St→Option R} (h : ∀ v s,aL (k v s) (fun n=>k' n v s)) : aL (allocK X t s k) (fun n=>allocK X t s (k' n)):=by
 unfold allocK
 exact aL.ite (jA fun cs s=>h _ _) aL.none
theorem aLK {t : Nat} {x : DV} {s : St} {k : DV→St→Option R} {k' : Nat→DV→St→Option R} (h : ∀ v s,aL (k v s) (fun n=>k' n v s)) : aL (boxK X t x s k) (fun n=>boxK X t x s (k' n)):=by
 unfold boxK
 exact aL.ite (mD fun cs=>jA fun cs s=>h _ _) (aAa fun d=>jA fun cs s=>h _ _)
theorem aH1 {t : Nat} {ps : List (Nat × DV)} {k : DV→Option R} {k' : Nat→DV→Option R} (h : ∀ v,aL (k v) (fun n=>k' n v)) : aL (buildTK X t ps k) (fun n=>buildTK X t ps (k' n)):=by
 unfold buildTK
 cases (X.T.at t).d<;>(try simp only)<;>first
  | exact aL.none
  | exact aL.ite (yF fun cs=>h _) aL.none
theorem aDg {t m : Nat} {ps : List (Nat × DV)} {s : St} {k : DV→St→Option R} {k' : Nat→DV→St→Option R} (h : ∀ v s,aL (k v s) (fun n=>k' n v s)) : aL (buildSliceK X t m ps s k) (fun n=>buildSliceK X t m ps s (k' n)):=by
 unfold buildSliceK lendK
 cases elemOf X t with
 | none=>exact aL.none
 | some u=>exact aL.ite (aL.ite (h _ _) aL.none) (aL.ite (aEb fun vs s=>aL.bd fun c=>h _ _) aL.none)
theorem aEj {t : Nat} {l c : DV} {s : St} {k : DV→St→Option R} {k' : Nat→DV→St→Option R} (h : ∀ v s,aL (k v s) (fun n=>k' n v s)) : aL (makeSliceK X t l c s k) (fun n=>makeSliceK X t l c s (k' n)):=by
 unfold makeSliceK
 cases elemOf X t with
 | none=>exact aL.none
 | some u=>
   cases l<;>cases c<;>(try simp only)<;>first
    | exact aL.none
    | exact aL.ite (aL.bd fun _=>aL.bd fun y=>aL.pvite (aL.bd fun c=>h _ _) aL.none) aL.none
theorem aFC {x : DV} {s : St} {k : DV→Option R} {k' : Nat→DV→Option R} (h : ∀ v,aL (k v) (fun n=>k' n v)) : aL (nilCheckK x s k) (fun n=>nilCheckK x s (k' n)):=by
 cases x<;>simp only [nilCheckK]<;>first
  | exact aL.none
  | exact h _
  | exact aL.bd fun v=>h _
  | skip
 rename_i l path i off
 cases s.list l with
 | none=>exact aL.none
 | some w=>exact h _
theorem aKi {op : UnOp} {x : DV} {k : DV→Option R} {k' : Nat→DV→Option R} (h : ∀ v,aL (k v) (fun n=>k' n v)) : aL (unOpK op x k) (fun n=>unOpK op x (k' n)):=by
 cases op<;>cases x<;>simp only [unOpK]<;>first
  | exact aL.none
  | exact aL.bd fun v=>h _
theorem aI8 {t : Nat} {x i : DV} {k : DV→Option R} {k' : Nat→DV→Option R} (h : ∀ v,aL (k v) (fun n=>k' n v)) : aL (indexK X t x i k) (fun n=>indexK X t x i (k' n)):=by
 unfold indexK
 cases (X.T.at t).d<;>cases x<;>cases i<;>(try simp only)<;>first
  | exact aL.none
  | exact aL.bd fun v=>h _
  | skip
 refine aL.ite ?_ aL.none
 split
 ·exact aL.bd fun v=>h _
 ·exact aL.none
theorem aFD {d : DV} {k : DV→Option R} {k' : Nat→DV→Option R} (h : ∀ v,aL (k v) (fun n=>k' n v)) : aL (soK d k) (fun n=>soK d (k' n)):=by
 cases d<;>simp only [soK]<;>first
  | exact aL.bd fun v=>h _
  | exact h _
theorem aGF {x : DV} {i : Nat} {k : DV→Option R} {k' : Nat→DV→Option R} (h : ∀ v,aL (k v) (fun n=>k' n v)) : aL (extractK x i k) (fun n=>extractK x i (k' n)):=by
 cases x<;>simp only [extractK]<;>first
  | exact aL.none
  | exact aL.bd fun v=>h _
  | skip
 rename_i cs
 cases cs[i]? with
 | none=>exact aL.none
 | some d=>exact h _
theorem aI9 {t f : Nat} {x : DV} {k : DV→Option R} {k' : Nat→DV→Option R} (h : ∀ v,aL (k v) (fun n=>k' n v)) : aL (fieldK X t x f k) (fun n=>fieldK X t x f (k' n)):=by
 unfold fieldK
 cases (X.T.at t).d<;>(try simp only)<;>first
  | exact aL.none
  | skip
 rename_i fs
 cases fs[f]? with
 | none=>exact aL.none
 | some p=>
   refine aL.ite aL.none ?_
   cases x<;>(try simp only)<;>first
    | exact aL.none
    | exact aL.ite (aL.bd fun y=>h _) (aL.bd fun y=>h _)
    | skip
   rename_i cs
   refine aL.ite (aL.ite (h _) aL.none) ?_
   cases cs[p.1]? with
   | none=>exact aL.none
   | some d=>exact h _
theorem aEk {t f : Nat} {x : DV} {s : St} {k : DV→Option R} {k' : Nat→DV→Option R} (h : ∀ v,aL (k v) (fun n=>k' n v)) : aL (fieldAddrK X t x f s k) (fun n=>fieldAddrK X t x f s (k' n)):=by
 unfold fieldAddrK
 cases (X.T.at t).d<;>(try simp only)<;>first
  | exact aL.none
  | skip
 rename_i fs
 cases fs[f]? with
 | none=>exact aL.none
 | some p=>
   refine aL.ite aL.none ?_
   cases x<;>(try simp only)<;>first
    | exact aL.none
    | exact h _
    | exact aL.bd fun y=>h _
    | skip
   rename_i l path i off
   cases s.list l with
   | none=>exact aL.none
   | some w=>exact h _
theorem aEl {t : Nat} {x i : DV} {s : St} {k : DV→Option R} {k' : Nat→DV→Option R} (h : ∀ v,aL (k v) (fun n=>k' n v)) : aL (indexAddrK X t x i s k) (fun n=>indexAddrK X t x i s (k' n)):=by
 unfold indexAddrK
 cases (X.T.at t).d<;>cases i<;>(try simp only)<;>first
  | exact aL.none
  | skip
 ·refine aL.ite aL.none ?_
  cases x<;>(try simp only)<;>first
   | exact aL.none
   | exact aL.bd fun y=>h _
   | exact rF fun o c=>aL.ite (aL.bd fun _=>h _) aL.none
   | exact rF fun o c=>aL.ite (aL.bd fun _=>aL.bd fun j=>h _) aL.none
 ·rename_i i
  refine aL.ite aL.none ?_
  cases x<;>cases i<;>(try simp only)<;>first
   | exact aL.none
   | exact aL.ite (h _) aL.none
   | exact aL.ite (aL.bd fun v=>h _) aL.none
theorem aH2 {t : Nat} {x : DV} {lo hi : Option DV} {mx : DV} {s : St} {k : DV→St→Option R} {k' : Nat→DV→St→Option R} (h : ∀ v s,aL (k v s) (fun n=>k' n v s)) : aL (noRoomK X t x lo hi mx s k) (fun n=>noRoomK X t x lo hi mx s (k' n)):=by
 unfold noRoomK
 cases elemOf X t with
 | none=>exact aL.none
 | some u=>
   cases x<;>cases lo<;>(try exact aL.none)
   cases hi with
   | none=>exact aL.none
   | some d=>
     cases d<;>cases mx<;>first
      | exact aL.none
      | exact aL.ite (aL.bd fun _=>h _ _) aL.none
theorem aJa {t : Nat} {x : DV} {lo hi : Option DV} {s : St} {k : DV→Option R} {k' : Nat→DV→Option R} (h : ∀ v,aL (k v) (fun n=>k' n v)) : aL (sliceK X t x lo hi s k) (fun n=>sliceK X t x lo hi s (k' n)):=by
 unfold sliceK
 cases sliceK.lowOf lo with
 | none=>exact aL.none
 | some l=>
   cases (X.T.at t).d<;>(try simp only)<;>first
    | exact aL.none
    | skip
   ·cases x<;>(try simp only)<;>first
     | exact aL.none
     | skip
    cases hi with
    | none=>exact aL.bd fun _=>aL.bd fun y=>h _
    | some d=>
      cases d<;>(try simp only)<;>first
       | exact aL.none
       | exact aL.bd fun y=>h _
   ·refine aL.ite aL.none ?_
    cases x<;>(try simp only)<;>first
     | exact aL.none
     | skip
    ·cases hi with
     | none=>exact aL.bd fun _=>aL.bd fun y=>h _
     | some d=>
       cases d<;>(try simp only)<;>first
        | exact aL.none
        | exact aL.bd fun y=>h _
    ·refine rF fun o c=>aL.ite ?_ aL.none
     cases hi with
     | none=>exact aL.bd fun _=>aL.bd fun y=>h _
     | some d=>
       cases d<;>(try simp only)<;>first
        | exact aL.none
        | exact aL.bd fun y=>h _
theorem aLL {t : Nat} {d : DV} {s : St} {k : DV→Option R} {k' : Nat→DV→Option R} (h : ∀ v,aL (k v) (fun n=>k' n v)) : aL (lenK X t d s k) (fun n=>lenK X t d s (k' n)):=by
 unfold lenK
 cases (X.T.at t).d<;>cases d<;>(try simp only)<;>first
  | exact aL.none
  | exact h _
  | exact aL.bd fun y=>h _
  | exact rF fun _ c=>aL.bd fun y=>h _
theorem aA2 : ∀ {ds : List DV} {k : List PV→Option R} {k' : Nat→List PV→Option R},(∀ v,aL (k v) (fun n=>k' n v))→aL (eqK.trees ds k) (fun n=>eqK.trees ds (k' n))
 | [],_,_,h=>h _
 | d::ds,k,k',h=>by
   cases d<;>simp only [eqK.trees]<;>first
    | exact aL.none
    | exact aA2 fun vs=>h _
theorem aLM {op : BinOp} {x : DV} {k : DV→Option R} {k' : Nat→DV→Option R} (h : ∀ v,aL (k v) (fun n=>k' n v)) : aL (nilK op x k) (fun n=>nilK op x (k' n)):=by
 unfold nilK
 cases op<;>cases x<;>(try simp only)<;>first
  | exact aL.none
  | exact aL.bd fun v=>h _
theorem aLN {op : BinOp} {t : Nat} {x y : DV} {k : DV→Option R} {k' : Nat→DV→Option R} (h : ∀ v,aL (k v) (fun n=>k' n v)) : aL (binK X op t x y k) (fun n=>binK X op t x y (k' n)):=by
 unfold binK
 cases (X.T.at t).d<;>(try simp only)<;>first
  | exact aL.none
  | skip
 ·cases x<;>cases y<;>(try simp only)<;>first
  | exact aL.none
  | exact aL.bd fun v=>h _
 ·cases x<;>cases y<;>(try simp only)<;>first
  | exact aL.none
  | exact aL.bd fun v=>h _
 ·cases x<;>cases y<;>(try simp only)<;>first
  | exact aL.none
  | exact aL.bd fun v=>h _
 ·cases x<;>cases y<;>(try simp only)<;>first
   | exact aL.none
   | exact aL.bd fun v=>h _
   | skip
  rename_i v
  cases v<;>cases op<;>(try simp only)<;>first
   | exact aL.none
   | exact h _
 ·cases y<;>(try simp only)<;>first
  | exact aL.none
  | exact aLM h
 ·unfold eqK
  cases eqKinds X 10 t with
  | none=>exact aL.none
  | some qs=>exact mD fun as_=>mD fun bs=>aA2 fun as_=>aA2 fun bs=>aL.bd fun v=>h _
theorem aAb {d : DV} {s : St} {k : PV→Option R} {k' : Nat→PV→Option R} (h : ∀ v,aL (k v) (fun n=>k' n v)) : aL (srcK d s k) (fun n=>srcK d s (k' n)):=by
 cases d<;>simp only [srcK]<;>first
  | exact aL.none
  | exact h _
  | exact rF fun o c=>aL.ite (h _) aL.none
theorem aKj {a b : Nat} {x : DV} {s : St} {k : DV→Option R} {k' : Nat→DV→Option R} (h : ∀ v,aL (k v) (fun n=>k' n v)) : aL (convK X a b x s k) (fun n=>convK X a b x s (k' n)):=by
 unfold convK
 cases (X.T.at a).d<;>cases (X.T.at b).d<;>(try simp only)<;>first
  | exact aL.none
  | skip
 ·cases x<;>(try simp only)<;>first
  | exact aL.none
  | exact aL.bd fun v=>h _
 ·cases x<;>(try simp only)<;>first
  | exact aL.none
  | exact aL.bd fun v=>h _
 ·rename_i e
  cases x<;>(try simp only)<;>first
   | exact aL.none
   | skip
  cases (X.T.at e).d<;>(try simp only)<;>first
   | exact aL.none
   | skip
  rename_i kk
  cases kk<;>(try simp only)<;>first
   | exact aL.none
   | exact aL.bd fun v=>h _
 ·rename_i e
  cases (X.T.at e).d<;>(try simp only)<;>first
   | exact aL.none
   | skip
  rename_i kk
  cases kk<;>(try simp only)<;>first
   | exact aL.none
   | exact aAb fun c=>aL.bd fun y=>h _
theorem aFE {o : OTy} {d : DV} {s : St} {k : PV→St→Option R} {k' : Nat→PV→St→Option R} (h : ∀ v s,aL (k v s) (fun n=>k' n v s)) : aL (appendedK o d s k) (fun n=>appendedK o d s (k' n)):=by
 unfold appendedK
 exact aL.ite (aAb fun y=>h _ _) (tB h)
theorem aEc {o : OTy} {c : PV} {q : Option (PV × PV)} {k : PV→Option R} {k' : Nat→PV→Option R} (h : ∀ v,aL (k v) (fun n=>k' n v)) : aL (pieceK o c q k) (fun n=>pieceK o c q (k' n)):=by
 cases q with
 | none=>exact h _
 | some p=>exact aL.bd h
theorem aJb {l : Nat} {path : eE} {q : Option (PV × PV)} {s : St} {k : DV→St→Option R} {k' : Nat→DV→St→Option R} (h : ∀ d s,aL (k d s) (fun n=>k' n d s)) : aL (leaveK l path q s k) (fun n=>leaveK l path q s (k' n)):=by
 unfold leaveK
 cases s.list l with
 | none=>exact aL.none
 | some w=>exact iZ fun o c=>aL.ite (aEc fun c1=>uU fun c'=>h _ _) aL.none
theorem aH3 {t : Nat} {a v : DV} {e : Env} {s : St} {k : Env→St→Option R} {k' : Nat→Env→St→Option R} (h : ∀ e s,aL (k e s) (fun n=>k' n e s)) : aL (storeLK X t a v e s k) (fun n=>storeLK X t a v e s (k' n)):=by
 unfold storeLK
 split
 ·exact aJb fun _ _=>aEa fun _ _=>aL.ite (h _ _) aL.none
 ·exact aEa h
theorem aHo {d : DV} {te : Nat} {e : Env} {s : St} {l : Nat} {path : eE} {q : Option (PV × PV)} {k : DV→Env→St→Option R} {k' : Nat→DV→Env→St→Option R} (h : ∀ v e s,aL (k v e s) (fun n=>k' n v e s)) : aL (appendK.nest X d te e s k l path q) (fun n=>appendK.nest X d te e s (k' n) l path q):=by
 unfold appendK.nest
 cases s.list l with
 | none=>exact aL.none
 | some w=>
   exact iZ fun o c=>aL.ite (aAb fun y=>aEc fun c=>uU fun c'=>aL.bd fun c2=>h _ _ _) aL.none
theorem aH4 {base d : DV} {te : Nat} {e : Env} {s : St} {k : DV→Env→St→Option R} {k' : Nat→DV→Env→St→Option R} (h : ∀ v e s,aL (k v e s) (fun n=>k' n v e s)) : aL (appendK X base d te e s k) (fun n=>appendK X base d te e s (k' n)):=by
 have plain : ∀ (q : Option OTy) (base : DV),aL (match q with
  | some o=>if fits X o te then appendedK o d s fun y s=>sinkAs o s base fun c s=>bd (PV.cat o.s o.e o.g c y) fun c'=>k (.ref s.nl []) e (s.addList ⟨o,c'⟩) else none
  | none=>none) (fun n=>match q with
  | some o=>if fits X o te then appendedK o d s fun y s=>sinkAs o s base fun c s=>bd (PV.cat o.s o.e o.g c y) fun c'=>k' n (.ref s.nl []) e (s.addList ⟨o,c'⟩) else none
  | none=>none):=by
  intro q base
  cases q with
  | none=>exact aL.none
  | some o=>exact aL.ite (aFE fun y s=>tB fun c s=>aL.bd fun c'=>h _ _ _) aL.none
 cases base with
 | ref l path=>
   cases path with
   | nil=>exact plain (baseTy X te s (.ref l [])) (.ref l [])
   | cons p r=>exact aHo h
 | sref l path lo hi=>
   cases path with
   | nil=>exact plain (baseTy X te s (.sref l [] lo hi)) (.sref l [] lo hi)
   | cons p r=>exact aHo h
 | p v=>exact plain (baseTy X te s (.p v)) (.p v)
 | nils=>exact plain (baseTy X te s .nils) .nils
 | agg cs=>exact plain (baseTy X te s (.agg cs)) (.agg cs)
 | tup cs=>exact plain (baseTy X te s (.tup cs)) (.tup cs)
 | fn f cs=>exact plain (baseTy X te s (.fn f cs)) (.fn f cs)
 | ptr b off=>exact plain (baseTy X te s (.ptr b off)) (.ptr b off)
 | bsl b n=>exact plain (baseTy X te s (.bsl b n)) (.bsl b n)
 | eptr l path i off=>exact plain (baseTy X te s (.eptr l path i off)) (.eptr l path i off)
 | fptr x s' g off=>exact plain (baseTy X te s (.fptr x s' g off)) (.fptr x s' g off)
 | bptr c off=>exact plain (baseTy X te s (.bptr c off)) (.bptr c off)
 | gptr l path i off=>exact plain (baseTy X te s (.gptr l path i off)) (.gptr l path i off)
 | nilq c neg=>exact plain (baseTy X te s (.nilq c neg)) (.nilq c neg)
 | dead=>exact plain (baseTy X te s .dead) .dead
theorem aHp {d : DV} {e : Env} {s : St} {k : Env→St→Option R} {k' : Nat→Env→St→Option R} (h : ∀ e s,aL (k e s) (fun n=>k' n e s)) : aL (frz1 d e s k) (fun n=>frz1 d e s (k' n)):=by
 unfold frz1
 split
 ·split
  ·exact h _ _
  ·exact h _ _
 ·exact h _ _
theorem uV : ∀ {fs : List (Nat × Option Nat)} {e : Env} {s : St} {k : Env→St→Option R} {k' : Nat→Env→St→Option R},(∀ e s,aL (k e s) (fun n=>k' n e s))→aL (frzK fs e s k) (fun n=>frzK fs e s (k' n))
 | [],_,_,_,_,h=>h _ _
 | (t,none)::r,e,s,k,k',h=>aHp fun e s=>uV h
 | (t,some j)::r,e,s,k,k',h=>by
   unfold frzK
   generalize e.get t=d0
   cases d0<;>(try simp only)<;>first
    | exact uV h
    | skip
   rename_i b off
   cases s.box b with
   | none=>exact uV h
   | some cs=>exact aHp fun e s=>uV h
theorem aEd {te : Nat} {src : DV} {s : St} {l : Nat} {w : Own} {lo hi : PV} {k : DV→St→Option R} {k' : Nat→DV→St→Option R} (h : ∀ v s,aL (k v s) (fun n=>k' n v s)) : aL (copyK.go X te src s k l w lo hi) (fun n=>copyK.go X te src s (k' n) l w lo hi):=by
 unfold copyK.go
 exact aL.ite (aAb fun y=>aL.bd fun n=>aL.bd fun c=>h _ _) aL.none
theorem aKk {te : Nat} {dst src : DV} {s : St} {k : DV→St→Option R} {k' : Nat→DV→St→Option R} (h : ∀ v s,aL (k v s) (fun n=>k' n v s)) : aL (copyK X te dst src s k) (fun n=>copyK X te dst src s (k' n)):=by
 unfold copyK
 cases dst<;>(try simp only)<;>first
  | exact aL.none
  | skip
 ·rename_i l path
  cases path with
  | cons=>exact aL.none
  | nil=>
    dsimp only
    cases s.list l with
    | none=>exact aL.none
    | some w=>exact aL.bd fun n=>aEd h
 ·rename_i l path lo hi
  cases path with
  | cons=>exact aL.none
  | nil=>
    dsimp only
    cases s.list l with
    | none=>exact aL.none
    | some w=>exact aEd h
end
structure EvO (O : Orc) (O' : Nat→Orc) : Prop where
 L : ∀ todo e s,aL (O.L todo e s) (fun n=>(O' n).L todo e s)
 C : ∀ g args,aL (O.C g args) (fun n=>(O' n).C g args)
 S : ∀ g args s,aL (O.S g args s) (fun n=>(O' n).S g args s)
section
variable {X : Cx} {O : Orc} {O' : Nat → Orc}
theorem xA {l : R} : ∀ {cs : List DV} {a : Option R} {a' : Nat→Option R},aL a a'→aL (guardCells l cs a) (fun n=>guardCells l cs (a' n))
 | [],_,_,h=>h
 | d::cs,a,a',h=>by
   have ih:=xA (l:=l) (cs:=cs) h
   cases d with
   | ref=>simp only [guardCells];exact ih
   | p v=>
     cases v with
     | int=>simp only [guardCells];exact aL.flat ih
     | _=>simp only [guardCells];exact aL.none
   | _=>simp only [guardCells];exact aL.none
theorem yG {l : R} : ∀ {cs : List DV} {a : Option R} {a' : Nat→Option R},aL a a'→aL (guardAggs l cs a) (fun n=>guardAggs l cs (a' n))
 | [],_,_,h=>h
 | d::cs,a,a',h=>by
   have ih:=yG (l:=l) (cs:=cs) h
   cases d<;>(try simp only [guardAggs])<;>exact xA ih
theorem aGG {l : R} {d : DV} {a : Option R} {a' : Nat→Option R} (h : aL a a') : aL (guardRes l d a) (fun n=>guardRes l d (a' n)):=by
 cases d<;>(try simp only [guardRes])<;>exact yG h
theorem yH {l : R} : ∀ {cs : List (Option Own)} {a : Option R} {a' : Nat→Option R},aL a a'→aL (guardRows l cs a) (fun n=>guardRows l cs (a' n))
 | [],_,_,h=>h
 | none::_,_,_,_=>by simp only [guardRows];exact aL.none
 | some w::cs,a,a',h=>by
   simp only [guardRows]
   cases w.c<;>(try simp only)<;>first
    | exact aL.none
    | exact aL.own (yH h)
theorem aKl (hO : EvO O O') {f : Nat} {args : List DV} {s : St} {k : DV→St→Option R} {k' : Nat→DV→St→Option R} (h : ∀ v s,aL (k v s) (fun n=>k' n v s)) : aL (pureK O f args s k) (fun n=>pureK (O' n) f args s (k' n)):=by
 unfold pureK
 exact aL.ite (rP fun vs=>aL.bd2 (hO.C _ _) fun r=>aL.flat (h _ _)) (rP fun vs=>aL.bd2 (hO.C _ _) fun r=>h _ _)
theorem aKm (hO : EvO O O') {t : Tmpl} {f : Nat} {args : List DV} {s : St} {k : DV→St→Option R} {k' : Nat→DV→St→Option R} (h : ∀ v s,aL (k v s) (fun n=>k' n v s)) : aL (lentK O t f args s k) (fun n=>lentK (O' n) t f args s (k' n)):=by
 unfold lentK
 exact rP fun vs=>aL.bd2 (hO.S _ _ _) fun l=>aGG (yH (h _ _))
theorem aKn (hO : EvO O O') {ft : Foot} {n0 : Nat} {t : Tmpl} {f : Nat} {args : List DV} {s : St} {k : DV→St→List Nat→Option R} {k' : Nat→DV→St→List Nat→Option R} (h : ∀ v s l,aL (k v s l) (fun n=>k' n v s l)) : aL (liveK O ft n0 t f args s k) (fun n=>liveK (O' n) ft n0 t f args s (k' n)):=by
 unfold liveK
 exact aL.ite (aL.bd2 (hO.S _ _ _) fun l=>h _ _ _) aL.none
theorem aKo (hO : EvO O O') {f : Nat} {args : List DV} {ts : List Nat} {e : Env} {s : St} {k : DV→Env→St→Option R} {k' : Nat→DV→Env→St→Option R} (h : ∀ v e s,aL (k v e s) (fun n=>k' n v e s)) : aL (callK X O f args ts e s k) (fun n=>callK X (O' n) f args ts e s (k' n)):=by
 unfold callK
 cases X.mode f with
 | none=>exact aKl hO fun _ _=>h _ _ _
 | some t=>
   refine aL.ite (aKm hO fun _ _=>h _ _ _) ?_
   simp only [aAZ]
   exact jA fun args s=>aKn hO fun _ _ _=>h _ _ _
theorem aFF (hO : EvO O O') {v : PV} {vs : List PV} : aL (PV.apply O.C v vs) (fun n=>PV.apply (O' n).C v vs):=by
 unfold PV.apply
 cases v<;>(try simp only)<;>first
  | exact aL.none
  | exact hO.C _ _
theorem aJc (hO : EvO O O') {d : DV} {args : List DV} {ts : List Nat} {e : Env} {s : St} {k : DV→Env→St→Option R} {k' : Nat→DV→Env→St→Option R} (h : ∀ v e s,aL (k v e s) (fun n=>k' n v e s)) : aL (applyK X O d args ts e s k) (fun n=>applyK X (O' n) d args ts e s (k' n)):=by
 cases d<;>(try simp only [applyK])<;>first
  | exact aL.none
  | exact aKo hO h
  | exact aL.ite (rP fun vs=>aL.bd2 (aFF hO) fun r=>aL.flat (h _ _ _)) (rP fun vs=>aL.bd2 (aFF hO) fun r=>h _ _ _)
theorem aGH {b : Builtin} {ts : List Nat} {args : List DV} {e : Env} {s : St} {k : DV→Env→St→Option R} {k' : Nat→DV→Env→St→Option R} (h : ∀ v e s,aL (k v e s) (fun n=>k' n v e s)) : aL (builtinK X b ts args e s k) (fun n=>builtinK X b ts args e s (k' n)):=by
 unfold builtinK
 split
 ·exact aLL fun n=>h _ _ _
 ·rename_i t u a d
  cases elemOf X t with
  | none=>exact aL.none
  | some te=>exact aL.ite (aH4 h) aL.none
 ·rename_i t u a d
  cases elemOf X t with
  | none=>exact aL.none
  | some te=>exact aKk fun d s=>h _ _ _
 ·exact aL.bd fun c=>h _ _ _
 ·exact aL.bd fun c=>h _ _ _
 ·exact aL.none
theorem aDh (hO : EvO O O') {o : Oper} {e : Env} {s : St} {k : Kont} {k' : Nat→Kont} (h : ∀ e s,aL (k e s) (fun n=>k' n e s)) : aL (exec X O o e s k) (fun n=>exec X (O' n) o e s (k' n)):=by
 obtain ⟨dst,op,type,pos,after,guard⟩:=o
 cases op<;>simp only [exec]<;>try exact aL.none
 case move=>exact vO fun _ _=>h _ _
 case assign=>exact vO fun _ _=>h _ _
 case pick=>exact aKh fun _ _=>h _ _
 case alloc=>exact aI7 fun _ _=>h _ _
 case box=>exact aLK fun _ _=>h _ _
 case build=>exact aH1 fun _=>h _ _
 case buildSlice=>exact aDg fun _ _=>h _ _
 case makeSlice=>exact aEj fun _ _=>h _ _
 case load=>exact aFD fun _=>aKg fun _=>h _ _
 case store=>exact aFD fun _=>aH3 fun _ _=>h _ _
 case nilCheck=>exact aFD fun _=>aFC fun _=>h _ _
 case binOp=>exact aLN fun _=>h _ _
 case unOp=>exact aKi fun _=>h _ _
 case convert=>exact aKj fun _=>h _ _
 case makeFunc fn first caps=>
  cases fn<;>(try simp only)<;>first
   | exact aL.none
   | exact aL.ite (h _ _) aL.none
 case slice t x lo hi mx=>
  cases mx with
  | none=>exact aJa fun _=>h _ _
  | some _=>exact aH2 fun _ _=>h _ _
 case fieldAddr=>exact aEk fun _=>h _ _
 case field=>exact aI9 fun _=>h _ _
 case indexAddr=>exact aEl fun _=>h _ _
 case index=>exact aI8 fun _=>h _ _
 case extract=>exact aGF fun _=>h _ _
 case call c=>
  cases c.callee with
  | value f=>exact aJc hO fun _ _ _=>h _ _
  | builtin b=>exact aGH fun _ _ _=>h _ _
  | invoke _ _=>exact aL.none
theorem gM (hO : EvO O O') {ops : Array Oper} {draw : Bool} : ∀ {r : List Oper} {i : Nat} {acc : List (Nat × Foot)} {e : Env} {s : St} {k : Kont} {k' : Nat→Kont},(∀ e s,aL (k e s) (fun n=>k' n e s))→aL (execOps X O ops draw i acc r e s k) (fun n=>execOps X (O' n) ops draw i acc r e s (k' n))
 | [],i,acc,e,s,k,k',h=>by
  unfold execOps
  exact aL.ite aL.none (h _ _)
 | o::r,i,acc,e,s,k,k',h=>by
   unfold execOps
   simp only [stf,stp]
   cases o.guard with
   | none=>exact aDh hO fun e s'=>aL.ite (gM hO h) aL.none
   | some p=>
     obtain ⟨j,want⟩:=p
     simp only
     cases guardDst ops.toList j with
     | none=>exact aL.none
     | some t=>
       simp only
       generalize e.get t=d0
       have hskip:=gM (ops:=ops) (draw:=draw) (r:=r) (i:=i+1) (acc:=if draw then (i,Foot.none)::acc else []) (e:=put o.dst (.tup []) e) (s:={ s with nb:=s.base+16*i,nl:=s.base+16*i}) hO h
       cases d0<;>(try simp only)<;>first
        | exact aL.none
        | (rename_i cs;cases cs with
           | nil=>exact hskip
           | cons=>exact aL.none)
        | exact aL.pvite (aL.ite (aDh hO fun e s'=>aL.ite (gM hO h) aL.none) (gM hO h)) (aL.ite (gM hO h) (aDh hO fun e s'=>aL.ite (gM hO h) aL.none))
theorem aAc (hO : EvO O O') : ∀ (m : Nat) (first : Bool) (todo : List Item) (e : Env) (s : St),aL (eval X O m first todo e s) (fun n=>eval X (O' n) m first todo e s)
 | 0,_,_,_,_=>by simp only [eval];exact aL.none
 | m+1,first,todo,e,s=>by
   have ih:=aAc hO m
   cases todo with
   | nil=>simp only [eval];exact aL.rfl _
   | cons x k=>
   cases x with
   | inBlock id=>simp only [eval];exact ih _ _ _ _
   | inScope c=>simp only [eval];exact ih _ _ _ _
   | inLoop c=>simp only [eval];exact ih _ _ _ _
   | code c=>
     cases c<;>simp only [eval]<;>first
      | exact aL.none
      | exact aL.rfl _
      | exact ih _ _ _ _
      | skip
     case exit id=>
      cases exitTo id k with
      | none=>exact aL.none
      | some k'=>exact ih _ _ _ _
     case goto l=>
      cases gotoIn l k with
      | none=>exact aL.none
      | some k'=>exact ih _ _ _ _
     case cond c a b=>
      generalize ev X e c=d0
      cases d0<;>(try simp only)<;>first
       | exact aL.none
       | exact aL.nilT (ih _ _ _ _) (ih _ _ _ _)
       | skip
      cases c<;>(try simp only)<;>exact aL.pvite (ih _ _ _ _) (ih _ _ _ _)
     case region id ops draw=>
      refine uV fun e s=>?_
      cases first with
      | true=>exact gM hO fun e s=>ih _ _ _ _
      | false=>
        cases X.cut id with
        | none=>exact gM hO fun e s=>ih _ _ _ _
        | some keep=>exact hO.L _ _ _
   | _=>simp only [eval];exact aL.none
end
section
variable (P : Program) (T : Tab) (H : Hints)
def sT (f nb nl : Nat) (out : Option Tmpl) (todo : List Item) (e : Env) (s : St) : Option R:=
 open Classical in if h : ∃ r,∃ n,runN P T H n f nb nl out todo e s=some r then some h.choose else none
end
section
variable {P : Program} {T : Tab} {H : Hints}
theorem aL.le {β : Type} {a b : Option β} (h : ∀ r,a=some r→b=some r) : aL a (fun _=>b):=fun r hr=>⟨0,fun _ _=>h r hr⟩
theorem aL.of {β : Type} {a b : Option β} (h : aL a (fun _=>b)) : ∀ r,a=some r→b=some r:=fun r hr=>let ⟨N,hN⟩:=h r hr;hN N (Nat.le_refl _)
theorem aFG {run : Nat→Nat→Nat→Option Tmpl→List Item→Env→St→Option R} {run' : Nat→Nat→Nat→Nat→Option Tmpl→List Item→Env→St→Option R}
 (h : ∀ f nb nl out todo e s,aL (run f nb nl out todo e s) (fun n=>run' n f nb nl out todo e s)) (f nb nl : Nat) (out : Option Tmpl) : EvO (orcOf P H run f nb nl out) (fun n=>orcOf P H (run' n) f nb nl out) where
 L:=fun todo e s=>h _ _ _ _ _ _ _
 C:=fun g args=>by
  simp only [orcOf]
  cases H.prim g with
  | none=>exact h _ _ _ _ _ _ _
  | some p=>exact aL.rfl _
 S:=fun g args s=>by
  simp only [orcOf]
  cases H.mode g with
  | none=>exact aL.none
  | some t=>cases H.primS g with
    | none=>exact h _ _ _ _ _ _ _
    | some p=>exact aL.rfl _
theorem aHq : ∀ (n f nb nl : Nat) (out : Option Tmpl) (todo : List Item) (e : Env) (s : St) (r : R),runN P T H n f nb nl out todo e s=some r→runN P T H (n+1) f nb nl out todo e s=some r
 | 0,_,_,_,_,_,_,_,_,h=>by simp [runN] at h
 | n+1,f,nb,nl,out,todo,e,s,r,h=>by
   have ih:=aHq n
   unfold runN at h ⊢
   exact (aAc (aFG (run':=fun _=>runN P T H (n+1)) (fun f nb nl out todo e s=>aL.le (ih f nb nl out todo e s)) f nb nl out) evalFuel true todo e s).of r h
theorem aH5 {n n' f nb nl : Nat} {out : Option Tmpl} {todo : List Item} {e : Env} {s : St} {r : R} (h : runN P T H n f nb nl out todo e s=some r) (hn : n≤n') : runN P T H n' f nb nl out todo e s=some r:=by
 induction hn with
 | refl=>exact h
 | step _ ih=>exact aHq _ _ _ _ _ _ _ _ _ ih
theorem aKZ {n f nb nl : Nat} {out : Option Tmpl} {todo : List Item} {e : Env} {s : St} {r : R} (h : runN P T H n f nb nl out todo e s=some r) : sT P T H f nb nl out todo e s=some r:=by
 unfold sT
 have hex : ∃ r,∃ n,runN P T H n f nb nl out todo e s=some r:=⟨r,n,h⟩
 rw [dif_pos hex]
 obtain ⟨n',h'⟩:=hex.choose_spec
 have h1:=aH5 h (Nat.le_max_left n n')
 have h2:=aH5 h' (Nat.le_max_right n n')
 rw [h1] at h2
 exact h2.symm
theorem aAd {f nb nl : Nat} {out : Option Tmpl} {todo : List Item} {e : Env} {s : St} {r : R} (h : sT P T H f nb nl out todo e s=some r) : ∃ n,runN P T H n f nb nl out todo e s=some r:=by
 unfold sT at h
 split at h
 ·rename_i hex
  cases h
  exact hex.choose_spec
 ·cases h
theorem aLO (f nb nl : Nat) (out : Option Tmpl) (todo : List Item) (e : Env) (s : St) : aL (sT P T H f nb nl out todo e s) (fun n=>runN P T H n f nb nl out todo e s):=by
 intro r hr
 obtain ⟨n,hn⟩:=aAd hr
 exact ⟨n,fun n' h'=>aH5 hn h'⟩
theorem aK0 (f nb nl : Nat) (out : Option Tmpl) (todo : List Item) (e : Env) (s : St) :
 sT P T H f nb nl out todo e s=eval (cxOf P T H f nb nl out) (orcOf P H (sT P T H) f nb nl out) evalFuel true todo e s:=by
 cases h : eval (cxOf P T H f nb nl out) (orcOf P H (sT P T H) f nb nl out) evalFuel true todo e s with
 | some r=>
   obtain ⟨N,hN⟩:=aAc (aFG (run':=fun n=>runN P T H n) aLO f nb nl out) evalFuel true todo e s r h
   refine aKZ (n:=N+1) ?_
   unfold runN
   exact hN N (Nat.le_refl _)
 | none=>
   cases h' : sT P T H f nb nl out todo e s with
   | none=>rfl
   | some r=>
     exfalso
     obtain ⟨n,hn⟩:=aAd h'
     cases n with
     | zero=>simp [runN] at hn
     | succ n=>
       unfold runN at hn
       have:=(aAc (aFG (run':=fun _=>sT P T H) (fun f nb nl out todo e s=>aL.le (fun r h=>aKZ h)) f nb nl out) evalFuel true todo e s).of r hn
       rw [h] at this
       cases this
def aMB (P : Program) (T : Tab) (H : Hints) (f : Nat) (args : List PV) : Option R:=(orcOf P H (sT P T H) 0 0 0 none).C f args
def aOp (P : Program) (T : Tab) (H : Hints) (f : Nat) (args : List DV) (s : St) : Option R:=(orcOf P H (sT P T H) 0 0 0 none).S f args s
theorem aNC (hy : Hyp P T H) : aKY P (sT P T H):=by
 intro f nb nl out todo e s r fn h hfn hok
 obtain ⟨n,hn⟩:=aAd h
 exact aHn hy n f nb nl out todo e s r fn hn hfn hok
theorem aND : aMz P (sT P T H):=by
 intro f nb nl out e s r h
 obtain ⟨n,hn⟩:=aAd h
 exact aA0 hn
theorem aJd (hy : Hyp P T H) {f : Nat} {args : List PV} {r : R} (h : aMB P T H f args=some r) {w : World} {aO : Array Value} {Z : Nat→Prop} (hz : ZOk w Z) (hl : args.length=aO.size)
 (hr : ∀ (i : Nat) x v,args[i]? = some x→aO[i]? = some v→eZ w Z x v) : Calls P f aO w (fun e w'=>∃ v,e = .returned v∧∃ Z',aB8 w w' Z Z'∧eZ w' Z' (hd r) v):=
 (aI4 hy (aNC hy) aND 0 0 0 none f args r h).2 w Z aO hz hl hr
theorem aK1 (f nb nl : Nat) (out : Option Tmpl) (todo : List Item) (e : Env) (s : St) (r : Option R) (h : eval (cxOf P T H f nb nl out) (orcOf P H (sT P T H) f nb nl out) evalFuel true todo e s=r) : sT P T H f nb nl out todo e s=r:=
 (aK0 f nb nl out todo e s).trans h
theorem aMC (f : Nat) (hp : H.prim f=none) (args : List PV) (r : Option R) (h : eval (cxOf P T H f 0 0 none) (orcOf P H (sT P T H) f 0 0 none) evalFuel true (startOf P f) (argEnv 0 (args.map .p)) ⟨[],[],0,0,0⟩=r) : aMB P T H f args=r:=by
 show (match H.prim f with | some h=>h args | none=>sT P T H f 0 0 none (startOf P f) (argEnv 0 (args.map .p)) ⟨[],[],0,0,0⟩)=r
 rw [hp]
 exact aK1 _ _ _ _ _ _ _ _ h
theorem aMD (f : Nat) (hp : H.primS f=none) (args : List DV) (s : St) (r : Option R) (h : (match H.mode f with | some t=>eval (cxOf P T H f s.boxes.length (if t.keep then s.lists.length else 0) (some (t.fit s))) (orcOf P H (sT P T H) f s.boxes.length (if t.keep then s.lists.length else 0) (some (t.fit s))) evalFuel true (startOf P f) (argEnv 0 args) s | none=>none)=r) : aOp P T H f args s=r:=by
 show (match H.mode f with | some t=>(match H.primS f with | some h=>h args s | none=>sT P T H f s.boxes.length (if t.keep then s.lists.length else 0) (some (t.fit s)) (startOf P f) (argEnv 0 args) s) | none=>none)=r
 rw [← h,hp]
 cases H.mode f with
 | none=>rfl
 | some t=>exact aK0 _ _ _ _ _ _ _
end
def dA (f nb nl : Nat) (out : Option Tmpl) (todo : List Item) (e : Env) (s : St) : Option R:=sT Tryz.prog T bB f nb nl out todo e s
def aJ (f : Nat) (args : List PV) : Option R:=aMB Tryz.prog T bB f args
def cA (f : Nat) (args : List DV) (s : St) : Option R:=aOp Tryz.prog T bB f args s
def orc (f nb nl : Nat) (out : Option Tmpl) : Orc:=orcOf Tryz.prog bB (sT Tryz.prog T bB) f nb nl out
theorem aZ (f nb nl : Nat) (out : Option Tmpl) (todo : List Item) (e : Env) (s : St) (r : Option R) (h : eval (cxOf Tryz.prog T bB f nb nl out) (orc f nb nl out) evalFuel true todo e s=r) : dA f nb nl out todo e s=r:=aK1 f nb nl out todo e s r h
theorem aK (f : Nat) (args : List PV) (r : Option R) (h : (match bB.prim f with | some p=>p args | none=>eval (cxOf Tryz.prog T bB f 0 0 none) (orc f 0 0 none) evalFuel true (startOf Tryz.prog f) (argEnv 0 (args.map .p)) ⟨[],[],0,0,0⟩)=r) : aJ f args=r:=by
 cases hp : bB.prim f with
 | none=>rw [hp] at h;exact aMC f hp args r h
 | some p=>rw [hp] at h;rw [← h];show (match bB.prim f with | some h=>h args | none=>_)=_;rw [hp]
theorem bK (f : Nat) (args : List DV) (s : St) (r : Option R) (h : (match bB.mode f with | some t=>(match bB.primS f with | some p=>p args s | none=>eval (cxOf Tryz.prog T bB f s.boxes.length (if t.keep then s.lists.length else 0) (some (t.fit s))) (orc f s.boxes.length (if t.keep then s.lists.length else 0) (some (t.fit s))) evalFuel true (startOf Tryz.prog f) (argEnv 0 args) s) | none=>none)=r) : cA f args s=r:=by
 cases hp : bB.primS f with
 | none=>simp only [hp] at h;exact aMD f hp args s r h
 | some p=>
   simp only [hp] at h
   rw [← h]
   show (match bB.mode f with | some t=>(match bB.primS f with | some h=>h args s | none=>_) | none=>none)=_
   rw [hp]
set_option maxRecDepth 100000 in
theorem aK2 : (Tryz.prog.funcs.toList.all fun f=>match f.body with | some c=>codeOk f.ntmps c&&(f.name != "runtime.NumGoroutine") | none=>true)=true:=by kernel_rfl
theorem aNE : Tryz.prog.follows .mixedOrders=true:=by kernel_rfl
theorem aPi : (aKQ.all fun p=>p.2.wf)=true:=by kernel_rfl
theorem aJe {m m' : aS} {s s' : St} {l : Nat} {scr : DV→DV} {w : Own} {v : Value} {t : Tmpl} (hf : fE m s s.base)
 (G : bJ m m' (s.at s.base) s' (fun _=>True) (fun _=>True) (fun b=>b∈([] : List Nat)∨true=true) (fun l=>l∈([] : List Nat)∨true=true) s.base scr) (hl : s'.list l=some w) (hv : m'.rd (.ref l []) v)
 (ht : t.res = .ref 0 []∧t.boxes = []∧t.lists = [some ⟨w.o,.int .i64 0⟩]) : oE m 0 0 (some t) [w.c] v m'.w:=by
 have hf':=(bJ.full (f:=⟨[],[],[],[],true,true⟩) hf G).1
 have hb : ∀ b∈([] : List Nat),m'.s.box b=s'.box b:=fun b _=>hf'.box b
 have hl' : ∀ x∈[l],m'.s.list x=s'.list x:=fun x _=>hf'.list x
 have pf:=zZ (a:=⟨[],[l]⟩) hf'.inv hb hl' List.nodup_nil (by simp)
 have fw:=aFo (a:=⟨[],[l]⟩) hf' 0 0 (fun b h=>by omega) (fun b h=>by omega)
 refine ⟨m'.pick [] [l] (s'.pick ⟨[],[l]⟩),rfl,pf.inv,(G.step.fwd hf.inv 0 0).trans fw,?_⟩
 refine ⟨.ref 0 [],s',⟨[],[l]⟩,?_,?_,pf,fun x hx=>hx.1,fun x hx=>hx.1⟩
 ·unfold Tmpl.read
  rw [ht.1,ht.2.1,ht.2.2]
  have e1 : (s'.pick ⟨[],[l]⟩).boxes = []:=rfl
  have e2 : (s'.pick ⟨[],[l]⟩).lists = [(0,some w)]:=by
   show [(0,s'.list l)]=_
   rw [hl]
  rw [e1,e2]
  simp [readD,readB,readO,OTy.same_refl]
 ·have:=aFn (a:=⟨[],[l]⟩) hl' deep hv
  have e : ren (idx · [] 0) (idx · [l] 0) deep (.ref l []) = .ref 0 []:=by
   simp [deep,ren,ren1,idx]
  rw [e] at this
  exact this
theorem aJf {P : Program} {ρ : Go.Shelf.Ren} (L : Lays8.n4 P ρ) {i0 : TypeInfo} {z : Value} (hi0 : P.info? (ρ.t 25)=some i0) (hz0 : i0.zero=some z) (hzs : z.cells.size=i0.size) (hs0 : 0<i0.size) {e : Nat} (hby : i0.bytes=e)
 {args : List DV} {s : St} {r : R} (h : rI e args s=some r) {m : aS} {aO : Array Value} (hf : fE m s s.base) (hl : args.length=aO.size) (hr : ∀ (i : Nat) d v,args[i]? = some d→aO[i]? = some v→m.rd d v)
 {t : Tmpl} {eb : Nat} {g : Bool} (ht : t.res = .ref 0 []∧t.boxes = []∧t.lists = [some ⟨.own i0.size eb g [],.int .i64 0⟩]) :
 Calls P (ρ.f 4) aO m.w (fun e w'=>∃ v,e = .returned v∧oE m 0 0 (some t) r v w'):=by
 unfold rI at h
 split at h
 rotate_left
 ·cases h
 rename_i n _
 split at h
 rotate_left
 ·cases h
 rename_i hc
 obtain ⟨hn,hbound,hlen⟩:=hc
 cases h
 obtain ⟨v0,v1,rfl⟩ : ∃ v0 v1,aO = #[v0,v1]:=by
  match aO,hl with
  | ⟨[a,b]⟩,_=>exact ⟨a,b,rfl⟩
  | ⟨[]⟩,h=>simp at h
  | ⟨[_]⟩,h=>simp at h
  | ⟨_::_::_::_⟩,h=>simp at h
 have h0:=hr 0 _ _ rfl rfl
 have h1:=hr 1 _ _ rfl rfl
 obtain rfl : v1 = .int .i64 n:=by
  cases h1 with
  | p _ _ h1=>cases h1;rfl
 obtain rfl : v0 = .slice none 0 0:=by cases h0;rfl
 obtain ⟨k,rfl⟩:=Int.eq_ofNat_of_zero_le hn
 simp only [Int.toNat_natCast] at hbound
 have sit:=hf.sit (Nat.le_refl s.base)
 have hlf : (OTy.own i0.size eb g []).isLeaf=false:=rfl
 have hmw : m.w.heap.size=m.w.heap.size:=rfl
 have fin : ∀ {w' : World} {v : Value} {F' : Nat→Prop},bZ w' m.Z (.own i0.size eb g []) (.lst []) v F'→bV v→(∀ r,F' r→m.w.heap.size≤r)→(∀ r,r<m.w.heap.size→w'.heap[r]? = m.w.heap[r]?)→
  m.w.heap.size≤w'.heap.size→w'.os=m.w.os→w'.tape=m.w.tape→w'.output=m.w.output→oE m 0 0 (some t) [.lst []] v w':=by
  intro w' v F' hro' hcv hF' hw hsize hos htape hout
  have G2:=bJ.addRow (B:=fun _=>True) (L:=fun _=>True) (fun b=>b∈([] : List Nat)∨true=true) (fun l=>l∈([] : List Nat)∨true=true) sit (show s.base<s.base+16 by omega) (own:=⟨.own i0.size eb g [],.lst []⟩) hlf hro' (fun r hr=>.inr (hF' r hr)) (fun r hr _=>hw r hr) hsize hos htape hout
  exact aJe (l:=s.base) hf G2 (w:=⟨.own i0.size eb g [],.lst []⟩) (by simp [St.list,St.addList,St.at,look]) (aS.addRow_rd hcv) ht
 by_cases hroom : 0+k≤0
 ·refine (Any8.slices_Grow_room L none 0 0 k m.w (Nat.le_refl _) (by omega) (by omega) hroom).mono ?_
  rintro e w' ⟨rfl,rfl⟩
  exact ⟨_,rfl,fin (F':=fun _=>False) (.nil _ _ _ _ _ _ (fun _ h=>h)) trivial (fun _ h=>h.elim) (fun _ _=>rfl) (Nat.le_refl _) rfl rfl rfl⟩
 ·refine (Any8.slices_Grow_grow L i0 z hi0 hz0 hs0 none 0 0 k [] m.w (Nat.le_refl _) (by omega) (by rw [hby,Nat.zero_add];exact hbound) (by omega) (by simp) (fun _=>rfl) (fun a h=>by cases h)).mono ?_
  rintro e w' ⟨rfl,rfl⟩
  refine ⟨_,rfl,?_⟩
  generalize hcp : grownCap m.w (0+k) 0 (ρ.t 25)=cp
  have hge : 0+k≤cp:=by rw [← hcp];exact grownCap_ge _ _ _ _
  generalize hcells : (([] : List Value).toArray++Builtin.zeroCells z.cells (0+k - 0)++Builtin.zeroCells z.cells (cp - (0+k)) : Array Value)=cells
  have hcsz : cp*i0.size≤cells.size:=by
   rw [← hcells]
   simp only [Array.size_append,List.size_toArray,List.length_nil,iS,hzs,← Nat.add_mul]
   rw [Nat.zero_add,← Nat.add_mul]
   exact Nat.mul_le_mul_right _ (by omega)
  have hnew : (m.w.drew.alloc (.cells cells (ρ.t 25))).heap[m.w.heap.size]? = some (.cells cells (ρ.t 25) (0,0)):=heap_alloc_new m.w.drew _
  have hro':=(wY.nil (w:=m.w.drew.alloc (.cells cells (ρ.t 25))) (Z:=m.Z) (.own i0.size eb g []) (fun _ _=>.nilFunc) (fun _ _ _=>False)).repO hlf hs0 (b:=m.w.heap.size) (off:=0) (cap:=cp) hnew (by rw [Nat.zero_add];exact hcsz) (by simp) (fun hzr=>by have:=hf.inv.zlt _ hzr;omega)
   (fun i j hi=>by simp at hi) (fun i j hi=>by simp at hi)
  refine fin hro' trivial (fun r hr=>?_) (fun r hr=>heap_alloc_old m.w.drew _ hr) (by simp) rfl rfl rfl
  rcases hr with rfl | ⟨i,j,hi,_⟩
  ·exact Nat.le_refl _
  ·simp at hi
theorem aJg {P : Program} {ρ : Go.Shelf.Ren} (L : LaysM.n171 P ρ) {args : List PV} {r : R} (h : xO args=some r) {w : World} {Z : Nat→Prop} {aO : Array Value} (htab : Lib.TabIs P w "internal/strconv.uint64pow10" .u64 Lib.pow10Tab) (hl : args.length=aO.size)
 (hr : ∀ (i : Nat) x v,args[i]? = some x→aO[i]? = some v→eZ w Z x v) : Calls P (ρ.f 171) aO w (fun e w'=>∃ v,e = .returned v∧∃ Z',aB8 w w' Z Z'∧eZ w' Z' (hd r) v):=by
 unfold xO at h
 split at h
 rotate_left
 ·cases h
 rename_i n
 split at h
 rotate_left
 ·cases h
 rename_i hc
 cases h
 obtain ⟨v0,rfl⟩ : ∃ v0,aO = #[v0]:=by
  match aO,hl with
  | ⟨[a]⟩,_=>exact ⟨a,rfl⟩
  | ⟨[]⟩,h=>simp at h
  | ⟨_::_::_⟩,h=>simp at h
 obtain rfl : v0 = .int .i64 n:=by
  have:=hr 0 _ _ rfl rfl
  cases this;rfl
 refine (Any.strconv_Itoa L n hc.1 hc.2 w htab).mono ?_
 rintro e w' ⟨rfl,k,os,rfl⟩
 have e0 : (Sort.grow (w.drewN k) os).heap=w.heap++os:=rfl
 refine ⟨_,rfl,Z,⟨by rw [e0];simp,rfl,rfl,rfl,fun r hr=>?_,fun _ h=>h,fun _ h=>.inl h⟩,.str _⟩
 rw [e0,Array.getElem?_append_left hr]
end
noncomputable section
open Go Go.Shelf
def Tryz.laysM171_ren : Go.Shelf.Ren:=⟨fun | 171=>224 | 243=>265 | 246=>285 | 283=>304 | 284=>305 | 285=>306 | 286=>307 | 129=>323 | 317=>322 | 318=>324 | 319=>325 | 320=>326 | 337=>335 | 338=>336 | n=>n,fun | 3=>3 | 9=>9 | 2=>2 | 4=>4 | 171=>328 | 0=>0 | 53=>314 | 37=>141 | 5=>5 | 173=>331 | 212=>337 | 51=>311 | 20=>20 | 213=>338 | 46=>202 | 232=>350 | 233=>351 | n=>n,fun | 17=>0 | 18=>2 | 19=>3 | n=>n⟩
theorem Tryz.laysM171 : Go.Proofs.LaysM.n171 Tryz.prog Tryz.laysM171_ren:={
 mixed:=by kernel_rfl
 f129:=Tryz.func323.trans (congrArg some (by kernel_rfl))
 f171:=Tryz.func224.trans (congrArg some (by kernel_rfl))
 f243:=Tryz.func265.trans (congrArg some (by kernel_rfl))
 f246:=Tryz.func285.trans (congrArg some (by kernel_rfl))
 f283:=Tryz.func304.trans (congrArg some (by kernel_rfl))
 f284:=Tryz.func305.trans (congrArg some (by kernel_rfl))
 f285:=Tryz.func306.trans (congrArg some (by kernel_rfl))
 f286:=Tryz.func307.trans (congrArg some (by kernel_rfl))
 f317:=Tryz.func322.trans (congrArg some (by kernel_rfl))
 f318:=Tryz.func324.trans (congrArg some (by kernel_rfl))
 f319:=Tryz.func325.trans (congrArg some (by kernel_rfl))
 f320:=Tryz.func326.trans (congrArg some (by kernel_rfl))
 f337:=Tryz.func335.trans (congrArg some (by kernel_rfl))
 f338:=Tryz.func336.trans (congrArg some (by kernel_rfl))
 t0:=Tryz.underlying0
 a0:=Tryz.isAgg0
 z0:=Tryz.sizeOf0
 v0:=Tryz.zeroValue0
 t2:=Tryz.underlying2
 a2:=Tryz.isAgg2
 z2:=Tryz.sizeOf2
 v2:=Tryz.zeroValue2
 t3:=Tryz.underlying3
 a3:=Tryz.isAgg3
 z3:=Tryz.sizeOf3
 v3:=Tryz.zeroValue3
 t4:=Tryz.underlying4
 a4:=Tryz.isAgg4
 z4:=Tryz.sizeOf4
 v4:=Tryz.zeroValue4
 t5:=Tryz.underlying5
 a5:=Tryz.isAgg5
 z5:=Tryz.sizeOf5
 v5:=Tryz.zeroValue5
 t9:=Tryz.underlying9
 a9:=Tryz.isAgg9
 z9:=Tryz.sizeOf9
 v9:=Tryz.zeroValue9
 t20:=Tryz.underlying20
 a20:=Tryz.isAgg20
 z20:=Tryz.sizeOf20
 v20:=Tryz.zeroValue20
 t37:=Tryz.underlying141
 a37:=Tryz.isAgg141
 z37:=Tryz.sizeOf141
 v37:=Tryz.zeroValue141
 t46:=Tryz.underlying202
 a46:=Tryz.isAgg202
 z46:=Tryz.sizeOf202
 v46:=Tryz.zeroValue202
 t51:=Tryz.underlying311
 a51:=Tryz.isAgg311
 z51:=Tryz.sizeOf311
 v51:=Tryz.zeroValue311
 t53:=Tryz.underlying314
 a53:=Tryz.isAgg314
 z53:=Tryz.sizeOf314
 v53:=Tryz.zeroValue314
 t171:=Tryz.underlying328
 a171:=Tryz.isAgg328
 z171:=Tryz.sizeOf328
 v171:=Tryz.zeroValue328
 t173:=Tryz.underlying331
 a173:=Tryz.isAgg331
 z173:=Tryz.sizeOf331
 v173:=Tryz.zeroValue331
 t212:=Tryz.underlying337
 a212:=Tryz.isAgg337
 z212:=Tryz.sizeOf337
 v212:=Tryz.zeroValue337
 t213:=Tryz.underlying338
 a213:=Tryz.isAgg338
 z213:=Tryz.sizeOf338
 t232:=Tryz.underlying350
 a232:=Tryz.isAgg350
 z232:=Tryz.sizeOf350
 v232:=Tryz.zeroValue350
 t233:=Tryz.underlying351
 a233:=Tryz.isAgg351
 z233:=Tryz.sizeOf351
 v233:=Tryz.zeroValue351
 g17:=by kernel_rfl
 g18:=by kernel_rfl
 g19:=by kernel_rfl
 i0:=by kernel_rfl
 i2:=by kernel_rfl
 i3:=by kernel_rfl
 i4:=by kernel_rfl
 i5:=by kernel_rfl
 i9:=by kernel_rfl
 i20:=by kernel_rfl
 i37:=by kernel_rfl
 i46:=by kernel_rfl
 i51:=by kernel_rfl
 i53:=by kernel_rfl
 i171:=by kernel_rfl
 i173:=by kernel_rfl
 i212:=by kernel_rfl
 i232:=by kernel_rfl
 i233:=by kernel_rfl
 m17:=by kernel_rfl
 m18:=by kernel_rfl
 m19:=by kernel_rfl}
def Tryz.lays8n4_ren : Go.Shelf.Ren:=⟨fun | 4=>250 | n=>n,fun | 22=>40 | 25=>32 | 3=>3 | 4=>4 | 9=>9 | 20=>20 | 0=>0 | n=>n,fun | n=>n⟩
theorem Tryz.lays8n4 : Go.Proofs.Lays8.n4 Tryz.prog Tryz.lays8n4_ren:={
 mixed:=by kernel_rfl
 f4:=⟨Tryz.f250.name,by decide,Tryz.func250.trans (congrArg some (by kernel_rfl))⟩
 t0:=Tryz.underlying0
 a0:=Tryz.isAgg0
 z0:=Tryz.sizeOf0
 v0:=Tryz.zeroValue0
 t3:=Tryz.underlying3
 a3:=Tryz.isAgg3
 z3:=Tryz.sizeOf3
 v3:=Tryz.zeroValue3
 t4:=Tryz.underlying4
 a4:=Tryz.isAgg4
 z4:=Tryz.sizeOf4
 v4:=Tryz.zeroValue4
 t9:=Tryz.underlying9
 a9:=Tryz.isAgg9
 z9:=Tryz.sizeOf9
 v9:=Tryz.zeroValue9
 t20:=Tryz.underlying20
 a20:=Tryz.isAgg20
 z20:=Tryz.sizeOf20
 v20:=Tryz.zeroValue20
 t22:=Tryz.underlying40
 a22:=Tryz.isAgg40
 z22:=Tryz.sizeOf40
 v22:=Tryz.zeroValue40}
end
noncomputable section
open Go Go.Lib
section
variable {w : World} {b off n c i vb voff vc : Nat} {cells vcells : Array Value} {ety vty : TypeId}
theorem aK3 {w : World} {b o : Nat} {cells : Array Value} {e : TypeId} {fz : Nat × Nat} (h : w.heap[b]? = some (.cells cells e fz)) : w.cell? ⟨b,o,none⟩=cells[o]?:=by
 simp [World.cell?,h]
def pS (cells : Array Value) (o k : Nat) : List Value:=(cells.toList.drop o).take k
theorem cW {cells : Array Value} {o k : Nat} (h : o+k≤cells.size) : (pS cells o k).length=k:=by
 simp [pS];omega
theorem kL {cells : Array Value} {o k j : Nat} (hj : j<k) : (pS cells o k)[j]? = cells[o+j]?:=by
 unfold pS
 rw [List.getElem?_take_of_lt hj,List.getElem?_drop,Array.getElem?_toList]
theorem aES {cells : Array Value} {o k : Nat} {v : Value} (h : v∈pS cells o k) : ∃ j : Nat,j<k∧cells[o+j]? = some v:=by
 obtain ⟨j,hj⟩:=List.getElem?_of_mem h
 by_cases hk : j<k
 ·exact ⟨j,hk,by rw [← hj,kL hk]⟩
 ·exfalso
  have:=(List.getElem?_eq_some_iff.1 hj).1
  simp [pS] at this
  omega
theorem jU {P : Program} {w : World} {b o s k len cap : Nat} {cells : Array Value} {e : TypeId} {fz : Nat × Nat} (hh : w.heap[b]? = some (.cells cells e fz)) (hl : o+k*s≤cells.size) :
 (Builtin.firstCells s k (.slice (some ⟨b,o,none⟩) len cap)).run P w = .ok (pS cells o (k*s)).toArray w:=
 run_firstCells_some w s k ⟨b,o,none⟩ len cap _ (cW hl) fun j v hj=>by
  have hlt:=(List.getElem?_eq_some_iff.1 hj).1
  rw [cW hl] at hlt
  rw [gK,aK3 hh,← kL hlt]
  exact hj
theorem rR {P : Program} {w : World} {b o : Nat} {vs : List Value} {cells : Array Value} {e : TypeId} (hh : w.heap[b]? = some (.cells cells e (0,0))) (hl : o+vs.length≤cells.size) (h1 : ∀ v∈vs,bV v) :
 (storeCells ⟨b,o,none⟩ vs).run P w = .ok () (w.setCells b o vs):=by
 have:=run_storeCells_cells (P:=P) b o vs 0 w (fun j hj=>by
  rw [Nat.add_zero,aK3 hh,Array.getElem?_eq_getElem (by omega)];rfl) (fun j _=>by simp [World.frozen?,hh]) (fun v hv=>vF (h1 v hv))
 simpa using this
end
def aKp (w' : World) (b : Nat) (old : Nat→Option Value) (vcells : Array Value) (voff n i : Nat) (v : Value) : Prop:=∃ (o' cap : Nat) (cells' : Array Value) (ety : TypeId),
 v = .slice (some ⟨b,o',none⟩) (n+1) cap∧w'.heap[b]? = some (.cells cells' ety (0,0))∧o'+cap*4≤cells'.size∧n+1≤cap∧
 (∀ q,q<i*4→cells'[o'+q]? = old q)∧(∀ q,q<4→cells'[o'+i*4+q]? = vcells[voff+q]?)∧(∀ q,q<(n - i)*4→cells'[o'+(i+1)*4+q]? = old (i*4+q))
def aFH (w w' : World) (b : Nat→Prop) : Prop:=(∀ r,r<w.heap.size→¬ b r→w'.heap[r]? = w.heap[r]?)∧w.heap.size≤w'.heap.size∧w'.os=w.os∧w'.tape=w.tape∧w'.output=w.output
theorem aK4 {xs : List PV} {y : PV} {i : Nat} (hi : i≤xs.length) (k : Nat) : (xs.take i++y::xs.drop i)[k]? = if k<i then xs[k]? else if k=i then some y else xs[k - 1]?:=by
 have hl : (xs.take i).length=i:=by rw [List.length_take];omega
 by_cases h : k<i
 ·rw [if_pos h,List.getElem?_append_left (by omega),List.getElem?_take_of_lt h]
 ·rw [if_neg h,List.getElem?_append_right (by omega),hl]
  by_cases h2 : k=i
  ·subst h2;rw [if_pos rfl,Nat.sub_self];rfl
  ·rw [if_neg h2]
   obtain ⟨q,rfl⟩ : ∃ q,k=i+(q+1):=⟨k - i - 1,by omega⟩
   rw [show i+(q+1) - i=q+1 by omega,List.getElem?_cons_succ,List.getElem?_drop,show i+(q+1) - 1=i+q by omega]
theorem wY.ins {w : World} {Z : Nat→Prop} {o : OTy} {xs : List PV} {y : PV} {cv dv : Nat→Nat→Value} {i : Nat} (E : wY w Z o xs cv (fun _ _ _=>False)) (D : wY w Z o [y] dv (fun _ _ _=>False)) (hi : i≤xs.length) :
 wY w Z o (xs.take i++y::xs.drop i) (fun k j=>if k<i then cv k j else if k=i then dv 0 j else cv (k - 1) j) (fun _ _ _=>False) where
 el:=fun k x hx=>by
  rw [aK4 hi] at hx
  split at hx
  ·exact E.el _ _ hx
  ·split at hx
   ·exact D.el 0 _ hx
   ·exact E.el _ _ hx
 one:=fun k j hk hj=>by
  simp only [List.length_append,List.length_cons,List.length_take,List.length_drop] at hk
  split
  ·exact E.one _ _ (by omega) hj
  ·split
   ·exact D.one 0 _ (by simp) hj
   ·exact E.one _ _ (by omega) hj
 rep:=fun k j x hx hj=>by
  rw [aK4 hi] at hx
  split at hx
  ·rename_i h;rw [if_pos h];exact E.rep _ _ _ hx hj
  ·rename_i h;rw [if_neg h]
   split at hx
   ·rename_i h2;rw [if_pos h2];exact D.rep 0 _ _ hx hj
   ·rename_i h2;rw [if_neg h2];exact E.rep _ _ _ hx hj
 fd:=fun _ _ _ _ _ _ _ _ _ h=>h.elim
theorem aME {i : Int} {c d : PV} {r : R} (h : aMr i c d=some r) : ∃ xs y,c = .lst xs∧d = .lst [y]∧0≤i∧i≤xs.length∧xs.length≤1000000∧r = [.lst (xs.take i.toNat++y::xs.drop i.toNat)]:=by
 unfold aMr at h
 split at h
 ·rename_i xs y
  split at h
  ·rename_i hc;cases h;exact ⟨xs,y,rfl,rfl,hc.1,hc.2.1,hc.2.2,rfl⟩
  ·cases h
 ·cases h
section
variable {w : World} {b off n c i vb voff vc : Nat} {cells vcells : Array Value} {ety vty : TypeId} {olds : List Value}
set_option maxRecDepth 100000 in
theorem aAe : ∃ i0 : TypeInfo,Tryz.prog.info? 99=some i0∧i0.size=4∧i0.bytes=32∧i0.zero=some (.agg #[.int .i64 0,.int .i64 0,.int .i64 0,.int .i64 0]):=by
 have h : (Tryz.prog.info? 99).map (fun i=>(i.size,i.bytes,i.zero))=some (4,32,some (.agg #[.int .i64 0,.int .i64 0,.int .i64 0,.int .i64 0])):=by kernel_rfl
 cases hi : Tryz.prog.info? 99 with
 | none=>rw [hi] at h;cases h
 | some i=>rw [hi] at h;simp at h;exact ⟨i,rfl,h.1,h.2.1,h.2.2⟩
set_option maxHeartbeats 4000000 in
set_option maxRecDepth 100000 in
theorem aH6 (hroom : n+1≤c) (hb : w.heap[b]? = some (.cells cells ety (0,0))) (hc : off+c*4≤cells.size)
 (hv : w.heap[vb]? = some (.cells vcells vty (0,0))) (hvc : voff+1*4≤vcells.size) (h1 : ∀ v∈pS vcells voff (1*4),bV v) :
 Calls Tryz.prog 101 #[.slice (some ⟨b,off,none⟩) n c,.int .i64 n,.slice (some ⟨vb,voff,none⟩) 1 vc] w fun e w'=>
  e = .returned (.slice (some ⟨b,off,none⟩) (n+1) c)∧w'=w.setCells b (off+n*4) (pS vcells voff (1*4)):=by
 obtain ⟨i0,hi0,his,hib,hiz⟩:=aAe
 have hrun : ∀ ty,(Builtin.append_ #[49,49] ty #[.slice (some ⟨b,off,none⟩) n c,.slice (some ⟨vb,voff,none⟩) 1 vc]).run Tryz.prog w = .ok (.slice (some ⟨b,off,none⟩) (n+1) c) (w.setCells b (off+n*i0.size) (pS vcells voff (1*4))):=fun ty=>
  qD Tryz.underlying49 (.inl ⟨_,Tryz.underlying49⟩) hi0 rfl (by rw [his];exact jU hv hvc) hroom (rR hb (by rw [cW hvc,his];omega) h1)
 rw [his] at hrun
 go_enter Tryz.func101,Tryz.ntmps101
 go_wp2_with (at_builtin;refine Lib.wpList_append_run _ rfl _ _ _ _ rfl _ _ rfl rfl _ _ (hrun _) ?_)
 go_ret
 exact ⟨rfl,rfl⟩
set_option maxHeartbeats 4000000 in
set_option maxRecDepth 100000 in
theorem aCd {base : Option Addr} (hroom : c<n+1) (hbig : (n+1)*32≤140737488355328)
 (hold : olds = []∧n=0∨∃ a cells ety,base=some ⟨b,a,none⟩∧w.heap[b]? = some (.cells cells ety (0,0))∧olds=pS cells a (n*4)∧a+n*4≤cells.size)
 (hv : w.heap[vb]? = some (.cells vcells vty (0,0))) (hvc : voff+1*4≤vcells.size) :
 Calls Tryz.prog 101 #[.slice base n c,.int .i64 n,.slice (some ⟨vb,voff,none⟩) 1 vc] w fun e w'=>
  e = .returned (.slice (some ⟨w.heap.size,0,none⟩) (n+1) (grownCap w (n+1) c 99))∧
  w'=w.drew.alloc (.cells ((olds++pS vcells voff (1*4)).toArray++Builtin.zeroCells (Value.agg #[.int .i64 0,.int .i64 0,.int .i64 0,.int .i64 0]).cells (grownCap w (n+1) c 99 - (n+1))) 99):=by
 obtain ⟨i0,hi0,his,hib,hiz⟩:=aAe
 have ho : (Builtin.firstCells i0.size n (.slice base n c)).run Tryz.prog w.drew = .ok olds.toArray w.drew:=by
  rcases hold with ⟨h1,h2⟩ | ⟨a,cells,ety,h1,h2,h3,h4⟩
  ·rw [h1,h2]
   cases base with
   | none=>simp [Builtin.firstCells]
   | some a=>exact run_firstCells_some w.drew i0.size 0 a 0 c [] (by simp) (by simp)
  ·rw [h1,h3,his];exact jU (w:=w.drew) h2 h4
 have hrun : ∀ ty,(Builtin.append_ #[49,49] ty #[.slice base n c,.slice (some ⟨vb,voff,none⟩) 1 vc]).run Tryz.prog w=_:=fun ty=>
  qE (w:=w) Tryz.underlying49 (.inl ⟨_,Tryz.underlying49⟩) hi0 hiz (sCap:=c) (x:=.slice (some ⟨vb,voff,none⟩) 1 vc) (n:=1) rfl (by rw [his];exact jU (w:=w.drew) hv hvc) ho hroom (by omega) (by rw [hib];exact growslice_fits hroom hbig)
 simp only [List.append_toArray] at hrun
 clear hold ho
 cases base with
 | none=>
   go_enter Tryz.func101,Tryz.ntmps101
   go_wp2_with (at_builtin;refine Lib.wpList_append_run _ rfl _ _ _ _ rfl _ _ rfl rfl _ _ (hrun _) ?_)
   all_goals (go_ret;exact ⟨rfl,rfl⟩)
 | some a=>
   obtain ⟨ab,ao,asp⟩:=a
   go_enter Tryz.func101,Tryz.ntmps101
   go_wp2_with (at_builtin;refine Lib.wpList_append_run _ rfl _ _ _ _ rfl _ _ rfl rfl _ _ (hrun _) ?_)
   all_goals (go_ret;exact ⟨rfl,rfl⟩)
set_option maxHeartbeats 4000000 in
set_option maxRecDepth 100000 in
theorem aLP (hi : i<n) (hbig : n≤1000000) (hroom : n+1≤c) (hb : w.heap[b]? = some (.cells cells ety (0,0))) (hc : off+c*4≤cells.size) (hvb : vb≠b)
 (hv : w.heap[vb]? = some (.cells vcells vty (0,0))) (hvc : voff+1*4≤vcells.size) (h1 : ∀ v∈pS vcells voff (1*4),bV v) (h2 : ∀ v∈pS cells off (n*4),bV v) :
 Calls Tryz.prog 101 #[.slice (some ⟨b,off,none⟩) n c,.int .i64 i,.slice (some ⟨vb,voff,none⟩) 1 vc] w fun e w'=>
  e = .returned (.slice (some ⟨b,off,none⟩) (n+1) c)∧w'=(w.drew.setCells b (off+(i+1)*4) (pS cells (off+i*4) ((n - i)*4))).setCells b (off+i*4) (pS vcells voff (1*4)):=by
 obtain ⟨i0,hi0,his,hib,hiz⟩:=aAe
 have hz2 : ¬ ((i : Int)=(n : Int)):=by omega
 have mixed : Tryz.prog.follows Departure.mixedOrders=true:=by kernel_rfl
 have hcells : (n+1)*4≤c*4:=Nat.mul_le_mul_right _ hroom
 have hov : ∀ lb cb,(callFunc 153 #[.slice (some ⟨vb,voff,none⟩) 1 vc,.slice (some ⟨b,off+(i+1)*4,none⟩) lb cb]).run Tryz.prog w = .ok (.value (.bool false)) w:=fun lb cb=>by
  rw [run_callFunc_extern Tryz.func153 (by kernel_rfl) (by kernel_rfl) (by kernel_rfl) (e:=Extern.SlicesOverlaps.overlaps #[49,49] #[4]) (by kernel_rfl),
   Lib.run_overlaps_apart w 49 4 99 Tryz.underlying49 4 Tryz.sizeOf99 ⟨vb,voff,none⟩ ⟨b,off+(i+1)*4,none⟩ 1 vc lb cb hvb vty ety vcells.size cells.size (by simp [World.shape?,hv]) (by simp [World.shape?,hb]) (by omega) (by simp [World.frozen?,hv]) (by simp [World.frozen?,hv])]
  rfl
 have hw1 : IntKind.i64.wrap ((i : Int)+(1 : Int))=(i : Int)+(1 : Int):=by rw [IntKind.wrap_i64];omega
 have hb1 : (0 : Int)≤(i : Int)+(1 : Int):=by omega
 have hin : i≤n:=by omega
 have htn : ((i : Int)+(1 : Int)).toNat=i+1:=by omega
 have hb2 : ¬ (c=i+1):=by omega
 have hb3 : (i : Int)≤(n : Int)+(1 : Int):=by omega
 have hb4 : ¬ (c=i):=by omega
 have hsl : off+i*4+(n - i)*4≤cells.size:=by omega
 have hcp1 : ∀ ty dc sc,(Builtin.copy_ #[49,49] ty #[.slice (some ⟨b,off+(i+1)*4,none⟩) (n - i) dc,.slice (some ⟨b,off+i*4,none⟩) (n+1 - i) sc]).run Tryz.prog w.drew = .ok (goInt (Nat.min (n+1 - i) (n - i))) (w.drew.setCells b (off+(i+1)*4) (pS cells (off+i*4) ((n - i)*4))):=fun ty dc sc=>by
  refine mT (w:=w.drew) Tryz.underlying49 hi0 rfl ?_ (rR (w:=w.drew) hb (by rw [cW hsl];omega) (fun v hv=>?_))
  ·rw [his,show Nat.min (n+1 - i) (n - i)=n - i by simp only [Nat.min_def];split<;>omega]
   exact jU (w:=w.drew) hb hsl
  ·obtain ⟨j,hj,hx⟩:=aES hv
   refine h2 v (List.mem_of_getElem? (i:=i*4+j) ?_)
   rw [kL (by omega),← Nat.add_assoc];exact hx
 obtain ⟨W1,hW1⟩ : ∃ W1,W1=w.drew.setCells b (off+(i+1)*4) (pS cells (off+i*4) ((n - i)*4)):=⟨_,rfl⟩
 obtain ⟨cells',c1,c2,c3,c4⟩:=dR (pS cells (off+i*4) ((n - i)*4)) (off+(i+1)*4) w.drew cells hb (by rw [cW hsl];omega)
 have hWv : W1.heap[vb]? = some (.cells vcells vty (0,0)):=by rw [hW1,bR hvb];exact hv
 rw [← hW1] at c1
 have hcp2 : ∀ (W : World),W.heap=W1.heap→∀ ty dc,(Builtin.copy_ #[49,49] ty #[.slice (some ⟨b,off+i*4,none⟩) (n+1 - i) dc,.slice (some ⟨vb,voff,none⟩) 1 vc]).run Tryz.prog W = .ok (goInt (Nat.min 1 (n+1 - i))) (W.setCells b (off+i*4) (pS vcells voff (1*4))):=fun W hW ty dc=>by
  refine mT (w:=W) Tryz.underlying49 hi0 rfl ?_ (rR (cells:=cells') (e:=ety) (by rw [hW];exact c1) (by rw [cW hvc,c2];omega) h1)
  rw [his,show Nat.min 1 (n+1 - i)=1 by simp only [Nat.min_def];split<;>omega]
  exact jU (by rw [hW];exact hWv) hvc
 rw [← hW1] at hcp1
 go_enter Tryz.func101,Tryz.ntmps101
 go_wp2_with (simp only [hov])
 go_region_law_o (refine step_copy_runI rfl _ _ 49 49 rfl _ _ (by simp [Act.eval,Act.put]) (by simp [Act.eval,Act.put]) (hcp1 _ _ _) ?_)
 go_wp2_with (at_builtin;refine wpList_copy_runI _ rfl _ _ 49 49 rfl _ _ rfl rfl (hcp2 _ rfl _ _) ?_)
 go_ret
 first | exact ⟨rfl,rfl⟩ | exact ⟨rfl,by rw [hW1]⟩
set_option maxHeartbeats 4000000 in
set_option maxRecDepth 100000 in
theorem aMF (hi : i<n) (hnc : n≤c) (hroom : c<n+1) (hbig : (n+1)*32≤140737488355328) (hb : w.heap[b]? = some (.cells cells ety (0,0))) (hc : off+c*4≤cells.size)
 (hv : w.heap[vb]? = some (.cells vcells vty (0,0))) (hvc : voff+1*4≤vcells.size) (h1 : ∀ v∈pS vcells voff (1*4),bV v) (h2 : ∀ v∈pS cells off (n*4),bV v) :
 Calls Tryz.prog 101 #[.slice (some ⟨b,off,none⟩) n c,.int .i64 i,.slice (some ⟨vb,voff,none⟩) 1 vc] w fun e w'=>∃ G ROW,
  e = .returned (.slice (some ⟨w.heap.size,0,none⟩) (n+1) G)∧n+1≤G∧ROW.size=G*4∧(∀ q,q<i*4→ROW[q]? = cells[off+q]?)∧
  w'=(((w.alloc (.cells ROW 99)).drew.setCells w.heap.size (i*4) (pS vcells voff (1*4))).drew).setCells w.heap.size ((i+1)*4) (pS cells (off+i*4) ((n - i)*4)):=by
 obtain ⟨i0,hi0,his,hib,hiz⟩:=aAe
 have mixed : Tryz.prog.follows Departure.mixedOrders=true:=by kernel_rfl
 have hz2 : ¬ ((i : Int)=(n : Int)):=by omega
 have hz3 : (c : Int)<(n : Int)+(1 : Int):=by omega
 have hbw : b<w.heap.size:=(Array.getElem?_eq_some_iff.1 hb).1
 have hvw : vb<w.heap.size:=(Array.getElem?_eq_some_iff.1 hv).1
 have hkk : (n : Int)+(1 : Int) - (i : Int)=((n+1 - i : Nat) : Int):=by omega
 have hik : i+(n+1 - i)=n+1:=by omega
 have hnc4 : n*4≤c*4:=Nat.mul_le_mul_right _ hnc
 have hsi : off+i*4≤cells.size:=by omega
 have hsl : off+i*4+(n - i)*4≤cells.size:=by omega
 have hold : (Builtin.firstCells i0.size i (.slice (some ⟨b,off,none⟩) i c)).run Tryz.prog w.drew = .ok (pS cells off (i*4)).toArray w.drew:=by
  rw [his];exact jU (w:=w.drew) hb hsi
 have hrz : ∀ ty,(Builtin.append_ #[49,3] ty #[.slice (some ⟨b,off,none⟩) i c,.int .i64 ((n : Int)+(1 : Int) - (i : Int))]).run Tryz.prog w =
  .ok (.slice (some ⟨w.heap.size,0,none⟩) (n+1) (grownCap w (n+1) c 99)) (w.drew.alloc (.cells ((pS cells off (i*4)).toArray++Builtin.zeroCells (Value.agg #[.int .i64 0,.int .i64 0,.int .i64 0,.int .i64 0]).cells (n+1 - i)++Builtin.zeroCells (Value.agg #[.int .i64 0,.int .i64 0,.int .i64 0,.int .i64 0]).cells (grownCap w (n+1) c 99 - (n+1))) 99)):=fun ty=>by
  have h:=Lib.run_append_grow_zeros w 49 3 ty 99 i0 _ .i64 .i64 Tryz.underlying49 Tryz.underlying3 hi0 hiz (some ⟨b,off,none⟩) i c _ hold (n+1 - i) (by omega) (by omega) (by omega) (by omega) (by rw [hib];omega) (by rw [hib,hik];exact growslice_fits hroom hbig)
  rw [hik] at h
  rw [hkk]
  exact h
 obtain ⟨G,hG⟩ : ∃ G,G=grownCap w (n+1) c 99:=⟨_,rfl⟩
 obtain ⟨ROW,hROW⟩ : ∃ ROW : Array Value,ROW=(pS cells off (i*4)).toArray++Builtin.zeroCells (Value.agg #[.int .i64 0,.int .i64 0,.int .i64 0,.int .i64 0]).cells (n+1 - i)++Builtin.zeroCells (Value.agg #[.int .i64 0,.int .i64 0,.int .i64 0,.int .i64 0]).cells (G - (n+1)):=⟨_,rfl⟩
 have hGn : n+1≤G:=by rw [hG];exact grownCap_ge w _ _ _
 rw [← hG] at hrz
 rw [← hROW] at hrz
 have hRs : ROW.size=G*4:=by
  rw [hROW]
  simp only [Array.size_append,List.size_toArray,cW (show off+i*4≤cells.size by omega),iS]
  show i*4+(n+1 - i)*4+(G - (n+1))*4=G*4
  omega
 have hRp : ∀ q,q<i*4→ROW[q]? = cells[off+q]?:=fun q hq=>by
  have hl:=cW hsi
  rw [hROW,Array.append_assoc,Array.getElem?_append_left (by simp [hl];exact hq)]
  rw [← kL (cells:=cells) (o:=off) hq]
  simp
 obtain ⟨W1,hW1⟩ : ∃ W1,W1=w.drew.alloc (.cells ROW 99):=⟨_,rfl⟩
 rw [← hW1] at hrz
 have hN : W1.heap[w.heap.size]? = some (.cells ROW 99 (0,0)):=by rw [hW1];exact heap_alloc_new w.drew _
 have hO : ∀ r,r<w.heap.size→W1.heap[r]? = w.heap[r]?:=fun r hr=>by rw [hW1];exact heap_alloc_old w.drew _ hr
 have hcpA : ∀ (W : World),W.heap=W1.heap→∀ ty dc,(Builtin.copy_ #[49,49] ty #[.slice (some ⟨w.heap.size,i*4,none⟩) (n+1 - i) dc,.slice (some ⟨vb,voff,none⟩) 1 vc]).run Tryz.prog W = .ok (goInt (Nat.min 1 (n+1 - i))) (W.setCells w.heap.size (i*4) (pS vcells voff (1*4))):=fun W hW ty dc=>by
  refine mT (w:=W) Tryz.underlying49 hi0 rfl ?_ (rR (cells:=ROW) (e:=99) (by rw [hW];exact hN) (by rw [cW hvc,hRs];omega) h1)
  rw [his,show Nat.min 1 (n+1 - i)=1 by simp only [Nat.min_def];split<;>omega]
  exact jU (by rw [hW,hO _ hvw];exact hv) hvc
 obtain ⟨ROW',d1,d2,d3,d4⟩:=dR (pS vcells voff (1*4)) (i*4) W1 ROW hN (by rw [cW hvc,hRs];omega)
 have hcpB : ∀ (W : World),W.heap=(W1.setCells w.heap.size (i*4) (pS vcells voff (1*4))).heap→∀ ty dc sc,(Builtin.copy_ #[49,49] ty #[.slice (some ⟨w.heap.size,(i+1)*4,none⟩) (n - i) dc,.slice (some ⟨b,off+i*4,none⟩) (n - i) sc]).run Tryz.prog W = .ok (goInt (Nat.min (n - i) (n - i))) (W.setCells w.heap.size ((i+1)*4) (pS cells (off+i*4) ((n - i)*4))):=fun W hW ty dc sc=>by
  refine mT (w:=W) Tryz.underlying49 hi0 rfl ?_ (rR (cells:=ROW') (e:=99) (by rw [hW];exact d1) (by rw [cW hsl,d2,hRs];omega) (fun v hv=>?_))
  ·rw [his,show Nat.min (n - i) (n - i)=n - i by simp only [Nat.min_def];split<;>omega]
   exact jU (by rw [hW,bR (by omega),hO _ hbw];exact hb) hsl
  ·obtain ⟨j,hj,hx⟩:=aES hv
   refine h2 v (List.mem_of_getElem? (i:=i*4+j) ?_)
   rw [kL (by omega),← Nat.add_assoc];exact hx
 have hG63 : G≤9223372036854775807:=by
  have:=grownCap_le_maxLen w (n+1) c 99 (by unfold maxLen;omega)
  rw [← hG] at this
  unfold maxLen at this
  omega
 have hGi : ¬ (G=i):=by omega
 have hGim : ¬ (G=i+1):=by omega
 have hci : ¬ (c=i):=by omega
 subst hW1
 have hE1 : ((w.alloc (.cells ROW 99)).drew).heap=(w.drew.alloc (.cells ROW 99)).heap:=rfl
 have hF1 : (((w.alloc (.cells ROW 99)).drew.setCells w.heap.size (i*4) (pS vcells voff (1*4))).drew).heap=((w.drew.alloc (.cells ROW 99)).setCells w.heap.size (i*4) (pS vcells voff (1*4))).heap:=rfl
 have hw1 : IntKind.i64.wrap ((i : Int)+(1 : Int))=(i : Int)+(1 : Int):=by rw [IntKind.wrap_i64];omega
 have hb1 : (0 : Int)≤(i : Int)+(1 : Int):=by omega
 have hin : i≤n:=by omega
 have htn : ((i : Int)+(1 : Int)).toNat=i+1:=by omega
 have hb3 : (i : Int)≤(n : Int):=by omega
 clear hkk hik hold hROW hG
 go_enter Tryz.func101,Tryz.ntmps101
 go_wp2_with (first
  | (at_builtin;refine Lib.wpList_append_run _ rfl _ _ _ _ rfl _ _ rfl rfl _ _ (hrz _) ?_)
  | (at_builtin;refine wpList_copy_runI _ rfl _ _ 49 49 rfl _ _ rfl rfl (hcpA _ hE1 _ _) ?_)
  | (at_builtin;refine wpList_copy_runI _ rfl _ _ 49 49 rfl _ _ rfl rfl (hcpB _ rfl _ _ _) ?_))
 go_region_law_o (refine step_copy_runI rfl _ _ 49 49 rfl (.slice (some ⟨w.heap.size,(i+1)*4,none⟩) (n - i) (G - (i+1))) (.slice (some ⟨b,off+i*4,none⟩) (n - i) (c - i)) (by simp [Act.eval,Act.put]) (by simp [Act.eval,Act.put]) (hcpB _ hF1 3 (G - (i+1)) (c - i)) ?_)
 go_wp2
 go_ret
 exact ⟨G,ROW,rfl,hGn,hRs,hRp,rfl⟩
theorem aNF {base : Option Addr} (hv : w.heap[vb]? = some (.cells vcells vty (0,0))) (hvc : voff+1*4≤vcells.size) {old : Nat→Option Value} :
 Calls Tryz.prog 101 #[.slice base 0 0,.int .i64 (0 : Nat),.slice (some ⟨vb,voff,none⟩) 1 vc] w fun e w'=>∃ v,e = .returned v∧aFH w w' (fun _=>False)∧aKp w' w.heap.size old vcells voff 0 0 v:=by
 refine (aCd (olds:=[]) (b:=0) (n:=0) (c:=0) (by omega) (by omega) (.inl ⟨rfl,rfl⟩) hv hvc).mono ?_
 rintro e w' ⟨rfl,rfl⟩
 have hge:=grownCap_ge w (0+1) 0 99
 refine ⟨_,rfl,⟨fun r hr _=>heap_alloc_old w.drew _ hr,by simp,rfl,rfl,rfl⟩,0,_,_,99,rfl,heap_alloc_new w.drew _,?_,hge,fun q hq=>by omega,fun q hq=>?_,fun q hq=>by omega⟩
 ·simp only [Array.size_append,List.size_toArray,List.nil_append,cW hvc,iS]
  show 0+_*4≤1*4+(_ - (0+1))*4
  omega
 ·rw [Array.getElem?_append_left (by simp [cW hvc];omega)]
  rw [← kL (cells:=vcells) (o:=voff) (k:=1*4) (by omega : q<1*4)]
  simp
theorem aNG (hi : i≤n) (hnc : n≤c) (hbig : n≤1000000) (hb : w.heap[b]? = some (.cells cells ety (0,0))) (hc : off+c*4≤cells.size) (hvb : vb≠b)
 (hv : w.heap[vb]? = some (.cells vcells vty (0,0))) (hvc : voff+1*4≤vcells.size) (h1 : ∀ v∈pS vcells voff (1*4),bV v) (h2 : ∀ v∈pS cells off (n*4),bV v) :
 Calls Tryz.prog 101 #[.slice (some ⟨b,off,none⟩) n c,.int .i64 i,.slice (some ⟨vb,voff,none⟩) 1 vc] w fun e w'=>∃ v b',e = .returned v∧aFH w w' (fun r=>r=b)∧(b'=b∨b'=w.heap.size)∧
  aKp w' b' (fun q=>cells[off+q]?) vcells voff n i v:=by
 have hbw : b<w.heap.size:=(Array.getElem?_eq_some_iff.1 hb).1
 have hnc4 : n*4≤c*4:=Nat.mul_le_mul_right _ hnc
 have hsl : off+i*4+(n - i)*4≤cells.size:=by omega
 by_cases hroom : n+1≤c
 ·have hcells : (n+1)*4≤c*4:=Nat.mul_le_mul_right _ hroom
  by_cases hin : i=n
  ·subst hin
   refine (aH6 hroom hb hc hv hvc h1).mono ?_
   rintro e w' ⟨rfl,rfl⟩
   obtain ⟨cells',c1,c2,c3,c4⟩:=dR (pS vcells voff (1*4)) (off+i*4) w cells hb (by rw [cW hvc];omega)
   obtain ⟨e1,e2,e3,e4⟩:=eO (pS vcells voff (1*4)) b (off+i*4) w
   refine ⟨_,b,rfl,⟨fun r hr hb=>bR hb _ _ _,by rw [e1];exact Nat.le_refl _,e2,e3,e4⟩,.inl rfl,off,c,cells',ety,rfl,c1,by rw [c2];exact hc,hroom,fun q hq=>c4 _ (.inl (by omega)),fun q hq=>?_,fun q hq=>by omega⟩
   rw [c3 q (by rw [cW hvc];omega),kL (by omega)]
  ·have hlt : i<n:=by omega
   refine (aLP hlt hbig hroom hb hc hvb hv hvc h1 h2).mono ?_
   rintro e w' ⟨rfl,rfl⟩
   obtain ⟨cells',c1,c2,c3,c4⟩:=dR (pS cells (off+i*4) ((n - i)*4)) (off+(i+1)*4) w.drew cells hb (by rw [cW hsl];omega)
   obtain ⟨e1,e2,e3,e4⟩:=eO (pS cells (off+i*4) ((n - i)*4)) b (off+(i+1)*4) w.drew
   obtain ⟨cells2,d1,d2,d3,d4⟩:=dR (pS vcells voff (1*4)) (off+i*4) _ cells' c1 (by rw [cW hvc,c2];omega)
   obtain ⟨f1,f2,f3,f4⟩:=eO (pS vcells voff (1*4)) b (off+i*4) (w.drew.setCells b (off+(i+1)*4) (pS cells (off+i*4) ((n - i)*4)))
   rw [cW hsl] at c3 c4
   rw [cW hvc] at d3 d4
   refine ⟨_,b,rfl,⟨fun r hr hb=>by rw [bR hb,bR hb];rfl,by rw [f1,e1];exact Nat.le_refl _,by rw [f2,e2];rfl,by rw [f3,e3];rfl,by rw [f4,e4];rfl⟩,.inl rfl,off,c,cells2,ety,rfl,d1,by rw [d2,c2];exact hc,hroom,fun q hq=>?_,fun q hq=>?_,fun q hq=>?_⟩
   ·rw [d4 _ (.inl (by omega)),c4 _ (.inl (by omega))]
   ·rw [d3 q (by omega),kL (by omega)]
   ·rw [d4 _ (.inr (by omega)),c3 q hq,kL hq,Nat.add_assoc]
 ·by_cases hin : i=n
  ·subst hin
   refine (aCd (olds:=pS cells off (i*4)) (base:=some ⟨b,off,none⟩) (b:=b) (by omega) (by omega) (.inr ⟨off,cells,ety,rfl,hb,rfl,by omega⟩) hv hvc).mono ?_
   rintro e w' ⟨rfl,rfl⟩
   have hge:=grownCap_ge w (i+1) c 99
   have hsi : off+i*4≤cells.size:=by omega
   refine ⟨_,_,rfl,⟨fun r hr _=>heap_alloc_old w.drew _ hr,by simp,rfl,rfl,rfl⟩,.inr rfl,0,_,_,99,rfl,heap_alloc_new w.drew _,?_,hge,fun q hq=>?_,fun q hq=>?_,fun q hq=>by omega⟩
   ·simp only [Array.size_append,List.size_toArray,List.length_append,cW hvc,cW hsi,iS]
    show 0+_*4≤i*4+1*4+(_ - (i+1))*4
    omega
   ·rw [Array.getElem?_append_left (by simp [cW hvc,cW hsi];omega)]
    show _=cells[off+q]?
    rw [← kL (cells:=cells) (o:=off) (k:=i*4) hq,List.getElem?_toArray,Nat.zero_add,List.getElem?_append_left (by rw [cW hsi];exact hq)]
   ·rw [Array.getElem?_append_left (by simp [cW hvc,cW hsi];omega)]
    rw [← kL (cells:=vcells) (o:=voff) (k:=1*4) (by omega : q<1*4),List.getElem?_toArray,Nat.zero_add,List.getElem?_append_right (by rw [cW hsi];omega),cW hsi,Nat.add_sub_cancel_left]
  ·have hlt : i<n:=by omega
   refine (aMF hlt hnc (by omega) (by omega) hb hc hv hvc h1 h2).mono ?_
   rintro e w' ⟨G,ROW,rfl,hG,hRs,hRp,rfl⟩
   have hN : ((w.alloc (.cells ROW 99)).drew).heap[w.heap.size]? = some (.cells ROW 99 (0,0)):=heap_alloc_new w _
   obtain ⟨cells',c1,c2,c3,c4⟩:=dR (pS vcells voff (1*4)) (i*4) ((w.alloc (.cells ROW 99)).drew) ROW hN (by rw [cW hvc,hRs];omega)
   obtain ⟨e1,e2,e3,e4⟩:=eO (pS vcells voff (1*4)) w.heap.size (i*4) ((w.alloc (.cells ROW 99)).drew)
   obtain ⟨cells2,d1,d2,d3,d4⟩:=dR (pS cells (off+i*4) ((n - i)*4)) ((i+1)*4) (((w.alloc (.cells ROW 99)).drew.setCells w.heap.size (i*4) (pS vcells voff (1*4))).drew) cells' c1 (by rw [cW hsl,c2,hRs];omega)
   obtain ⟨f1,f2,f3,f4⟩:=eO (pS cells (off+i*4) ((n - i)*4)) w.heap.size ((i+1)*4) (((w.alloc (.cells ROW 99)).drew.setCells w.heap.size (i*4) (pS vcells voff (1*4))).drew)
   rw [cW hvc] at c3 c4
   rw [cW hsl] at d3 d4
   refine ⟨_,_,rfl,⟨fun r hr _=>?_,?_,?_,?_,?_⟩,.inr rfl,0,G,cells2,99,rfl,d1,by rw [d2,c2,hRs];omega,hG,fun q hq=>?_,fun q hq=>?_,fun q hq=>?_⟩
   ·rw [bR (by omega)]
    show ((w.alloc (.cells ROW 99)).drew.setCells w.heap.size (i*4) (pS vcells voff (1*4))).heap[r]? = _
    rw [bR (by omega)]
    exact heap_alloc_old w _ hr
   ·rw [f1]
    show _≤((w.alloc (.cells ROW 99)).drew.setCells w.heap.size (i*4) (pS vcells voff (1*4))).heap.size
    rw [e1]
    show _≤(w.alloc (.cells ROW 99)).heap.size
    simp
   ·rw [f2];exact e2
   ·rw [f3];exact e3
   ·rw [f4];exact e4
   ·rw [d4 _ (.inl (by omega)),c4 _ (.inl (by omega)),Nat.zero_add,hRp q hq]
   ·rw [d4 _ (.inl (by omega)),Nat.zero_add,c3 q (by omega),kL (by omega)]
   ·rw [Nat.zero_add,d3 q hq,kL hq,Nat.add_assoc]
end
theorem aKq {args : List DV} {s : St} {r : R} (h : jS args s=some r) {m : aS} {aO : Array Value} (hf : fE m s s.base) (hl : args.length=aO.size) (hr : ∀ (i : Nat) d v,args[i]? = some d→aO[i]? = some v→m.rd d v)
 {t : Tmpl} (ht : t.res = .ref 0 []∧t.boxes = []∧t.lists = [some ⟨aAn,.int .i64 0⟩]) :
 Calls Tryz.prog 101 aO m.w (fun e w'=>∃ v,e = .returned v∧oE m 0 0 (some t) r v w'):=by
 unfold jS at h
 split at h
 rotate_left
 ·cases h
 rename_i i _
 obtain ⟨pv,ls,hk,_,H0⟩:=sinkAs_sound h
 obtain ⟨pv',ls',hk',_,H1⟩:=sinkAs_sound hk
 obtain ⟨xs,y,rfl,rfl,hi0,hi1,hlen,rfl⟩:=aME hk'
 obtain ⟨v0,v1,v2,rfl⟩ : ∃ v0 v1 v2,aO = #[v0,v1,v2]:=by
  match aO,hl with
  | ⟨[a,b,c]⟩,_=>exact ⟨a,b,c,rfl⟩
  | ⟨[]⟩,h=>simp at h
  | ⟨[_]⟩,h=>simp at h
  | ⟨[_,_]⟩,h=>simp at h
  | ⟨_::_::_::_::_⟩,h=>simp at h
 have h0:=hr 0 _ _ rfl rfl
 have h1:=hr 1 _ _ rfl rfl
 have h2:=hr 2 _ _ rfl rfl
 obtain rfl : v1 = .int .i64 i:=by
  cases h1 with
  | p _ _ h1=>cases h1;rfl
 obtain ⟨i,rfl⟩:=Int.eq_ofNat_of_zero_le hi0
 rw [Int.toNat_natCast]
 have hin : i≤xs.length:=by omega
 have sit:=hf.sit (Nat.le_refl s.base)
 obtain ⟨m2,F0,sk0,hro0,hF0⟩:=H0 s.base m (fun _=>True) hf.inv (fun l _=>hf.list l) (fun _ _=>trivial) v0 h0
 have G0:=sk0.goes (B:=fun _=>True) (L:=fun _=>True) (WL:=fun l=>l∈([] : List Nat)∨true=true) (fun b=>b∈([] : List Nat)∨true=true) sit (fun _ _=>.inl trivial) (fun _ _=>.inl (.inr rfl))
 have sit2:=G0.sit sit
 obtain ⟨m3,F1,sk1,hro1,hF1⟩:=H1 s.base m2 (fun _=>True) sit2.inv (fun l _=>by rw [sk0.list,eP,hf.list]) (fun _ _=>trivial) v2 (sk0.step.rd _ _ h2)
 have G1:=sk1.goes (B:=fun _=>True) (L:=fun _=>True) (WL:=fun l=>l∈([] : List Nat)∨true=true) (fun b=>b∈([] : List Nat)∨true=true) sit2 (fun _ _=>.inl trivial) (fun _ _=>.inl (.inr rfl))
 have sit3:=G1.sit sit2
 have hw3 : m3.w=m.w:=sk1.w.trans sk0.w
 have hro0' : bZ m3.w m3.Z aAn (.lst xs) v0 F0:=hro0.frame (fun r h=>sk1.step.zz r h) (fun r _=>by rw [sk1.w]) (fun r _=>by rw [sk1.w]) (fun r hr=>(sit3.inv.Lz r (sk1.L r (hF0 r hr).1)).1)
 have hp : aAn.plain=true:=rfl
 rcases hro1.els rfl with ⟨h,_⟩ | ⟨vb,voff,vc,vcells,vty,dv,gp,rfl,hvh,_,hvr,hvl,_,hvF,hvc,D,_⟩
 ·cases h
 have D:=D.plain hp
 have hvc4 : 1*4≤vc*4:=Nat.mul_le_mul_right _ hvl
 have hvr : voff+vc*4≤vcells.size:=hvr
 have h1v : ∀ v∈pS vcells voff (1*4),bV v:=fun v hv=>by
  obtain ⟨j,hj,hx⟩:=aES hv
  have:=hvc 0 j (by simp) (by show j<4;omega)
  rw [show voff+0*aAn.s+j=voff+j by omega] at this
  rw [this] at hx
  cases hx
  exact D.one 0 j (by simp) (by show j<4;omega)
 have fin : ∀ {w' : World} {v : Value} {b : Nat} {bb : Nat→Prop} {old : Nat→Option Value} {cv : Nat→Nat→Value},aFH m.w w' bb→(∀ r,bb r→m3.L r)→(b=m.w.heap.size∨(m3.L b))→aKp w' b old vcells voff xs.length i v→
  wY m3.w m3.Z aAn xs cv (fun _ _ _=>False)→(∀ k j : Nat,k<xs.length→j<4→old (k*4+j)=some (cv k j))→oE m 0 0 (some t) [.lst (xs.take i++y::xs.drop i)] v w':=by
  rintro w' v b bb old cv ⟨K1,K2,K3,K4,K5⟩ hbb hb ⟨o',cap,cells',ety,rfl,L1,L2,L3,L4,L5,L6⟩ E hold
  have hzl : (xs.take i++y::xs.drop i).length=xs.length+1:=by simp;omega
  have hbz : ¬ m3.Z b:=by
   rcases hb with rfl | hb
   ·intro hz;have:=sit3.inv.zlt _ hz;rw [hw3] at this;omega
   ·exact (sit3.inv.Lz b hb).1
  have hZ : ∀ r,m3.Z r→w'.heap[r]? = m3.w.heap[r]?:=fun r hr=>by
   rw [hw3];exact K1 r (by have:=sit3.inv.zlt _ hr;rw [hw3] at this;exact this) (fun hb=>(sit3.inv.Lz r (hbb r hb)).1 hr)
  have EE:=(E.ins D hin).frame (w':=w') (Z':=m3.Z) (fun _ h=>h) hZ (fun _ _ _ _ _ h=>h.elim)
  have hro:=EE.repO (o:=aAn) rfl (by show 0<4;omega) (b:=b) (off:=o') (cap:=cap) L1 L2 (by rw [hzl];exact L3) hbz (fun k j hk hj=>by
   rw [hzl] at hk
   have hj : j<4:=hj
   show cells'[o'+k*4+j]? = _
   by_cases h : k<i
   ·rw [if_pos h,Nat.add_assoc,L4 _ (by omega),hold k j (by omega) hj]
   ·rw [if_neg h]
    by_cases h2 : k=i
    ·subst h2
     rw [if_pos rfl,L5 j hj]
     have:=hvc 0 j (by simp) hj
     rwa [show voff+0*aAn.s+j=voff+j by omega] at this
    ·rw [if_neg h2]
     have:=L6 ((k - 1 - i)*4+j) (by omega)
     rw [show o'+(i+1)*4+((k - 1 - i)*4+j)=o'+k*4+j by omega] at this
     rw [this,show i*4+((k - 1 - i)*4+j)=(k - 1)*4+j by omega,hold (k - 1) j (by omega) hj]) (fun _ _ _ _ h=>h.elim)
  rw [hzl] at hro
  have hn : (((s.at s.base).killL ls).killL ls').nl=s.base:=by rw [rL,rL];rfl
  have G2:=bJ.addRow (B:=fun _=>True) (L:=fun _=>True) (fun b=>b∈([] : List Nat)∨true=true) (fun l=>l∈([] : List Nat)∨true=true) sit3 (by rw [hn];omega) (w':=w') (own:=⟨aAn,.lst (xs.take i++y::xs.drop i)⟩) rfl hro
   (fun r hr=>by
    rcases hr with rfl | ⟨_,_,_,_,h⟩
    ·rcases hb with rfl | hb
     ·right;rw [hw3];exact Nat.le_refl _
     ·exact .inl hb
    ·exact h.elim)
   (fun r hr hL=>by rw [hw3] at hr ⊢;exact K1 r hr (fun h=>hL (hbb r h))) (by rw [hw3];exact K2) (by rw [hw3];exact K3) (by rw [hw3];exact K4) (by rw [hw3];exact K5)
  exact aJe (l:=_) hf ((G0.trans G1).trans G2) (w:=⟨aAn,.lst (xs.take i++y::xs.drop i)⟩) (by rw [iL,if_pos rfl]) (aS.addRow_rd trivial) ht
 rcases hro0'.els rfl with ⟨rfl,adr,rfl⟩ | ⟨b,off,cap,cells,ety,cv,fp,rfl,hh,_,hroom,hlen',_,hbF,hc,E,_⟩
 ·have : i=0:=by simpa using hin
  subst this
  rw [hw3] at hvh
  refine (aNF (old:=fun _=>none) hvh (by omega)).mono ?_
  rintro e w' ⟨v,rfl,K,Ld⟩
  exact ⟨v,rfl,fin K (fun _ h=>h.elim) (.inl rfl) Ld (wY.nil aAn (fun _ _=>undef) (fun _ _ _=>False)) (fun k j hk=>by simp at hk)⟩
 ·have E:=E.plain hp
  have hbL:=sk1.L _ (hF0 b hbF).1
  have hvL:=(hF1 vb hvF).1
  have hne : vb≠b:=fun e=>(hF1 vb hvF).2 (e▸(hF0 b hbF).1)
  rw [hw3] at hvh hh
  have hc4 : xs.length*4≤cap*4:=Nat.mul_le_mul_right _ hlen'
  refine (aNG hin hlen' hlen hh hroom hne hvh (by omega) h1v (fun v hv=>?_)).mono ?_
  ·obtain ⟨j,hj,hx⟩:=aES hv
   have:=hc (j / 4) (j % 4) (by omega) (by show j % 4<4;omega)
   rw [show off+j / 4*aAn.s+j % 4=off+j by show off+j / 4*4+j % 4=_;omega] at this
   rw [this] at hx
   cases hx
   exact E.one _ _ (by omega) (by show j % 4<4;omega)
  ·rintro e w' ⟨v,b',rfl,K,hb',Ld⟩
   refine ⟨v,rfl,fin K (fun r hr=>by subst hr;exact hbL) (hb'.elim (fun e=>.inr (e▸hbL)) .inl) Ld E (fun k j hk hj=>?_)⟩
   have:=hc k j hk hj
   rw [Nat.add_assoc] at this
   exact this
end
noncomputable section
open Go
theorem aMG {α : Type} {n : Nat} : ∀ {l : List (Nat × α)} {a : α},lk n l=some a→∃ p∈l,p.2=a
 | [],a,h=>by simp [lk] at h
 | (m,b)::r,a,h=>by
   unfold lk at h
   split at h
   ·cases h;exact ⟨_,List.mem_cons_self,rfl⟩
   ·obtain ⟨p,h1,h2⟩:=aMG h
    exact ⟨p,List.mem_cons_of_mem _ h1,h2⟩
theorem aKr {α : Type} {n : Nat} : ∀ {l : List (Nat × α)} {a : α},lk n l=some a→(n,a)∈l
 | [],a,h=>by simp [lk] at h
 | (m,b)::r,a,h=>by
   unfold lk at h
   split at h
   ·rename_i hb
    cases h
    rw [bH hb]
    exact List.mem_cons_self
   ·exact List.mem_cons_of_mem _ (aKr h)
theorem yI {g : Nat} (h : ((Tryz.prog.funcs[g]?).bind (·.body)).isSome=true) : iT Tryz.prog g:=by
 cases hf : Tryz.prog.funcs[g]? with
 | none=>rw [hf] at h;cases h
 | some fn=>
   rw [hf] at h
   cases hb : fn.body with
   | none=>simp [hb] at h
   | some c=>
     have hc:=aK2
     rw [List.all_eq_true] at hc
     have:=hc fn (by rw [← Array.getElem?_toList] at hf;exact List.mem_of_getElem? hf)
     rw [hb] at this
     simp only [Bool.and_eq_true,bne_iff_ne,ne_eq] at this
     exact ⟨fn,c,hf,hb,this.2⟩
set_option maxRecDepth 100000 in
theorem aOD {w : World} {Z : Nat→Prop} (h : aAR w Z) : Lib.TabIs Tryz.prog w "internal/strconv.uint64pow10" .u64 Lib.pow10Tab:=by
 obtain ⟨_,ty,fz,h⟩:=h
 unfold Lib.TabIs World.var?
 rw [show Tryz.prog.globalNamed "internal/strconv.uint64pow10" = some aMs by kernel_rfl]
 simp only [Option.bind_some,h]
set_option maxRecDepth 100000 in
theorem aOE : aDd Tryz.prog fun g args=>(bB.prim g).bind fun p=>p args:=by
 intro g args r h
 have h : ((bB.prim g).bind fun p=>p args)=some r:=h
 cases hp : bB.prim g with
 | none=>rw [hp] at h;cases h
 | some p=>
   rw [hp] at h
   have h : p args=some r:=h
   have hm:=aKr (show lk g aHG=some p from hp)
   simp only [aHG,List.mem_cons,List.not_mem_nil,or_false,Prod.mk.injEq] at hm
   obtain ⟨rfl,rfl⟩:=hm
   exact ⟨yI (by kernel_rfl),fun w Z aO hz hl hr=>aJg Tryz.laysM171 h (aOD hz.glob) hl hr⟩
set_option maxRecDepth 100000 in
theorem aPj : (Tryz.prog.info? (Tryz.lays8n4_ren.t 25)).map (fun i=>(i.size,i.bytes,i.zero.map (·.cells.size)))=some (3,32,some 3):=by kernel_rfl
set_option maxRecDepth 100000 in
theorem aNH : ∀ g h,bB.primS g=some h→∀ t args s l,bB.mode g=some t→h args s=some l→iT Tryz.prog g∧∀ (m : aS) (aO : Array Value),fE m s s.base→args.length=aO.size→
 (∀ (i : Nat) d v,args[i]? = some d→aO[i]? = some v→m.rd d v)→Calls Tryz.prog g aO m.w (fun e w'=>∃ v,e = .returned v∧oE m s.boxes.length (if t.keep then s.lists.length else 0) (some (t.fit s)) l v w'):=by
 intro g h hp t args s l ht h
 have hm:=aKr (show lk g aE1=some _ from hp)
 simp only [aE1,List.mem_cons,List.not_mem_nil,or_false,Prod.mk.injEq] at hm
 rcases hm with ⟨rfl,rfl⟩ | ⟨rfl,rfl⟩
 rotate_left
 ·refine ⟨yI (by kernel_rfl),fun m aO hf hl hr=>?_⟩
  have htt : bB.mode 101=some ⟨false,false,.ref 0 [],[],[some ⟨aAn,.int .i64 0⟩],false⟩:=by kernel_rfl
  rw [htt] at ht
  cases ht
  have hb : s.boxes.length=0:=by
   have : ∀ a,jS args s=some a→s.boxes = []:=fun a h=>by
    unfold jS at h
    split at h
    ·assumption
    ·cases h
   rw [this _ h];rfl
  rw [hb]
  exact aKq h hf hl hr (t:=⟨false,false,.ref 0 [],[],[some ⟨aAn,.int .i64 0⟩],false⟩) ⟨rfl,rfl,rfl⟩
 refine ⟨yI (by kernel_rfl),fun m aO hf hl hr=>?_⟩
 have htt : bB.mode 250=some ⟨false,false,.ref 0 [],[],[some ⟨.own 3 32 true [],.int .i64 0⟩],true⟩:=by kernel_rfl
 rw [htt] at ht
 cases ht
 have tg:=aPj
 cases hi : Tryz.prog.info? (Tryz.lays8n4_ren.t 25) with
 | none=>rw [hi] at tg;cases tg
 | some i0=>
   rw [hi] at tg
   simp only [Option.map_some,Option.some.injEq,Prod.mk.injEq] at tg
   cases hz : i0.zero with
   | none=>rw [hz] at tg;cases tg.2.2
   | some z=>
     rw [hz] at tg
     simp only [Option.map_some,Option.some.injEq] at tg
     have hb : s.boxes.length=0:=by
      have : ∀ a,rI 32 args s=some a→s.boxes = []:=fun a h=>by
       unfold rI at h
       split at h
       ·assumption
       ·cases h
      rw [this _ h];rfl
     rw [hb]
     exact aJf Tryz.lays8n4 hi hz (by omega) (by omega) tg.2.1 h hf hl hr (g:=true) (eb:=32) (t:=⟨false,false,.ref 0 [],[],[some ⟨.own 3 32 true [],.int .i64 0⟩],true⟩) ⟨rfl,rfl,by rw [tg.1]⟩
theorem aK5 : ∀ (l : List Nat),(l.map fun t=>(Tryz.prog.info? t).bind (·.zero))=(l.map fun t=>some (zeroVal T t))→∀ t,mem t l=true→(Tryz.prog.info? t).bind (·.zero)=some (zeroVal T t)
 | [],_,t,h=>by simp [mem] at h
 | x::r,h,t,hm=>by
   simp only [List.map_cons,List.cons.injEq] at h
   unfold mem at hm
   split at hm
   ·rename_i hx
    rw [bH hx];exact h.1
   ·exact aK5 r h.2 t hm
theorem hyp : Hyp Tryz.prog T bB where
 tab:=aOn.symm
 zero:=fun t h=>by
  rw [aOn]
  exact aK5 aNx aPe t h
 mixed:=aNE
 code:=fun f fn c hf hc=>by
  have h:=aK2
  rw [List.all_eq_true] at h
  have:=h fn (by rw [← Array.getElem?_toList] at hf;exact List.mem_of_getElem? hf)
  rw [hc] at this
  simp only [Bool.and_eq_true,bne_iff_ne,ne_eq] at this
  exact this
 prim:=aOE
 primS:=aNH
 glob:=fun _=>rfl
 wf:=fun g t h=>by
  obtain ⟨p,hp,rfl⟩:=aMG h
  have:=aPi
  rw [List.all_eq_true] at this
  exact this p hp
end
noncomputable section
open Go Go.IntWalk
def Ok (P : R→Prop) (o : Option R) : Prop:=∃ r,o=some r∧P r
section
variable {P Q : R → Prop}
theorem Ok.eq {r : R} {o : Option R} (h : Ok (fun x=>x=r) o) : o=some r:=by
 obtain ⟨x,h1,rfl⟩:=h
 exact h1
theorem Ok.of {r : R} {o : Option R} (h : o=some r) : Ok (fun x=>x=r) o:=⟨r,h,rfl⟩
theorem Ok.mono {o : Option R} (h : Ok Q o) (hq : ∀ r,Q r→P r) : Ok P o:=by
 obtain ⟨x,h1,h2⟩:=h
 exact ⟨x,h1,hq x h2⟩
theorem aB {r : R} (h : P r) : Ok P (some r):=⟨r,rfl,h⟩
theorem cK {α : Type} {o : Option α} {k : α→Option R} (a : α) (h : o=some a) (hk : Ok P (k a)) : Ok P (bd o k):=by rw [h];exact hk
theorem aG {o : Option R} {k : R→Option R} (h : Ok Q o) (hk : ∀ r,Q r→Ok P (k r)) : Ok P (bd o k):=by
 obtain ⟨r,h1,h2⟩:=h
 rw [h1]
 exact hk r h2
theorem aC {p : Prop} [Decidable p] {x y : Option R} (h1 : p→Ok P x) (h2 : ¬ p→Ok P y) : Ok P (PV.ite (.bool (decide p)) x y):=by
 by_cases h : p
 ·rw [decide_eq_true h];exact h1 h
 ·rw [decide_eq_false h];exact h2 h
theorem aI {p : Prop} [Decidable p] {x y : Option R} (h1 : ¬ p→Ok P x) (h2 : p→Ok P y) : Ok P (PV.ite (.bool (!decide p)) x y):=by
 by_cases h : p
 ·rw [decide_eq_true h];exact h2 h
 ·rw [decide_eq_false h];exact h1 h
theorem bQ {b : Bool} {x y : Option R} (h1 : b=true→Ok P x) (h2 : b=false→Ok P y) : Ok P (PV.ite (.bool b) x y):=by
 cases b
 ·exact h2 rfl
 ·exact h1 rfl
theorem aW {x y : Option R} (h1 : Ok P x) : Ok P (PV.ite (.bool true) x y):=h1
theorem aV {x y : Option R} (h1 : Ok P y) : Ok P (PV.ite (.bool false) x y):=h1
variable {k : PV → Option R} {kk : IntKind} {a b : Int}
theorem gN {op : BinOp} (h1 : op≠.shl) (h2 : op≠.shr) : PV.bin op (.int kk a) (.int kk b)=PV.intBin op kk a b:=by
 cases op<;>simp [PV.bin]<;>first | exact absurd rfl h1 | exact absurd rfl h2
theorem aH (h : Ok P (k (.bool (decide (a<b))))) : Ok P (bd (PV.bin .lss (.int kk a) (.int kk b)) k):=cK _ (by rw [gN (by simp) (by simp)];rfl) h
theorem lB (h : Ok P (k (.bool (decide (a≤b))))) : Ok P (bd (PV.bin .leq (.int kk a) (.int kk b)) k):=cK _ (by rw [gN (by simp) (by simp)];rfl) h
theorem mX (h : Ok P (k (.bool (decide (b<a))))) : Ok P (bd (PV.bin .gtr (.int kk a) (.int kk b)) k):=cK _ (by rw [gN (by simp) (by simp)];rfl) h
theorem oF (h : Ok P (k (.bool (decide (b≤a))))) : Ok P (bd (PV.bin .geq (.int kk a) (.int kk b)) k):=cK _ (by rw [gN (by simp) (by simp)];rfl) h
theorem aF (h : Ok P (k (.bool (decide (a=b))))) : Ok P (bd (PV.bin .eql (.int kk a) (.int kk b)) k):=cK _ (by rw [gN (by simp) (by simp)];rfl) h
theorem aY (h : Ok P (k (.bool (!decide (a=b))))) : Ok P (bd (PV.bin .neq (.int kk a) (.int kk b)) k):=cK _ (by rw [gN (by simp) (by simp)];rfl) h
theorem aM (hr : -9223372036854775808≤a+b∧a+b≤9223372036854775807) (h : Ok P (k (.int .i64 (a+b)))) : Ok P (bd (PV.bin .add (.int .i64 a) (.int .i64 b)) k):=
 cK _ (by rw [gN (by simp) (by simp)];simp only [PV.intBin];rw [i64_in _ hr]) h
theorem bW (hr : -9223372036854775808≤a - b∧a - b≤9223372036854775807) (h : Ok P (k (.int .i64 (a - b)))) : Ok P (bd (PV.bin .sub (.int .i64 a) (.int .i64 b)) k):=
 cK _ (by rw [gN (by simp) (by simp)];simp only [PV.intBin];rw [i64_in _ hr]) h
theorem aMH (hr : -9223372036854775808≤a*b∧a*b≤9223372036854775807) (h : Ok P (k (.int .i64 (a*b)))) : Ok P (bd (PV.bin .mul (.int .i64 a) (.int .i64 b)) k):=
 cK _ (by rw [gN (by simp) (by simp)];simp only [PV.intBin];rw [i64_in _ hr]) h
theorem aMI (h0 : 0≤a) (hb : 0<b) (h : Ok P (k (.int kk (a % b)))) : Ok P (bd (PV.bin .rem (.int kk a) (.int kk b)) k):=
 cK _ (by rw [gN (by simp) (by simp)];simp only [PV.intBin];rw [if_neg (by omega),Int.tmod_eq_emod_of_nonneg h0]) h
theorem aMJ (h0 : 0≤a) (hb : 0<b) (hr : a≤9223372036854775807) (h : Ok P (k (.int .i64 (a / b)))) : Ok P (bd (PV.bin .quo (.int .i64 a) (.int .i64 b)) k):=
 cK _ (by rw [gN (by simp) (by simp)];simp only [PV.intBin];rw [if_neg (by omega),i64_quo _ _ ⟨h0,hr,by omega⟩]) h
theorem aKs (hr : -9223372036854775808≤0 - a∧0 - a≤9223372036854775807) (h : Ok P (k (.int .i64 (0 - a)))) : Ok P (bd (PV.neg (.int .i64 a)) k):=
 cK _ (by simp only [PV.neg];rw [i64_in _ hr]) h
theorem bX {x : Bool} (h : Ok P (k (.bool (!x)))) : Ok P (bd (PV.not (.bool x)) k):=h
theorem vP {x y : Bool} (h : Ok P (k (.bool (x==y)))) : Ok P (bd (PV.beq .eql (.bool x) (.bool y)) k):=h
theorem bS {xs : List PV} (h : Ok P (k (.int .i64 xs.length))) : Ok P (bd (PV.len (.lst xs)) k):=h
theorem mY {s : ByteArray} (h : Ok P (k (.int .i64 s.size))) : Ok P (bd (PV.slen (.str s)) k):=h
theorem aMK (hr : -9223372036854775808≤a∧a≤9223372036854775807) (h : Ok P (k (.int .i64 a))) : Ok P (bd (PV.conv .i64 (.int kk a)) k):=cK _ (by simp only [PV.conv];rw [i64_in _ hr]) h
theorem aOq (hr : 0≤a∧a≤255) (h : Ok P (k (.int .u8 a))) : Ok P (bd (PV.conv .u8 (.int kk a)) k):=cK _ (by simp only [PV.conv];rw [u8_in _ hr]) h
theorem aNI {s : Nat} {g : Bool} {xs : List PV} {i : Int} (h0 : 0≤i) (h1 : i<xs.length) (he : ∀ x∈xs,x.isEl s g=true) : ∃ x,x∈xs∧xs[i.toNat]? = some x∧PV.at_ s g (.lst xs) (.int kk i)=some x:=by
 have hlt : i.toNat<xs.length:=by omega
 refine ⟨xs[i.toNat],List.getElem_mem _,List.getElem?_eq_getElem hlt,?_⟩
 simp only [PV.at_]
 rw [if_pos h0,List.getElem?_eq_getElem hlt]
 simp only
 rw [if_pos (he _ (List.getElem_mem _))]
theorem aML {s : Nat} {g : Bool} {xs : List PV} {i : Int} (h0 : 0≤i) (h1 : i<xs.length) (he : ∀ x∈xs,x.isEl s g=true) (h : ∀ x,x∈xs→xs[i.toNat]? = some x→Ok P (k x)) :
 Ok P (bd (PV.at_ s g (.lst xs) (.int kk i)) k):=by
 obtain ⟨x,h2,h3,h4⟩:=aNI (kk:=kk) h0 h1 he
 exact cK x h4 (h x h2 h3)
theorem vQ {xs : List PV} {i : Int} (h0 : 0≤i) (h1 : i<xs.length) (h : Ok P (k (.lst xs))) : Ok P (bd (PV.inb (.lst xs) (.int kk i)) k):=
 cK _ (by simp only [PV.inb];rw [if_pos ⟨h0,h1⟩]) h
theorem lW {s e : Nat} {g : Bool} {xs ys : List PV} (hb : (xs.length+ys.length)*e≤140737488355328) (he : ∀ x∈ys,x.isEl s g=true) (h : Ok P (k (.lst (xs++ys)))) : Ok P (bd (PV.cat s e g (.lst xs) (.lst ys)) k):=
 cK _ (by
  simp only [PV.cat,PV.elems]
  rw [if_pos ⟨hb,List.all_eq_true.2 he⟩]) h
theorem yJ {s : Nat} {g : Bool} {xs : List PV} {m n : Int} {k1 k2 : IntKind} (h0 : 0≤m) (h1 : m≤n) (h2 : n≤xs.length) (he : ∀ x∈xs,x.isEl s g=true) (h : Ok P (k (.lst ((xs.take n.toNat).drop m.toNat)))) :
 Ok P (bd (PV.cut s g (.lst xs) (.int k1 m) (.int k2 n)) k):=
 cK _ (by
  have hh : PV.headIs s g xs=true:=by
   cases xs with
   | nil=>rfl
   | cons x r=>exact he x List.mem_cons_self
  simp only [PV.cut,hh,if_true,PV.bound]
  rw [if_pos ⟨by omega,h2⟩,Option.bind_some,if_pos ⟨h0,by omega⟩,Option.bind_some]) h
theorem aA3 {s : Nat} {xs cs : List PV} {i : Int} {off : Nat} {v : PV} (h0 : 0≤i) (hx : xs[i.toNat]? = some (.agg cs)) (hc : cs.length=s) (ho : off<s) (hv : v.isEl 1 false=true) (h : Ok P (k (.lst (xs.set i.toNat (.agg (cs.set off v)))))) :
 Ok P (bd (PV.setCell s (.lst xs) (.int kk i) off v) k):=
 cK _ (by
  simp only [PV.setCell]
  rw [if_pos h0,hx]
  simp only
  rw [if_pos ⟨hc,ho,hv⟩]) h
theorem aCe {s : Nat} {g : Bool} {xs : List PV} {i : Int} {v : PV} (h0 : 0≤i) (h1 : i<xs.length) (hv : v.isEl s g=true) (h : Ok P (k (.lst (xs.set i.toNat v)))) :
 Ok P (bd (PV.setAt s g (.lst xs) (.int kk i) v) k):=
 cK _ (by simp only [PV.setAt];rw [if_pos ⟨h0,h1,hv⟩]) h
theorem bA {x : PV} (hx : x.isEl 1 false=true) (h : Ok P (k x)) : Ok P (bd (PV.one x) k):=cK x (by simp only [PV.one];rw [if_pos hx]) h
theorem aA {cs : List PV} {j : Nat} {y : PV} (hy : cs[j]? = some y) (h : Ok P (k y)) : Ok P (bd (PV.cell (.agg cs) j) k):=cK y hy h
theorem aR {cs : List PV} {j : Nat} {y : PV} (hy : cs[j]? = some y) (h : Ok P (k y)) : Ok P (bd (PV.comp (.tup cs) j) k):=cK y hy h
theorem aD {cs : List PV} {n : Nat} (hy : cs.length=n) (h : Ok P (k (.agg cs))) : Ok P (bd (PV.whole n (.agg cs)) k):=cK _ (by simp only [PV.whole];rw [if_pos (by rw [hy];exact Nat.beq_refl n)]) h
theorem cG {r : PV} {o : Option R} (hf : r.flat=true) (h : Ok P o) : Ok P (PV.guardFlat r o):=by
 unfold PV.guardFlat;rw [if_pos hf];exact h
theorem dK {t : OTy} {r : PV} {o : Option R} (hf : PV.flatO t r=true) (h : Ok P o) : Ok P (PV.guardOwn t r o):=by
 unfold PV.guardOwn;rw [if_pos hf];exact h
theorem pC {C : Nat→List PV→Option R} {kr : R→Option R} {f : Nat} {caps args : List PV} {o : Option R} (e : C f (args++caps)=o) (h : Ok Q o) (hk : ∀ r,Q r→Ok P (kr r)) : Ok P (bd (PV.apply C (.fn f caps) args) kr):=by
 refine aG (Q:=Q) ?_ hk
 show Ok Q (C f (args++caps))
 rw [e]
 exact h
theorem lI {cs : List PV} {j : Nat} {y : PV} (hy : cs[j]? = some y) (h : Ok P (k y)) : Ok P (bd (PV.deref (.bx cs) j) k):=cK y hy h
theorem aFI : ∀ l : List Int,(l.map (PV.int .u8)).mapM PV.byteOf=some (l.map fun x=>UInt8.ofNat x.toNat)
 | []=>rfl
 | x::r=>by
   rw [List.map_cons,List.mapM_cons,aFI r]
   rfl
def oT (l : List Int) : PV:=.lst (l.map (PV.int .u8))
theorem aDi {s : ByteArray} (h : Ok P (k (.bool false))) : Ok P (bd (PV.bin .neq (.str s) (.str s)) k):=cK _ (by simp [PV.bin,PV.strBin]) h
theorem aJh {l : List Int} (h : Ok P (k (.str ⟨(l.map fun x=>UInt8.ofNat x.toNat).toArray⟩))) : Ok P (bd (PV.toStr (oT l)) k):=
 cK _ (by
  show PV.toStr (.lst (l.map (PV.int .u8)))=_
  simp only [PV.toStr]
  rw [aFI]
  rfl) h
theorem mZ {s e : Nat} {g : Bool} {ys : List PV} (hb : ys.length*e≤140737488355328) (he : ∀ x∈ys,x.isEl s g=true) (h : Ok P (k (.lst ys))) : Ok P (bd (PV.cat s e g (.lst []) (.lst ys)) k):=
 lW (by simpa using hb) he h
theorem aJi {xs : List PV} (h : Ok P (k (.lst xs))) : Ok P (bd (PV.isLst (.lst xs)) k):=h
theorem aJj {q : IntKind} {n : Int} (h : Ok P (k (.int q n))) : Ok P (bd (PV.isInt (.int q n)) k):=h
theorem aH7 {s : Nat} {g : Bool} {xs : List PV} {i : Int} {x : PV} (h0 : 0≤i) (hx : xs[i.toNat]? = some x) (he : x.isEl s g=true) (h : Ok P (k x)) : Ok P (bd (PV.at_ s g (.lst xs) (.int kk i)) k):=
 cK x (by simp only [PV.at_];rw [if_pos h0,hx];simp only;rw [if_pos he]) h
theorem aK6 {cs : List PV} {i : Int} {n : Nat} {x : PV} (h0 : 0≤i∧i<n∧cs.length=n) (hx : cs[i.toNat]? = some x) (he : x.isEl 1 false=true) (h : Ok P (k x)) : Ok P (bd (PV.ix n (.agg cs) (.int kk i)) k):=
 cK x (by simp only [PV.ix];rw [if_pos h0,hx];simp only;rw [if_pos he]) h
end
theorem aK7 {xs : List PV} {r : R} {x y : Option R} (hx : xs = []→Ok (fun q=>q=r) x) (hy : Ok (fun q=>q=r) y) : Ok (fun q=>q=r) (PV.nilT (.lst xs) x y):=by
 cases xs with
 | nil=>
   have h1:=(hx rfl).eq
   have h2:=hy.eq
   refine ⟨r,?_,rfl⟩
   show @_root_.ite _ (x=y) (Classical.propDecidable _) x none=some r
   rw [h1,h2,if_pos rfl]
 | cons a l=>exact hy
end
noncomputable section
open Go Go.ChangeShapes Go.WideShapes Go.ChangeAt Go.RowKit
def aET (w : World) (a : Option Addr) (len cap : Nat) (zs : List Int) : Prop:=
 (a=none∧len=0∧cap=0∧zs = [])∨
 ∃ x,a=some x∧len≤cap∧cap≤maxLen∧zs.length=cap∧(∀ i,i<zs.length→w.cell? (x.add i)=some (.int .u8 (zs.getD i 0)))∧∀ n∈zs,(Lit.int .u8 n).wf=true
theorem cell_inv {w : World} {a : Addr} {v : Value} (h : w.cell? a=some v) : a.spot=none∧∃ c e fz,w.heap[a.block]? = some (.cells c e fz)∧c[a.off]? = some v:=by
 unfold World.cell? at h
 split at h
 ·rename_i c e fz hc
  split at h
  ·cases h
  ·rename_i hs
   exact ⟨by simpa using hs,c,e,fz,hc,h⟩
 ·cases h
theorem aET.rep {w : World} {a : Option Addr} {len cap : Nat} {zs : List Int} (h : aET w a len cap zs) : eZ w (fun r=>r<w.heap.size) (oT (zs.take len)) (.slice a len cap):=by
 rcases h with ⟨rfl,rfl,rfl,rfl⟩ | ⟨x,rfl,hl,_,hz,hc,_⟩
 ·exact .empty none 0
 ·by_cases h0 : len=0
  ·subst h0;exact .empty _ cap
  ·have hlen : ((zs.take len).map (PV.int .u8)).length=len:=by simp;omega
   obtain ⟨hsp,c,e,fz,hh,hc0⟩:=cell_inv (hc 0 (by omega))
   have hx : x=⟨x.block,x.off,none⟩:=by
    have : x.spot=none:=by
     have h1 : (x.add 0).spot=none:=hsp
     unfold Addr.add at h1
     split at h1<;>simp_all
    cases x;simp_all
   rw [hx] at hc ⊢
   have hb : (x.add 0).block=x.block:=by unfold Addr.add;split<;>rfl
   rw [hb] at hh
   have:=eZ.lst (w:=w) (Z:=fun r=>r<w.heap.size) ((zs.take len).map (PV.int .u8)) x.block x.off 1 cap false c e fz (fun i _=>.int .u8 (zs.getD i 0)) (Array.getElem?_eq_some_iff.1 hh).1 hh (by omega) (by omega)
    (fun i y hy=>by
     rw [List.getElem?_map] at hy
     cases hi : (zs.take len)[i]? with
     | none=>rw [hi] at hy;cases hy
     | some q=>rw [hi] at hy;cases hy;rfl)
    (fun i j hi hj=>by
     have hj0 : j=0:=by omega
     subst hj0
     have h1:=hc i (by omega)
     rw [gK] at h1
     obtain ⟨_,c',e',fz',hh',hc'⟩:=cell_inv h1
     have hh' : w.heap[x.block]? = some (.cells c' e' fz'):=hh'
     rw [hh] at hh'
     cases hh'
     simpa using hc')
    (fun _ _ _ _=>trivial)
    (fun i j y hy hj=>by
     rw [List.getElem?_map] at hy
     cases hi : (zs.take len)[i]? with
     | none=>rw [hi] at hy;cases hy
     | some q=>
       rw [hi] at hy
       cases hy
       have hlt : i<(zs.take len).length:=(List.getElem?_eq_some_iff.1 hi).1
       have : zs.getD i 0=q:=by
        rw [List.getElem?_take] at hi
        split at hi
        ·rw [List.getD,hi];rfl
        ·cases hi
       rw [this]
       exact .int _ _)
   rw [hlen] at this
   exact this
theorem aET.wf {w : World} {a : Option Addr} {len cap : Nat} {zs : List Int} (h : aET w a len cap zs) : ∀ x∈zs.take len,(Lit.int .u8 x).wf=true:=by
 intro x hx
 rcases h with ⟨_,_,_,rfl⟩ | ⟨_,_,_,_,_,_,hw⟩
 ·simp at hx
 ·exact hw x (List.mem_of_mem_take hx)
theorem aKt (n : Nat) (args : List PV) (aO : Array Value) (h : aJ n args=some [.bool true]) {w : World} (gz : aAR w fun r=>r<w.heap.size) (hl : args.length=aO.size) (hr : ∀ (i : Nat) x v,args[i]? = some x→aO[i]? = some v→eZ w (fun r=>r<w.heap.size) x v) :
 Calls Tryz.prog n aO w fun e w'=>e = .returned (.bool true)∧Below w.heap.size w w':=by
 refine (aJd hyp h (Z:=fun r=>r<w.heap.size) ⟨fun _ h=>h,gz⟩ hl hr).mono ?_
 rintro e w' ⟨v,rfl,Z',pe,hrep⟩
 have hrep : eZ w' Z' (.bool true) v:=hrep
 rw [hrep.bool_inv]
 exact ⟨rfl,pe.os,pe.tape,pe.output,pe.size,pe.old⟩
theorem own : ownKnob Tryz.prog.godebug=none:=by kernel_rfl
theorem aH8 : laidOutB Tryz.prog=true:=by kernel_rfl
end
noncomputable section
open Go
def jC (x0 x1 x2 : PV) : Option R:=aJ 4 [x0,x1,x2]
def uA (x0 x1 : PV) : Option R:=aJ 7 [x0,x1]
def uB (x0 x1 : PV) : Option R:=aJ 8 [x0,x1]
def hX (x0 x1 x2 : PV) : Option R:=dA 8 0 0 (bB.mode 8) (todoOf Tryz.prog 8 5) [(0,.p x0),(1,.p x1),(5,.p x2)] ⟨[],[],0,0,0⟩
def kM (x0 x1 : PV) : Option R:=aJ 22 [x0,x1]
def lO (x0 x1 x2 : PV) : Option R:=dA 22 0 0 (bB.mode 22) (todoOf Tryz.prog 22 4) [(0,.p x0),(1,.p x1),(5,.p x2)] ⟨[],[],0,0,0⟩
def oU (x0 x1 : PV) : Option R:=aJ 14 [x0,x1]
def oV (x0 x1 : PV) : Option R:=aJ 15 [x0,x1]
def kN (x0 x1 x2 : PV) : Option R:=dA 15 0 0 (bB.mode 15) (todoOf Tryz.prog 15 4) [(0,.p x0),(1,.p x1),(5,.p x2)] ⟨[],[],0,0,0⟩
def nB (x0 x1 : PV) : Option R:=aJ 24 [x0,x1]
def jF (x0 x1 x2 : PV) : Option R:=dA 24 0 0 (bB.mode 24) (todoOf Tryz.prog 24 2) [(0,.p x0),(1,.p x1),(5,.p x2)] ⟨[],[],0,0,0⟩
def rS (x0 x1 : PV) : Option R:=aJ 38 [x0,x1]
def gO (x0 x1 x2 : PV) : Option R:=dA 38 0 0 (bB.mode 38) (todoOf Tryz.prog 38 5) [(0,.p x0),(1,.p x1),(5,.p x2)] ⟨[],[],0,0,0⟩
def vR (x0 x1 : PV) : Option R:=aJ 39 [x0,x1]
def iU (x0 x1 x2 : PV) : Option R:=dA 39 0 0 (bB.mode 39) (todoOf Tryz.prog 39 5) [(0,.p x0),(1,.p x1),(5,.p x2)] ⟨[],[],0,0,0⟩
def vS (x0 x1 : PV) : Option R:=aJ 40 [x0,x1]
def aEe (x0 x1 : PV) : Option R:=aJ 62 [x0,x1]
def rT (x0 x1 : PV) : Option R:=aJ 33 [x0,x1]
def jG (x0 x1 x2 : PV) : Option R:=dA 33 0 0 (bB.mode 33) (todoOf Tryz.prog 33 4) [(0,.p x0),(1,.p x1),(5,.p x2)] ⟨[],[],0,0,0⟩
def vT (x0 x1 : PV) : Option R:=aJ 52 [x0,x1]
def lP (x0 x1 x2 : PV) : Option R:=dA 52 0 0 (bB.mode 52) (todoOf Tryz.prog 52 4) [(0,.p x0),(1,.p x1),(5,.p x2)] ⟨[],[],0,0,0⟩
def vU (x0 x1 : PV) : Option R:=aJ 51 [x0,x1]
def yK (x0 x1 : PV) : Option R:=aJ 80 [x0,x1]
def yL (x0 x1 : PV) : Option R:=aJ 91 [x0,x1]
def yM (x0 x1 : PV) : Option R:=aJ 128 [x0,x1]
def yN (x0 x1 : PV) : Option R:=aJ 145 [x0,x1]
def nC (x0 x1 x2 : PV) : Option R:=dA 145 0 0 (bB.mode 145) (todoOf Tryz.prog 145 4) [(0,.p x0),(1,.p x1),(5,.p x2)] ⟨[],[],0,0,0⟩
def aA4 (x0 x1 : PV) : Option R:=aJ 206 [x0,x1]
def fS (x0 : PV) : Option R:=cA 10 [.p x0] ⟨[],[],0,0,0⟩
def gX (x0 : PV) : Option R:=cA 11 [.p x0] ⟨[],[],0,0,0⟩
def kO (x0 x1 x2 : PV) : Option R:=dA 11 0 0 (bB.mode 11) (todoOf Tryz.prog 11 3) [(0,.p x0),(3,.ref 0 []),(4,.p x1)] ⟨[],[(0,some ⟨(.own 3 32 true []),x2⟩)],0,0,1⟩
def vV (x0 : PV) : Option R:=aJ 46 [x0]
def nD (x0 x1 x2 : PV) : Option R:=cA 20 [.p x0,.p x1,.p x2] ⟨[],[],0,0,0⟩
def jH (x0 x1 x2 x3 x4 x5 x6 x7 x8 x9 x10 x11 x12 x13 x14 : PV) : Option R:=dA 20 0 0 (bB.mode 20) (todoOf Tryz.prog 20 6) [(2,.p x0),(3,.ptr 0 0),(7,.ref 0 []),(8,.ptr 1 0),(10,.p x1)] ⟨[(0,some [.p x2,.p x3]),(1,some [.ref 1 [],.ref 2 [],.p x4,.ref 3 [],.p x5,.p x6,.p x7,.p x8,.p x9,.p x10])],[(0,some ⟨(.own 4 32 true []),x11⟩),(1,some ⟨(.own 4 64 true [.leaf,.leaf,(.own 3 32 true []),(.own 3 32 true [])]),x12⟩),(2,some ⟨(.own 1 24 true [(.own 3 32 true [])]),x13⟩),(3,some ⟨(.own 1 16 false []),x14⟩)],0,0,6⟩
def aP (x0 x1 x2 : PV) : Option R:=aJ 42 [x0,x1,x2]
def jV (x0 x1 x2 : PV) : Option R:=cA 21 [.p x0,.p x1,.p x2] ⟨[],[],0,0,0⟩
def pV (x0 x1 x2 : PV) : Option R:=cA 16 [.agg [.ref 0 [],.ref 1 []],.p x0] ⟨[],[(0,some ⟨(.own 1 16 false []),x1⟩),(1,some ⟨(.own 3 40 true [.leaf,.leaf,(.own 2 16 true [])]),x2⟩)],0,0,2⟩
def pW (x0 x1 : PV) : Option R:=cA 17 [.ref 0 [],.p x0] ⟨[],[(0,some ⟨(.own 3 32 true []),x1⟩)],0,0,1⟩
def iM (x0 x1 x2 : PV) : Option R:=dA 17 0 1 ((bB.mode 17).map (Tmpl.fitK · [some (.own 3 32 true [])])) (todoOf Tryz.prog 17 2) [(0,.ref 0 []),(1,.p x0),(5,.p x1)] ⟨[],[(0,some ⟨(.own 3 32 true []),x2⟩)],0,0,1⟩
def oW (x0 : PV) : Option R:=aJ 54 [x0]
def kP (x0 x1 : PV) : Option R:=dA 54 0 0 (bB.mode 54) (todoOf Tryz.prog 54 4) [(0,.p x0),(3,.p x1)] ⟨[],[],0,0,0⟩
def rU (x0 x1 : PV) : Option R:=cA 23 [.ref 0 [],.p x0] ⟨[],[(0,some ⟨(.own 4 32 true []),x1⟩)],0,0,1⟩
def jI (x0 x1 x2 : PV) : Option R:=dA 23 0 1 ((bB.mode 23).map (Tmpl.fitK · [some (.own 4 32 true [])])) (todoOf Tryz.prog 23 2) [(0,.ref 0 []),(1,.p x0),(5,.p x1)] ⟨[],[(0,some ⟨(.own 4 32 true []),x2⟩)],0,0,1⟩
def rV (x0 : PV) : Option R:=cA 44 [.p x0] ⟨[],[],0,0,0⟩
def jJ (x0 x1 x2 : PV) : Option R:=dA 44 0 0 (bB.mode 44) (todoOf Tryz.prog 44 3) [(0,.p x0),(3,.ref 0 []),(4,.p x1)] ⟨[],[(0,some ⟨(.own 1 16 false []),x2⟩)],0,0,1⟩
def vW (x0 : PV) : Option R:=cA 45 [.p x0] ⟨[],[],0,0,0⟩
def iV (x0 x1 x2 : PV) : Option R:=dA 45 0 0 (bB.mode 45) (todoOf Tryz.prog 45 3) [(0,.p x0),(3,.ref 0 []),(4,.p x1)] ⟨[],[(0,some ⟨(.own 3 40 true [.leaf,.leaf,(.own 2 16 true [])]),x2⟩)],0,0,1⟩
def aA5 (x0 x1 : PV) : Option R:=cA 41 [.p x0,.p x1] ⟨[],[],0,0,0⟩
def lJ (x0 x1 x2 x3 x4 x5 x6 x7 x8 x9 x10 x11 x12 x13 : PV) : Option R:=dA 41 0 0 (bB.mode 41) (todoOf Tryz.prog 41 4) [(1,.p x0),(2,.ptr 0 0),(4,.ptr 1 0),(6,.p x1)] ⟨[(0,some [.p x2,.p x3]),(1,some [.ref 0 [],.ref 1 [],.p x4,.ref 2 [],.p x5,.p x6,.p x7,.p x8,.p x9,.p x10])],[(0,some ⟨(.own 4 64 true [.leaf,.leaf,(.own 3 32 true []),(.own 3 32 true [])]),x11⟩),(1,some ⟨(.own 1 24 true [(.own 3 32 true [])]),x12⟩),(2,some ⟨(.own 1 16 false []),x13⟩)],0,0,5⟩
def jW (x0 x1 x2 x3 x4 x5 x6 x7 x8 x9 x10 x11 x12 x13 x14 x15 : PV) : Option R:=dA 41 0 0 (bB.mode 41) (todoOf Tryz.prog 41 10) [(1,.p x0),(4,.ptr 0 0),(7,.ptr 1 0),(8,.p x1)] ⟨[(0,some [.ref 0 [],.ref 1 [],.p x2,.ref 2 [],.p x3,.p x4,.p x5,.p x6,.p x7,.p x8]),(1,some [.p x9,.p x10,.ref 3 [],.ref 4 []])],[(0,some ⟨(.own 4 64 true [.leaf,.leaf,(.own 3 32 true []),(.own 3 32 true [])]),x11⟩),(1,some ⟨(.own 1 24 true [(.own 3 32 true [])]),x12⟩),(2,some ⟨(.own 1 16 false []),x13⟩),(3,some ⟨(.own 3 32 true []),x14⟩),(4,some ⟨(.own 3 32 true []),x15⟩)],0,0,7⟩
def vX (x0 : PV) : Option R:=aJ 81 [x0]
def aA6 (x0 x1 x2 : PV) : Option R:=aJ 82 [x0,x1,x2]
def yO (x0 : PV) : Option R:=aJ 129 [x0]
def jX (x0 x1 x2 x3 x4 x5 : PV) : Option R:=dA 129 0 0 (bB.mode 129) (todoOf Tryz.prog 129 4) [(1,.ptr 0 0),(2,.ptr 1 0),(3,.p x0)] ⟨[(0,some [.p x1,.p x2]),(1,some [.p x3,.p x4,.p x5])],[],0,0,2⟩
def hY (x0 x1 x2 x3 x4 x5 x6 x7 x8 : PV) : Option R:=dA 129 0 0 (bB.mode 129) (todoOf Tryz.prog 129 9) [(1,.ptr 0 0),(2,.ptr 1 0),(3,.p x0),(4,.p x1),(5,.p x2),(6,.p x3)] ⟨[(0,some [.p x4,.p x5]),(1,some [.p x6,.p x7,.p x8])],[],0,0,2⟩
def iW (x0 x1 x2 x3 x4 x5 x6 x7 x8 x9 x10 x11 : PV) : Option R:=dA 129 0 0 (bB.mode 129) (todoOf Tryz.prog 129 18) [(1,.ptr 0 0),(2,.ptr 1 0),(3,.p x0),(4,.p x1),(5,.p x2),(6,.p x3),(9,.p x4),(10,.p x5),(11,.p x6)] ⟨[(0,some [.p x7,.p x8]),(1,some [.p x9,.p x10,.p x11])],[],0,0,2⟩
def gH (x0 x1 x2 x3 x4 x5 x6 x7 x8 x9 x10 x11 : PV) : Option R:=dA 129 0 0 (bB.mode 129) (todoOf Tryz.prog 129 23) [(1,.ptr 0 0),(2,.ptr 1 0),(3,.p x0),(4,.p x1),(5,.p x2),(6,.p x3),(9,.p x4),(10,.p x5),(12,.p x6)] ⟨[(0,some [.p x7,.p x8]),(1,some [.p x9,.p x10,.p x11])],[],0,0,2⟩
def fT (x0 : PV) : Option R:=aJ 130 [x0]
def nE (x0 : PV) : Option R:=aJ 131 [x0]
def lQ (x0 x1 : PV) : Option R:=dA 131 0 0 (bB.mode 131) (todoOf Tryz.prog 131 4) [(0,.p x0),(3,.p x1)] ⟨[],[],0,0,0⟩
def uC (x0 : PV) : Option R:=aJ 193 [x0]
def kQ (x0 x1 x2 : PV) : Option R:=dA 193 0 0 (bB.mode 193) (todoOf Tryz.prog 193 4) [(1,.ptr 0 0),(3,.p x0)] ⟨[(0,some [.p x1,.p x2])],[],0,0,1⟩
def iA (x0 x1 x2 : PV) : Option R:=dA 193 0 0 (bB.mode 193) (todoOf Tryz.prog 193 9) [(1,.ptr 0 0),(4,.p x0)] ⟨[(0,some [.p x1,.p x2])],[],0,0,1⟩
def jK (x0 x1 x2 x3 x4 x5 x6 : PV) : Option R:=dA 193 0 0 (bB.mode 193) (todoOf Tryz.prog 193 15) [(1,.ptr 0 0),(4,.p x0),(5,.ptr 1 0),(6,.p x1)] ⟨[(0,some [.p x2,.p x3]),(1,some [.p x4,.p x5,.p x6])],[],0,0,2⟩
def rW (x0 x1 : PV) : Option R:=aJ 194 [x0,x1]
def jL (x0 x1 x2 x3 x4 : PV) : Option R:=dA 194 0 0 (bB.mode 194) (todoOf Tryz.prog 194 4) [(2,.ptr 0 0),(5,.p x0),(6,.ref 0 []),(7,.p x1)] ⟨[(0,some [.p x2,.p x3])],[(0,some ⟨(.own 1 8 false []),x4⟩)],0,0,2⟩
def gP (x0 x1 x2 x3 x4 : PV) : Option R:=dA 194 0 0 (bB.mode 194) (todoOf Tryz.prog 194 9) [(2,.ptr 0 0),(5,.p x0),(6,.ref 0 []),(8,.p x1)] ⟨[(0,some [.p x2,.p x3])],[(0,some ⟨(.own 1 8 false []),x4⟩)],0,0,2⟩
def dN (x0 x1 x2 x3 x4 x5 : PV) : Option R:=dA 194 0 0 (bB.mode 194) (todoOf Tryz.prog 194 12) [(2,.ptr 0 0),(5,.p x0),(6,.ref 0 []),(8,.p x1),(9,.p x2)] ⟨[(0,some [.p x3,.p x4])],[(0,some ⟨(.own 1 8 false []),x5⟩)],0,0,2⟩
def eG (x0 x1 x2 x3 x4 x5 x6 x7 x8 : PV) : Option R:=dA 194 0 0 (bB.mode 194) (todoOf Tryz.prog 194 19) [(2,.ptr 0 0),(5,.p x0),(6,.ref 0 []),(8,.p x1),(9,.p x2),(12,.p x3),(13,.p x4),(14,.p x5)] ⟨[(0,some [.p x6,.p x7])],[(0,some ⟨(.own 1 8 false []),x8⟩)],0,0,2⟩
def rX (x0 x1 x2 x3 x4 x5 x6 x7 : PV) : Option R:=dA 194 0 0 (bB.mode 194) (todoOf Tryz.prog 194 22) [(2,.ptr 0 0),(5,.p x0),(6,.ref 0 []),(9,.p x1),(12,.p x2),(13,.p x3),(14,.p x4)] ⟨[(0,some [.p x5,.p x6])],[(0,some ⟨(.own 1 8 false []),x7⟩)],0,0,2⟩
def tC (x0 x1 : PV) : Option R:=aJ 195 [x0,x1]
def qP (x0 x1 : PV) : Option R:=aJ 196 [x0,x1]
def xB (x0 x1 x2 x3 : PV) : Option R:=dA 196 0 0 (bB.mode 196) (todoOf Tryz.prog 196 3) [(1,.p x0),(2,.ptr 0 0),(5,.ref 0 [])] ⟨[(0,some [.p x1,.p x2])],[(0,some ⟨(.own 1 8 false []),x3⟩)],0,0,2⟩
def lR (x0 x1 x2 : PV) : Option R:=dA 196 0 0 (bB.mode 196) (todoOf Tryz.prog 196 4) [(2,.ptr 0 0),(5,.ref 0 [])] ⟨[(0,some [.p x0,.p x1])],[(0,some ⟨(.own 1 8 false []),x2⟩)],0,0,2⟩
def lS (x0 x1 x2 : PV) : Option R:=dA 196 0 0 (bB.mode 196) (todoOf Tryz.prog 196 5) [(2,.ptr 0 0),(5,.ref 0 [])] ⟨[(0,some [.p x0,.p x1])],[(0,some ⟨(.own 1 8 false []),x2⟩)],0,0,2⟩
def aA7 (x0 x1 x2 : PV) : Option R:=aJ 247 [x0,x1,x2]
def pX (x0 x1 x2 : PV) : Option R:=cA 59 [.p x0,.p x1,.p x2] ⟨[],[],0,0,0⟩
def yP (x0 x1 : PV) : Option R:=aJ 94 [x0,x1]
def yQ (x0 x1 x2 : PV) : Option R:=aJ 95 [x0,x1,x2]
def jY (x0 x1 x2 x3 x4 x5 x6 x7 : PV) : Option R:=dA 95 0 0 (bB.mode 95) (todoOf Tryz.prog 95 2) [(0,.p x0),(1,.p x1),(2,.p x2),(6,.ptr 0 0),(7,.p x3)] ⟨[(0,some [.p x4,.p x5,.p x6,.p x7])],[],0,0,1⟩
def aA8 (x0 : PV) : Option R:=aJ 146 [x0]
def vY (x0 x1 : PV) : Option R:=cA 43 [.p x0,.p x1] ⟨[],[],0,0,0⟩
def aJk (x0 x1 x2 x3 x4 x5 x6 : PV) : Option R:=cA 47 [.agg [.p x0,.p x1],.p x2,.p x3,.fn 60 [.ptr 0 0,.ptr 1 0]] ⟨[(0,some [.p x4,.p x5]),(1,some [.ref 0 []])],[(0,some ⟨(.own 4 32 true []),x6⟩)],0,0,3⟩
def tD (x0 x1 x2 x3 x4 x5 x6 x7 x8 x9 x10 x11 x12 x13 x14 x15 x16 x17 x18 x19 x20 x21 x22 x23 x24 x25 x26 : PV) : Option R:=dA 47 2 0 (bB.mode 47) (todoOf Tryz.prog 47 5) [(3,.fn 60 [.ptr 0 0,.ptr 1 0]),(4,.ptr 2 0),(8,.ptr 3 0),(10,.ptr 4 0),(26,.p x0),(27,.p x1)] ⟨[(0,some [.p x2,.p x3]),(1,some [.ref 0 []]),(2,some [.p x4,.p x5]),(3,some [.ref 1 [],.ref 2 [],.p x6,.ref 3 [],.p x7,.p x8,.p x9,.p x10,.p x11,.p x12]),(4,some [.ref 4 [],.ref 5 [],.p x13,.ref 6 [],.p x14,.p x15,.p x16,.p x17,.p x18,.p x19])],[(0,some ⟨(.own 4 32 true []),x20⟩),(1,some ⟨(.own 4 64 true [.leaf,.leaf,(.own 3 32 true []),(.own 3 32 true [])]),x21⟩),(2,some ⟨(.own 1 24 true [(.own 3 32 true [])]),x22⟩),(3,some ⟨(.own 1 16 false []),x23⟩),(4,some ⟨(.own 4 64 true [.leaf,.leaf,(.own 3 32 true []),(.own 3 32 true [])]),x24⟩),(5,some ⟨(.own 1 24 true [(.own 3 32 true [])]),x25⟩),(6,some ⟨(.own 1 16 false []),x26⟩)],0,0,12⟩
def cB (x0 x1 x2 : PV) : Option R:=aJ 88 [x0,x1,x2]
def oG (x0 x1 : PV) : Option R:=cA 36 [.ref 0 [],.p x0] ⟨[],[(0,some ⟨(.own 1 16 false []),x1⟩)],0,0,1⟩
def gZ (x0 x1 x2 : PV) : Option R:=dA 36 0 1 ((bB.mode 36).map (Tmpl.fitK · [some (.own 1 16 false [])])) (todoOf Tryz.prog 36 2) [(0,.ref 0 []),(1,.p x0),(5,.p x1)] ⟨[],[(0,some ⟨(.own 1 16 false []),x2⟩)],0,0,1⟩
def rY (x0 x1 : PV) : Option R:=cA 53 [.ref 0 [],.p x0] ⟨[],[(0,some ⟨(.own 3 40 true [.leaf,.leaf,(.own 2 16 true [])]),x1⟩)],0,0,1⟩
def jM (x0 x1 x2 : PV) : Option R:=dA 53 0 1 ((bB.mode 53).map (Tmpl.fitK · [some (.own 3 40 true [.leaf,.leaf,(.own 2 16 true [])])])) (todoOf Tryz.prog 53 2) [(0,.ref 0 []),(1,.p x0),(5,.p x1)] ⟨[],[(0,some ⟨(.own 3 40 true [.leaf,.leaf,(.own 2 16 true [])]),x2⟩)],0,0,1⟩
def yR (x0 : PV) : Option R:=cA 86 [.p x0] ⟨[],[],0,0,0⟩
def pD (x0 x1 x2 : PV) : Option R:=cA 96 [.p x0,.p x1,.p x2] ⟨[],[],0,0,0⟩
def dZ (x0 x1 x2 x3 x4 x5 x6 x7 x8 x9 : PV) : Option R:=dA 96 0 0 (bB.mode 96) (todoOf Tryz.prog 96 4) [(1,.p x0),(3,.ptr 0 0),(5,.ptr 1 0),(7,.ref 0 []),(8,.p x1),(9,.p x2)] ⟨[(0,some [.p x3,.p x4]),(1,some [.p x5,.p x6,.p x7,.p x8])],[(0,some ⟨(.own 4 32 true []),x9⟩)],0,0,3⟩
def rZ (x0 x1 x2 x3 x4 x5 x6 x7 x8 : PV) : Option R:=dA 96 0 0 (bB.mode 96) (todoOf Tryz.prog 96 7) [(1,.p x0),(3,.ptr 0 0),(5,.ptr 1 0),(7,.ref 0 []),(9,.p x1)] ⟨[(0,some [.p x2,.p x3]),(1,some [.p x4,.p x5,.p x6,.p x7])],[(0,some ⟨(.own 4 32 true []),x8⟩)],0,0,3⟩
def nF (x0 x1 x2 x3 x4 x5 x6 x7 x8 x9 : PV) : Option R:=dA 96 0 0 (bB.mode 96) (todoOf Tryz.prog 96 9) [(1,.p x0),(3,.ptr 0 0),(5,.ptr 1 0),(7,.ref 0 []),(8,.p x1),(9,.p x2)] ⟨[(0,some [.p x3,.p x4]),(1,some [.p x5,.p x6,.p x7,.p x8])],[(0,some ⟨(.own 4 32 true []),x9⟩)],0,0,3⟩
def xC (x0 x1 x2 x3 x4 x5 x6 x7 x8 : PV) : Option R:=dA 96 0 0 (bB.mode 96) (todoOf Tryz.prog 96 10) [(1,.p x0),(3,.ptr 0 0),(5,.ptr 1 0),(7,.ref 0 []),(9,.p x1)] ⟨[(0,some [.p x2,.p x3]),(1,some [.p x4,.p x5,.p x6,.p x7])],[(0,some ⟨(.own 4 32 true []),x8⟩)],0,0,3⟩
def vZ (x0 x1 x2 : PV) : Option R:=aJ 147 [x0,x1,x2]
def wA (x0 x1 : PV) : Option R:=aJ 148 [x0,x1]
def iN (x0 : PV) : Option R:=cA 83 [.p x0] ⟨[],[],0,0,0⟩
def lT (x0 x1 x2 x3 x4 x5 x6 x7 x8 x9 x10 x11 x12 x13 x14 x15 x16 x17 x18 x19 x20 x21 : PV) : Option R:=dA 83 0 0 (bB.mode 83) (todoOf Tryz.prog 83 3) [(1,.ptr 0 0),(2,.ptr 1 0),(3,.ref 3 []),(4,.p x0)] ⟨[(0,some [.p x1,.p x2,.p x3,.p x4,.p x5,.p x6,.p x7,.p x8,.p x9,.p x10]),(1,some [.ref 0 [],.ref 1 [],.p x11,.ref 2 [],.p x12,.p x13,.p x14,.p x15,.p x16,.p x17])],[(0,some ⟨(.own 4 64 true [.leaf,.leaf,(.own 3 32 true []),(.own 3 32 true [])]),x18⟩),(1,some ⟨(.own 1 24 true [(.own 3 32 true [])]),x19⟩),(2,some ⟨(.own 1 16 false []),x20⟩),(3,some ⟨(.own 4 64 true [.leaf,.leaf,(.own 3 32 true []),(.own 3 32 true [])]),x21⟩)],0,0,6⟩
def dX (x0 x1 x2 x3 x4 x5 x6 x7 x8 x9 x10 x11 x12 : PV) : Option R:=cA 84 [.ptr 0 0] ⟨[(0,some [.p x0,.p x1,.ref 0 [],.ref 1 [],.p x2,.ref 2 [],.p x3,.p x4,.p x5,.p x6,.p x7,.p x8,.p x9])],[(0,some ⟨(.own 4 64 true [.leaf,.leaf,(.own 3 32 true []),(.own 3 32 true [])]),x10⟩),(1,some ⟨(.own 1 24 true [(.own 3 32 true [])]),x11⟩),(2,some ⟨(.own 1 16 false []),x12⟩)],0,0,4⟩
def sA (x0 x1 x2 x3 x4 x5 x6 x7 x8 x9 x10 x11 x12 x13 x14 : PV) : Option R:=cA 85 [.ptr 0 0,.agg [.p x0,.p x1]] ⟨[(0,some [.p x2,.p x3,.ref 0 [],.ref 1 [],.p x4,.ref 2 [],.p x5,.p x6,.p x7,.p x8,.p x9,.p x10,.p x11])],[(0,some ⟨(.own 4 64 true [.leaf,.leaf,(.own 3 32 true []),(.own 3 32 true [])]),x12⟩),(1,some ⟨(.own 1 24 true [(.own 3 32 true [])]),x13⟩),(2,some ⟨(.own 1 16 false []),x14⟩)],0,0,4⟩
def pE (x0 : PV) : Option R:=aJ 135 [x0]
def fP (x0 : PV) : Option R:=aJ 136 [x0]
def lX (x0 x1 x2 : PV) : Option R:=aJ 138 [x0,x1,x2]
def aA9 (x0 : PV) : Option R:=aJ 139 [x0]
def sB (x0 x1 : PV) : Option R:=aJ 141 [x0,x1]
def aBa (x0 x1 : PV) : Option R:=aJ 197 [x0,x1]
def aAF (x0 x1 x2 x3 x4 x5 x6 x7 x8 : PV) : Option R:=dA 197 0 0 (bB.mode 197) (todoOf Tryz.prog 197 2) [(2,.ptr 0 0),(3,.ptr 1 0),(4,.ptr 2 0)] ⟨[(0,some [.p x0,.p x1,.p x2]),(1,some [.p x3,.p x4,.p x5]),(2,some [.p x6,.p x7,.p x8])],[],0,0,3⟩
def aBb (x0 x1 : PV) : Option R:=aJ 198 [x0,x1]
def aBc (x0 x1 : PV) : Option R:=aJ 199 [x0,x1]
def yS (x0 x1 : PV) : Option R:=aJ 200 [x0,x1]
def yT (x0 x1 x2 x3 x4 x5 x6 x7 x8 : PV) : Option R:=dA 200 0 0 (bB.mode 200) (todoOf Tryz.prog 200 2) [(2,.ptr 0 0),(3,.ptr 1 0),(4,.ptr 2 0)] ⟨[(0,some [.p x0,.p x1,.p x2]),(1,some [.p x3,.p x4,.p x5]),(2,some [.p x6,.p x7,.p x8])],[],0,0,3⟩
def nG (x0 x1 x2 x3 x4 x5 x6 x7 x8 : PV) : Option R:=dA 200 0 0 (bB.mode 200) (todoOf Tryz.prog 200 3) [(2,.ptr 0 0),(3,.ptr 1 0),(4,.ptr 2 0)] ⟨[(0,some [.p x0,.p x1,.p x2]),(1,some [.p x3,.p x4,.p x5]),(2,some [.p x6,.p x7,.p x8])],[],0,0,3⟩
def yU (x0 x1 x2 x3 x4 x5 x6 x7 x8 : PV) : Option R:=dA 200 0 0 (bB.mode 200) (todoOf Tryz.prog 200 4) [(2,.ptr 0 0),(3,.ptr 1 0),(4,.ptr 2 0)] ⟨[(0,some [.p x0,.p x1,.p x2]),(1,some [.p x3,.p x4,.p x5]),(2,some [.p x6,.p x7,.p x8])],[],0,0,3⟩
def yV (x0 x1 : PV) : Option R:=aJ 201 [x0,x1]
def eA (x0 : PV) : Option R:=aJ 183 [x0]
def gI (x0 x1 x2 : PV) : Option R:=aJ 248 [x0,x1,x2]
def uD (x0 x1 x2 : PV) : Option R:=aJ 280 [x0,x1,x2]
def aBd (x0 x1 : PV) : Option R:=cA 87 [.p x0,.p x1] ⟨[],[],0,0,0⟩
def yW (x0 : PV) : Option R:=aJ 107 [x0]
def yX (x0 x1 : PV) : Option R:=aJ 143 [x0,x1]
def yY (x0 : PV) : Option R:=aJ 157 [x0]
def jZ (x0 x1 x2 x3 x4 x5 x6 : PV) : Option R:=dA 157 0 0 (bB.mode 157) (todoOf Tryz.prog 157 4) [(1,.ptr 0 0),(2,.ptr 1 0),(16,.p x0),(17,.p x1)] ⟨[(0,some [.p x2,.p x3]),(1,some [.p x4,.p x5,.p x6])],[],0,0,2⟩
def kA (x0 x1 x2 x3 x4 x5 x6 x7 x8 x9 x10 x11 : PV) : Option R:=dA 157 0 0 (bB.mode 157) (todoOf Tryz.prog 157 8) [(1,.ptr 0 0),(2,.ptr 1 0),(3,.p x0),(4,.ptr 2 0),(16,.p x1),(17,.p x2),(28,.p x3),(29,.p x4),(30,.p x5)] ⟨[(0,some [.p x6,.p x7]),(1,some [.p x8,.p x9,.p x10]),(2,some [.p x11])],[],0,0,3⟩
def eT (x0 x1 : PV) : Option R:=aJ 203 [x0,x1]
def aAG (x0 x1 : PV) : Option R:=aJ 204 [x0,x1]
def uE (x0 : PV) : Option R:=aJ 209 [x0]
def kR (x0 x1 x2 x3 x4 : PV) : Option R:=dA 209 0 0 (bB.mode 209) (todoOf Tryz.prog 209 4) [(1,.ptr 0 0),(22,.p x0),(23,.p x1),(24,.p x2)] ⟨[(0,some [.p x3,.p x4])],[],0,0,1⟩
def yZ (x0 x1 : PV) : Option R:=aJ 166 [x0,x1]
def kB (x0 x1 x2 x3 x4 : PV) : Option R:=dA 166 0 0 (bB.mode 166) (todoOf Tryz.prog 166 5) [(2,.ptr 0 0),(5,.p x0),(6,.ref 0 []),(7,.p x1)] ⟨[(0,some [.p x2,.p x3])],[(0,some ⟨(.own 1 8 false []),x4⟩)],0,0,2⟩
def fZ (x0 x1 x2 x3 x4 x5 x6 x7 : PV) : Option R:=dA 166 0 0 (bB.mode 166) (todoOf Tryz.prog 166 8) [(2,.ptr 0 0),(5,.p x0),(6,.ref 0 []),(7,.p x1),(27,.p x2),(28,.p x3),(29,.p x4)] ⟨[(0,some [.p x5,.p x6])],[(0,some ⟨(.own 1 8 false []),x7⟩)],0,0,2⟩
def eU (x0 x1 x2 x3 x4 x5 x6 x7 x8 x9 x10 x11 x12 : PV) : Option R:=dA 166 0 0 (bB.mode 166) (todoOf Tryz.prog 166 13) [(2,.ptr 0 0),(5,.p x0),(6,.ref 0 []),(7,.p x1),(10,.p x2),(11,.p x3),(27,.p x4),(28,.p x5),(29,.p x6),(51,.p x7),(52,.p x8),(53,.p x9)] ⟨[(0,some [.p x10,.p x11])],[(0,some ⟨(.own 1 8 false []),x12⟩)],0,0,2⟩
def xD (x0 x1 x2 x3 x4 x5 x6 x7 x8 x9 x10 x11 x12 : PV) : Option R:=dA 166 0 0 (bB.mode 166) (todoOf Tryz.prog 166 16) [(2,.ptr 0 0),(5,.p x0),(6,.ref 0 []),(10,.p x1),(11,.p x2),(13,.p x3),(27,.p x4),(28,.p x5),(29,.p x6),(51,.p x7),(52,.p x8),(53,.p x9)] ⟨[(0,some [.p x10,.p x11])],[(0,some ⟨(.own 1 8 false []),x12⟩)],0,0,2⟩
def tE (x0 x1 x2 : PV) : Option R:=aJ 210 [x0,x1,x2]
def qQ (x0 x1 : PV) : Option R:=aJ 211 [x0,x1]
def iB (x0 x1 : PV) : Option R:=aJ 212 [x0,x1]
def fQ (x0 x1 : PV) : Option R:=aJ 213 [x0,x1]
def aAH (x0 x1 x2 : PV) : Option R:=aJ 214 [x0,x1,x2]
def fB (x0 x1 : PV) : Option R:=aJ 249 [x0,x1]
def bM (x0 x1 x2 x3 : PV) : Option R:=dA 249 0 0 (bB.mode 249) (todoOf Tryz.prog 249 2) [(0,.p x0),(1,.p x1),(7,.p x2),(8,.p x3)] ⟨[],[],0,0,0⟩
def wC (x0 x1 x2 : PV) : Option R:=aJ 164 [x0,x1,x2]
def eL (x0 x1 : PV) : Option R:=aJ 159 [x0,x1]
def xE (x0 : PV) : Option R:=aJ 252 [x0]
def dU (x0 x1 : PV) : Option R:=aJ 253 [x0,x1]
def xF (x0 x1 x2 : PV) : Option R:=aJ 254 [x0,x1,x2]
def tF (x0 x1 : PV) : Option R:=aJ 168 [x0,x1]
def lU (x0 x1 x2 x3 : PV) : Option R:=dA 168 0 0 (bB.mode 168) (todoOf Tryz.prog 168 24) [(2,.ptr 0 0),(3,.ptr 1 0)] ⟨[(0,some [.p x0,.p x1]),(1,some [.p x2,.p x3])],[],0,0,2⟩
def xG (x0 x1 x2 x3 : PV) : Option R:=dA 168 0 0 (bB.mode 168) (todoOf Tryz.prog 168 25) [(2,.ptr 0 0),(3,.ptr 1 0)] ⟨[(0,some [.p x0,.p x1]),(1,some [.p x2,.p x3])],[],0,0,2⟩
def kC (x0 x1 : PV) : Option R:=aJ 256 [x0,x1]
def fH (x0 x1 x2 x3 : PV) : Option R:=dA 256 0 0 (bB.mode 256) (todoOf Tryz.prog 256 2) [(0,.p x0),(1,.p x1),(7,.p x2),(8,.p x3)] ⟨[],[],0,0,0⟩
def lK (x0 x1 : PV) : Option R:=aJ 257 [x0,x1]
def eK (x0 x1 x2 x3 : PV) : Option R:=dA 257 0 0 (bB.mode 257) (todoOf Tryz.prog 257 2) [(0,.p x0),(1,.p x1),(7,.p x2),(8,.p x3)] ⟨[],[],0,0,0⟩
def kD (x0 : PV) : Option R:=aJ 218 [x0]
def pF (x0 : PV) : Option R:=aJ 161 [x0]
def nH (x0 x1 x2 : PV) : Option R:=dA 161 0 0 (bB.mode 161) (todoOf Tryz.prog 161 2) [(0,.p x0),(5,.p x1),(6,.p x2)] ⟨[],[],0,0,0⟩
def cP (x0 x1 : PV) : Option R:=aJ 75 [x0,x1]
def iC (x0 x1 : PV) : Option R:=aJ 217 [x0,x1]
def dC (x0 x1 x2 x3 : PV) : Option R:=dA 217 0 0 (bB.mode 217) (todoOf Tryz.prog 217 2) [(0,.p x0),(1,.p x1),(7,.p x2),(8,.p x3)] ⟨[],[],0,0,0⟩
def gA (x0 x1 : PV) : Option R:=aJ 281 [x0,x1]
def cJ (x0 x1 x2 x3 : PV) : Option R:=dA 281 0 0 (bB.mode 281) (todoOf Tryz.prog 281 2) [(0,.p x0),(1,.p x1),(7,.p x2),(8,.p x3)] ⟨[],[],0,0,0⟩
def aBe (x0 x1 x2 : PV) : Option R:=aJ 255 [x0,x1,x2]
def oX (x0 : PV) : Option R:=cA 69 [.p x0] ⟨[],[],0,0,0⟩
def uW (x0 x1 x2 x3 x4 x5 x6 x7 x8 x9 x10 x11 x12 : PV) : Option R:=cA 60 [.ptr 0 0,.ptr 1 0,.ptr 2 0] ⟨[(0,some [.ref 0 [],.ref 1 [],.p x0,.ref 2 [],.p x1,.p x2,.p x3,.p x4,.p x5,.p x6]),(1,some [.p x7,.p x8]),(2,some [.ref 3 []])],[(0,some ⟨(.own 4 64 true [.leaf,.leaf,(.own 3 32 true []),(.own 3 32 true [])]),x9⟩),(1,some ⟨(.own 1 24 true [(.own 3 32 true [])]),x10⟩),(2,some ⟨(.own 1 16 false []),x11⟩),(3,some ⟨(.own 4 32 true []),x12⟩)],0,0,7⟩
def wD (x0 x1 x2 x3 x4 x5 x6 x7 x8 x9 x10 x11 : PV) : Option R:=cA 70 [.ptr 0 0,.agg [.p x0,.p x1]] ⟨[(0,some [.ref 0 [],.ref 1 [],.p x2,.ref 2 [],.p x3,.p x4,.p x5,.p x6,.p x7,.p x8])],[(0,some ⟨(.own 4 64 true [.leaf,.leaf,(.own 3 32 true []),(.own 3 32 true [])]),x9⟩),(1,some ⟨(.own 1 24 true [(.own 3 32 true [])]),x10⟩),(2,some ⟨(.own 1 16 false []),x11⟩)],0,0,4⟩
def uF (x0 x1 x2 : PV) : Option R:=cA 92 [.ref 0 [(x0,2)],.p x1] ⟨[],[(0,some ⟨(.own 3 40 true [.leaf,.leaf,(.own 2 16 true [])]),x2⟩)],0,0,1⟩
def kS (x0 x1 x2 x3 : PV) : Option R:=dA 92 0 1 ((bB.mode 92).map (Tmpl.fitK · [some (.own 3 40 true [.leaf,.leaf,(.own 2 16 true [])])])) (todoOf Tryz.prog 92 2) [(0,.ref 0 [(x0,2)]),(1,.p x1),(5,.p x2)] ⟨[],[(0,some ⟨(.own 3 40 true [.leaf,.leaf,(.own 2 16 true [])]),x3⟩)],0,0,1⟩
def zA (x0 : PV) : Option R:=cA 142 [.p x0] ⟨[],[],0,0,0⟩
def nI (x0 x1 x2 : PV) : Option R:=dA 142 0 0 (bB.mode 142) (todoOf Tryz.prog 142 3) [(0,.p x0),(3,.ref 0 []),(4,.p x1)] ⟨[],[(0,some ⟨(.own 2 16 true []),x2⟩)],0,0,1⟩
def aBf (x0 : PV) : Option R:=aJ 202 [x0]
def nJ (x0 : PV) : Option R:=cA 132 [.p x0] ⟨[],[],0,0,0⟩
def oH (x0 : PV) : Option R:=cA 133 [.p x0] ⟨[],[],0,0,0⟩
def hH (x0 x1 x2 : PV) : Option R:=dA 133 0 0 (bB.mode 133) (todoOf Tryz.prog 133 3) [(0,.p x0),(3,.ref 0 []),(4,.p x1)] ⟨[],[(0,some ⟨(.own 1 24 true [(.own 3 32 true [])]),x2⟩)],0,0,1⟩
def fW (x0 x1 x2 x3 x4 x5 x6 x7 x8 x9 x10 x11 x12 x13 : PV) : Option R:=cA 134 [.ptr 0 0,.p x0] ⟨[(0,some [.p x1,.p x2,.ref 0 [],.ref 1 [],.p x3,.ref 2 [],.p x4,.p x5,.p x6,.p x7,.p x8,.p x9,.p x10])],[(0,some ⟨(.own 4 64 true [.leaf,.leaf,(.own 3 32 true []),(.own 3 32 true [])]),x11⟩),(1,some ⟨(.own 1 24 true [(.own 3 32 true [])]),x12⟩),(2,some ⟨(.own 1 16 false []),x13⟩)],0,0,4⟩
def bC (x0 x1 x2 x3 x4 x5 x6 x7 x8 x9 x10 x11 x12 x13 x14 x15 : PV) : Option R:=cA 134 [.ptr 0 0,.agg [.p x0,.p x1,.p x2]] ⟨[(0,some [.p x3,.p x4,.ref 0 [],.ref 1 [],.p x5,.ref 2 [],.p x6,.p x7,.p x8,.p x9,.p x10,.p x11,.p x12])],[(0,some ⟨(.own 4 64 true [.leaf,.leaf,(.own 3 32 true []),(.own 3 32 true [])]),x13⟩),(1,some ⟨(.own 1 24 true [(.own 3 32 true [])]),x14⟩),(2,some ⟨(.own 1 16 false []),x15⟩)],0,0,4⟩
def aU (x0 x1 x2 x3 x4 x5 x6 x7 x8 x9 x10 x11 x12 : PV) : Option R:=cA 137 [.ptr 0 0] ⟨[(0,some [.p x0,.p x1,.ref 0 [],.ref 1 [],.p x2,.ref 2 [],.p x3,.p x4,.p x5,.p x6,.p x7,.p x8,.p x9])],[(0,some ⟨(.own 4 64 true [.leaf,.leaf,(.own 3 32 true []),(.own 3 32 true [])]),x10⟩),(1,some ⟨(.own 1 24 true [(.own 3 32 true [])]),x11⟩),(2,some ⟨(.own 1 16 false []),x12⟩)],0,0,4⟩
def kT (x0 x1 x2 x3 x4 x5 x6 x7 x8 x9 x10 x11 x12 x13 x14 : PV) : Option R:=cA 140 [.ptr 0 0,.p x0,.p x1] ⟨[(0,some [.p x2,.p x3,.ref 0 [],.ref 1 [],.p x4,.ref 2 [],.p x5,.p x6,.p x7,.p x8,.p x9,.p x10,.p x11])],[(0,some ⟨(.own 4 64 true [.leaf,.leaf,(.own 3 32 true []),(.own 3 32 true [])]),x12⟩),(1,some ⟨(.own 1 24 true [(.own 3 32 true [])]),x13⟩),(2,some ⟨(.own 1 16 false []),x14⟩)],0,0,4⟩
def hJ (x0 x1 x2 x3 x4 x5 x6 x7 x8 x9 x10 x11 x12 x13 x14 x15 x16 : PV) : Option R:=dA 140 1 0 (bB.mode 140) (todoOf Tryz.prog 140 5) [(0,.ptr 0 0),(1,.p x0),(2,.p x1),(7,.ref 3 []),(8,.p x2)] ⟨[(0,some [.p x3,.p x4,.ref 0 [],.ref 1 [],.p x5,.ref 2 [],.p x6,.p x7,.p x8,.p x9,.p x10,.p x11,.p x12])],[(0,some ⟨(.own 4 64 true [.leaf,.leaf,(.own 3 32 true []),(.own 3 32 true [])]),x13⟩),(1,some ⟨(.own 1 24 true [(.own 3 32 true [])]),x14⟩),(2,some ⟨(.own 1 16 false []),x15⟩),(3,some ⟨(.own 3 32 true []),x16⟩)],0,0,5⟩
def gQ (x0 x1 x2 x3 x4 x5 x6 x7 x8 x9 x10 x11 x12 x13 x14 : PV) : Option R:=dA 140 1 0 (bB.mode 140) (todoOf Tryz.prog 140 10) [(0,.ptr 0 0),(1,.p x0),(7,.ref 3 [])] ⟨[(0,some [.p x1,.p x2,.ref 0 [],.ref 1 [],.p x3,.ref 2 [],.p x4,.p x5,.p x6,.p x7,.p x8,.p x9,.p x10])],[(0,some ⟨(.own 4 64 true [.leaf,.leaf,(.own 3 32 true []),(.own 3 32 true [])]),x11⟩),(1,some ⟨(.own 1 24 true [(.own 3 32 true [])]),x12⟩),(2,some ⟨(.own 1 16 false []),x13⟩),(3,some ⟨(.own 3 32 true []),x14⟩)],0,0,5⟩
def qR (x0 x1 x2 : PV) : Option R:=cA 144 [.p x0,.p x1,.p x2] ⟨[],[],0,0,0⟩
def jD (x0 x1 : PV) : Option R:=cA 219 [.p x0,.p x1] ⟨[],[],0,0,0⟩
def lL (x0 x1 : PV) : Option R:=dA 219 0 0 (bB.mode 219) (todoOf Tryz.prog 219 3) [(0,.p x0),(1,.p x1)] ⟨[],[],0,0,0⟩
def lM (x0 x1 : PV) : Option R:=dA 219 0 0 (bB.mode 219) (todoOf Tryz.prog 219 6) [(0,.p x0),(6,.p x1)] ⟨[],[],0,0,0⟩
def fA (x0 x1 : PV) : Option R:=dA 219 0 0 (bB.mode 219) (todoOf Tryz.prog 219 8) [(7,.ref 0 []),(8,.p x0)] ⟨[],[(0,some ⟨(.own 1 8 false []),x1⟩)],0,0,1⟩
def aAI (x0 x1 : PV) : Option R:=aJ 259 [x0,x1]
def xH (x0 x1 : PV) : Option R:=aJ 283 [x0,x1]
def pY (x0 : PV) : Option R:=cA 110 [.p x0] ⟨[],[],0,0,0⟩
def iO (x0 x1 x2 x3 : PV) : Option R:=dA 110 0 0 (bB.mode 110) (todoOf Tryz.prog 110 3) [(3,.ref 0 []),(7,.p x0),(8,.p x1),(9,.p x2)] ⟨[],[(0,some ⟨(.own 4 64 true [.leaf,.leaf,(.own 3 32 true []),(.own 3 32 true [])]),x3⟩)],0,0,1⟩
def uG (x0 : PV) : Option R:=cA 111 [.p x0] ⟨[],[],0,0,0⟩
def kU (x0 x1 x2 x3 : PV) : Option R:=dA 111 0 0 (bB.mode 111) (todoOf Tryz.prog 111 3) [(3,.ref 0 []),(7,.p x0),(8,.p x1),(9,.p x2)] ⟨[],[(0,some ⟨(.own 1 24 true [(.own 3 32 true [])]),x3⟩)],0,0,1⟩
def gB (x0 : PV) : Option R:=cA 112 [.p x0] ⟨[],[],0,0,0⟩
def uH (x0 x1 x2 x3 x4 x5 x6 x7 x8 x9 x10 x11 x12 : PV) : Option R:=cA 61 [.agg [.p x0,.p x1],.ref 0 [],.ptr 0 0] ⟨[(0,some [.ref 1 [],.ref 2 [],.p x2,.ref 3 [],.p x3,.p x4,.p x5,.p x6,.p x7,.p x8])],[(0,some ⟨(.own 4 32 true []),x9⟩),(1,some ⟨(.own 4 64 true [.leaf,.leaf,(.own 3 32 true []),(.own 3 32 true [])]),x10⟩),(2,some ⟨(.own 1 24 true [(.own 3 32 true [])]),x11⟩),(3,some ⟨(.own 1 16 false []),x12⟩)],0,0,5⟩
def aBg (x0 x1 : PV) : Option R:=aJ 97 [x0,x1]
def dE (x0 x1 x2 : PV) : Option R:=aJ 98 [x0,x1,x2]
def aX (x0 x1 x2 x3 x4 x5 x6 x7 x8 : PV) : Option R:=dA 98 0 0 (bB.mode 98) (todoOf Tryz.prog 98 3) [(0,.p x0),(2,.p x1),(4,.ptr 0 0),(8,.p x2),(9,.p x3),(10,.p x4)] ⟨[(0,some [.p x5,.p x6,.p x7,.p x8])],[],0,0,1⟩
def gR (x0 x1 : PV) : Option R:=aJ 99 [x0,x1]
def uI (x0 x1 x2 : PV) : Option R:=aJ 100 [x0,x1,x2]
def wE (x0 : PV) : Option R:=aJ 149 [x0]
def mE (x0 x1 x2 : PV) : Option R:=aJ 150 [x0,x1,x2]
def lV (x0 x1 : PV) : Option R:=aJ 152 [x0,x1]
def aBh (x0 : PV) : Option R:=aJ 151 [x0]
def uJ (x0 x1 x2 x3 : PV) : Option R:=dA 151 0 0 (bB.mode 151) (todoOf Tryz.prog 151 3) [(3,.p x0),(6,.p x1),(7,.p x2),(8,.p x3)] ⟨[],[],0,0,0⟩
def oY (x0 : PV) : Option R:=aJ 207 [x0]
def aBi (x0 x1 x2 x3 x4 x5 x6 x7 x8 x9 x10 x11 : PV) : Option R:=cA 113 [.ptr 0 0,.agg [.p x0,.p x1]] ⟨[(0,some [.ref 0 [],.ref 1 [],.p x2,.ref 2 [],.p x3,.p x4,.p x5,.p x6,.p x7,.p x8])],[(0,some ⟨(.own 4 64 true [.leaf,.leaf,(.own 3 32 true []),(.own 3 32 true [])]),x9⟩),(1,some ⟨(.own 1 24 true [(.own 3 32 true [])]),x10⟩),(2,some ⟨(.own 1 16 false []),x11⟩)],0,0,4⟩
def iD (x0 x1 x2 x3 x4 x5 x6 x7 x8 x9 x10 x11 x12 x13 x14 x15 x16 : PV) : Option R:=dA 113 1 0 (bB.mode 113) (todoOf Tryz.prog 113 74) [(0,.ptr 0 0),(3,.ptr 1 0),(5,.eptr 0 [] x0 0),(9,.p x1),(10,.ref 3 []),(12,.p x2),(21,.p x3)] ⟨[(0,some [.ref 0 [],.ref 1 [],.p x4,.ref 2 [],.p x5,.p x6,.p x7,.p x8,.p x9,.p x10]),(1,some [.p x11,.p x12])],[(0,some ⟨(.own 4 64 true [.leaf,.leaf,(.own 3 32 true []),(.own 3 32 true [])]),x13⟩),(1,some ⟨(.own 1 24 true [(.own 3 32 true [])]),x14⟩),(2,some ⟨(.own 1 16 false []),x15⟩),(3,some ⟨(.own 3 32 true []),x16⟩)],0,0,6⟩
def wF (x0 : PV) : Option R:=aJ 169 [x0]
def kE (x0 : PV) : Option R:=aJ 170 [x0]
def gJ (x0 : PV) : Option R:=aJ 171 [x0]
def zB (x0 x1 : PV) : Option R:=aJ 172 [x0,x1]
def aBj (x0 : PV) : Option R:=aJ 173 [x0]
def sC (x0 x1 : PV) : Option R:=aJ 177 [x0,x1]
def aBk (x0 x1 : PV) : Option R:=aJ 220 [x0,x1]
def aBl (x0 x1 : PV) : Option R:=aJ 221 [x0,x1]
def aBm (x0 x1 : PV) : Option R:=aJ 222 [x0,x1]
def zC (x0 x1 : PV) : Option R:=aJ 223 [x0,x1]
def strconv_Itoa (x0 : PV) : Option R:=aJ 224 [x0]
def lY (x0 : PV) : Option R:=aJ 225 [x0]
def nK (x0 x1 x2 : PV) : Option R:=aJ 260 [x0,x1,x2]
def wG (x0 x1 : PV) : Option R:=aJ 261 [x0,x1]
def wH (x0 x1 : PV) : Option R:=aJ 262 [x0,x1]
def wI (x0 x1 : PV) : Option R:=aJ 263 [x0,x1]
def pZ (x0 x1 : PV) : Option R:=aJ 264 [x0,x1]
def jN (x0 : PV) : Option R:=aJ 266 [x0]
def kV (x0 : PV) : Option R:=aJ 284 [x0]
def aAf (x0 : PV) : Option R:=cA 174 [.p x0] ⟨[],[],0,0,0⟩
def eB (x0 : PV) : Option R:=cA 205 [.p x0] ⟨[],[],0,0,0⟩
def bI (x0 x1 x2 x3 x4 : PV) : Option R:=dA 205 0 0 (bB.mode 205) (todoOf Tryz.prog 205 3) [(0,.p x0),(3,.p x1),(9,.p x2),(10,.p x3),(11,.p x4)] ⟨[],[],0,0,0⟩
def bG (x0 x1 x2 x3 : PV) : Option R:=dA 205 0 0 (bB.mode 205) (todoOf Tryz.prog 205 11) [(6,.ref 0 []),(25,.p x0),(26,.p x1),(27,.p x2)] ⟨[],[(0,some ⟨(.own 3 32 true []),x3⟩)],0,0,1⟩
def bP (x0 : PV) : Option R:=cA 167 [.p x0] ⟨[],[],0,0,0⟩
def eM (x0 x1 x2 : PV) : Option R:=cA 101 [.ref 0 [],.p x0,.ref 1 []] ⟨[],[(0,some ⟨(.own 4 32 true []),x1⟩),(1,some ⟨(.own 4 32 true []),x2⟩)],0,0,2⟩
def oZ (x0 x1 x2 x3 x4 x5 x6 x7 x8 x9 x10 x11 : PV) : Option R:=cA 175 [.ptr 0 0,.p x0,.p x1] ⟨[(0,some [.ref 0 [],.ref 1 [],.p x2,.ref 2 [],.p x3,.p x4,.p x5,.p x6,.p x7,.p x8])],[(0,some ⟨(.own 4 64 true [.leaf,.leaf,(.own 3 32 true []),(.own 3 32 true [])]),x9⟩),(1,some ⟨(.own 1 24 true [(.own 3 32 true [])]),x10⟩),(2,some ⟨(.own 1 16 false []),x11⟩)],0,0,4⟩
def sD (x0 x1 x2 x3 x4 x5 x6 x7 x8 x9 x10 : PV) : Option R:=cA 176 [.ptr 0 0,.p x0] ⟨[(0,some [.ref 0 [],.ref 1 [],.p x1,.ref 2 [],.p x2,.p x3,.p x4,.p x5,.p x6,.p x7])],[(0,some ⟨(.own 4 64 true [.leaf,.leaf,(.own 3 32 true []),(.own 3 32 true [])]),x8⟩),(1,some ⟨(.own 1 24 true [(.own 3 32 true [])]),x9⟩),(2,some ⟨(.own 1 16 false []),x10⟩)],0,0,4⟩
def eN (x0 : PV) : Option R:=cA 250 [.nils,.p x0] ⟨[],[],0,0,0⟩
theorem uK (x0 x1 x2 : PV) : jC x0 x1 x2=bd (PV.whole 2 x0) fun v0=>bd (PV.cell v0 0) fun v1=>bd (PV.cell v0 1) fun v2=>bd (uA (.agg [v1,v2]) (.int .i64 1048576)) fun r3=>bd (PV.bin .lss (hd r3) (.int .i64 0)) fun v4=>PV.ite v4 (some [.bool true]) (bd (uB x1 (hd r3)) fun r5=>bd (PV.bin .lss (hd r5) (.int .i64 0)) fun v6=>
 PV.ite v6 (some [.bool true]) (bd (fS (.agg [v1,v2])) fun r7=>PV.guardOwn (.own 1 16 false []) (gd r7 0) (PV.guardOwn (.own 3 40 true [.leaf,.leaf,(.own 2 16 true [])]) (gd r7 1) (bd (gX x1) fun r8=>PV.guardOwn (.own 3 32 true []) (gd r8 0) (bd (nD (.agg [(gd r7 0),(gd r7 1)]) (gd r8 0) x2) fun r9=>PV.guardOwn (.own 4 32 true []) (gd r9 0) (bd (fS (.agg [v1,v2])) fun r10=>
 PV.guardOwn (.own 1 16 false []) (gd r10 0) (PV.guardOwn (.own 3 40 true [.leaf,.leaf,(.own 2 16 true [])]) (gd r10 1) (bd (gX x1) fun r11=>PV.guardOwn (.own 3 32 true []) (gd r11 0) (bd (jV (.agg [(gd r10 0),(gd r10 1)]) (gd r11 0) x2) fun r12=>PV.guardOwn (.own 4 32 true []) (gd r12 0) (bd (kM (gd r12 0) (gd r9 0)) fun r13=>PV.guardFlat (hd r13) (bd (PV.not (hd r13)) fun v14=>
 PV.ite v14 (some [.bool false]) (bd (fS (.agg [v1,v2])) fun r15=>PV.guardOwn (.own 1 16 false []) (gd r15 0) (PV.guardOwn (.own 3 40 true [.leaf,.leaf,(.own 2 16 true [])]) (gd r15 1) (bd (oU (.agg [(gd r10 0),(gd r10 1)]) (.agg [(gd r15 0),(gd r15 1)])) fun r16=>PV.guardFlat (hd r16) (bd (PV.not (hd r16)) fun v17=>PV.ite v17 (some [.bool false]) (bd (gX x1) fun r18=>
 PV.guardOwn (.own 3 32 true []) (gd r18 0) (bd (oV (gd r11 0) (gd r18 0)) fun r19=>PV.guardFlat (hd r19) (bd (PV.not (hd r19)) fun v20=>PV.ite v20 (some [.bool false]) (bd (pV (.int .i64 1) (gd r10 0) (gd r10 1)) fun r21=>bd (pW (gd r21 0) (gd r11 0)) fun r22=>bd (PV.bin .lss (gd r22 0) (.int .i64 0)) fun v23=>PV.ite v23 (some [.bool false]) (bd (kM (gd r12 0) (gd r9 0)) fun r24=>
 PV.guardFlat (hd r24) (bd (PV.not (hd r24)) fun v25=>PV.ite v25 (some [.bool false]) (bd (rU (.int .i64 1) (gd r12 0)) fun r26=>bd (nB (gd r26 1) (.int .i64 1)) fun r27=>PV.guardFlat (hd r27) (bd (PV.bin .lss (hd r27) (.int .i64 0)) fun v28=>PV.ite v28 (some [.bool false]) (bd (PV.bin .neq (hd r27) (gd r26 0)) fun v29=>PV.ite v29 (some [.bool false]) (bd (fS (.agg [v1,v2])) fun r30=>
 PV.guardOwn (.own 1 16 false []) (gd r30 0) (PV.guardOwn (.own 3 40 true [.leaf,.leaf,(.own 2 16 true [])]) (gd r30 1) (bd (gX x1) fun r31=>PV.guardOwn (.own 3 32 true []) (gd r31 0) (bd (jV (.agg [(gd r30 0),(gd r30 1)]) (gd r31 0) x2) fun r32=>PV.guardOwn (.own 4 32 true []) (gd r32 0) (bd (kM (gd r32 0) (gd r9 0)) fun r33=>PV.guardFlat (hd r33) (bd (PV.not (hd r33)) fun v34=>
 PV.ite v34 (some [.bool false]) (bd (nB (gd r26 1) (.int .i64 1)) fun r35=>PV.guardFlat (hd r35) (bd (PV.bin .lss (hd r35) (.int .i64 0)) fun v36=>PV.ite v36 (some [.bool false]) (bd (PV.bin .neq (hd r35) (gd r26 0)) fun v37=>PV.ite v37 (some [.bool false]) (some [.bool true])))))))))))))))))))))))))))))))))):=aK _ _ _ (by kernel_rfl)
theorem aDj (x0 x1 : PV) : uA x0 x1=bd (PV.whole 2 x0) fun v0=>bd (PV.cell v0 0) fun v1=>bd (PV.cell v0 1) fun v2=>bd (rS v1 x1) fun r3=>bd (PV.bin .lss (hd r3) (.int .i64 0)) fun v4=>PV.ite v4 (some [(.int .i64 (-1))]) (bd (vR v2 (hd r3)) fun r5=>bd (PV.bin .lss (hd r5) (.int .i64 0)) fun v6=>PV.ite v6 (some [(.int .i64 (-1))]) (some [(hd r5)])):=aK _ _ _ (by kernel_rfl)
theorem aDk (x0 x1 : PV) : uB x0 x1=bd (PV.len x0) fun v0=>bd (PV.bin .sub x1 v0) fun v1=>bd (PV.bin .lss v1 (.int .i64 0)) fun v2=>PV.ite v2 (some [(.int .i64 (-1))]) (hX x0 v1 (.int .i64 0)):=aK _ _ _ (by kernel_rfl)
theorem qF (x0 x1 x2 : PV) : hX x0 x1 x2=bd (PV.len x0) fun v0=>bd (PV.bin .lss x2 v0) fun v1=>PV.ite v1 (bd (PV.at_ 3 true x0 x2) fun v2=>bd (vS v2 x1) fun r3=>bd (PV.bin .lss (hd r3) (.int .i64 0)) fun v4=>PV.ite v4 (some [(.int .i64 (-1))]) (bd (PV.bin .add x2 (.int .i64 1)) fun v5=>hX x0 (hd r3) v5)) (some [x1]):=aZ _ _ _ _ _ _ _ _ (by kernel_rfl)
theorem aEm (x0 x1 : PV) : kM x0 x1=bd (PV.len x0) fun v0=>bd (PV.len x1) fun v1=>bd (PV.bin .neq v0 v1) fun v2=>PV.ite v2 (some [.bool false]) (lO x0 x1 (.int .i64 0)):=aK _ _ _ (by kernel_rfl)
theorem sE (x0 x1 x2 : PV) : lO x0 x1 x2=bd (PV.len x0) fun v0=>bd (PV.bin .lss x2 v0) fun v1=>PV.ite v1 (bd (PV.at_ 4 true x0 x2) fun v2=>bd (PV.at_ 4 true x1 x2) fun v3=>bd (aEe v2 v3) fun r4=>bd (PV.not (hd r4)) fun v5=>PV.ite v5 (some [.bool false]) (bd (PV.bin .add x2 (.int .i64 1)) fun v6=>lO x0 x1 v6)) (some [.bool true]):=aZ _ _ _ _ _ _ _ _ (by kernel_rfl)
theorem aDl (x0 x1 : PV) : oU x0 x1=bd (PV.whole 2 x0) fun v0=>bd (PV.cell v0 0) fun v1=>bd (PV.cell v0 1) fun v2=>bd (PV.whole 2 x1) fun v3=>bd (PV.cell v3 0) fun v4=>bd (PV.cell v3 1) fun v5=>bd (rT v1 v4) fun r6=>bd (PV.not (hd r6)) fun v7=>PV.ite v7 (some [.bool false]) (bd (vT v2 v5) fun r8=>bd (PV.not (hd r8)) fun v9=>PV.ite v9
 (some [.bool false]) (some [.bool true])):=aK _ _ _ (by kernel_rfl)
theorem aDm (x0 x1 : PV) : oV x0 x1=bd (PV.len x0) fun v0=>bd (PV.len x1) fun v1=>bd (PV.bin .neq v0 v1) fun v2=>PV.ite v2 (some [.bool false]) (kN x0 x1 (.int .i64 0)):=aK _ _ _ (by kernel_rfl)
theorem qG (x0 x1 x2 : PV) : kN x0 x1 x2=bd (PV.len x0) fun v0=>bd (PV.bin .lss x2 v0) fun v1=>PV.ite v1 (bd (PV.at_ 3 true x0 x2) fun v2=>bd (PV.at_ 3 true x1 x2) fun v3=>bd (vU v2 v3) fun r4=>bd (PV.not (hd r4)) fun v5=>PV.ite v5 (some [.bool false]) (bd (PV.bin .add x2 (.int .i64 1)) fun v6=>kN x0 x1 v6)) (some [.bool true]):=aZ _ _ _ _ _ _ _ _ (by kernel_rfl)
theorem aCf (x0 x1 : PV) : nB x0 x1=jF x0 x1 (.int .i64 0):=aK _ _ _ (by kernel_rfl)
theorem pG (x0 x1 x2 : PV) : jF x0 x1 x2=bd (PV.len x0) fun v0=>bd (PV.bin .lss x2 v0) fun v1=>PV.ite v1 (bd (PV.at_ 4 true x0 x2) fun v2=>bd (PV.cell v2 0) fun v3=>bd (PV.bin .neq v3 x1) fun v4=>PV.ite v4 (some [(.int .i64 (-1))]) (bd (PV.bin .add x1 (.int .i64 1)) fun v5=>bd (PV.at_ 4 true x0 x2) fun v6=>bd (PV.cell v6 1) fun v7=>bd (PV.bin .neq v7 v5) fun v8=>
 PV.ite v8 (some [(.int .i64 (-1))]) (bd (PV.bin .add v5 (.int .i64 1)) fun v9=>bd (PV.at_ 4 true x0 x2) fun v10=>bd (PV.cell v10 2) fun v11=>bd (PV.bin .neq v11 v9) fun v12=>PV.ite v12 (some [(.int .i64 (-1))]) (bd (PV.bin .add v9 (.int .i64 1)) fun v13=>bd (PV.at_ 4 true x0 x2) fun v14=>bd (PV.cell v14 3) fun v15=>bd (PV.bin .neq v15 v13) fun v16=>PV.ite v16 (some [(.int .i64 (-1))])
 (bd (PV.bin .add v13 (.int .i64 1)) fun v17=>bd (PV.bin .add x2 (.int .i64 1)) fun v18=>jF x0 v17 v18))))) (some [x1]):=aZ _ _ _ _ _ _ _ _ (by kernel_rfl)
theorem aCg (x0 x1 : PV) : rS x0 x1=bd (PV.len x0) fun v0=>bd (PV.bin .sub x1 v0) fun v1=>bd (PV.bin .lss v1 (.int .i64 0)) fun v2=>PV.ite v2 (some [(.int .i64 (-1))]) (gO x0 v1 (.int .i64 0)):=aK _ _ _ (by kernel_rfl)
theorem pH (x0 x1 x2 : PV) : gO x0 x1 x2=bd (PV.len x0) fun v0=>bd (PV.bin .lss x2 v0) fun v1=>PV.ite v1 (bd (PV.at_ 1 false x0 x2) fun v2=>bd (PV.slen v2) fun v3=>bd (PV.bin .sub x1 v3) fun v4=>bd (PV.bin .lss v4 (.int .i64 0)) fun v5=>PV.ite v5 (some [(.int .i64 (-1))]) (bd (PV.bin .add x2 (.int .i64 1)) fun v6=>gO x0 v4 v6)) (some [x1]):=aZ _ _ _ _ _ _ _ _ (by kernel_rfl)
theorem aEn (x0 x1 : PV) : vR x0 x1=bd (PV.len x0) fun v0=>bd (PV.bin .sub x1 v0) fun v1=>bd (PV.bin .lss v1 (.int .i64 0)) fun v2=>PV.ite v2 (some [(.int .i64 (-1))]) (iU x0 v1 (.int .i64 0)):=aK _ _ _ (by kernel_rfl)
theorem sF (x0 x1 x2 : PV) : iU x0 x1 x2=bd (PV.len x0) fun v0=>bd (PV.bin .lss x2 v0) fun v1=>PV.ite v1 (bd (PV.at_ 3 true x0 x2) fun v2=>bd (yK v2 x1) fun r3=>bd (PV.bin .lss (hd r3) (.int .i64 0)) fun v4=>PV.ite v4 (some [(.int .i64 (-1))]) (bd (PV.bin .add x2 (.int .i64 1)) fun v5=>iU x0 (hd r3) v5)) (some [x1]):=aZ _ _ _ _ _ _ _ _ (by kernel_rfl)
theorem aEo (x0 x1 : PV) : vS x0 x1=bd (PV.whole 3 x0) fun v0=>bd (PV.cell v0 0) fun v1=>bd (PV.cell v0 1) fun v2=>bd (PV.cell v0 2) fun v3=>bd (PV.slen v3) fun v4=>bd (PV.bin .sub x1 v4) fun v5=>bd (PV.bin .lss v5 (.int .i64 0)) fun v6=>PV.ite v6 (some [(.int .i64 (-1))]) (some [v5]):=aK _ _ _ (by kernel_rfl)
theorem aFJ (x0 x1 : PV) : aEe x0 x1=bd (PV.whole 4 x0) fun v0=>bd (PV.cell v0 0) fun v1=>bd (PV.cell v0 1) fun v2=>bd (PV.cell v0 2) fun v3=>bd (PV.cell v0 3) fun v4=>bd (PV.whole 4 x1) fun v5=>bd (PV.cell v5 0) fun v6=>bd (PV.cell v5 1) fun v7=>bd (PV.cell v5 2) fun v8=>bd (PV.cell v5 3) fun v9=>bd (PV.bin .neq v1 v6) fun v10=>PV.ite v10 (some [.bool false])
 (bd (PV.bin .neq v2 v7) fun v11=>PV.ite v11 (some [.bool false]) (bd (PV.bin .neq v3 v8) fun v12=>PV.ite v12 (some [.bool false]) (bd (PV.bin .neq v4 v9) fun v13=>PV.ite v13 (some [.bool false]) (some [.bool true])))):=aK _ _ _ (by kernel_rfl)
theorem aCh (x0 x1 : PV) : rT x0 x1=bd (PV.len x0) fun v0=>bd (PV.len x1) fun v1=>bd (PV.bin .neq v0 v1) fun v2=>PV.ite v2 (some [.bool false]) (jG x0 x1 (.int .i64 0)):=aK _ _ _ (by kernel_rfl)
theorem pI (x0 x1 x2 : PV) : jG x0 x1 x2=bd (PV.len x0) fun v0=>bd (PV.bin .lss x2 v0) fun v1=>PV.ite v1 (bd (PV.at_ 1 false x0 x2) fun v2=>bd (PV.at_ 1 false x1 x2) fun v3=>bd (PV.bin .neq v2 v3) fun v4=>PV.ite v4 (some [.bool false]) (bd (PV.bin .add x2 (.int .i64 1)) fun v5=>jG x0 x1 v5)) (some [.bool true]):=aZ _ _ _ _ _ _ _ _ (by kernel_rfl)
theorem aEp (x0 x1 : PV) : vT x0 x1=bd (PV.len x0) fun v0=>bd (PV.len x1) fun v1=>bd (PV.bin .neq v0 v1) fun v2=>PV.ite v2 (some [.bool false]) (lP x0 x1 (.int .i64 0)):=aK _ _ _ (by kernel_rfl)
theorem sG (x0 x1 x2 : PV) : lP x0 x1 x2=bd (PV.len x0) fun v0=>bd (PV.bin .lss x2 v0) fun v1=>PV.ite v1 (bd (PV.at_ 3 true x0 x2) fun v2=>bd (PV.at_ 3 true x1 x2) fun v3=>bd (yL v2 v3) fun r4=>bd (PV.not (hd r4)) fun v5=>PV.ite v5 (some [.bool false]) (bd (PV.bin .add x2 (.int .i64 1)) fun v6=>lP x0 x1 v6)) (some [.bool true]):=aZ _ _ _ _ _ _ _ _ (by kernel_rfl)
theorem aEq (x0 x1 : PV) : vU x0 x1=bd (PV.whole 3 x0) fun v0=>bd (PV.cell v0 0) fun v1=>bd (PV.cell v0 1) fun v2=>bd (PV.cell v0 2) fun v3=>bd (PV.whole 3 x1) fun v4=>bd (PV.cell v4 0) fun v5=>bd (PV.cell v4 1) fun v6=>bd (PV.cell v4 2) fun v7=>bd (PV.bin .neq v1 v5) fun v8=>PV.ite v8 (some [.bool false]) (bd (PV.bin .neq v2 v6) fun v9=>PV.ite v9 (some [.bool false])
 (bd (PV.bin .neq v3 v7) fun v10=>PV.ite v10 (some [.bool false]) (some [.bool true]))):=aK _ _ _ (by kernel_rfl)
theorem aFK (x0 x1 : PV) : yK x0 x1=bd (PV.whole 3 x0) fun v0=>bd (PV.cell v0 0) fun v1=>bd (PV.cell v0 1) fun v2=>bd (PV.cell v0 2) fun v3=>bd (yM v3 x1) fun r4=>bd (PV.bin .lss (hd r4) (.int .i64 0)) fun v5=>PV.ite v5 (some [(.int .i64 (-1))]) (some [(hd r4)]):=aK _ _ _ (by kernel_rfl)
theorem aFL (x0 x1 : PV) : yL x0 x1=bd (PV.whole 3 x0) fun v0=>bd (PV.cell v0 0) fun v1=>bd (PV.cell v0 1) fun v2=>bd (PV.cell v0 2) fun v3=>bd (PV.whole 3 x1) fun v4=>bd (PV.cell v4 0) fun v5=>bd (PV.cell v4 1) fun v6=>bd (PV.cell v4 2) fun v7=>bd (PV.bin .neq v1 v5) fun v8=>PV.ite v8 (some [.bool false]) (bd (PV.bin .neq v2 v6) fun v9=>PV.ite v9 (some [.bool false])
 (bd (yN v3 v7) fun r10=>bd (PV.not (hd r10)) fun v11=>PV.ite v11 (some [.bool false]) (some [.bool true]))):=aK _ _ _ (by kernel_rfl)
theorem aFM (x0 x1 : PV) : yM x0 x1=bd (PV.len x0) fun v0=>bd (PV.bin .sub x1 v0) fun v1=>bd (PV.bin .lss v1 (.int .i64 0)) fun v2=>PV.ite v2 (some [(.int .i64 (-1))]) (some [v1]):=aK _ _ _ (by kernel_rfl)
theorem aFN (x0 x1 : PV) : yN x0 x1=bd (PV.len x0) fun v0=>bd (PV.len x1) fun v1=>bd (PV.bin .neq v0 v1) fun v2=>PV.ite v2 (some [.bool false]) (nC x0 x1 (.int .i64 0)):=aK _ _ _ (by kernel_rfl)
theorem tG (x0 x1 x2 : PV) : nC x0 x1 x2=bd (PV.len x0) fun v0=>bd (PV.bin .lss x2 v0) fun v1=>PV.ite v1 (bd (PV.at_ 2 true x0 x2) fun v2=>bd (PV.at_ 2 true x1 x2) fun v3=>bd (aA4 v2 v3) fun r4=>bd (PV.not (hd r4)) fun v5=>PV.ite v5 (some [.bool false]) (bd (PV.bin .add x2 (.int .i64 1)) fun v6=>nC x0 x1 v6)) (some [.bool true]):=aZ _ _ _ _ _ _ _ _ (by kernel_rfl)
theorem aGI (x0 x1 : PV) : aA4 x0 x1=bd (PV.whole 2 x0) fun v0=>bd (PV.cell v0 0) fun v1=>bd (PV.cell v0 1) fun v2=>bd (PV.whole 2 x1) fun v3=>bd (PV.cell v3 0) fun v4=>bd (PV.cell v3 1) fun v5=>bd (PV.bin .neq v1 v4) fun v6=>PV.ite v6 (some [.bool false]) (bd (PV.bin .neq v2 v5) fun v7=>PV.ite v7 (some [.bool false]) (some [.bool true])):=aK _ _ _ (by kernel_rfl)
theorem aDn (x0 : PV) : fS x0=bd (PV.whole 2 x0) fun v0=>bd (PV.cell v0 0) fun v1=>bd (PV.cell v0 1) fun v2=>bd (rV v1) fun r3=>PV.guardOwn (.own 1 16 false []) (gd r3 0) (bd (vW v2) fun r4=>PV.guardOwn (.own 3 40 true [.leaf,.leaf,(.own 2 16 true [])]) (gd r4 0) (some [(gd r3 0),(gd r4 0)])):=bK _ _ _ _ (by kernel_rfl)
theorem aDo (x0 : PV) : gX x0=bd (PV.len x0) fun v0=>bd (PV.zeros 32 (.agg [(.int .i64 0),(.int .i64 0),(.str (bs []))]) v0) fun v1=>bd (PV.bin .leq v0 v0) fun v2=>PV.ite v2 (bd (PV.zeros 32 (.agg [(.int .i64 0),(.int .i64 0),(.str (bs []))]) v0) fun v3=>kO x0 (.int .i64 0) v3) (none):=bK _ _ _ _ (by kernel_rfl)
theorem qH (x0 x1 x2 : PV) : kO x0 x1 x2=bd (PV.len x0) fun v0=>bd (PV.bin .lss x1 v0) fun v1=>PV.ite v1 (bd (PV.at_ 3 true x0 x1) fun v2=>bd (vV v2) fun r3=>bd (PV.inb x2 x1) fun v4=>bd (PV.setAt 3 true x2 x1 (hd r3)) fun v5=>bd (PV.bin .add x1 (.int .i64 1)) fun v6=>kO x0 v6 v5) (some [x2]):=aZ _ _ _ _ _ _ _ _ (by kernel_rfl)
theorem aEr (x0 : PV) : vV x0=bd (PV.whole 3 x0) fun v0=>bd (PV.cell v0 0) fun v1=>bd (PV.cell v0 1) fun v2=>bd (PV.cell v0 2) fun v3=>bd (PV.one v1) fun v4=>bd (PV.one v2) fun v5=>bd (PV.one v3) fun v6=>some [(.agg [v4,v5,v6])]:=aK _ _ _ (by kernel_rfl)
theorem aCi (x0 x1 x2 : PV) : nD x0 x1 x2=bd (PV.whole 2 x0) fun v0=>bd (PV.cell v0 0) fun v1=>bd (PV.cell v0 1) fun v2=>bd (aA5 (.agg [v1,v2]) x1) fun r3=>PV.guardFlat (gd r3 0) (PV.guardFlat (gd r3 1) (PV.guardFlat (gd r3 2) (PV.guardFlat (gd r3 3) (PV.guardFlat (gd r3 4) (PV.guardFlat (gd r3 5) (PV.guardFlat (gd r3 6) (PV.guardFlat (gd r3 7) (PV.guardOwn (.own 4 64 true [.leaf,.leaf,(.own 3 32 true []),(.own 3 32 true [])]) (gd r3 8) (
 PV.guardOwn (.own 1 24 true [(.own 3 32 true [])]) (gd r3 9) (PV.guardOwn (.own 1 16 false []) (gd r3 10) (bd (PV.not (gd r3 7)) fun v4=>PV.ite v4 (some [(.lst [])]) (bd (aP x2 (.int .i64 0) (.int .i64 50000)) fun r5=>bd (PV.not (hd r5)) fun v6=>PV.ite v6 (some [(.lst [])]) (jH x2 (.int .i64 0) v1 v2 (gd r3 0) (gd r3 1) (gd r3 2) (gd r3 3) (gd r3 4) (gd r3 5) (gd r3 6) (.lst []) (gd r3 8) (gd r3 9) (gd r3 10)))))))))))))):=bK _ _ _ _ (by kernel_rfl)
theorem pJ (x0 x1 x2 x3 x4 x5 x6 x7 x8 x9 x10 x11 x12 x13 x14 : PV) : jH x0 x1 x2 x3 x4 x5 x6 x7 x8 x9 x10 x11 x12 x13 x14=bd (PV.bin .lss x1 x0) fun v0=>PV.ite v0 (bd (PV.bin .eql x5 (.int .i64 0)) fun v1=>PV.ite v1 (bd (pX (.agg [x2,x3]) x11 (.agg [x12,x13,x4,x14,x5,x6,x7,x8,x9,x10])) fun r2=>PV.guardOwn (.own 4 32 true []) (gd r2 0) (
 bd (vY (.agg [x2,x3]) (.agg [x12,x13,x4,x14,x5,x6,x7,x8,x9,x10])) fun r3=>PV.guardFlat (gd r3 0) (PV.guardFlat (gd r3 1) (PV.guardFlat (gd r3 2) (PV.guardFlat (gd r3 3) (PV.guardFlat (gd r3 4) (PV.guardFlat (gd r3 5) (PV.guardFlat (gd r3 6) (PV.guardOwn (.own 4 64 true [.leaf,.leaf,(.own 3 32 true []),(.own 3 32 true [])]) (gd r3 7) (PV.guardOwn (.own 1 24 true [(.own 3 32 true [])]) (gd r3 8) (
 PV.guardOwn (.own 1 16 false []) (gd r3 9) (bd (PV.bin .add x1 (.int .i64 1)) fun v4=>jH x0 v4 x2 x3 (gd r3 0) (gd r3 1) (gd r3 2) (gd r3 3) (gd r3 4) (gd r3 5) (gd r3 6) (gd r2 0) (gd r3 7) (gd r3 8) (gd r3 9))))))))))))) (some [x11])) (some [x11]):=aZ _ _ _ _ _ _ _ _ (by kernel_rfl)
theorem aBn (x0 x1 x2 : PV) : aP x0 x1 x2=bd (PV.bin .geq x0 x1) fun v0=>PV.ite v0 (bd (PV.bin .leq x0 x2) fun v1=>some [v1]) (some [.bool false]):=aK _ _ _ (by kernel_rfl)
theorem aCj (x0 x1 x2 : PV) : jV x0 x1 x2=bd (PV.whole 2 x0) fun v0=>bd (PV.cell v0 0) fun v1=>bd (PV.cell v0 1) fun v2=>bd (aJk v1 v2 x1 x2 v1 v2 (.lst [])) fun r3=>bd (PV.not (gd r3 7)) fun v4=>PV.ite v4 (some [(.lst [])]) (some [(gd r3 10)]):=bK _ _ _ _ (by kernel_rfl)
theorem aBo (x0 x1 x2 : PV) : pV x0 x1 x2=bd (oG x0 x1) fun r0=>bd (rY (gd r0 0) x2) fun r1=>some [(gd r1 0),(gd r0 1),(gd r1 1)]:=bK _ _ _ _ (by kernel_rfl)
theorem aBp (x0 x1 : PV) : pW x0 x1=iM x0 (.int .i64 0) x1:=bK _ _ _ _ (by kernel_rfl)
theorem nU (x0 x1 x2 : PV) : iM x0 x1 x2=bd (PV.len x2) fun v0=>bd (PV.bin .lss x1 v0) fun v1=>PV.ite v1 (bd (PV.inb x2 x1) fun v2=>bd (PV.one x0) fun v3=>bd (PV.setCell 3 x2 x1 0 v3) fun v4=>bd (PV.bin .add x0 (.int .i64 1)) fun v5=>bd (PV.inb v4 x1) fun v6=>bd (PV.one v5) fun v7=>bd (PV.setCell 3 v4 x1 1 v7) fun v8=>bd (PV.bin .add v5 (.int .i64 1)) fun v9=>
 bd (oW v9) fun r10=>bd (PV.inb v8 x1) fun v11=>bd (PV.one (hd r10)) fun v12=>bd (PV.setCell 3 v8 x1 2 v12) fun v13=>bd (PV.bin .add v9 (.int .i64 1)) fun v14=>bd (PV.bin .add x1 (.int .i64 1)) fun v15=>iM v14 v15 v13) (some [x0,x2]):=aZ _ _ _ _ _ _ _ _ (by kernel_rfl)
theorem aDp (x0 : PV) : oW x0=bd (PV.bin .leq x0 (.int .i64 0)) fun v0=>PV.ite v0 (some [(.str (bs [109,48]))]) (kP x0 (.str (bs []))):=aK _ _ _ (by kernel_rfl)
theorem qI (x0 x1 : PV) : kP x0 x1=bd (PV.bin .gtr x0 (.int .i64 0)) fun v0=>PV.ite v0 (bd (PV.bin .rem x0 (.int .i64 10)) fun v1=>bd (PV.bin .add (.int .i64 48) v1) fun v2=>bd (PV.conv .u8 v2) fun v3=>bd (PV.cat 1 1 false (.lst []) (.lst [v3])) fun v4=>bd (PV.toStr v4) fun v5=>bd (PV.bin .add v5 x1) fun v6=>bd (PV.bin .quo x0 (.int .i64 10)) fun v7=>
 kP v7 v6) (bd (PV.bin .add (.str (bs [109])) x1) fun v8=>some [v8]):=aZ _ _ _ _ _ _ _ _ (by kernel_rfl)
theorem aCk (x0 x1 : PV) : rU x0 x1=jI x0 (.int .i64 0) x1:=bK _ _ _ _ (by kernel_rfl)
theorem pK (x0 x1 x2 : PV) : jI x0 x1 x2=bd (PV.len x2) fun v0=>bd (PV.bin .lss x1 v0) fun v1=>PV.ite v1 (bd (PV.inb x2 x1) fun v2=>bd (PV.one x0) fun v3=>bd (PV.setCell 4 x2 x1 0 v3) fun v4=>bd (PV.bin .add x0 (.int .i64 1)) fun v5=>bd (PV.inb v4 x1) fun v6=>bd (PV.one v5) fun v7=>bd (PV.setCell 4 v4 x1 1 v7) fun v8=>bd (PV.bin .add v5 (.int .i64 1)) fun v9=>
 bd (PV.inb v8 x1) fun v10=>bd (PV.one v9) fun v11=>bd (PV.setCell 4 v8 x1 2 v11) fun v12=>bd (PV.bin .add v9 (.int .i64 1)) fun v13=>bd (PV.inb v12 x1) fun v14=>bd (PV.one v13) fun v15=>bd (PV.setCell 4 v12 x1 3 v15) fun v16=>bd (PV.bin .add v13 (.int .i64 1)) fun v17=>bd (PV.bin .add x1 (.int .i64 1)) fun v18=>jI v17 v18 v16) (some [x0,x2]):=aZ _ _ _ _ _ _ _ _ (by kernel_rfl)
theorem aCl (x0 : PV) : rV x0=bd (PV.len x0) fun v0=>bd (PV.zeros 16 (.str (bs [])) v0) fun v1=>bd (PV.bin .leq v0 v0) fun v2=>PV.ite v2 (bd (PV.zeros 16 (.str (bs [])) v0) fun v3=>jJ x0 (.int .i64 0) v3) (none):=bK _ _ _ _ (by kernel_rfl)
theorem pL (x0 x1 x2 : PV) : jJ x0 x1 x2=bd (PV.len x0) fun v0=>bd (PV.bin .lss x1 v0) fun v1=>PV.ite v1 (bd (PV.at_ 1 false x0 x1) fun v2=>bd (PV.inb x2 x1) fun v3=>bd (PV.setAt 1 false x2 x1 v2) fun v4=>bd (PV.bin .add x1 (.int .i64 1)) fun v5=>jJ x0 v5 v4) (some [x2]):=aZ _ _ _ _ _ _ _ _ (by kernel_rfl)
theorem aEs (x0 : PV) : vW x0=bd (PV.len x0) fun v0=>bd (PV.zeros 40 (.agg [(.int .i64 0),(.int .i64 0),(.lst [])]) v0) fun v1=>bd (PV.bin .leq v0 v0) fun v2=>PV.ite v2 (bd (PV.zeros 40 (.agg [(.int .i64 0),(.int .i64 0),(.lst [])]) v0) fun v3=>iV x0 (.int .i64 0) v3) (none):=bK _ _ _ _ (by kernel_rfl)
theorem sH (x0 x1 x2 : PV) : iV x0 x1 x2=bd (PV.len x0) fun v0=>bd (PV.bin .lss x1 v0) fun v1=>PV.ite v1 (bd (PV.at_ 3 true x0 x1) fun v2=>bd (yR v2) fun r3=>PV.guardFlat (gd r3 0) (PV.guardFlat (gd r3 1) (PV.guardOwn (.own 2 16 true []) (gd r3 2) (bd (PV.inb x2 x1) fun v4=>bd (PV.setAt 3 true x2 x1 (.agg [(gd r3 0),(gd r3 1),(gd r3 2)])) fun v5=>
 bd (PV.bin .add x1 (.int .i64 1)) fun v6=>iV x0 v6 v5)))) (some [x2]):=aZ _ _ _ _ _ _ _ _ (by kernel_rfl)
theorem aGJ (x0 x1 : PV) : aA5 x0 x1=bd (PV.whole 2 x0) fun v0=>bd (PV.cell v0 0) fun v1=>bd (PV.cell v0 1) fun v2=>bd (vX (.agg [v1,v2])) fun r3=>bd (PV.not (hd r3)) fun v4=>PV.ite v4 (some [(.int .i64 0),(.int .i64 0),(.int .i64 0),(.int .i64 0),(.int .i64 0),(.str (bs [])),(.int .i64 0),(.bool false),(.lst []),(.lst []),(.lst [])]) (bd (PV.len x1) fun v5=>
 bd (PV.at_ 3 true v2 (.int .i64 0)) fun v6=>bd (PV.cell v6 0) fun v7=>bd (PV.bin .neq v5 v7) fun v8=>PV.ite v8 (some [(.int .i64 0),(.int .i64 0),(.int .i64 0),(.int .i64 0),(.int .i64 0),(.str (bs [])),(.int .i64 0),(.bool false),(.lst []),(.lst []),(.lst [])]) (lJ x1 (.int .i64 0) v1 v2 (.int .i64 0) (.int .i64 0) (.int .i64 0) (.int .i64 0) (.int .i64 0) (.str (bs [])) (.int .i64 0) (.lst []) (.lst []) (.lst []))):=bK _ _ _ _ (by kernel_rfl)
end
end Go.Proofs.YthkofpnllaapeaaGreatDoor
