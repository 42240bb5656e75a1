/-
  Texts of the proof, part 4: a value-level evaluator and its soundness, what the functions compute, laws about it.
  Conditions: none.
-/
import Derived.Test.YthkofpnllaapeaaGreatC
import Derived.Shelf.Spec.SlicesGrow
import Derived.Shelf.Strconv.Itoa3
import Derived.Shelf.SlGeneric
import Derived.Ground.Names8Prog
import Derived.Shelf.SortM.Plain
import Derived.Shelf.SortM.SortNone
import Derived.Ground.SlgmProg
import Derived.RangeFuncBox
import Derived.RangeFuncLeaves
import Derived.RangeFuncWrites
import Derived.Shelf.Abstract
import Derived.WalkKit
import Derived.OwnWalkIn
import Derived.Shelf.SlIterI.Sorted
import Derived.TacticsInMore
import Derived.LoopNIn
import Derived.LoopIn
import Derived.IntWalk
import Derived.ProofKit
import Derived.OpenShut
import Derived.ShutString
import Derived.ChangeOld
set_option linter.all false
namespace Go.Proofs.YthkofpnllaapeaaGreat
noncomputable section
open Go
def aFb (P : Program) (mode : Nat→Option Tmpl) (S : Nat→List DV→St→Option R) : Prop:=∀ g t args s l,mode g=some t→S g args s=some l→jM P g∧∀ (m : aV) (aU : Array Value),fM m s s.base→args.length=aU.size→
 (∀ (i : Nat) d v,args[i]? = some d→aU[i]? = some v→m.rd d v)→Calls P g aU m.w (fun e w'=>∃ v,e = .returned v∧sM m s.boxes.length (if t.keep then s.lists.length else 0) (some (t.fit s)) l v w')
theorem aCc : ∀ (ts : List (Option Own)) (ks : List (Option OTy)) (n : Nat),numO (fitO ts ks) n=numO ts n
 | [],[],_=>rfl
 | [],_::_,_=>rfl
 | some w::r,some o::q,n=>by
   simp only [fitO,numO]
   cases w.c<;>simp only [aCc r q]
 | some w::r,none::q,n=>by
   simp only [fitO,numO]
   cases w.c<;>simp only [aCc r q]
 | none::r,_::q,n=>by simp only [fitO,numO,aCc r q]
 | some _::_,[],_=>rfl
 | none::_,[],_=>rfl
theorem Tmpl.fit_keep {t : Tmpl} {s : St} : (t.fit s).keep=t.keep:=by
 unfold Tmpl.fit Tmpl.fitK
 split
 ·rfl
 ·rfl
theorem Tmpl.fit_wf {t : Tmpl} {s : St} (h : t.wf=true) : (t.fit s).wf=true:=by
 unfold Tmpl.fit Tmpl.fitK
 split
 ·unfold Tmpl.wf at h ⊢
  simp only [aCc]
  exact h
 ·exact h
theorem Tmpl.fit_nil {t : Tmpl} {s : St} (h : s.lists = []) : t.fit s=t:=by
 unfold Tmpl.fit Tmpl.fitK
 split
 ·rw [h]
  show ({ t with lists:=fitO t.lists []} : Tmpl)=t
  have : fitO t.lists []=t.lists:=by
   cases t.lists with
   | nil=>rfl
   | cons a r=>cases a<;>rfl
  rw [this]
 ·rfl
theorem aCS (l : R) : ∀ (bs : List (Option (List DV))),(fillB l bs).length=bs.length
 | []=>rfl
 | some _::r=>by simp [fillB,aCS l r]
 | none::r=>by simp [fillB,aCS l r]
theorem sC (l : R) : ∀ (bs : List (Option Own)),(fillO l bs).length=bs.length
 | []=>rfl
 | some _::r=>by simp [fillO,sC l r]
 | none::r=>by simp [fillO,sC l r]
theorem aBj (l : R) : ∀ {bs : List (Option (List DV))} {i : Nat} {fs : List DV},(fillB l bs)[i]? = some (some fs)→∃ ts,bs[i]? = some (some ts)
 | [],i,fs,h=>by simp [fillB] at h
 | some t::r,i,fs,h=>by
   cases i with
   | zero=>exact ⟨t,rfl⟩
   | succ i=>simpa using aBj l (bs:=r) (i:=i) (by simpa [fillB] using h)
 | none::r,i,fs,h=>by
   cases i with
   | zero=>simp [fillB] at h
   | succ i=>simpa using aBj l (bs:=r) (i:=i) (by simpa [fillB] using h)
theorem sN (l : R) : ∀ {bs : List (Option Own)} {i : Nat} {w : Own},(fillO l bs)[i]? = some (some w)→∃ ts,bs[i]? = some (some ts)
 | [],i,fs,h=>by simp [fillO] at h
 | some t::r,i,fs,h=>by
   cases i with
   | zero=>exact ⟨t,rfl⟩
   | succ i=>simpa using sN l (bs:=r) (i:=i) (by simpa [fillO] using h)
 | none::r,i,fs,h=>by
   cases i with
   | zero=>simp [fillO] at h
   | succ i=>simpa using sN l (bs:=r) (i:=i) (by simpa [fillO] using h)
theorem aDM {α : Type} : ∀ {l : List (Option α)},allSome l=true→∀ (i : Nat) o,l[i]? = some o→∃ a,o=some a
 | [],_,i,o,h=>by simp at h
 | some a::r,h,i,o,hi=>by
   cases i with
   | zero=>simp at hi;exact ⟨a,hi.symm⟩
   | succ i=>exact aDM (l:=r) h i o (by simpa using hi)
 | none::r,h,_,_,_=>by simp [allSome] at h
theorem getD_some {α : Type} {l : List (Option α)} {i : Nat} {x : α} (h : l.getD i none=some x) : l[i]? = some (some x):=by
 rw [List.getD] at h
 cases hi : l[i]? with
 | none=>rw [hi] at h;cases h
 | some o=>rw [hi] at h;simp at h;rw [h]
theorem zF {m : aV} {s : St} {a : Seen} {r : Nat} (h : (m.pick a.bs a.ls (s.pick a)).owned r) : aFa m a.bs a.ls r:=by
 rcases h with ⟨i,cs,h,rfl⟩ | ⟨l,o,h,hr⟩ | h
 ·have h : (s.pick a).box i=some cs:=h
  rw [zA] at h
  cases hbi : a.bs[i]? with
  | none=>rw [hbi] at h;cases h
  | some b=>
    refine .inl ⟨b,List.mem_of_getElem? hbi,?_⟩
    show m.ρ.box (a.bs.getD i 0)=_
    rw [dJ hbi]
 ·have h : (s.pick a).list l=some o:=h
  rw [vY] at h
  cases hbi : a.ls[l]? with
  | none=>rw [hbi] at h;cases h
  | some l0=>
    refine .inr ⟨l0,List.mem_of_getElem? hbi,?_⟩
    have hr : m.ρ.fp (a.ls.getD l 0) r:=hr
    rw [dJ hbi] at hr
    exact hr
 ·exact h.elim
section
variable {P : Program} {X : Cx} {O : Orc}
theorem aDN (hS : aFb P X.mode O.S) {ft : Foot} {n0 : Nat} {t : Tmpl} {f : Nat} (hm : X.mode f=some t) (hwf : t.wf=true) {args : List DV} {s : St} {k : DV→St→List Nat→Option R} {r : R} (h : liveK O ft n0 t f args s k=some r) :
 jM P f∧∃ d' s' kl,k d' s' kl=some r∧s.nl≤s'.nl∧∀ (n : Nat) (m : aV) (B L WB WL : Nat→Prop),nM m s B L n→s'.nb≤n+16→s'.nl≤n+16→n≤n0→(∀ b∈ft.rb,B b∧WB b)→(∀ l∈ft.rl,L l∧WL l)→(t.keep=true→∀ x,(B x∧WB x)∧(L x∧WL x))→
  ∀ vs : Array Value,args.length=vs.size→(∀ (i : Nat) d v,args[i]? = some d→vs[i]? = some v→m.rd d v)→
    Calls P f vs m.w (fun e w'=>∃ v,e = .returned v∧∃ m',m'.w=w'∧bM m m' s s' B L WB WL n (scrubKeptD t.keep kl)∧m'.rd d' v):=by
 unfold liveK at h
 generalize ha : reach s fuelR args ⟨[],[]⟩=a at h
 simp only at h
 have hkp : (t.fit (s.pick a)).keep=t.keep:=Tmpl.fit_keep
 have hwf : (t.fit (s.pick a)).wf=true:=Tmpl.fit_wf hwf
 have hS':=fun l=>hS f t (args.map (ren (idx · a.bs 0) (idx · a.ls 0) deep)) (s.pick a) l hm
 rw [← hkp] at hS' ⊢
 generalize t.fit (s.pick a)=t at h hwf hS' ⊢
 generalize hkd : (if t.keep=true then a.ls else [])=kl at h
 split at h
 rotate_left
 ·cases h
 rename_i hc
 simp only [Bool.and_eq_true,List.all_eq_true,Bool.or_eq_true,Nat.blt_eq] at hc
 obtain ⟨⟨⟨⟨hlen,hsome⟩,hbs⟩,hls⟩,hkl⟩:=hc
 have hkl:=nQ hkl
 have hlen:=nQ hlen
 obtain ⟨l,hl,hk⟩:=aO h
 obtain ⟨hcb,HS⟩:=hS' l hl
 have nod:=gA (s:=s) fuelR args ⟨[],[]⟩ List.nodup_nil List.nodup_nil
 have liv:=eM (s:=s) fuelR args ⟨[],[]⟩ (by simp) (by simp)
 rw [ha] at nod liv
 refine ⟨hcb,_,_,_,hk,Nat.le_add_right _ _,fun n m B L WB WL sit hnb hnl hn0 hB hL hall vs hvl hrd=>?_⟩
 have hnl : s.nl+(t.lists.length - kl.length)≤n+16:=hnl
 have hks : ∀ l∈kl,l∈a.ls:=fun l hl=>by rw [← hkd] at hl;split at hl;exact hl;cases hl
 have hkn : kl.Nodup:=by rw [← hkd];split;exact nod.2.1;exact List.nodup_nil
 have hkk : t.keep=false→kl = []:=fun hf=>by rw [← hkd,hf];rfl
 have hlists : (s.pick a).lists.length=a.ls.length:=pQ
 have hnb : s.nb+(t.boxes.length - a.bs.length)≤n+16:=hnb
 have sn1:=sit.nb
 have sn2:=sit.nl
 have lin : ∀ l∈a.ls,l∈ft.rl∨(n≤l∧l<n+16):=fun l hl=>by
  rcases hls l hl with h | ⟨h1,h2⟩
  ·exact .inl (pO.1 h)
  ·have:=nQ h1;exact .inr (by omega)
 have hb : ∀ b∈a.bs,m.s.box b=s.box b:=fun b hb=>sit.ab b (.inl (hB b (pO.1 (hbs b hb))).1)
 have hl' : ∀ l∈a.ls,m.s.list l=s.list l:=fun l hl=>sit.al l ((lin l hl).imp (fun h=>(hL l h).1) id)
 have pf:=aAB (a:=a) sit.inv hb hl' nod.1 nod.2.1
 have hboxes : (s.pick a).boxes.length=a.bs.length:=uV
 refine (HS (m.pick a.bs a.ls (s.pick a)) vs pf (by simpa using hvl) (fun i d v hd hv=>?_)).mono ?_
 ·rw [List.getElem?_map] at hd
  cases hdi : args[i]? with
  | none=>rw [hdi] at hd;cases hd
  | some d0=>rw [hdi] at hd;cases hd;exact aE4 hl' deep (hrd i d0 v hdi hv)
 ·rintro e w' ⟨v,rfl,c,hw,cinv,fw,d,s0,a0,hread,hdv,hfull,hub,hul⟩
  rw [hboxes,hlists] at fw
  obtain ⟨hless,lenB,lenL,HB,HO⟩:=Tmpl.read_sound hread hwf
  have lenB : t.boxes.length=a0.bs.length:=lenB.trans uV
  have lenL : t.lists.length=a0.ls.length:=lenL.trans pQ
  refine ⟨v,rfl,?_⟩
  generalize hcsB : ((fillB l t.boxes).map fun o=>o.map fun cs=>cs.map (ren (backFb a.bs s.nb) (backFb kl s.nl) deep))=csB
  have hcsBl : csB.length=t.boxes.length:=by rw [← hcsB,List.length_map,aCS]
  have hab : ∀ b∈a.bs,∃ cs,m.s.box b=some cs:=fun b hbm=>by
   rw [hb b hbm]
   exact Option.ne_none_iff_exists'.1 (liv.1 b hbm)
  have hal : ∀ l∈a.ls,∃ o,m.s.list l=some o:=fun l hlm=>by
   rw [hl' l hlm]
   exact Option.ne_none_iff_exists'.1 (liv.2 l hlm)
  have freshB : ∀ x,s.nb≤x→x<s.nb+(t.boxes.length - a.bs.length)→¬ m.ρ.ub x:=fun x h1 h2=>sit.fb x h1 (by omega)
  have freshL : ∀ x,s.nl≤x→x<s.nl+(t.lists.length - kl.length)→¬ m.ρ.ul x:=fun x h1 h2=>sit.fl x h1 (by omega)
  have hout : ∀ b∈a.bs,¬ (s.nb≤b∧b<s.nb+(csB.length - a.bs.length)):=fun b hbm hr=>by
   obtain ⟨cs,hcs⟩:=hab b hbm
   rw [hcsBl] at hr
   exact freshB b hr.1 hr.2 (sit.inv.ub b cs hcs)
  have scrL : ∀ x,look x (scrubKept t.keep kl s.boxes)=(s.box x).map (·.map (scrubKeptD t.keep kl)):=fun x=>by
   unfold scrubKept scrubKeptD
   cases t.keep with
   | true=>exact aAy kl x s.boxes
   | false=>
     rw [if_neg (by simp),if_neg (by simp)]
     exact jB _
  have boxL : ∀ x,look x (backB a.bs s.nb csB (scrubKept t.keep kl s.boxes))=match dO a.bs s.nb (t.boxes.length - a.bs.length) x with | some i=>csB.getD i none | none=>(s.box x).map (·.map (scrubKeptD t.keep kl)):=fun x=>by
   have:=aBi (x:=x) (cs:=csB) (bs:=a.bs) (n:=s.nb) (old:=scrubKept t.keep kl s.boxes) nod.1 (by rw [hcsBl];exact hlen) hout
   rw [hcsBl,scrL] at this
   exact this
  have houtL : ∀ l0∈kl,¬ (s.nl≤l0∧l0<s.nl+((fillO l t.lists).length - kl.length)):=fun l0 hlm hr=>by
   obtain ⟨o,ho⟩:=hal l0 (hks l0 hlm)
   rw [sC] at hr
   exact freshL l0 hr.1 hr.2 (sit.inv.ul l0 o ho)
  have listL : ∀ x,look x (backB kl s.nl (fillO l t.lists) (s.killL a.ls).lists)=match dO kl s.nl (t.lists.length - kl.length) x with | some i=>(fillO l t.lists).getD i none | none=>(s.killL a.ls).list x:=fun x=>by
   have:=aBi (x:=x) (cs:=fillO l t.lists) (bs:=kl) (n:=s.nl) (old:=(s.killL a.ls).lists) hkn (by rw [sC];exact hkl) houtL
   rw [sC] at this
   exact this
  let S : Sx:={ box:=fun x=>match dO a.bs s.nb (t.boxes.length - a.bs.length) x with | some i=>csB.getD i none | none=>(m.s.box x).map (·.map (scrubKeptD t.keep kl))
                list:=fun x=>match dO kl s.nl (t.lists.length - kl.length) x with | some i=>(fillO l t.lists).getD i none | none=>if x∈a.ls then none else m.s.list x}
  have hbn : ∀ x,(∃ cs,m.s.box x=some cs)→¬ (s.nb≤x∧x<s.nb+(t.boxes.length - a.bs.length)):=fun x ⟨cs,hcs⟩ hr=>freshB x hr.1 hr.2 (sit.inv.ub x cs hcs)
  have cb_fb : ∀ b b',b<t.boxes.length→backFb a.bs s.nb b=some b'→dO a.bs s.nb (t.boxes.length - a.bs.length) b'=some b∧(m.ρ.ub b'∨(s.nb≤b'∧b'<s.nb+(t.boxes.length - a.bs.length))):=by
   intro b b' hlt hbb
   unfold backFb at hbb
   split at hbb
   ·rename_i x hx
    cases hbb
    obtain ⟨cs,hcs⟩:=hab b' (List.mem_of_getElem? hx)
    refine ⟨?_,.inl (sit.inv.ub b' cs hcs)⟩
    unfold dO
    rw [aHO (n:=0) nod.1 hx,Nat.zero_add]
   ·rename_i hx
    cases hbb
    have hge : a.bs.length≤b:=by
     rcases Nat.lt_or_ge b a.bs.length with h | h
     ·rw [List.getElem?_eq_getElem h] at hx;cases hx
     ·exact h
    have hnot : s.nb+(b - a.bs.length)∉a.bs:=fun hm'=>hbn _ (hab _ hm') ⟨by omega,by omega⟩
    refine ⟨?_,.inr ⟨by omega,by omega⟩⟩
    unfold dO
    rw [aCa hnot]
    simp only
    rw [if_pos ⟨by omega,by omega⟩]
    congr 1
    omega
  have cl_fl : ∀ b b',b<t.lists.length→backFb kl s.nl b=some b'→dO kl s.nl (t.lists.length - kl.length) b'=some b∧(m.ρ.ul b'∨(s.nl≤b'∧b'<s.nl+(t.lists.length - kl.length))):=by
   intro b b' hlt hbb
   unfold backFb at hbb
   split at hbb
   ·rename_i x hx
    cases hbb
    obtain ⟨o,ho⟩:=hal b' (hks b' (List.mem_of_getElem? hx))
    refine ⟨?_,.inl (sit.inv.ul b' o ho)⟩
    unfold dO
    rw [aHO (n:=0) hkn hx,Nat.zero_add]
   ·rename_i hx
    cases hbb
    have hge : kl.length≤b:=by
     rcases Nat.lt_or_ge b kl.length with h | h
     ·rw [List.getElem?_eq_getElem h] at hx;cases hx
     ·exact h
    have hnot : s.nl+(b - kl.length)∉kl:=fun hm'=>by
     obtain ⟨o,ho⟩:=hal _ (hks _ hm')
     exact freshL _ (by omega) (by omega) (sit.inv.ul _ o ho)
    refine ⟨?_,.inr ⟨by omega,by omega⟩⟩
    unfold dO
    rw [aCa hnot]
    simp only
    rw [if_pos ⟨by omega,by omega⟩]
    congr 1
    omega
  have ren_ok : ∀ {d : DV} {v : Value},c.rd d v→(m.back c a.bs kl s.nb (t.boxes.length - a.bs.length) s.nl (t.lists.length - kl.length) S).rd (ren (backFb a.bs s.nb) (backFb kl s.nl) deep d) v:=by
   intro d v hd
   refine cU.renum (fun b b' hu hbb=>?_) (fun l0 l' hu hll=>?_) deep hd
   ·obtain ⟨h1,h2⟩:=cb_fb b b' (by rw [lenB];exact hub b hu) hbb
    refine ⟨h2,?_⟩
    show (match dO a.bs s.nb (t.boxes.length - a.bs.length) b' with | some i=>c.ρ.box i | none=>m.ρ.box b')=_
    rw [h1]
   ·have hlt:=hul l0 hu
    rw [← lenL] at hlt
    obtain ⟨hcl,hcu⟩:=cl_fl l0 l' hlt hll
    refine ⟨hcu,fun hv=>⟨?_,?_,?_,?_⟩⟩
    ·have hv : (match dO kl s.nl (t.lists.length - kl.length) l' with | some i=>(fillO l t.lists).getD i none | none=>if l'∈a.ls then none else m.s.list l')≠none:=hv
     rw [hcl] at hv
     obtain ⟨w1,hw1⟩:=Option.ne_none_iff_exists'.1 hv
     have hg:=getD_some hw1
     obtain ⟨ts,hts⟩:=sN l hg
     obtain ⟨x,w2,g1,_⟩:=HO l0 ts hts
     have g1 : (s0.pick a0).list l0=some w2:=by
      have:=lY (n:=0) g1
      rw [Nat.zero_add] at this
      exact this
     rw [← hfull.list l0] at g1
     exact aV.live_of g1
    ·show (match dO kl s.nl (t.lists.length - kl.length) l' with | some i=>c.ρ.hdr i | none=>_)=_
     rw [hcl]
    ·show (match dO kl s.nl (t.lists.length - kl.length) l' with | some i=>c.ρ.ty i | none=>_)=_
     rw [hcl]
    ·show (match dO kl s.nl (t.lists.length - kl.length) l' with | some i=>c.ρ.fp i | none=>_)=_
     rw [hcl]
  have came : tM m c t.keep a.bs a.ls kl s.nb (t.boxes.length - a.bs.length) s.nl (t.lists.length - kl.length) S:={
   kk:=hkk
   kn:=hkn
   ks:=hks
   row:=fun i l0 hi hlv=>by
    have hkt : t.keep=true:=by
     cases hk2 : t.keep with
     | true=>rfl
     | false=>rw [hkk hk2] at hi;simp at hi
    have hkl2 : kl=a.ls:=by rw [← hkd,hkt];rfl
    rw [hkl2] at hi
    obtain ⟨o,ho⟩:=hal l0 (List.mem_of_getElem? hi)
    have hlt : i<a.ls.length:=(List.getElem?_eq_some_iff.1 hi).1
    rw [hkt] at fw
    have hu : (m.pick a.bs a.ls (s.pick a)).ρ.ul i:=⟨hlt,by rw [dJ hi];exact sit.inv.ul l0 o ho⟩
    obtain ⟨_,q⟩:=fw.row i (by simpa using hlt) hu
    obtain ⟨_,q1,q2⟩:=q hlv
    rw [q1,q2]
    show m.ρ.hdr (a.ls.getD i 0)=_∧m.ρ.ty (a.ls.getD i 0)=_
    rw [dJ hi]
    exact ⟨rfl,rfl⟩
   inv:=sit.inv
   cinv:=cinv
   nb:=nod.1
   ab:=hab
   al:=hal
   size:=fw.size
   os:=fw.os
   tape:=fw.tape
   output:=fw.output
   keep:=fun r hr hn=>fw.keep r hr (fun ho=>hn (zF ho))
   own:=fun r hr=>(fw.own r hr).imp (fun h=>zF h) id
   z:=fun r hr=>(fw.z r hr).imp id (fun h=>h.imp (fun h=>zF h) id)
   zz:=fw.zz
   box:=fun i b hbi=>by
    obtain ⟨cs,hcs⟩:=hab b (List.mem_of_getElem? hbi)
    have:=fw.box i (List.getElem?_eq_some_iff.1 hbi).1 (cs.map (ren (idx · a.bs 0) (idx · a.ls 0) deep)) (by
     show (s.pick a).box i=_
     rw [zA,hbi,Option.bind_some,← hb b (List.mem_of_getElem? hbi),hcs];rfl)
    rw [this.1]
    show m.ρ.box (a.bs.getD i 0)=_
    rw [dJ hbi]
   freshB:=freshB
   freshL:=freshL
   sb:=fun x cs hx=>by
    have hx : (match dO a.bs s.nb (t.boxes.length - a.bs.length) x with | some i=>csB.getD i none | none=>(m.s.box x).map (·.map (scrubKeptD t.keep kl)))=some cs:=hx
    cases hcb : dO a.bs s.nb (t.boxes.length - a.bs.length) x with
    | none=>
      rw [hcb] at hx
      simp only at hx
      cases hmx : m.s.box x with
      | none=>rw [hmx] at hx;cases hx
      | some cs0=>rw [hmx] at hx;cases hx;exact .inr ⟨rfl,cs0,rfl,rfl⟩
    | some i=>
      rw [hcb] at hx
      have hg:=getD_some hx
      rw [← hcsB,List.getElem?_map] at hg
      cases hfi : (fillB l t.boxes)[i]? with
      | none=>rw [hfi] at hg;cases hg
      | some o=>
        rw [hfi] at hg
        simp only [Option.map_some,Option.some.injEq] at hg
        cases o with
        | none=>cases hg
        | some fs=>
          simp only [Option.map_some,Option.some.injEq] at hg
          obtain ⟨ts,hts⟩:=aBj l hfi
          obtain ⟨g1,x',cs0,g2,g3⟩:=HB i ts hts
          rw [hfi] at g1
          cases g1
          have g2 : (s0.pick a0).box i=some cs0:=by
           have:=aA3 (n:=0) g2
           rw [Nat.zero_add] at this
           exact this
          rw [← hfull.box i] at g2
          refine .inl ⟨i,cs0,rfl,g2,by rw [← hg,List.length_map];exact g3.1,fun j d0 d1 v0 h1 h2 h3=>?_⟩
          rw [← hg,List.getElem?_map] at h2
          cases hj : (fillDs l ts)[j]? with
          | none=>rw [hj] at h2;cases h2
          | some d2=>
            rw [hj] at h2
            cases h2
            exact ren_ok (g3.2 j d0 d2 h1 hj c v0 h3)
   sbx:=fun x hx=>by
    show ∃ cs,(match dO a.bs s.nb (t.boxes.length - a.bs.length) x with | some i=>csB.getD i none | none=>(m.s.box x).map (·.map (scrubKeptD t.keep kl)))=some cs
    rcases dZ a.bs s.nb (t.boxes.length - a.bs.length) x with ⟨i,h1,h2⟩ | ⟨i,h1,h2,h3,h4⟩ | ⟨h1,_⟩
    ·rw [h1]
     have hlt : i<a.bs.length:=(List.getElem?_eq_some_iff.1 h2).1
     have hti : (t.boxes.take a.bs.length)[i]? = some (t.boxes[i]'(by omega)):=by rw [List.getElem?_take,if_pos hlt,List.getElem?_eq_getElem]
     obtain ⟨ts,hts⟩:=aDM hsome i _ hti
     obtain ⟨g1,_⟩:=HB i ts (by rw [List.getElem?_eq_getElem (by omega),hts])
     refine ⟨(fillDs l ts).map (ren (backFb a.bs s.nb) (backFb kl s.nl) deep),?_⟩
     simp only
     rw [List.getD,← hcsB,List.getElem?_map,g1]
     rfl
    ·exact absurd ⟨by omega,by omega⟩ (hbn x hx)
    ·rw [h1]
     obtain ⟨cs,hcs⟩:=hx
     exact ⟨_,by simp only [hcs,Option.map_some];rfl⟩
   sl:=fun x o hx=>by
    have hx : (match dO kl s.nl (t.lists.length - kl.length) x with | some i=>(fillO l t.lists).getD i none | none=>if x∈a.ls then none else m.s.list x)=some o:=hx
    cases hcl : dO kl s.nl (t.lists.length - kl.length) x with
    | none=>
      rw [hcl] at hx
      simp only at hx
      split at hx
      ·cases hx
      ·rename_i hn;exact .inr ⟨rfl,hn,hx⟩
    | some i=>
      rw [hcl] at hx
      have hg:=getD_some hx
      obtain ⟨ts,hts⟩:=sN l hg
      obtain ⟨x',w2,g1,g2,_⟩:=HO i ts hts
      rw [hg] at g2
      cases g2
      have g1 : (s0.pick a0).list i=some o:=by
       have:=lY (n:=0) g1
       rw [Nat.zero_add] at this
       exact this
      rw [← hfull.list i] at g1
      exact .inl ⟨i,rfl,g1⟩}
  have wbs : ∀ b∈a.bs,B b∧WB b:=fun b hbm=>hB b (pO.1 (hbs b hbm))
  refine ⟨m.back c a.bs kl s.nb (t.boxes.length - a.bs.length) s.nl (t.lists.length - kl.length) S,hw,?_,ren_ok (hless c v hdv)⟩
  refine {
   step:=came.step sn1 hnb sn2 hnl
   after:=⟨fun x hx=>?_,fun x hx=>?_,fun x h1 h2=>?_,fun x h1 h2=>?_,fun x h1 h2=>?_,fun x h1 h2=>?_⟩
   nb:=Nat.le_add_right _ _
   nl:=Nat.le_add_right _ _
   ub:=fun x hx hu=>hu.elim id (fun h=>by have hx : s.nb+(t.boxes.length - a.bs.length)≤x:=hx;omega)
   ul:=fun x hx hu=>hu.elim id (fun h=>by have hx : s.nl+(t.lists.length - kl.length)≤x:=hx;omega)}
  ·show (match dO a.bs s.nb (t.boxes.length - a.bs.length) x with | some i=>csB.getD i none | none=>(m.s.box x).map (·.map (scrubKeptD t.keep kl)))=look x (backB a.bs s.nb _ (scrubKept t.keep kl s.boxes))
   rw [boxL x]
   cases dO a.bs s.nb (t.boxes.length - a.bs.length) x with
   | some i=>rfl
   | none=>simp only;rw [sit.ab x hx]
  ·show (match dO kl s.nl (t.lists.length - kl.length) x with | some i=>(fillO l t.lists).getD i none | none=>if x∈a.ls then none else m.s.list x)=look x (backB kl s.nl (fillO l t.lists) (s.killL a.ls).lists)
   rw [listL x]
   cases dO kl s.nl (t.lists.length - kl.length) x with
   | some i=>rfl
   | none=>
     simp only
     rw [eL,sit.al x hx]
  ·by_cases hkt : t.keep=true
   ·exact absurd ((hall hkt x).1.1) h1
   ·have hkt : t.keep=false:=by simpa using hkt
    show (match dO a.bs s.nb (t.boxes.length - a.bs.length) x with | some i=>csB.getD i none | none=>(m.s.box x).map (fun cs : List DV=>cs.map (scrubKeptD t.keep kl)))=_
    rcases dZ a.bs s.nb (t.boxes.length - a.bs.length) x with ⟨i,g1,g2⟩ | ⟨i,g1,g2,g3,g4⟩ | ⟨g1,_⟩
    ·exact absurd (wbs x (List.mem_of_getElem? g2)).1 h1
    ·exact absurd ⟨by omega,by omega⟩ h2
    ·rw [g1,hkt]
     exact (jB _).symm
  ·by_cases hkt : t.keep=true
   ·exact absurd ((hall hkt x).2.1) h1
   ·have hkt : t.keep=false:=by simpa using hkt
    show (match dO kl s.nl (t.lists.length - kl.length) x with | some i=>(fillO l t.lists).getD i none | none=>if x∈a.ls then none else m.s.list x)=_
    rw [hkk hkt]
    rcases dZ [] s.nl (t.lists.length - ([] : List Nat).length) x with ⟨i,g1,g2⟩ | ⟨i,g1,g2,g3,_⟩ | ⟨g1,_⟩
    ·simp at g2
    ·exact absurd ⟨by omega,by rw [hkk hkt] at hnl;omega⟩ h2
    ·rw [g1]
     simp only
     rw [if_neg]
     intro hxm
     rcases lin x hxm with h | h
     ·exact h1 (hL x h).1
     ·exact h2 h
  ·by_cases hkt : t.keep=true
   ·exact absurd ((hall hkt x).1.2) h1
   ·have hkt : t.keep=false:=by simpa using hkt
    show look x (backB a.bs s.nb _ (scrubKept t.keep kl s.boxes))=_
    rw [boxL x]
    rcases dZ a.bs s.nb (t.boxes.length - a.bs.length) x with ⟨i,g1,g2⟩ | ⟨i,g1,g2,g3,g4⟩ | ⟨g1,_⟩
    ·exact absurd (wbs x (List.mem_of_getElem? g2)).2 h1
    ·exact absurd ⟨by omega,by omega⟩ h2
    ·rw [g1,hkt]
     exact (jB _).symm
  ·by_cases hkt : t.keep=true
   ·exact absurd ((hall hkt x).2.2) h1
   ·have hkt : t.keep=false:=by simpa using hkt
    show look x (backB kl s.nl (fillO l t.lists) (s.killL a.ls).lists)=_
    rw [listL x,hkk hkt]
    rcases dZ [] s.nl (t.lists.length - ([] : List Nat).length) x with ⟨i,g1,g2⟩ | ⟨i,g1,g2,g3,_⟩ | ⟨g1,_⟩
    ·simp at g2
    ·exact absurd ⟨by omega,by rw [hkk hkt] at hnl;omega⟩ h2
    ·rw [g1]
     simp only
     rw [eL,if_neg]
     intro hxm
     rcases lin x hxm with h | h
     ·exact h1 (hL x h).2
     ·exact h2 h
end
theorem aFc : ∀ {cs : List PV} {cts : List OTy},PV.flatCs cts cs=true→∀ (j : Nat) c,cs[j]? = some c→PV.flatO (cts.getD j .leaf) c=true∨c.flat=true
 | [],_,_,j,c,h=>by simp at h
 | x::r,cts,h,j,c,hj=>by
   have tail : ∀ {b : Bool},(b&&PV.flatCs cts.tail r)=true→j≠0→PV.flatO (cts.getD j .leaf) c=true∨c.flat=true:=by
    intro b hb hj0
    simp only [Bool.and_eq_true] at hb
    obtain ⟨q,rfl⟩ : ∃ q,j=q+1:=⟨j - 1,by omega⟩
    have:=aFc hb.2 q c (by simpa using hj)
    cases cts with
    | nil=>simpa [List.getD] using this
    | cons o os=>simpa [List.getD] using this
   by_cases hj0 : j=0
   ·subst hj0
    simp at hj
    subst hj
    cases x with
    | lst xs=>
      unfold PV.flatCs at h
      simp only [Bool.and_eq_true] at h
      cases cts with
      | nil=>simp at h
      | cons o os=>
        cases o with
        | leaf=>simp at h
        | own s e g cts'=>exact .inl (by simpa [List.getD,PV.flatO] using h.1)
    | _=>unfold PV.flatCs at h;simp only [Bool.and_eq_true] at h;exact .inr h.1
   ·cases x<;>(unfold PV.flatCs at h;exact tail h hj0)
theorem aFd : ∀ {xs : List PV} {g : Bool} {cts : List OTy},PV.flatEs g cts xs=true→∀ (i : Nat) x,xs[i]? = some x→PV.flatE g cts x=true
 | [],_,_,_,i,x,h=>by simp at h
 | y::r,g,cts,h,i,x,hi=>by
   unfold PV.flatEs at h
   simp only [Bool.and_eq_true] at h
   cases i with
   | zero=>simp at hi;subst hi;exact h.1
   | succ i=>exact aFd h.2 i x (by simpa using hi)
theorem bX.flat {w : World} {Z Z' : Nat→Prop} {o : OTy} {x : PV} {v : Value} {F : Nat→Prop} (h : bX w Z o x v F) (hf : PV.flatO o x=true∨x.flat=true) (hn : ∀ r,F r→¬ Z' r) : bX w Z' o x v F:=by
 induction h with
 | leaf x v F h hF=>
   rcases hf with hf | hf
   ·simp [PV.flatO] at hf
   ·exact .leaf x v F (h.flat hf) hF
 | hole s e g cts v F h hF=>exact .hole s e g cts v F h hF
 | nil s e g cts F a hF=>exact .nil s e g cts F a hF
 | own s e g cts xs b o cap cells ety cv fp F hh hs ho hl hz he hc hv hr hF hb hd ih=>
   have hf : PV.flatEs g cts xs=true:=by
    rcases hf with hf | hf
    ·simpa [PV.flatO] using hf
    ·simp [PV.flat] at hf
   refine .own s e g cts xs b o cap cells ety cv fp F hh hs ho hl (hn b ((hF b).2 (.inl rfl))) he hc hv (fun i j x hx hj=>?_) hF hb hd
   have hi : i<xs.length:=(List.getElem?_eq_some_iff.1 hx).1
   refine ih i j x hx hj ?_ (fun r hr=>hn r ((hF r).2 (.inr ⟨i,j,hi,hj,hr⟩)))
   have hfe:=aFd hf i x hx
   have hel:=he i x hx
   cases g with
   | true=>
     obtain ⟨cs,rfl,hlen⟩:=yS hel
     rw [eV]
     unfold PV.flatE at hfe
     simp only [Bool.true_and] at hfe
     have hj' : cs[j]? = some (cs[j]'(by omega)):=List.getElem?_eq_getElem (by omega)
     have hg : cs.getD j .hole=cs[j]'(by omega):=by rw [List.getD,hj'];rfl
     rw [hg]
     exact aFc hfe j _ hj'
   | false=>
     have hs1:=aBS hel
     have hj0 : j=0:=by omega
     subst hj0
     show PV.flatO (cts.getD 0 .leaf) x=true∨x.flat=true
     cases x with
     | lst ys=>
       unfold PV.flatE at hfe
       cases cts with
       | nil=>simp at hfe
       | cons o os=>
         cases o with
         | leaf=>simp at hfe
         | own s' e' g' cts'=>exact .inl (by simpa [List.getD,PV.flatO] using hfe)
     | agg cs=>unfold PV.flatE at hfe;simp at hfe
     | _=>unfold PV.flatE at hfe;simp only [Bool.not_false,Bool.true_and] at hfe;exact .inr hfe
inductive xY (l : R) : DV→Prop
 | p (k : IntKind) (i : Int) : (gd l i.toNat).flat=true→xY l (.p (.int k i))
 | ref (n : Nat) (path : dM) : xY l (.ref n path)
 | agg (cs : List DV) : (∀ c∈cs,xY l c)→xY l (.agg cs)
 | tup (cs : List DV) : (∀ c∈cs,xY l c)→xY l (.tup cs)
theorem nS {l : R} : ∀ {cs : List DV} {k : Option R} {r : R},guardCells l cs k=some r→(∀ c∈cs,xY l c)∧k=some r
 | [],k,r,h=>⟨by simp,h⟩
 | .p (.int kk i)::cs,k,r,h=>by
  unfold guardCells at h
  obtain ⟨hf,h'⟩:=zE h
  obtain ⟨h1,h2⟩:=nS h'
  refine ⟨fun c hc=>?_,h2⟩
  rcases List.mem_cons.1 hc with rfl | hc
  ·exact .p _ _ hf
  ·exact h1 c hc
 | .ref n path::cs,k,r,h=>by
  unfold guardCells at h
  obtain ⟨h1,h2⟩:=nS h
  refine ⟨fun c hc=>?_,h2⟩
  rcases List.mem_cons.1 hc with rfl | hc
  ·exact .ref _ _
  ·exact h1 c hc
 | .p (.bool _)::_,_,_,h=>by simp [guardCells] at h
 | .p (.str _)::_,_,_,h=>by simp [guardCells] at h
 | .p .nil::_,_,_,h=>by simp [guardCells] at h
 | .p .nilf::_,_,_,h=>by simp [guardCells] at h
 | .p (.agg _)::_,_,_,h=>by simp [guardCells] at h
 | .p (.lst _)::_,_,_,h=>by simp [guardCells] at h
 | .p (.bx _)::_,_,_,h=>by simp [guardCells] at h
 | .p (.fn _ _)::_,_,_,h=>by simp [guardCells] at h
 | .p (.tup _)::_,_,_,h=>by simp [guardCells] at h
 | .p .hole::_,_,_,h=>by simp [guardCells] at h
 | .nils::_,_,_,h=>by simp [guardCells] at h
 | .agg _::_,_,_,h=>by simp [guardCells] at h
 | .tup _::_,_,_,h=>by simp [guardCells] at h
 | .fn _ _::_,_,_,h=>by simp [guardCells] at h
 | .ptr _ _::_,_,_,h=>by simp [guardCells] at h
 | .sref _ _ _ _::_,_,_,h=>by simp [guardCells] at h
 | .eptr _ _ _ _::_,_,_,h=>by simp [guardCells] at h
 | .fptr _ _ _ _::_,_,_,h=>by simp [guardCells] at h
 | .bptr _ _::_,_,_,h=>by simp [guardCells] at h
 | .gptr _ _ _ _::_,_,_,h=>by simp [guardCells] at h
 | .nilq _ _::_,_,_,h=>by simp [guardCells] at h
 | .bsl _ _::_,_,_,h=>by simp [guardCells] at h
 | .dead::_,_,_,h=>by simp [guardCells] at h
theorem pR {l : R} : ∀ {cs : List DV} {k : Option R} {r : R},guardAggs l cs k=some r→(∀ c∈cs,xY l c)∧k=some r
 | [],k,r,h=>⟨by simp,h⟩
 | d::cs,k,r,h=>by
   have one : ∀ {d : DV},guardCells l [d] (guardAggs l cs k)=some r→(∀ c∈d::cs,xY l c)∧k=some r:=by
    intro d h
    obtain ⟨h1,h2⟩:=nS h
    obtain ⟨h3,h4⟩:=pR h2
    refine ⟨fun c hc=>?_,h4⟩
    rcases List.mem_cons.1 hc with rfl | hc
    ·exact h1 _ List.mem_cons_self
    ·exact h3 c hc
   cases d with
   | agg ds=>
     unfold guardAggs at h
     obtain ⟨h1,h2⟩:=nS h
     obtain ⟨h3,h4⟩:=pR h2
     refine ⟨fun c hc=>?_,h4⟩
     rcases List.mem_cons.1 hc with rfl | hc
     ·exact .agg _ h1
     ·exact h3 c hc
   | _=>exact one (by simpa only [guardAggs] using h)
theorem aHP {l : R} {d : DV} {k : Option R} {r : R} (h : guardRes l d k=some r) : xY l d∧k=some r:=by
 unfold guardRes at h
 split at h
 ·obtain ⟨h1,h2⟩:=pR h
  exact ⟨.tup _ h1,h2⟩
 ·obtain ⟨h1,h2⟩:=pR h
  exact ⟨h1 _ List.mem_cons_self,h2⟩
theorem aA4 {l : R} : ∀ {cs : List (Option Own)} {k : Option R} {r : R},guardRows l cs k=some r→(∀ (i : Nat) w kk j,cs[i]? = some (some w)→w.c = .int kk j→PV.flatO w.o (gd l j.toNat)=true)∧k=some r
 | [],k,r,h=>⟨fun i w kk j hi=>by simp at hi,h⟩
 | none::_,_,_,h=>by simp [guardRows] at h
 | some w::cs,k,r,h=>by
   unfold guardRows at h
   split at h
   ·rename_i kk j hc
    unfold PV.guardOwn at h
    split at h
    ·rename_i hf
     obtain ⟨h1,h2⟩:=aA4 h
     refine ⟨fun i w' kk' j' hi hc'=>?_,h2⟩
     cases i with
     | zero=>
       simp at hi
       subst hi
       rw [hc] at hc'
       cases hc'
       exact hf
     | succ i=>exact h1 i w' kk' j' (by simpa using hi) hc'
    ·cases h
   ·cases h
mutual
theorem aBk (l : R) : ∀ (ds : List DV),fillDs l ds=ds.map (fillD l)
 | []=>rfl
 | d::r=>by simp only [fillDs,List.map_cons,aBk l r]
end
theorem xY.rd {l : R} {w : World} {Z Z' : Nat→Prop} {ρ : Loc} {live live' : Nat→Prop} (hl : ∀ x,live' x→live x) {d : DV} (hf : xY l d) : ∀ {v : Value},cU w Z ρ live (fillD l d) v→cU w Z' ρ live' (fillD l d) v:=by
 induction hf with
 | p k i hfl=>
   intro v h
   simp only [fillD] at h ⊢
   cases h with
   | p _ _ h=>exact .p _ _ (h.flat hfl)
 | ref n path=>
   intro v h
   simp only [fillD] at h ⊢
   cases h with
   | ref _ _ _ h1 h2 h3=>exact .ref _ _ _ h1 h2 (fun hv=>h3 (hl _ hv))
 | agg cs _ ih=>
   intro v h
   simp only [fillD,aBk] at h ⊢
   cases h with
   | agg _ vs h1 h2 h3=>
     refine .agg _ vs h1 h2 (fun i d v hd hv=>?_)
     rw [List.getElem?_map] at hd
     cases hc : cs[i]? with
     | none=>rw [hc] at hd;cases hd
     | some c=>
       rw [hc] at hd
       cases hd
       exact ih c (List.mem_of_getElem? hc) (h3 i _ v (by rw [List.getElem?_map,hc];rfl) hv)
 | tup cs _ ih=>
   intro v h
   simp only [fillD,aBk] at h ⊢
   cases h with
   | tup _ vs h1 h3=>
     refine .tup _ vs h1 (fun i d v hd hv=>?_)
     rw [List.getElem?_map] at hd
     cases hc : cs[i]? with
     | none=>rw [hc] at hd;cases hd
     | some c=>
       rw [hc] at hd
       cases hd
       exact ih c (List.mem_of_getElem? hc) (h3 i _ v (by rw [List.getElem?_map,hc];rfl) hv)
section
variable {P : Program} {X : Cx} {O : Orc}
theorem lentK_sound (hS : aFb P X.mode O.S) {t : Tmpl} {f : Nat} (hm : X.mode f=some t) (hwf : t.wf=true) {args : List DV} {s : St} {k : DV→St→Option R} {r : R} (h : lentK O t f args s k=some r) :
 jM P f∧∃ d' s',k d' s'=some r∧∀ (n : Nat) (m : aV) (B L WB WL : Nat→Prop),nM m s B L n→s'.nb≤n+16→s'.nl≤n+16→aEv m s args→
  ∀ vs : Array Value,args.length=vs.size→(∀ (i : Nat) d v,args[i]? = some d→vs[i]? = some v→m.rd d v)→
    Calls P f vs m.w (fun e w'=>∃ v,e = .returned v∧∃ m',m'.w=w'∧bM m m' s s' B L WB WL n id∧m'.rd d' v):=by
 unfold lentK at h
 obtain ⟨ps,h1,hpl,H⟩:=tU h
 obtain ⟨l,hl,h2⟩:=aO h1
 obtain ⟨hflat,h3⟩:=aHP h2
 obtain ⟨hrows,hk⟩:=aA4 h3
 obtain ⟨hcb,HS⟩:=hS f t _ _ l hm hl
 rw [Tmpl.fit_nil rfl] at HS
 refine ⟨hcb,_,_,hk,fun n m B L WB WL sit hnb hnl hM vs hvl hrd=>?_⟩
 have hnl : s.nl+t.lists.length≤n+16:=hnl
 have sn1:=sit.nb
 have sn2:=sit.nl
 let m0 : aV:={ w:=m.w,Z:=fun x=>m.Z x∨m.owned x,s:={ box:=fun _=>none,list:=fun _=>none},L:=fun _=>False,
                ρ:={ box:=fun _=>0,hdr:=fun _=>.nilFunc,fp:=fun _ _=>False,ty:=fun _=>.leaf,ub:=fun _=>False,ul:=fun _=>False}}
 have full0 : fM m0 ⟨[],[],0,0,0⟩ 0:={
  inv:={
   ub:=fun _ _ h=>by cases h
   ul:=fun _ _ h=>by cases h
   zlt:=sit.inv.zlt.next (fun _ h=>.inl h) (fun _ _=>rfl) fun r hr=>hr.elim (sit.inv.zlt r) (fun h=>sit.inv.owned_lt h)
   box:=fun _ _ h=>by cases h
   row:=fun _ _ h=>by cases h
   bz:=fun _ _ h=>by cases h
   bb:=fun _ _ _ _ h=>by cases h
   bl:=fun _ _ _ _ h=>by cases h
   ll:=fun _ _ _ _ _ h=>by cases h
   Lz:=fun _ h=>h.elim
   Lb:=fun _ _ _ h=>h
   Ll:=fun _ _ _ _ _ h=>h}
  box:=fun _=>rfl
  list:=fun _=>rfl
  ub:=fun _ h=>h.elim
  ul:=fun _ h=>h.elim}
 have own0 : ∀ r,¬ m0.owned r:=by
  rintro r (⟨_,_,h,_⟩ | ⟨_,_,h,_⟩ | h)
  ·cases h
  ·cases h
  ·exact h
 have hreps:=H m (fun x=>m.Z x∨m.owned x) sit.inv hM (.inl fun r hr=>.inr hr) (fun r hr=>.inl hr) vs hvl hrd
 refine (HS m0 vs full0 (by rw [List.length_map];omega) (fun i d v hd hv=>?_)).mono ?_
 ·rw [List.getElem?_map] at hd
  cases hp : ps[i]? with
  | none=>rw [hp] at hd;cases hd
  | some p=>rw [hp] at hd;cases hd;exact .p _ _ (hreps i p v hp hv)
 ·rintro e w' ⟨v,rfl,c,hw,cinv,fw,d,s0,a0,hread,hdv,hfull,hub,hul⟩
  obtain ⟨hless,lenB,lenL,HB,HO⟩:=Tmpl.read_sound hread hwf
  have lenL : t.lists.length=a0.ls.length:=lenL.trans pQ
  refine ⟨v,rfl,?_⟩
  have rowC : ∀ i w,c.s.list i=some w→∃ w0,t.lists[i]? = some (some w0)∧(fillO l t.lists)[i]? = some (some w)∧PV.flatO w.o w.c=true:=by
   intro i w hi
   have hlt : i<t.lists.length:=by rw [lenL];exact hul i (cinv.ul i w hi)
   have hi':=hi
   rw [hfull.list i] at hi'
   cases hti : t.lists[i]'hlt with
   | none=>
     exfalso
     have : ∀ {cs : List (Option Own)} {k : Option R} {r : R},guardRows l cs k=some r→∀ (j : Nat),cs[j]?≠some none:=by
      intro cs
      induction cs with
      | nil=>intro k r _ j;simp
      | cons x xs ih=>
        intro k r h j
        cases x with
        | none=>simp [guardRows] at h
        | some w=>
          unfold guardRows at h
          split at h
          ·unfold PV.guardOwn at h
           split at h
           ·cases j with
            | zero=>simp
            | succ j=>simpa using ih h j
           ·cases h
          ·cases h
     exact this h3 i (by rw [List.getElem?_eq_getElem hlt,hti])
   | some w0=>
     have ht : t.lists[i]? = some (some w0):=by rw [List.getElem?_eq_getElem hlt,hti]
     obtain ⟨x,w1,g1,g2,⟨kk,j,g3,g4⟩,g5⟩:=HO i w0 ht
     have g1 : (s0.pick a0).list i=some w1:=by
      have:=lY (n:=0) g1
      rw [Nat.zero_add] at this
      exact this
     rw [g1] at hi'
     cases hi'
     refine ⟨w0,ht,g2,?_⟩
     have:=hrows i w0 kk j ht g3
     rw [g4,g5] at this
     exact this
  let c1 : aV:={ w:=c.w,Z:=fun x=>c.Z x∧(m.Z x∨m.w.heap.size≤x),s:={ box:=fun _=>none,list:=c.s.list},L:=fun _=>False,ρ:=c.ρ}
  have c1inv : lU c1:={
   ub:=fun _ _ h=>by cases h
   ul:=fun l o h=>cinv.ul l o h
   zlt:=⟨fun r hr=>cinv.zlt r hr.1,sit.inv.zlt.glob.mono (fun r h=>⟨fw.zz r (.inl h),.inl h⟩) (fun r h=>fw.keep r (Nat.lt_of_lt_of_le (sit.inv.zlt r h) (Nat.le_refl _)) (own0 r))⟩
   box:=fun _ _ h=>by cases h
   row:=fun i o hi=>by
    have hi : c.s.list i=some o:=hi
    obtain ⟨g1,g2,g3⟩:=cinv.row i o hi
    obtain ⟨w0,_,_,hf⟩:=rowC i o hi
    exact ⟨g1,g2,g3.flat (.inl hf) (fun r hr hz=>g3.notZ r hr hz.1)⟩
   bz:=fun _ _ h=>by cases h
   bb:=fun _ _ _ _ h=>by cases h
   bl:=fun _ _ _ _ h=>by cases h
   ll:=fun l o l' o' r h h'=>cinv.ll l o l' o' r h h'
   Lz:=fun _ h=>h.elim
   Lb:=fun _ _ _ h=>h
   Ll:=fun _ _ _ _ _ h=>h}
  have c1own : ∀ r,c1.owned r→c.owned r:=by
   rintro r (⟨_,_,h,_⟩ | ⟨l,o,h,hr⟩ | h)
   ·cases h
   ·exact .inr (.inl ⟨l,o,h,hr⟩)
   ·exact h.elim
  let S : Sx:={ box:=m.s.box
                list:=fun x=>match wS s.nl t.lists.length x with | some i=>(fillO l t.lists).getD i none | none=>m.s.list x}
  have freshL : ∀ x,s.nl≤x→x<s.nl+t.lists.length→¬ m.ρ.ul x:=fun x h1 h2=>sit.fl x h1 (by omega)
  have cb0 : ∀ x,dO [] s.nb 0 x=none:=fun x=>by
   unfold dO
   simp only [idx]
   rw [if_neg (by omega)]
  have listC : ∀ i w,(fillO l t.lists)[i]? = some (some w)→c.s.list i=some w:=by
   intro i w hi
   obtain ⟨ts,hts⟩:=sN l hi
   obtain ⟨x',w2,g1,g2,_⟩:=HO i ts hts
   rw [hi] at g2
   cases g2
   have g1 : (s0.pick a0).list i=some w:=by
    have:=lY (n:=0) g1
    rw [Nat.zero_add] at this
    exact this
   rw [← hfull.list i] at g1
   exact g1
  have came : tM m c1 false [] [] [] s.nb 0 s.nl t.lists.length S:={
   kk:=fun _=>rfl
   kn:=List.nodup_nil
   ks:=by simp
   row:=fun i l0 h=>by simp at h
   inv:=sit.inv
   cinv:=c1inv
   nb:=List.nodup_nil
   ab:=by simp
   al:=by simp
   size:=fw.size
   os:=fw.os
   tape:=fw.tape
   output:=fw.output
   keep:=fun r hr _=>fw.keep r hr (own0 r)
   own:=fun r hr=>.inr ((fw.own r (c1own r hr)).resolve_left (own0 r))
   z:=fun r hr=>hr.2.imp id (fun h=>.inr h)
   zz:=fun r hr=>⟨fw.zz r (.inl hr),.inl hr⟩
   box:=fun i b h=>by simp at h
   freshB:=fun x h1 h2=>by omega
   freshL:=freshL
   sb:=fun x cs hx=>.inr ⟨cb0 x,cs,hx,(List.map_id _).symm⟩
   sbx:=fun x hx=>hx
   sl:=fun x o hx=>by
    have hx : (match wS s.nl t.lists.length x with | some i=>(fillO l t.lists).getD i none | none=>m.s.list x)=some o:=hx
    rw [aCb]
    cases hcl : wS s.nl t.lists.length x with
    | none=>rw [hcl] at hx;exact .inr ⟨rfl,by simp,hx⟩
    | some i=>
      rw [hcl] at hx
      exact .inl ⟨i,rfl,listC i o (getD_some hx)⟩}
  have listL : ∀ x,look x (backO s.nl (fillO l t.lists) s.lists)=match wS s.nl t.lists.length x with | some i=>(fillO l t.lists).getD i none | none=>s.list x:=fun x=>by
   have:=aE8 (x:=x) (cs:=fillO l t.lists) (n:=s.nl) (old:=s.lists)
   rw [sC] at this
   exact this
  have hres : c1.rd (fillD l t.res) v:=hflat.rd (fun _ h=>h) (hless c v hdv)
  refine ⟨m.back c1 [] [] s.nb 0 s.nl t.lists.length S,hw,?_,?_⟩
  ·refine {
    step:=by have:=came.step sn1 (by omega) sn2 hnl;exact this
    after:=⟨fun x hx=>sit.ab x hx,fun x hx=>?_,fun _ _ _=>rfl,fun x h1 h2=>?_,fun _ _ _=>rfl,fun x h1 h2=>?_⟩
    nb:=Nat.le_refl _
    nl:=Nat.le_add_right _ _
    ub:=fun x hx hu=>hu.elim id (fun h=>by omega)
    ul:=fun x hx hu=>hu.elim id (fun h=>by have hx : s.nl+t.lists.length≤x:=hx;omega)}
   ·show (match wS s.nl t.lists.length x with | some i=>(fillO l t.lists).getD i none | none=>m.s.list x)=look x (backO s.nl (fillO l t.lists) s.lists)
    rw [listL x]
    cases wS s.nl t.lists.length x with
    | some i=>rfl
    | none=>exact sit.al x hx
   ·show (match wS s.nl t.lists.length x with | some i=>(fillO l t.lists).getD i none | none=>m.s.list x)=_
    rcases aE9 s.nl t.lists.length x with ⟨i,g1,g2,g3⟩ | ⟨g1,_⟩
    ·exact absurd ⟨by omega,by omega⟩ h2
    ·rw [g1]
   ·show look x (backO s.nl (fillO l t.lists) s.lists)=_
    rw [listL x]
    rcases aE9 s.nl t.lists.length x with ⟨i,g1,g2,g3⟩ | ⟨g1,_⟩
    ·exact absurd ⟨by omega,by omega⟩ h2
    ·rw [g1]
  ·refine cU.renum (ρ:=c1.ρ) (live:=c1.s.live) (fun b b' hu hbb=>by cases hbb) (fun l0 l' hu hll=>?_) deep hres
   unfold backFl at hll
   cases hll
   have hlt:=hul l0 hu
   rw [← lenL] at hlt
   have hcl : wS s.nl t.lists.length (s.nl+l0)=some l0:=by
    unfold wS
    rw [if_pos ⟨by omega,by omega⟩]
    congr 1
    omega
   refine ⟨.inr ⟨by omega,by omega⟩,fun hv=>⟨?_,?_,?_,?_⟩⟩
   ·have hv : (match wS s.nl t.lists.length (s.nl+l0) with | some i=>(fillO l t.lists).getD i none | none=>m.s.list (s.nl+l0))≠none:=hv
    rw [hcl] at hv
    obtain ⟨w1,hw1⟩:=Option.ne_none_iff_exists'.1 hv
    have:=listC l0 w1 (getD_some hw1)
    show c.s.list l0≠none
    rw [this];simp
   ·show (match dO [] s.nl t.lists.length (s.nl+l0) with | some i=>c.ρ.hdr i | none=>_)=_
    rw [aCb,hcl]
   ·show (match dO [] s.nl t.lists.length (s.nl+l0) with | some i=>c.ρ.ty i | none=>_)=_
    rw [aCb,hcl]
   ·show (match dO [] s.nl t.lists.length (s.nl+l0) with | some i=>c.ρ.fp i | none=>_)=_
    rw [aCb,hcl]
end
section
variable {P : Program} {X : Cx} {O : Orc}
theorem aBl : ∀ (ds : List DV) (ts : List Nat) (s : St) (k : List DV→St→Option R),ownArgs X ds ts s k=ownCells X ds (ts.map (elemOf X)) s k
 | [],ts,s,k=>by cases ts<;>rfl
 | d::ds,[],s,k=>rfl
 | d::ds,t::ts,s,k=>by
   unfold ownArgs ownCells
   simp only [List.map_cons]
   cases d<;>cases elemOf X t<;>simp only [aBl ds ts]
theorem aGl {f : Nat} (hP : aCR P O.C) : ∀ ps r,O.C f ps=some r→jM P f∧∀ (w : World) (Z : Nat→Prop) (aU us : Array Value),ZOk w Z→ps.length=aU.size→
 (∀ (i : Nat) x v,ps[i]? = some x→aU[i]? = some v→eU w Z x v)→([] : List PV).length=us.size→(∀ (i : Nat) x v,([] : List PV)[i]? = some x→us[i]? = some v→eU w Z x v)→
 Calls P f (aU++us) w (fun e w'=>∃ v,e = .returned v∧∃ Z',aB9 w w' Z Z'∧eU w' Z' (hd r) v):=by
 intro ps r h
 obtain ⟨h1,h2⟩:=hP f ps r h
 refine ⟨h1,fun w Z aU us hz hl hr hu _=>?_⟩
 have : us = #[]:=Array.eq_empty_of_size_eq_zero hu.symm
 subst this
 rw [Array.append_empty]
 exact h2 w Z aU hz hl hr
theorem zG (kp : Bool) (kl : List Nat) (t : Nat) (e : Env) : (scrubKeptE kp kl e).get t=scrubKeptD kp kl (e.get t):=by
 unfold scrubKeptE scrubKeptD
 cases kp with
 | true=>exact wM kl t e
 | false=>rfl
theorem aFe {t : Tmpl} {args : List DV} {l : Nat} {path : dM} {rest : List DV} (h : nestedArg t args=some (l,path,rest)) : args = .ref l path::rest∧path≠[]∧t.keep=true:=by
 unfold nestedArg at h
 split at h
 ·split at h
  ·rename_i hc
   cases h
   simp only [Bool.and_eq_true] at hc
   exact ⟨rfl,by simp,hc.1⟩
  ·cases h
 ·cases h
theorem aGm {b : Bool} {kl : List Nat} {l : Nat} {path : dM} (h : mem l kl=false) : scrubKeptD b kl (.ref l path) = .ref l path:=by
 unfold scrubKeptD
 cases b<;>simp [deep,scrub,scrub1,h]
theorem aGn {b : Bool} {kl : List Nat} {l : Nat} : scrubKeptD b kl (.ref l []) = .ref l []:=by
 unfold scrubKeptD
 cases b<;>simp [deep,scrub,scrub1]
theorem aIZ (hP : aCR P O.C) (hS : aFb P X.mode O.S) (hwf : ∀ g t,X.mode g=some t→t.wf=true) {f : Nat} {args : List DV} {ts : List Nat} {e : Env} {s : St} {k : DV→Env→St→Option R} {r : R} (h : callK X O f args ts e s k=some r) :
 jM P f∧∃ d' e' s' scr,k d' e' s'=some r∧(∀ t,e'.get t=scr (e.get t))∧((match X.mode f with | some t=>{ deepFoot s args (!t.lent) with last:=!t.lent&&t.keep} | none=>deepFoot s args false).last=false→scr=_root_.id)∧∀ (n : Nat) (m : aV) (B L WB WL : Nat→Prop),nM m s B L n→s'.nb≤n+16→s'.nl≤n+16→
  (∀ ft,ft=(match X.mode f with | some t=>{ deepFoot s args (!t.lent) with last:=!t.lent&&t.keep} | none=>deepFoot s args false)→ft.Cov B L WB WL∧(ft.ok=true∨∀ x,B x∧L x))→
  ∀ vs : Array Value,args.length=vs.size→(∀ (i : Nat) d v,args[i]? = some d→vs[i]? = some v→m.rd d v)→
    Calls P f vs m.w (fun e w'=>∃ v,e = .returned v∧∃ m',m'.w=w'∧bM m m' s s' B L WB WL n scr∧m'.rd d' v):=by
 unfold callK at h
 split at h
 ·rename_i hmode
  unfold pureK at h
  obtain ⟨hcb,d',hk,H⟩:=aIW (caps:=[]) (k:=fun d s=>k d e s) (aGl hP) h
  refine ⟨hcb,d',e,s,_root_.id,hk,fun _=>rfl,fun _=>rfl,fun n m B L WB WL sit _ _ hft vs hl hr=>?_⟩
  obtain ⟨C,hok⟩:=hft _ rfl
  rw [hmode] at C hok
  have:=H n m B L WB WL sit (aHN sit C hok) vs #[] hl hr rfl (fun i x v h=>by simp at h)
  rwa [Array.append_empty] at this
 ·rename_i t hmode
  split at h
  ·rename_i hlent
   obtain ⟨hcb,d',s',hk,H⟩:=lentK_sound hS hmode (hwf f t hmode) h
   refine ⟨hcb,d',e,s',_root_.id,hk,fun _=>rfl,fun _=>rfl,fun n m B L WB WL sit hnb hnl hft vs hl hr=>?_⟩
   obtain ⟨C,hok⟩:=hft _ rfl
   rw [hmode] at C hok
   simp only [hlent,Bool.not_true,Bool.false_and] at C hok
   exact H n m B L WB WL sit hnb hnl (aHN sit C hok) vs hl hr
  ·rename_i hlent
   have hlent : t.lent=false:=by simpa using hlent
   split at h
   ·rename_i l path rest hna
    obtain ⟨hargs,hpath,hkeep⟩:=aFe hna
    subst hargs
    obtain ⟨s1,h1,hs1,HLV⟩:=aD2 hpath h
    obtain ⟨hcb,d',s2,kl,hk2,hs2,H⟩:=aDN hS hmode (hwf f t hmode) h1
    split at hk2
    ·cases hk2
    rename_i hnk
    obtain ⟨s3,hk3,hnl3,hnb3,HB⟩:=aEW hpath hk2
    refine ⟨hcb,d',scrubKeptE t.keep kl e,s3,scrubKeptD t.keep kl,hk3,fun t'=>zG t.keep kl t' e,fun hla=>?_,fun n m B L WB WL sit hnb hnl hft vs hl hr=>?_⟩
    ·rw [hmode] at hla
     simp only [hlent,Bool.not_false,Bool.true_and] at hla
     rw [hkeep] at hla;cases hla
    obtain ⟨C,hok⟩:=hft _ rfl
    rw [hmode] at C hok
    simp only [hlent,Bool.not_false,Bool.true_and] at C hok
    have hall:=C.all hkeep
    have hsz : 0<vs.size:=by rw [← hl];simp
    have hv0:=hr 0 _ vs[0] rfl (Array.getElem?_eq_getElem hsz)
    obtain ⟨m1,hw1,G1,hd1⟩:=HLV n m B L WB WL sit (by omega) ⟨(hall l).2.1,(hall l).2.2.2⟩ _ hv0
    have sit1:=G1.sit sit
    have:=H n m1 B L WB WL sit1 (by omega) (by omega) sit.nl (fun b _=>⟨(hall b).1,(hall b).2.2.1⟩) (fun l _=>⟨(hall l).2.1,(hall l).2.2.2⟩) (fun _ x=>⟨⟨(hall x).1,(hall x).2.2.1⟩,⟨(hall x).2.1,(hall x).2.2.2⟩⟩) vs (by simpa using hl) (fun i d v h1 h2=>by
     cases i with
     | zero=>
       rw [Array.getElem?_eq_getElem hsz] at h2
       cases h1;cases h2;exact hd1
     | succ i=>exact G1.step.rd _ _ (hr (i+1) d v h1 h2))
    rw [hw1] at this
    refine this.mono ?_
    rintro e w' ⟨v,rfl,m',hw,G,hd⟩
    have sit2:=G.sit sit1
    have g1 : m'.rd (.ref l path) vs[0]:=by
     have : m'.rd (scrubKeptD t.keep kl (.ref l path)) vs[0]:=G.step.rd _ _ (G1.step.rd _ _ hv0)
     rwa [aGm (by simpa using hnk)] at this
    have g2 : m'.rd (.ref s.nl []) vs[0]:=by
     have : m'.rd (scrubKeptD t.keep kl (.ref s.nl [])) vs[0]:=G.step.rd _ _ hd1
     rwa [aGn] at this
    obtain ⟨m3,hw3,G3⟩:=HB n m' B L WB WL sit2 ⟨(hall l).2.1,(hall l).2.2.2⟩ ⟨(hall _).2.1,(hall _).2.2.2⟩ _ g1 g2
    exact ⟨v,rfl,m3,hw3.trans hw,(G1.trans G).trans G3,G3.step.rd _ _ hd⟩
   rw [aBl] at h
   obtain ⟨ds',s1,h1,hlen,hms,HM⟩:=kK h
   obtain ⟨hcb,d',s',kl,hk,hs1,H⟩:=aDN hS hmode (hwf f t hmode) h1
   refine ⟨hcb,d',scrubKeptE t.keep kl e,s',scrubKeptD t.keep kl,hk,fun t'=>zG t.keep kl t' e,fun hla=>?_,fun n m B L WB WL sit hnb hnl hft vs hl hr=>?_⟩
   ·rw [hmode] at hla
    simp only [hlent,Bool.not_false,Bool.true_and] at hla
    unfold scrubKeptD
    rw [hla];rfl
   obtain ⟨C,hok⟩:=hft _ rfl
   rw [hmode] at C hok
   simp only [hlent,Bool.not_false,Bool.true_and] at C hok
   obtain ⟨m1,M1,hr1⟩:=HM n m sit.inv sit.nl (by omega) sit.fl vs.toList (fun i d u h1 h2=>hr i d u h1 (by simpa using h2))
   have G1:=M1.goes WB WL sit hms (by omega)
   have sit1:=G1.sit sit
   have hwb : (deepFoot s args true).wb=(deepFoot s args true).rb:=rfl
   have hwl : (deepFoot s args true).wl=(deepFoot s args true).rl:=rfl
   have:=H n m1 B L WB WL sit1 hnb hnl sit.nl (fun b hb=>⟨C.rb b hb,C.wb b (by show b∈(deepFoot s args true).wb;rw [hwb];exact hb)⟩) (fun l hl=>⟨C.rl l hl,C.wl l (by show l∈(deepFoot s args true).wl;rw [hwl];exact hl)⟩) (fun hkp x=>⟨⟨(C.all hkp x).1,(C.all hkp x).2.2.1⟩,⟨(C.all hkp x).2.1,(C.all hkp x).2.2.2⟩⟩) vs (by omega) (fun i d v h1 h2=>hr1 i d v h1 (by simpa using h2))
   rw [M1.w] at this
   refine this.mono ?_
   rintro e w' ⟨v,rfl,m',hw,G,hd⟩
   exact ⟨v,rfl,m',hw,G1.trans G,hd⟩
theorem aJ9 (hP : aCR P O.C) (hS : aFb P X.mode O.S) (hwf : ∀ g t,X.mode g=some t→t.wf=true) : aB5 P X O:=by
 intro d args ts e s k r h
 unfold applyK at h
 split at h
 ·rename_i f caps
  obtain ⟨hcb,d',e',s',scr,hk,he,hid,H⟩:=aIZ hP hS hwf h
  have hfeq : callFoot X (.fn f caps) args s=(match X.mode f with | some t=>{ deepFoot s (args++caps) (!t.lent) with last:=!t.lent&&t.keep} | none=>deepFoot s (args++caps) false):=by
   unfold callFoot
   simp only
   cases X.mode f<;>rfl
  refine ⟨d',e',s',scr,hk,he,fun hla=>hid (by rw [← hfeq];exact hla),fun n m B L WB WL sit hnb hnl C hok vf vs hvf hl hr=>?_⟩
  cases hvf with
  | fn _ _ us hul hur=>
    have e1 : (do let df ← Deferred.ofValue (.func (.func f) #[] us.toArray) vs;invoke df.target df.args : Sem Next).run P m.w = .ok (.enter f (vs++us.toArray)) m.w:=by
     simp [Deferred.ofValue,invoke,aB8 hcb]
    rw [e1]
    refine (H n m B L WB WL sit hnb hnl (fun ft hft=>?_) (vs++us.toArray) (by simp;omega) (fun i d v hd hv=>?_))
    ·rw [hfeq,← hft] at C hok
     exact ⟨C,hok⟩
    ·rw [Array.getElem?_append] at hv
     split at hv
     ·rename_i hi
      rw [List.getElem?_append_left (by omega)] at hd
      exact hr i d v hd hv
     ·rename_i hi
      rw [List.getElem?_append_right (by omega)] at hd
      refine hur (i - args.length) d v hd ?_
      rw [hl]
      simpa using hv
 ·rename_i v
  cases v with
  | fn f caps=>
    obtain ⟨hcb,d',hk,H⟩:=aIW (P:=P) (f:=f) (C:=fun vs=>PV.apply O.C (.fn f caps) vs) (caps:=caps) (k:=fun d s=>k d e s) (fun ps r0 h0=>by
     have h0 : O.C f (ps++caps)=some r0:=h0
     obtain ⟨h1,h2⟩:=hP f _ _ h0
     refine ⟨h1,fun w Z aU us hz hl hr hul hur=>h2 w Z (aU++us) hz (by simp;omega) (fun i x v hx hv=>?_)⟩
     rw [Array.getElem?_append] at hv
     split at hv
     ·rw [List.getElem?_append_left (by omega)] at hx
      exact hr i x v hx hv
     ·rw [List.getElem?_append_right (by omega)] at hx
      exact hur (i - ps.length) x v hx (by rw [hl];exact hv)) h
    refine ⟨d',e,s,id,hk,fun _=>rfl,fun _=>rfl,fun n m B L WB WL sit hnb hnl C hok vf vs hvf hl hr=>?_⟩
    cases hvf with
    | p _ _ hvf=>cases hvf with
      | fn _ _ us hul hur=>
        have e1 : (do let df ← Deferred.ofValue (.func (.func f) #[] us.toArray) vs;invoke df.target df.args : Sem Next).run P m.w = .ok (.enter f (vs++us.toArray)) m.w:=by
         simp [Deferred.ofValue,invoke,aB8 hcb]
        rw [e1]
        exact H n m B L WB WL sit (aHN (ds:=args) (wr:=false) sit C hok) vs us.toArray hl hr (by simpa using hul) (fun i x v hx hv=>hur i x v hx (by simpa using hv))
  | _=>
    exfalso
    split at h<;>
    ·obtain ⟨ps,h1,_⟩:=tU (s:=s) h
     obtain ⟨r0,hr0,_⟩:=aO h1
     simp [PV.apply] at hr0
 ·cases h
end
structure Hyp (P : Program) (T : Tab) (H : Hints) : Prop where
 tab : T=tabOf P
 zero : jW P H.zok
 mixed : P.follows .mixedOrders=true
 code : ∀ (f : Nat) (fn : Func) (c : Code),P.funcs[f]? = some fn→fn.body=some c→codeOk fn.ntmps c=true∧fn.name≠ "runtime.NumGoroutine"
 prim : aCR P fun g args=>(H.prim g).bind fun p=>p args
 primS : ∀ g h,H.primS g=some h→∀ t args s l,H.mode g=some t→h args s=some l→jM P g∧∀ (m : aV) (aU : Array Value),fM m s s.base→args.length=aU.size→
  (∀ (i : Nat) d v,args[i]? = some d→aU[i]? = some v→m.rd d v)→Calls P g aU m.w (fun e w'=>∃ v,e = .returned v∧sM m s.boxes.length (if t.keep then s.lists.length else 0) (some (t.fit s)) l v w')
 glob : ∀ g,H.glob g=none
 wf : ∀ g t,H.mode g=some t→t.wf=true
section
variable {P : Program} {T : Tab} {H : Hints}
theorem aFf : ∀ (ds : List DV) (n t : Nat),(argEnv n ds).get t=if n≤t then ds.getD (t - n) .dead else .dead
 | [],n,t=>by simp [argEnv,Env.get]
 | d::r,n,t=>by
   unfold argEnv
   simp only [Env.get]
   by_cases h : t=n
   ·subst h;simp
   ·have hb : Nat.beq t n=false:=by
     cases hb : Nat.beq t n with
     | false=>rfl
     | true=>exact absurd (bI hb) h
    rw [hb]
    simp only [Bool.false_eq_true,if_false]
    rw [aFf]
    by_cases h2 : n≤t
    ·rw [if_pos h2,if_pos (by omega),show t - n=t - (n+1)+1 by omega]
     simp [List.getD]
    ·rw [if_neg h2,if_neg (by omega)]
theorem aI0 {m : aV} {args : List DV} {vs : Array Value} {n : Nat} (hl : args.length=vs.size) (hr : ∀ (i : Nat) d v,args[i]? = some d→vs[i]? = some v→m.rd d v) :
 fV m (argEnv 0 args).get ⟨vs++Array.replicate n undef,[]⟩:=by
 intro t
 rw [aFf,if_pos (Nat.zero_le _),Nat.sub_zero]
 by_cases h : t<args.length
 ·have hd : args[t]? = some args[t]:=List.getElem?_eq_getElem h
  have hv : vs[t]? = some (vs[t]'(by omega)):=Array.getElem?_eq_getElem (by omega)
  have e1 : args.getD t .dead=args[t]:=by rw [List.getD,hd];rfl
  have e2 : Act.eval ⟨vs++Array.replicate n undef,[]⟩ (.tmp t)=vs[t]'(by omega):=by
   show (vs++Array.replicate n undef).getD t undef=_
   rw [Array.getD_eq_getD_getElem?,Array.getElem?_append_left (by omega),hv];rfl
  rw [e1,e2]
  exact hr t _ _ hd hv
 ·have e1 : args.getD t .dead = .dead:=by rw [List.getD,List.getElem?_eq_none (by omega)];rfl
  rw [e1]
  exact .dead _
theorem aA5 {f : Nat} {fn : Func} {c : Code} (hfn : P.funcs[f]? = some fn) (hc : fn.body=some c) {nb nl : Nat} {out : Option Tmpl} {args : List DV} {s : St} {r : R} (hg : aNJ P f nb nl out [.code c] (argEnv 0 args) s r)
 {m : aV} {vs : Array Value} (hf : fM m s s.base) (hl : args.length=vs.size) (hr : ∀ (i : Nat) d v,args[i]? = some d→vs[i]? = some v→m.rd d v) :
 Calls P f vs m.w (fun e w'=>∃ v,e = .returned v∧sM m nb nl out r v w'):=by
 intro cs
 let b : Frame:={ (default : Frame) with fn:=f,kind:=.normal}
 have henter : Frame.enter P f vs .normal=b.at ⟨vs++Array.replicate (fn.ntmps - vs.size) undef,[]⟩ [.code c]:=by
  simp [Frame.enter,Frame.at,hfn,hc,b]
 obtain ⟨v,w',fr,h1,h2,h3,h4⟩:=hg m ⟨vs++Array.replicate (fn.ntmps - vs.size) undef,[]⟩ fn hfn hf (aI0 hl hr) (by simp;omega) rfl b cs rfl rfl
 rw [← henter] at h2
 exact ⟨.returned v,w',fr,⟨v,rfl,h1⟩,h2,h3,h4⟩
theorem aBm {f : Nat} {n nb nl : Nat} {out : Option Tmpl} {e : Env} {s : St} {r : R} (h : runN P T H n f nb nl out (startOf P f) e s=some r) : ∃ fn c,P.funcs[f]? = some fn∧fn.body=some c∧startOf P f = [.code c]:=by
 cases hb : bodyOf P f with
 | none=>
   exfalso
   cases n with
   | zero=>simp [runN] at h
   | succ n=>
     unfold runN at h
     have hs : startOf P f = [.code (.refuse "")]:=by unfold startOf;rw [hb]
     rw [hs] at h
     unfold evalFuel eval at h
     simp at h
 | some c=>
   have hs : startOf P f = [.code c]:=by unfold startOf;rw [hb]
   unfold bodyOf at hb
   cases hf : P.funcs[f]? with
   | none=>rw [hf] at hb;cases hb
   | some fn=>rw [hf] at hb;exact ⟨fn,c,rfl,hb,hs⟩
theorem aOk (hy : Hyp P T H) {g : Nat} {fn : Func} {c : Code} (hg : P.funcs[g]? = some fn) (hc : fn.body=some c) : lP fn.ntmps [.code c]:=fun x hx=>by
 simp at hx;subst hx;exact (hy.code _ _ _ hg hc).1
def aKR (P : Program) (run : Nat→Nat→Nat→Option Tmpl→List Item→Env→St→Option R) : Prop:=∀ (f nb nl : Nat) (out : Option Tmpl) (todo : List Item) (e : Env) (s : St) (r : R) (fn : Func),run f nb nl out todo e s=some r→P.funcs[f]? = some fn→lP fn.ntmps todo→aNJ P f nb nl out todo e s r
def aMA (P : Program) (run : Nat→Nat→Nat→Option Tmpl→List Item→Env→St→Option R) : Prop:=∀ {f nb nl : Nat} {out : Option Tmpl} {e : Env} {s : St} {r : R},run f nb nl out (startOf P f) e s=some r→∃ fn c,P.funcs[f]? = some fn∧fn.body=some c∧startOf P f = [.code c]
variable {run : Nat → Nat → Nat → Option Tmpl → List Item → Env → St → Option R}
theorem aI1 (hy : Hyp P T H) (hrun : aKR P run) (hst : aMA P run) (f nb nl : Nat) (out : Option Tmpl) : aCR P (orcOf P H run f nb nl out).C:=by
 intro g args r h
 have h : (match H.prim g with | some h=>h args | none=>run g 0 0 none (startOf P g) (argEnv 0 (args.map .p)) ⟨[],[],0,0,0⟩)=some r:=h
 cases hpr : H.prim g with
 | some p=>
   rw [hpr] at h
   exact hy.prim g args r (by simp only [hpr,Option.bind_some];exact h)
 | none=>
 rw [hpr] at h
 simp only at h
 obtain ⟨fg,c,hfg,hc,hst'⟩:=hst h
 rw [hst'] at h
 have good:=hrun g 0 0 none _ _ _ r fg h hfg (aOk hy hfg hc)
 refine ⟨⟨fg,c,hfg,hc,(hy.code _ _ _ hfg hc).2⟩,fun w Z aU hz hl hr=>?_⟩
 let m0 : aV:={ w:=w,Z:=Z,s:={ box:=fun _=>none,list:=fun _=>none},L:=fun _=>False,
                ρ:={ box:=fun _=>0,hdr:=fun _=>.nilFunc,fp:=fun _ _=>False,ty:=fun _=>.leaf,ub:=fun _=>False,ul:=fun _=>False}}
 have full0 : fM m0 ⟨[],[],0,0,0⟩ 0:={
  inv:={
   ub:=fun _ _ h=>by cases h
   ul:=fun _ _ h=>by cases h
   zlt:=hz
   box:=fun _ _ h=>by cases h
   row:=fun _ _ h=>by cases h
   bz:=fun _ _ h=>by cases h
   bb:=fun _ _ _ _ h=>by cases h
   bl:=fun _ _ _ _ h=>by cases h
   ll:=fun _ _ _ _ _ h=>by cases h
   Lz:=fun _ h=>h.elim
   Lb:=fun _ _ _ h=>h
   Ll:=fun _ _ _ _ _ h=>h}
  box:=fun _=>rfl
  list:=fun _=>rfl
  ub:=fun _ h=>h.elim
  ul:=fun _ h=>h.elim}
 have own0 : ∀ r,¬ m0.owned r:=by
  rintro r (⟨_,_,h,_⟩ | ⟨_,_,h,_⟩ | h)
  ·cases h
  ·cases h
  ·exact h
 refine (aA5 hfg hc good (m:=m0) (vs:=aU) full0 (by simpa using hl) (fun i d v hd hv=>?_)).mono ?_
 ·rw [List.getElem?_map] at hd
  cases hp : args[i]? with
  | none=>rw [hp] at hd;cases hd
  | some p=>rw [hp] at hd;cases hd;exact .p _ _ (hr i p v hp hv)
 ·rintro e w' ⟨v,rfl,m',rfl,inv',fw,pv,rfl,hrep⟩
  refine ⟨v,rfl,fun x=>m'.Z x∨m'.owned x,⟨fw.size,fw.os,fw.tape,fw.output,fun r hr=>fw.keep r hr (own0 r),fun r hr=>.inl (fw.zz r hr),fun r hr=>?_⟩,hrep⟩
  rcases hr with hr | hr
  ·rcases fw.z r hr with h | h | h
   ·exact .inl h
   ·exact (own0 r h).elim
   ·exact .inr ⟨h,inv'.zlt r hr⟩
  ·exact .inr ⟨(fw.own r hr).resolve_left (own0 r),inv'.owned_lt hr⟩
theorem aMB (hy : Hyp P T H) (hrun : aKR P run) (hst : aMA P run) (f nb nl : Nat) (out : Option Tmpl) : aFb P H.mode (orcOf P H run f nb nl out).S:=by
 intro g t args s l hmode h
 have h : (match H.mode g with | some t=>(match H.primS g with | some h=>h args s | none=>run g s.boxes.length (if t.keep then s.lists.length else 0) (some (t.fit s)) (startOf P g) (argEnv 0 args) s) | none=>none)=some l:=h
 rw [hmode] at h
 simp only at h
 cases hps : H.primS g with
 | some p=>
   rw [hps] at h
   exact hy.primS g p hps t args s l hmode h
 | none=>
 rw [hps] at h
 simp only at h
 obtain ⟨fg,c,hfg,hc,hst'⟩:=hst h
 rw [hst'] at h
 have good:=hrun g s.boxes.length (if t.keep then s.lists.length else 0) (some (t.fit s)) _ _ _ l fg h hfg (aOk hy hfg hc)
 exact ⟨⟨fg,c,hfg,hc,(hy.code _ _ _ hfg hc).2⟩,fun m aU hf hl hr=>aA5 hfg hc good hf hl hr⟩
theorem aG3 (hy : Hyp P T H) : ∀ (n : Nat),aKR P (runN P T H n)
 | 0,_,_,_,_,_,_,_,_,_,h,_,_=>by simp [runN] at h
 | n+1,f,nb,nl,out,todo,e,s,r,fn,h,hfn,hok=>by
   unfold runN at h
   have ih:=aG3 hy n
   have hP:=aI1 hy ih aBm f nb nl out
   have hS:=aMB hy ih aBm f nb nl out
   refine aE6 (X:=cxOf P T H f nb nl out) (O:=orcOf P H (runN P T H n) f nb nl out) hy.tab hy.zero hy.glob (aJ9 hP hS hy.wf) hy.mixed hfn ?_ (fun todo e s r h hk=>ih f nb nl out todo e s r fn h hfn hk) evalFuel true todo e s r h hok
   show ((P.funcs[f]?).map (·.results.toList)).getD []=_
   rw [hfn];rfl
end
def aK {β : Type} (a : Option β) (b : Nat→Option β) : Prop:=∀ r,a=some r→∃ N,∀ n,N≤n→b n=some r
section
variable {α β : Type}
theorem aK.none {b : Nat→Option β} : aK (Option.none : Option β) b:=fun r h=>by cases h
theorem aK.rfl (a : Option β) : aK a (fun _=>a):=fun r h=>⟨0,fun _ _=>h⟩
theorem aK.bd {o : Option α} {k : α→Option β} {k' : Nat→α→Option β} (h : ∀ a,aK (k a) (fun n=>k' n a)) : aK (bd o k) (fun n=>bd o (k' n)):=by
 cases o with
 | none=>exact aK.none
 | some a=>exact h a
theorem aK.bd2 {o : Option α} {o' : Nat→Option α} {k : α→Option β} {k' : Nat→α→Option β} (ho : aK o o') (h : ∀ a,aK (k a) (fun n=>k' n a)) : aK (Go.Proofs.YthkofpnllaapeaaGreat.bd o k) (fun n=>Go.Proofs.YthkofpnllaapeaaGreat.bd (o' n) (k' n)):=by
 intro r hr
 obtain ⟨a,ha,hk⟩:=aO hr
 obtain ⟨N,hN⟩:=ho a ha
 obtain ⟨M,hM⟩:=h a r hk
 refine ⟨max N M,fun n hn=>?_⟩
 show Go.Proofs.YthkofpnllaapeaaGreat.bd (o' n) (k' n)=some r
 rw [hN n (by omega)]
 exact hM n (by omega)
theorem aK.pvite {c : PV} {a b : Option β} {a' b' : Nat→Option β} (ha : aK a a') (hb : aK b b') : aK (PV.ite c a b) (fun n=>PV.ite c (a' n) (b' n)):=by
 intro r hr
 rcases vU hr with ⟨rfl,h⟩ | ⟨rfl,h⟩
 ·obtain ⟨N,hN⟩:=ha r h
  exact ⟨N,fun n hn=>hN n hn⟩
 ·obtain ⟨N,hN⟩:=hb r h
  exact ⟨N,fun n hn=>hN n hn⟩
theorem aK.nilT {c : PV} {a b : Option β} {a' b' : Nat→Option β} (ha : aK a a') (hb : aK b b') : aK (PV.nilT c a b) (fun n=>PV.nilT c (a' n) (b' n)):=by
 intro r hr
 obtain ⟨h1,h2⟩:=aG0 hr
 obtain ⟨M,hM⟩:=hb r h2
 cases c with
 | lst xs=>
   cases xs with
   | nil=>
     obtain ⟨N,hN⟩:=ha r (h1 (Eq.refl _))
     refine ⟨max N M,fun n hn=>?_⟩
     show @_root_.ite _ (a' n=b' n) (Classical.propDecidable _) (a' n) Option.none=some r
     rw [hN n (by omega),hM n (by omega),if_pos (Eq.refl _)]
   | cons x xs=>exact ⟨M,fun n hn=>hM n hn⟩
 | _=>cases hr
theorem aK.ite {c : Prop} [Decidable c] {a b : Option β} {a' b' : Nat→Option β} (ha : aK a a') (hb : aK b b') : aK (if c then a else b) (fun n=>if c then a' n else b' n):=by
 by_cases h : c
 ·simp only [h,if_true];exact ha
 ·simp only [h,if_false];exact hb
theorem aK.flat {r : PV} {a : Option β} {a' : Nat→Option β} (ha : aK a a') : aK (PV.guardFlat r a) (fun n=>PV.guardFlat r (a' n)):=by
 unfold PV.guardFlat;exact aK.ite ha aK.none
theorem aK.own {o : OTy} {r : PV} {a : Option β} {a' : Nat→Option β} (ha : aK a a') : aK (PV.guardOwn o r a) (fun n=>PV.guardOwn o r (a' n)):=by
 unfold PV.guardOwn;exact aK.ite ha aK.none
end
section
variable {X : Cx}
theorem aCd {v : PV} : ∀ {m : Nat} {k : List PV→Option R} {k' : Nat→List PV→Option R},(∀ l,aK (k l) (fun n=>k' n l))→aK (cellsK.go v m k) (fun n=>cellsK.go v m (k' n))
 | 0,_,_,h=>h []
 | _+1,_,_,h=>by
   unfold cellsK.go
   exact aCd fun l=>aK.bd fun c=>h _
theorem nA {m : Nat} {d : DV} {k : List DV→Option R} {k' : Nat→List DV→Option R} (h : ∀ l,aK (k l) (fun n=>k' n l)) : aK (cellsK m d k) (fun n=>cellsK m d (k' n)):=by
 cases d<;>simp only [cellsK]<;>first
  | exact aK.none
  | exact aK.ite (h _) aK.none
  | exact aK.bd fun v=>aCd fun l=>h _
theorem iN : ∀ {path : dM} {o : OTy} {c : PV} {k : OTy→PV→Option R} {k' : Nat→OTy→PV→Option R},(∀ o c,aK (k o c) (fun n=>k' n o c))→aK (getK o c path k) (fun n=>getK o c path (k' n))
 | [],_,_,_,_,h=>h _ _
 | (i,j)::r,o,c,k,k',h=>by
   unfold getK
   exact aK.bd fun x=>aK.ite (aK.bd fun y=>iN h) (aK.ite (iN h) aK.none)
theorem pD : ∀ {path : dM} {o : OTy} {c y : PV} {k : PV→Option R} {k' : Nat→PV→Option R},(∀ c,aK (k c) (fun n=>k' n c))→aK (setK o c path y k) (fun n=>setK o c path y (k' n))
 | [],_,_,_,_,_,h=>h _
 | (i,j)::r,o,c,y,k,k',h=>by
   unfold setK
   exact aK.bd fun x=>aK.ite (aK.bd fun z=>pD fun z'=>aK.bd h) (aK.ite (pD fun z'=>aK.bd h) aK.none)
theorem sD {s : St} {d : DV} {k : OTy→PV→Option R} {k' : Nat→OTy→PV→Option R} (h : ∀ o c,aK (k o c) (fun n=>k' n o c)) : aK (rowK s d k) (fun n=>rowK s d (k' n)):=by
 cases d<;>simp only [rowK]<;>try exact aK.none
 ·rename_i l path
  cases s.list l with
  | none=>exact aK.none
  | some w=>exact iN h
 ·rename_i l path lo hi
  cases s.list l with
  | none=>exact aK.none
  | some w=>exact iN fun o c=>aK.bd fun c=>h _ _
theorem aCT {α β : Type} {f : α→(β→Option R)→Option R} (hf : ∀ a k (k' : Nat→β→Option R),(∀ b,aK (k b) (fun n=>k' n b))→aK (f a k) (fun n=>f a (k' n))) :
 ∀ {l : List α} {k : List β→Option R} {k' : Nat→List β→Option R},(∀ b,aK (k b) (fun n=>k' n b))→aK (mapK f l k) (fun n=>mapK f l (k' n))
 | [],_,_,h=>h _
 | d::r,k,k',h=>by
   unfold mapK
   exact hf _ _ _ fun v=>aCT hf fun vs=>h _
theorem aBn {s : St} : ∀ {m : Nat} {d : DV} {k : PV→Option R} {k' : Nat→PV→Option R},(∀ v,aK (k v) (fun n=>k' n v))→aK (snapK s m d k) (fun n=>snapK s m d (k' n))
 | 0,_,_,_,_=>by simp only [snapK];exact aK.none
 | m+1,d,k,k',h=>by
   have mp:=fun {ds : List DV} {k : List PV→Option R} {k' : Nat→List PV→Option R} (h : ∀ v,aK (k v) (fun n=>k' n v))=>aCT (f:=snapK s m) (fun a k k' h=>aBn h) (l:=ds) h
   cases d<;>simp only [snapK]<;>first
    | exact aK.none
    | exact h _
    | exact mp fun vs=>h _
    | exact sD fun _ c=>h _
    | skip
   ·rename_i b off
    cases off with
    | zero=>
      cases s.box b with
      | none=>exact aK.none
      | some cs=>exact mp fun vs=>h _
    | succ n=>exact aK.none
   ·rename_i b n
    cases s.box b with
    | none=>exact aK.none
    | some cs=>exact aK.ite (mp fun vs=>aK.bd fun c=>h _) aK.none
theorem sO {s : St} {m : Nat} {ds : List DV} {k : List PV→Option R} {k' : Nat→List PV→Option R} (h : ∀ v,aK (k v) (fun n=>k' n v)) : aK (snapL s m ds k) (fun n=>snapL s m ds (k' n)):=by
 unfold snapL
 exact aCT (f:=snapK s m) (fun a k k' h=>aBn h) h
theorem aKa {s : St} {d : DV} {k : PV→St→Option R} {k' : Nat→PV→St→Option R} (h : ∀ v s,aK (k v s) (fun n=>k' n v s)) : aK (sinkK s d k) (fun n=>sinkK s d (k' n)):=by
 unfold sinkK
 cases bsOf deep d with
 | nil=>exact aBn fun v=>h _ _
 | cons=>exact aK.none
theorem pU {ct : OTy} {s : St} {d : DV} {k : PV→St→Option R} {k' : Nat→PV→St→Option R} (h : ∀ v s,aK (k v s) (fun n=>k' n v s)) : aK (sinkAs ct s d k) (fun n=>sinkAs ct s d (k' n)):=by
 cases ct with
 | leaf=>exact aKa h
 | own a b c e=>
   cases d<;>simp only [sinkAs]<;>first
    | exact aK.none
    | exact h _ _
    | skip
   ·rename_i l path
    cases path with
    | nil=>
      dsimp only
      cases s.list l with
      | none=>exact aK.none
      | some w=>exact aK.ite (h _ _) aK.none
    | cons=>exact aK.none
   ·rename_i l path lo hi
    cases path with
    | nil=>
      dsimp only
      cases s.list l with
      | none=>exact aK.none
      | some w=>exact aK.ite (aK.bd fun c=>h _ _) aK.none
    | cons=>exact aK.none
theorem sP {o : OTy} : ∀ {ds : List DV} {s : St} {j : Nat} {k : List PV→St→Option R} {k' : Nat→List PV→St→Option R},(∀ v s,aK (k v s) (fun n=>k' n v s))→aK (sinkCells o s j ds k) (fun n=>sinkCells o s j ds (k' n))
 | [],_,_,_,_,h=>h _ _
 | d::r,s,j,k,k',h=>by
   unfold sinkCells
   exact pU fun v s=>sP fun vs s=>h _ _
theorem aFg {o : OTy} {s : St} {d : DV} {k : PV→St→Option R} {k' : Nat→PV→St→Option R} (h : ∀ v s,aK (k v s) (fun n=>k' n v s)) : aK (elemK o s d k) (fun n=>elemK o s d (k' n)):=by
 unfold elemK
 cases o.g with
 | true=>
   cases d<;>simp only [if_true]<;>first
    | exact aK.none
    | exact aK.ite (h _ _) aK.none
    | exact aK.ite (sP fun vs s=>h _ _) aK.none
 | false=>
   cases d<;>simp only [Bool.false_eq_true,if_false]<;>first
    | exact aK.none
    | exact pU h
theorem jU : ∀ {ds : List DV} {ts : List (Option Nat)} {s : St} {k : List DV→St→Option R} {k' : Nat→List DV→St→Option R},(∀ v s,aK (k v s) (fun n=>k' n v s))→aK (ownCells X ds ts s k) (fun n=>ownCells X ds ts s (k' n))
 | [],ts,s,k,k',h=>by cases ts<;>exact h _ _
 | d::ds,[],s,k,k',h=>h _ _
 | d::ds,t::ts,s,k,k',h=>by
   unfold ownCells
   cases d<;>cases t<;>exact jU fun vs s=>h _ _
theorem zH {l : Nat} {path : dM} {i : PV} {o : OTy} {x : PV} : ∀ {m off : Nat} {k : List DV→Option R} {k' : Nat→List DV→Option R},(∀ v,aK (k v) (fun n=>k' n v))→aK (cellsE l path i o x m off k) (fun n=>cellsE l path i o x m off (k' n))
 | 0,_,_,_,h=>h _
 | m+1,off,k,k',h=>by
   unfold cellsE
   exact aK.ite (aK.bd fun y=>zH fun ds=>h _) (zH fun ds=>h _)
theorem aFh {x : PV} {s : Nat} {g : Bool} {off : Nat} {r : TyR} {k : DV→Option R} {k' : Nat→DV→Option R} (h : ∀ v,aK (k v) (fun n=>k' n v)) : aK (partK x s g off r k) (fun n=>partK x s g off r (k' n)):=by
 unfold partK
 exact aK.ite (aK.ite (h _) (aK.bd fun y=>h _)) (aK.ite (aK.bd fun y=>h _) (aK.ite (h _) aK.none))
theorem aDO {c : PV} : ∀ {m off : Nat} {k : List PV→Option R} {k' : Nat→List PV→Option R},(∀ v,aK (k v) (fun n=>k' n v))→aK (loadK.cellsB c m off k) (fun n=>loadK.cellsB c m off (k' n))
 | 0,_,_,_,h=>h _
 | m+1,off,k,k',h=>by
   unfold loadK.cellsB
   exact aK.bd fun v=>aDO fun l=>h _
theorem aKb {t : Nat} {a : DV} {s : St} {k : DV→Option R} {k' : Nat→DV→Option R} (h : ∀ v,aK (k v) (fun n=>k' n v)) : aK (loadK X t a s k) (fun n=>loadK X t a s (k' n)):=by
 unfold loadK
 refine aK.ite aK.none ?_
 cases a<;>(try simp only)<;>first
  | exact aK.none
  | exact aK.ite (aDO fun l=>h _) (aK.bd fun y=>h _)
  | exact aFh h
  | skip
 ·rename_i b off
  cases s.box b with
  | none=>exact aK.none
  | some cs=>
    refine aK.ite (aK.ite (h _) aK.none) ?_
    cases cs[off]? with
    | none=>exact aK.none
    | some d=>exact h _
 ·rename_i l path i off
  cases s.list l with
  | none=>exact aK.none
  | some w=>
    exact iN fun o c=>aK.bd fun x=>aK.ite (aFh h) (aK.ite (aK.ite (zH fun ds=>h _) aK.none)
     (aK.ite (aK.ite (aK.bd fun y=>h _) (aK.ite (h _) aK.none)) (aK.ite (h _) aK.none)))
theorem aAC {d : DV} {k : DV→Option R} {k' : Nat→DV→Option R} (h : ∀ v,aK (k v) (fun n=>k' n v)) : aK (oneK d k) (fun n=>oneK d (k' n)):=by
 cases d<;>simp only [oneK]<;>first
  | exact aK.none
  | exact h _
  | exact aK.bd fun x=>h _
theorem aI2 {t b off : Nat} {v : DV} {s : St} {k : St→Option R} {k' : Nat→St→Option R} (h : ∀ v,aK (k v) (fun n=>k' n v)) : aK (storeB X t b off v s k) (fun n=>storeB X t b off v s (k' n)):=by
 unfold storeB
 simp only
 cases s.box b with
 | none=>exact aK.none
 | some cs=>
   refine aK.ite (aK.ite (nA fun vs=>jU fun vs s=>h _) (aK.ite (aAC fun v=>?_) aK.none)) aK.none
   cases v<;>(try simp only)<;>first
    | exact h _
    | skip
   ·cases elemOf X t with
    | none=>exact aK.none
    | some u=>exact h _
   ·rename_i l path lo hi
    cases path with
    | cons=>exact h _
    | nil=>
      cases cs[off]? with
      | none=>exact h _
      | some d=>
        cases d<;>(try simp only)<;>first
         | exact h _
         | skip
        rename_i l' path'
        cases path' with
        | cons=>exact h _
        | nil=>
          refine aK.ite ?_ (h _)
          cases s.list l with
          | none=>exact aK.none
          | some w=>exact aK.bd fun c=>h _
theorem aDP {m : Nat} {c i : PV} : ∀ {ys : List PV} {c : PV} {off : Nat} {k : PV→Option R} {k' : Nat→PV→Option R},(∀ v,aK (k v) (fun n=>k' n v))→aK (storeK.setAll m c i off ys k) (fun n=>storeK.setAll m c i off ys (k' n))
 | [],_,_,_,_,h=>h _
 | y::ys,c,off,k,k',h=>by
   unfold storeK.setAll
   exact aK.bd fun c=>aDP (c:=c) h
theorem aI3 {e : Env} {l : Nat} {path : dM} {w : Own} {c : PV} {s : St} {k : Env→St→Option R} {k' : Nat→Env→St→Option R} (h : ∀ e s,aK (k e s) (fun n=>k' n e s)) : aK (storeK.fin e k l path w c s) (fun n=>storeK.fin e (k' n) l path w c s):=by
 unfold storeK.fin
 refine pD fun c'=>?_
 unfold touchK
 exact aK.ite (h _ _) (h _ _)
theorem aFi {e : Env} {o : OTy} {ds : List DV} {off l : Nat} {path : dM} {i : PV} {s : St} {k : Env→St→Option R} {k' : Nat→Env→St→Option R} (h : ∀ e s,aK (k e s) (fun n=>k' n e s)) : aK (storeK.setIn e k o ds off l path i s) (fun n=>storeK.setIn e (k' n) o ds off l path i s):=by
 unfold storeK.setIn
 refine sP fun ys s=>?_
 cases s.list l with
 | none=>exact aK.none
 | some w=>exact iN fun o c=>aDP (c:=c) fun c=>aI3 h
theorem aDQ {t : Nat} {a v : DV} {e : Env} {s : St} {k : Env→St→Option R} {k' : Nat→Env→St→Option R} (h : ∀ e s,aK (k e s) (fun n=>k' n e s)) : aK (storeK X t a v e s k) (fun n=>storeK X t a v e s (k' n)):=by
 unfold storeK
 refine aK.ite aK.none ?_
 cases a<;>(try simp only)<;>first
  | exact aK.none
  | exact aI2 fun s=>h _ _
  | skip
 rename_i l path i off
 cases s.list l with
 | none=>exact aK.none
 | some w=>
   refine iN fun o c=>aK.ite (aFg fun x s=>?_) (aK.ite (nA fun ds=>aFi h) (aK.ite (aAC fun v=>aFi h) aK.none))
   cases s.list l with
   | none=>exact aK.none
   | some w=>exact iN fun o c=>aK.bd fun c=>aI3 h
theorem zI {fs : List (Nat × Nat)} : ∀ {ps : List (Nat × DV)} {cs : List DV} {k : List DV→Option R} {k' : Nat→List DV→Option R},(∀ v,aK (k v) (fun n=>k' n v))→aK (buildK X fs ps cs k) (fun n=>buildK X fs ps cs (k' n))
 | [],_,_,_,h=>h _
 | (i,v)::r,cs,k,k',h=>by
   unfold buildK
   cases fs[i]? with
   | none=>exact aK.none
   | some p=>exact aK.ite (aK.ite (nA fun vs=>zI h) (aK.ite (aAC fun v=>zI h) aK.none)) aK.none
theorem aDR {o : OTy} : ∀ {ds : List DV} {s : St} {k : List PV→St→Option R} {k' : Nat→List PV→St→Option R},(∀ v s,aK (k v s) (fun n=>k' n v s))→aK (elemsK o s ds k) (fun n=>elemsK o s ds (k' n))
 | [],_,_,_,h=>h _ _
 | d::r,s,k,k',h=>by
   unfold elemsK
   exact aFg fun v s=>aDR fun vs s=>h _ _
theorem wU {dst : Option Nat} {t : Nat} {d : DV} {e : Env} {s : St} {k : DV→St→Option R} {k' : Nat→DV→St→Option R} (h : ∀ v s,aK (k v s) (fun n=>k' n v s)) : aK (moveK X dst t d e s k) (fun n=>moveK X dst t d e s (k' n)):=by
 cases d<;>simp only [moveK]<;>first
  | exact aK.none
  | exact h _ _
  | skip
 ·cases elemOf X t with
  | none=>exact h _ _
  | some u=>exact h _ _
 ·rename_i l path lo hi
  cases path with
  | cons=>exact h _ _
  | nil=>
    cases dst with
    | none=>exact h _ _
    | some t=>
      dsimp only
      generalize e.get t=d0
      cases d0<;>(try simp only)<;>first
       | exact h _ _
       | skip
      rename_i l' path'
      cases path' with
      | cons=>exact h _ _
      | nil=>
        refine aK.ite ?_ (h _ _)
        cases s.list l with
        | none=>exact aK.none
        | some w=>exact aK.bd fun c=>h _ _
theorem aKc {c a b : DV} {e : Env} {s : St} {k : DV→St→Option R} {k' : Nat→DV→St→Option R} (h : ∀ v s,aK (k v s) (fun n=>k' n v s)) : aK (pickK X c a b e s k) (fun n=>pickK X c a b e s (k' n)):=by
 cases c<;>simp only [pickK]<;>first
  | exact aK.none
  | exact aK.pvite (wU h) (wU h)
theorem aI4 {t : Nat} {s : St} {k : DV→St→Option R} {k' : Nat→DV→St→Option R} (h : ∀ v s,aK (k v s) (fun n=>k' n v s)) : aK (allocK X t s k) (fun n=>allocK X t s (k' n)):=by
 unfold allocK
 exact aK.ite (jU fun cs s=>h _ _) aK.none
theorem aLH {t : Nat} {x : DV} {s : St} {k : DV→St→Option R} {k' : Nat→DV→St→Option R} (h : ∀ v s,aK (k v s) (fun n=>k' n v s)) : aK (boxK X t x s k) (fun n=>boxK X t x s (k' n)):=by
 unfold boxK
 exact aK.ite (nA fun cs=>jU fun cs s=>h _ _) (aAC fun d=>jU fun cs s=>h _ _)
theorem aHQ {t : Nat} {ps : List (Nat × DV)} {k : DV→Option R} {k' : Nat→DV→Option R} (h : ∀ v,aK (k v) (fun n=>k' n v)) : aK (buildTK X t ps k) (fun n=>buildTK X t ps (k' n)):=by
 unfold buildTK
 cases (X.T.at t).d<;>(try simp only)<;>first
  | exact aK.none
  | exact aK.ite (zI fun cs=>h _) aK.none
theorem aCU {t m : Nat} {ps : List (Nat × DV)} {s : St} {k : DV→St→Option R} {k' : Nat→DV→St→Option R} (h : ∀ v s,aK (k v s) (fun n=>k' n v s)) : aK (buildSliceK X t m ps s k) (fun n=>buildSliceK X t m ps s (k' n)):=by
 unfold buildSliceK lendK
 cases elemOf X t with
 | none=>exact aK.none
 | some u=>exact aK.ite (aK.ite (h _ _) aK.none) (aK.ite (aDR fun vs s=>aK.bd fun c=>h _ _) aK.none)
theorem aD3 {t : Nat} {l c : DV} {s : St} {k : DV→St→Option R} {k' : Nat→DV→St→Option R} (h : ∀ v s,aK (k v s) (fun n=>k' n v s)) : aK (makeSliceK X t l c s k) (fun n=>makeSliceK X t l c s (k' n)):=by
 unfold makeSliceK
 cases elemOf X t with
 | none=>exact aK.none
 | some u=>
   cases l<;>cases c<;>(try simp only)<;>first
    | exact aK.none
    | exact aK.ite (aK.bd fun _=>aK.bd fun y=>aK.pvite (aK.bd fun c=>h _ _) aK.none) aK.none
theorem aFj {x : DV} {s : St} {k : DV→Option R} {k' : Nat→DV→Option R} (h : ∀ v,aK (k v) (fun n=>k' n v)) : aK (nilCheckK x s k) (fun n=>nilCheckK x s (k' n)):=by
 cases x<;>simp only [nilCheckK]<;>first
  | exact aK.none
  | exact h _
  | exact aK.bd fun v=>h _
  | skip
 rename_i l path i off
 cases s.list l with
 | none=>exact aK.none
 | some w=>exact h _
theorem aKd {op : UnOp} {x : DV} {k : DV→Option R} {k' : Nat→DV→Option R} (h : ∀ v,aK (k v) (fun n=>k' n v)) : aK (unOpK op x k) (fun n=>unOpK op x (k' n)):=by
 cases op<;>cases x<;>simp only [unOpK]<;>first
  | exact aK.none
  | exact aK.bd fun v=>h _
theorem aI5 {t : Nat} {x i : DV} {k : DV→Option R} {k' : Nat→DV→Option R} (h : ∀ v,aK (k v) (fun n=>k' n v)) : aK (indexK X t x i k) (fun n=>indexK X t x i (k' n)):=by
 unfold indexK
 cases (X.T.at t).d<;>cases x<;>cases i<;>(try simp only)<;>first
  | exact aK.none
  | exact aK.bd fun v=>h _
  | skip
 refine aK.ite ?_ aK.none
 split
 ·exact aK.bd fun v=>h _
 ·exact aK.none
theorem aFk {d : DV} {k : DV→Option R} {k' : Nat→DV→Option R} (h : ∀ v,aK (k v) (fun n=>k' n v)) : aK (soK d k) (fun n=>soK d (k' n)):=by
 cases d<;>simp only [soK]<;>first
  | exact aK.bd fun v=>h _
  | exact h _
theorem aGo {x : DV} {i : Nat} {k : DV→Option R} {k' : Nat→DV→Option R} (h : ∀ v,aK (k v) (fun n=>k' n v)) : aK (extractK x i k) (fun n=>extractK x i (k' n)):=by
 cases x<;>simp only [extractK]<;>first
  | exact aK.none
  | exact aK.bd fun v=>h _
  | skip
 rename_i cs
 cases cs[i]? with
 | none=>exact aK.none
 | some d=>exact h _
theorem aI6 {t f : Nat} {x : DV} {k : DV→Option R} {k' : Nat→DV→Option R} (h : ∀ v,aK (k v) (fun n=>k' n v)) : aK (fieldK X t x f k) (fun n=>fieldK X t x f (k' n)):=by
 unfold fieldK
 cases (X.T.at t).d<;>(try simp only)<;>first
  | exact aK.none
  | skip
 rename_i fs
 cases fs[f]? with
 | none=>exact aK.none
 | some p=>
   refine aK.ite aK.none ?_
   cases x<;>(try simp only)<;>first
    | exact aK.none
    | exact aK.ite (aK.bd fun y=>h _) (aK.bd fun y=>h _)
    | skip
   rename_i cs
   refine aK.ite (aK.ite (h _) aK.none) ?_
   cases cs[p.1]? with
   | none=>exact aK.none
   | some d=>exact h _
theorem aD4 {t f : Nat} {x : DV} {s : St} {k : DV→Option R} {k' : Nat→DV→Option R} (h : ∀ v,aK (k v) (fun n=>k' n v)) : aK (fieldAddrK X t x f s k) (fun n=>fieldAddrK X t x f s (k' n)):=by
 unfold fieldAddrK
 cases (X.T.at t).d<;>(try simp only)<;>first
  | exact aK.none
  | skip
 rename_i fs
 cases fs[f]? with
 | none=>exact aK.none
 | some p=>
   refine aK.ite aK.none ?_
   cases x<;>(try simp only)<;>first
    | exact aK.none
    | exact h _
    | exact aK.bd fun y=>h _
    | skip
   rename_i l path i off
   cases s.list l with
   | none=>exact aK.none
   | some w=>exact h _
theorem aD5 {t : Nat} {x i : DV} {s : St} {k : DV→Option R} {k' : Nat→DV→Option R} (h : ∀ v,aK (k v) (fun n=>k' n v)) : aK (indexAddrK X t x i s k) (fun n=>indexAddrK X t x i s (k' n)):=by
 unfold indexAddrK
 cases (X.T.at t).d<;>cases i<;>(try simp only)<;>first
  | exact aK.none
  | skip
 ·refine aK.ite aK.none ?_
  cases x<;>(try simp only)<;>first
   | exact aK.none
   | exact aK.bd fun y=>h _
   | exact sD fun o c=>aK.ite (aK.bd fun _=>h _) aK.none
   | exact sD fun o c=>aK.ite (aK.bd fun _=>aK.bd fun j=>h _) aK.none
 ·rename_i i
  refine aK.ite aK.none ?_
  cases x<;>cases i<;>(try simp only)<;>first
   | exact aK.none
   | exact aK.ite (h _) aK.none
   | exact aK.ite (aK.bd fun v=>h _) aK.none
theorem aHR {t : Nat} {x : DV} {lo hi : Option DV} {mx : DV} {s : St} {k : DV→St→Option R} {k' : Nat→DV→St→Option R} (h : ∀ v s,aK (k v s) (fun n=>k' n v s)) : aK (noRoomK X t x lo hi mx s k) (fun n=>noRoomK X t x lo hi mx s (k' n)):=by
 unfold noRoomK
 cases elemOf X t with
 | none=>exact aK.none
 | some u=>
   cases x<;>cases lo<;>(try exact aK.none)
   cases hi with
   | none=>exact aK.none
   | some d=>
     cases d<;>cases mx<;>first
      | exact aK.none
      | exact aK.ite (aK.bd fun _=>h _ _) aK.none
theorem aI7 {t : Nat} {x : DV} {lo hi : Option DV} {s : St} {k : DV→Option R} {k' : Nat→DV→Option R} (h : ∀ v,aK (k v) (fun n=>k' n v)) : aK (sliceK X t x lo hi s k) (fun n=>sliceK X t x lo hi s (k' n)):=by
 unfold sliceK
 cases sliceK.lowOf lo with
 | none=>exact aK.none
 | some l=>
   cases (X.T.at t).d<;>(try simp only)<;>first
    | exact aK.none
    | skip
   ·cases x<;>(try simp only)<;>first
     | exact aK.none
     | skip
    cases hi with
    | none=>exact aK.bd fun _=>aK.bd fun y=>h _
    | some d=>
      cases d<;>(try simp only)<;>first
       | exact aK.none
       | exact aK.bd fun y=>h _
   ·refine aK.ite aK.none ?_
    cases x<;>(try simp only)<;>first
     | exact aK.none
     | skip
    ·cases hi with
     | none=>exact aK.bd fun _=>aK.bd fun y=>h _
     | some d=>
       cases d<;>(try simp only)<;>first
        | exact aK.none
        | exact aK.bd fun y=>h _
    ·refine sD fun o c=>aK.ite ?_ aK.none
     cases hi with
     | none=>exact aK.bd fun _=>aK.bd fun y=>h _
     | some d=>
       cases d<;>(try simp only)<;>first
        | exact aK.none
        | exact aK.bd fun y=>h _
theorem aLI {t : Nat} {d : DV} {s : St} {k : DV→Option R} {k' : Nat→DV→Option R} (h : ∀ v,aK (k v) (fun n=>k' n v)) : aK (lenK X t d s k) (fun n=>lenK X t d s (k' n)):=by
 unfold lenK
 cases (X.T.at t).d<;>cases d<;>(try simp only)<;>first
  | exact aK.none
  | exact h _
  | exact aK.bd fun y=>h _
  | exact sD fun _ c=>aK.bd fun y=>h _
theorem aBo : ∀ {ds : List DV} {k : List PV→Option R} {k' : Nat→List PV→Option R},(∀ v,aK (k v) (fun n=>k' n v))→aK (eqK.trees ds k) (fun n=>eqK.trees ds (k' n))
 | [],_,_,h=>h _
 | d::ds,k,k',h=>by
   cases d<;>simp only [eqK.trees]<;>first
    | exact aK.none
    | exact aBo fun vs=>h _
theorem aLJ {op : BinOp} {x : DV} {k : DV→Option R} {k' : Nat→DV→Option R} (h : ∀ v,aK (k v) (fun n=>k' n v)) : aK (nilK op x k) (fun n=>nilK op x (k' n)):=by
 unfold nilK
 cases op<;>cases x<;>(try simp only)<;>first
  | exact aK.none
  | exact aK.bd fun v=>h _
theorem aLK {op : BinOp} {t : Nat} {x y : DV} {k : DV→Option R} {k' : Nat→DV→Option R} (h : ∀ v,aK (k v) (fun n=>k' n v)) : aK (binK X op t x y k) (fun n=>binK X op t x y (k' n)):=by
 unfold binK
 cases (X.T.at t).d<;>(try simp only)<;>first
  | exact aK.none
  | skip
 ·cases x<;>cases y<;>(try simp only)<;>first
  | exact aK.none
  | exact aK.bd fun v=>h _
 ·cases x<;>cases y<;>(try simp only)<;>first
  | exact aK.none
  | exact aK.bd fun v=>h _
 ·cases x<;>cases y<;>(try simp only)<;>first
  | exact aK.none
  | exact aK.bd fun v=>h _
 ·cases x<;>cases y<;>(try simp only)<;>first
   | exact aK.none
   | exact aK.bd fun v=>h _
   | skip
  rename_i v
  cases v<;>cases op<;>(try simp only)<;>first
   | exact aK.none
   | exact h _
 ·cases y<;>(try simp only)<;>first
  | exact aK.none
  | exact aLJ h
 ·unfold eqK
  cases eqKinds X 10 t with
  | none=>exact aK.none
  | some qs=>exact nA fun as_=>nA fun bs=>aBo fun as_=>aBo fun bs=>aK.bd fun v=>h _
theorem aAD {d : DV} {s : St} {k : PV→Option R} {k' : Nat→PV→Option R} (h : ∀ v,aK (k v) (fun n=>k' n v)) : aK (srcK d s k) (fun n=>srcK d s (k' n)):=by
 cases d<;>simp only [srcK]<;>first
  | exact aK.none
  | exact h _
  | exact sD fun o c=>aK.ite (h _) aK.none
theorem aKe {a b : Nat} {x : DV} {s : St} {k : DV→Option R} {k' : Nat→DV→Option R} (h : ∀ v,aK (k v) (fun n=>k' n v)) : aK (convK X a b x s k) (fun n=>convK X a b x s (k' n)):=by
 unfold convK
 cases (X.T.at a).d<;>cases (X.T.at b).d<;>(try simp only)<;>first
  | exact aK.none
  | skip
 ·cases x<;>(try simp only)<;>first
  | exact aK.none
  | exact aK.bd fun v=>h _
 ·cases x<;>(try simp only)<;>first
  | exact aK.none
  | exact aK.bd fun v=>h _
 ·rename_i e
  cases x<;>(try simp only)<;>first
   | exact aK.none
   | skip
  cases (X.T.at e).d<;>(try simp only)<;>first
   | exact aK.none
   | skip
  rename_i kk
  cases kk<;>(try simp only)<;>first
   | exact aK.none
   | exact aK.bd fun v=>h _
 ·rename_i e
  cases (X.T.at e).d<;>(try simp only)<;>first
   | exact aK.none
   | skip
  rename_i kk
  cases kk<;>(try simp only)<;>first
   | exact aK.none
   | exact aAD fun c=>aK.bd fun y=>h _
theorem aFl {o : OTy} {d : DV} {s : St} {k : PV→St→Option R} {k' : Nat→PV→St→Option R} (h : ∀ v s,aK (k v s) (fun n=>k' n v s)) : aK (appendedK o d s k) (fun n=>appendedK o d s (k' n)):=by
 unfold appendedK
 exact aK.ite (aAD fun y=>h _ _) (pU h)
theorem aDS {o : OTy} {c : PV} {q : Option (PV × PV)} {k : PV→Option R} {k' : Nat→PV→Option R} (h : ∀ v,aK (k v) (fun n=>k' n v)) : aK (pieceK o c q k) (fun n=>pieceK o c q (k' n)):=by
 cases q with
 | none=>exact h _
 | some p=>exact aK.bd h
theorem aI8 {l : Nat} {path : dM} {q : Option (PV × PV)} {s : St} {k : DV→St→Option R} {k' : Nat→DV→St→Option R} (h : ∀ d s,aK (k d s) (fun n=>k' n d s)) : aK (leaveK l path q s k) (fun n=>leaveK l path q s (k' n)):=by
 unfold leaveK
 cases s.list l with
 | none=>exact aK.none
 | some w=>exact iN fun o c=>aK.ite (aDS fun c1=>pD fun c'=>h _ _) aK.none
theorem aHS {t : Nat} {a v : DV} {e : Env} {s : St} {k : Env→St→Option R} {k' : Nat→Env→St→Option R} (h : ∀ e s,aK (k e s) (fun n=>k' n e s)) : aK (storeLK X t a v e s k) (fun n=>storeLK X t a v e s (k' n)):=by
 unfold storeLK
 split
 ·exact aI8 fun _ _=>aDQ fun _ _=>aK.ite (h _ _) aK.none
 ·exact aDQ h
theorem aG4 {d : DV} {te : Nat} {e : Env} {s : St} {l : Nat} {path : dM} {q : Option (PV × PV)} {k : DV→Env→St→Option R} {k' : Nat→DV→Env→St→Option R} (h : ∀ v e s,aK (k v e s) (fun n=>k' n v e s)) : aK (appendK.nest X d te e s k l path q) (fun n=>appendK.nest X d te e s (k' n) l path q):=by
 unfold appendK.nest
 cases s.list l with
 | none=>exact aK.none
 | some w=>
   exact iN fun o c=>aK.ite (aAD fun y=>aDS fun c=>pD fun c'=>aK.bd fun c2=>h _ _ _) aK.none
theorem aHT {base d : DV} {te : Nat} {e : Env} {s : St} {k : DV→Env→St→Option R} {k' : Nat→DV→Env→St→Option R} (h : ∀ v e s,aK (k v e s) (fun n=>k' n v e s)) : aK (appendK X base d te e s k) (fun n=>appendK X base d te e s (k' n)):=by
 have plain : ∀ (q : Option OTy) (base : DV),aK (match q with
  | some o=>if fits X o te then appendedK o d s fun y s=>sinkAs o s base fun c s=>bd (PV.cat o.s o.e o.g c y) fun c'=>k (.ref s.nl []) e (s.addList ⟨o,c'⟩) else none
  | none=>none) (fun n=>match q with
  | some o=>if fits X o te then appendedK o d s fun y s=>sinkAs o s base fun c s=>bd (PV.cat o.s o.e o.g c y) fun c'=>k' n (.ref s.nl []) e (s.addList ⟨o,c'⟩) else none
  | none=>none):=by
  intro q base
  cases q with
  | none=>exact aK.none
  | some o=>exact aK.ite (aFl fun y s=>pU fun c s=>aK.bd fun c'=>h _ _ _) aK.none
 cases base with
 | ref l path=>
   cases path with
   | nil=>exact plain (baseTy X te s (.ref l [])) (.ref l [])
   | cons p r=>exact aG4 h
 | sref l path lo hi=>
   cases path with
   | nil=>exact plain (baseTy X te s (.sref l [] lo hi)) (.sref l [] lo hi)
   | cons p r=>exact aG4 h
 | p v=>exact plain (baseTy X te s (.p v)) (.p v)
 | nils=>exact plain (baseTy X te s .nils) .nils
 | agg cs=>exact plain (baseTy X te s (.agg cs)) (.agg cs)
 | tup cs=>exact plain (baseTy X te s (.tup cs)) (.tup cs)
 | fn f cs=>exact plain (baseTy X te s (.fn f cs)) (.fn f cs)
 | ptr b off=>exact plain (baseTy X te s (.ptr b off)) (.ptr b off)
 | bsl b n=>exact plain (baseTy X te s (.bsl b n)) (.bsl b n)
 | eptr l path i off=>exact plain (baseTy X te s (.eptr l path i off)) (.eptr l path i off)
 | fptr x s' g off=>exact plain (baseTy X te s (.fptr x s' g off)) (.fptr x s' g off)
 | bptr c off=>exact plain (baseTy X te s (.bptr c off)) (.bptr c off)
 | gptr l path i off=>exact plain (baseTy X te s (.gptr l path i off)) (.gptr l path i off)
 | nilq c neg=>exact plain (baseTy X te s (.nilq c neg)) (.nilq c neg)
 | dead=>exact plain (baseTy X te s .dead) .dead
theorem aG5 {d : DV} {e : Env} {s : St} {k : Env→St→Option R} {k' : Nat→Env→St→Option R} (h : ∀ e s,aK (k e s) (fun n=>k' n e s)) : aK (frz1 d e s k) (fun n=>frz1 d e s (k' n)):=by
 unfold frz1
 split
 ·split
  ·exact h _ _
  ·exact h _ _
 ·exact h _ _
theorem vZ : ∀ {fs : List (Nat × Option Nat)} {e : Env} {s : St} {k : Env→St→Option R} {k' : Nat→Env→St→Option R},(∀ e s,aK (k e s) (fun n=>k' n e s))→aK (frzK fs e s k) (fun n=>frzK fs e s (k' n))
 | [],_,_,_,_,h=>h _ _
 | (t,none)::r,e,s,k,k',h=>aG5 fun e s=>vZ h
 | (t,some j)::r,e,s,k,k',h=>by
   unfold frzK
   generalize e.get t=d0
   cases d0<;>(try simp only)<;>first
    | exact vZ h
    | skip
   rename_i b off
   cases s.box b with
   | none=>exact vZ h
   | some cs=>exact aG5 fun e s=>vZ h
theorem aDT {te : Nat} {src : DV} {s : St} {l : Nat} {w : Own} {lo hi : PV} {k : DV→St→Option R} {k' : Nat→DV→St→Option R} (h : ∀ v s,aK (k v s) (fun n=>k' n v s)) : aK (copyK.go X te src s k l w lo hi) (fun n=>copyK.go X te src s (k' n) l w lo hi):=by
 unfold copyK.go
 exact aK.ite (aAD fun y=>aK.bd fun n=>aK.bd fun c=>h _ _) aK.none
theorem aKf {te : Nat} {dst src : DV} {s : St} {k : DV→St→Option R} {k' : Nat→DV→St→Option R} (h : ∀ v s,aK (k v s) (fun n=>k' n v s)) : aK (copyK X te dst src s k) (fun n=>copyK X te dst src s (k' n)):=by
 unfold copyK
 cases dst<;>(try simp only)<;>first
  | exact aK.none
  | skip
 ·rename_i l path
  cases path with
  | cons=>exact aK.none
  | nil=>
    dsimp only
    cases s.list l with
    | none=>exact aK.none
    | some w=>exact aK.bd fun n=>aDT h
 ·rename_i l path lo hi
  cases path with
  | cons=>exact aK.none
  | nil=>
    dsimp only
    cases s.list l with
    | none=>exact aK.none
    | some w=>exact aDT h
end
structure EvO (O : Orc) (O' : Nat→Orc) : Prop where
 L : ∀ todo e s,aK (O.L todo e s) (fun n=>(O' n).L todo e s)
 C : ∀ g args,aK (O.C g args) (fun n=>(O' n).C g args)
 S : ∀ g args s,aK (O.S g args s) (fun n=>(O' n).S g args s)
section
variable {X : Cx} {O : Orc} {O' : Nat → Orc}
theorem xZ {l : R} : ∀ {cs : List DV} {a : Option R} {a' : Nat→Option R},aK a a'→aK (guardCells l cs a) (fun n=>guardCells l cs (a' n))
 | [],_,_,h=>h
 | d::cs,a,a',h=>by
   have ih:=xZ (l:=l) (cs:=cs) h
   cases d with
   | ref=>simp only [guardCells];exact ih
   | p v=>
     cases v with
     | int=>simp only [guardCells];exact aK.flat ih
     | _=>simp only [guardCells];exact aK.none
   | _=>simp only [guardCells];exact aK.none
theorem zJ {l : R} : ∀ {cs : List DV} {a : Option R} {a' : Nat→Option R},aK a a'→aK (guardAggs l cs a) (fun n=>guardAggs l cs (a' n))
 | [],_,_,h=>h
 | d::cs,a,a',h=>by
   have ih:=zJ (l:=l) (cs:=cs) h
   cases d<;>(try simp only [guardAggs])<;>exact xZ ih
theorem aGp {l : R} {d : DV} {a : Option R} {a' : Nat→Option R} (h : aK a a') : aK (guardRes l d a) (fun n=>guardRes l d (a' n)):=by
 cases d<;>(try simp only [guardRes])<;>exact zJ h
theorem zK {l : R} : ∀ {cs : List (Option Own)} {a : Option R} {a' : Nat→Option R},aK a a'→aK (guardRows l cs a) (fun n=>guardRows l cs (a' n))
 | [],_,_,h=>h
 | none::_,_,_,_=>by simp only [guardRows];exact aK.none
 | some w::cs,a,a',h=>by
   simp only [guardRows]
   cases w.c<;>(try simp only)<;>first
    | exact aK.none
    | exact aK.own (zK h)
theorem aKg (hO : EvO O O') {f : Nat} {args : List DV} {s : St} {k : DV→St→Option R} {k' : Nat→DV→St→Option R} (h : ∀ v s,aK (k v s) (fun n=>k' n v s)) : aK (pureK O f args s k) (fun n=>pureK (O' n) f args s (k' n)):=by
 unfold pureK
 exact aK.ite (sO fun vs=>aK.bd2 (hO.C _ _) fun r=>aK.flat (h _ _)) (sO fun vs=>aK.bd2 (hO.C _ _) fun r=>h _ _)
theorem aKh (hO : EvO O O') {t : Tmpl} {f : Nat} {args : List DV} {s : St} {k : DV→St→Option R} {k' : Nat→DV→St→Option R} (h : ∀ v s,aK (k v s) (fun n=>k' n v s)) : aK (lentK O t f args s k) (fun n=>lentK (O' n) t f args s (k' n)):=by
 unfold lentK
 exact sO fun vs=>aK.bd2 (hO.S _ _ _) fun l=>aGp (zK (h _ _))
theorem aFm (hO : EvO O O') {ft : Foot} {n0 : Nat} {t : Tmpl} {f : Nat} {args : List DV} {s : St} {k : DV→St→List Nat→Option R} {k' : Nat→DV→St→List Nat→Option R} (h : ∀ v s l,aK (k v s l) (fun n=>k' n v s l)) : aK (liveK O ft n0 t f args s k) (fun n=>liveK (O' n) ft n0 t f args s (k' n)):=by
 unfold liveK
 exact aK.ite (aK.bd2 (hO.S _ _ _) fun l=>h _ _ _) aK.none
theorem aFn {l : Nat} {path : dM} {s : St} {k : Nat→St→Option R} {k' : Nat→Nat→St→Option R} (h : ∀ x s,aK (k x s) (fun n=>k' n x s)) : aK (leaveRowK l path s k) (fun n=>leaveRowK l path s (k' n)):=by
 unfold leaveRowK
 cases s.list l with
 | none=>exact aK.none
 | some w=>exact iN fun _ _=>aK.ite (pD fun _=>h _ _) aK.none
theorem aGq {l : Nat} {path : dM} {x : Nat} {s : St} {k : St→Option R} {k' : Nat→St→Option R} (h : ∀ s,aK (k s) (fun n=>k' n s)) : aK (backRowK l path x s k) (fun n=>backRowK l path x s (k' n)):=by
 unfold backRowK
 cases s.list l with
 | none=>exact aK.none
 | some w=>
   refine aK.ite (pU fun y s1=>?_) aK.none
   cases s1.list l with
   | none=>exact aK.none
   | some w1=>exact pD fun _=>h _
theorem aKi (hO : EvO O O') {f : Nat} {args : List DV} {ts : List Nat} {e : Env} {s : St} {k : DV→Env→St→Option R} {k' : Nat→DV→Env→St→Option R} (h : ∀ v e s,aK (k v e s) (fun n=>k' n v e s)) : aK (callK X O f args ts e s k) (fun n=>callK X (O' n) f args ts e s (k' n)):=by
 unfold callK
 cases X.mode f with
 | none=>exact aKg hO fun _ _=>h _ _ _
 | some t=>
   refine aK.ite (aKh hO fun _ _=>h _ _ _) ?_
   cases nestedArg t args with
   | none=>
     simp only [aBl]
     exact jU fun args s=>aFm hO fun _ _ _=>h _ _ _
   | some q=>
     obtain ⟨l,path,rest⟩:=q
     exact aFn fun x s1=>aFm hO fun _ _ _=>aK.ite aK.none (aGq fun _=>h _ _ _)
theorem aFo (hO : EvO O O') {v : PV} {vs : List PV} : aK (PV.apply O.C v vs) (fun n=>PV.apply (O' n).C v vs):=by
 unfold PV.apply
 cases v<;>(try simp only)<;>first
  | exact aK.none
  | exact hO.C _ _
theorem aI9 (hO : EvO O O') {d : DV} {args : List DV} {ts : List Nat} {e : Env} {s : St} {k : DV→Env→St→Option R} {k' : Nat→DV→Env→St→Option R} (h : ∀ v e s,aK (k v e s) (fun n=>k' n v e s)) : aK (applyK X O d args ts e s k) (fun n=>applyK X (O' n) d args ts e s (k' n)):=by
 cases d<;>(try simp only [applyK])<;>first
  | exact aK.none
  | exact aKi hO h
  | exact aK.ite (sO fun vs=>aK.bd2 (aFo hO) fun r=>aK.flat (h _ _ _)) (sO fun vs=>aK.bd2 (aFo hO) fun r=>h _ _ _)
theorem aGr {b : Builtin} {ts : List Nat} {args : List DV} {e : Env} {s : St} {k : DV→Env→St→Option R} {k' : Nat→DV→Env→St→Option R} (h : ∀ v e s,aK (k v e s) (fun n=>k' n v e s)) : aK (builtinK X b ts args e s k) (fun n=>builtinK X b ts args e s (k' n)):=by
 unfold builtinK
 split
 ·exact aLI fun n=>h _ _ _
 ·rename_i t u a d
  cases elemOf X t with
  | none=>exact aK.none
  | some te=>exact aK.ite (aHT h) aK.none
 ·rename_i t u a d
  cases elemOf X t with
  | none=>exact aK.none
  | some te=>exact aKf fun d s=>h _ _ _
 ·exact aK.bd fun c=>h _ _ _
 ·exact aK.bd fun c=>h _ _ _
 ·exact aK.none
theorem aCV (hO : EvO O O') {o : Oper} {e : Env} {s : St} {k : Kont} {k' : Nat→Kont} (h : ∀ e s,aK (k e s) (fun n=>k' n e s)) : aK (exec X O o e s k) (fun n=>exec X (O' n) o e s (k' n)):=by
 obtain ⟨dst,op,type,pos,after,guard⟩:=o
 cases op<;>simp only [exec]<;>try exact aK.none
 case move=>exact wU fun _ _=>h _ _
 case assign=>exact wU fun _ _=>h _ _
 case pick=>exact aKc fun _ _=>h _ _
 case alloc=>exact aI4 fun _ _=>h _ _
 case box=>exact aLH fun _ _=>h _ _
 case build=>exact aHQ fun _=>h _ _
 case buildSlice=>exact aCU fun _ _=>h _ _
 case makeSlice=>exact aD3 fun _ _=>h _ _
 case load=>exact aFk fun _=>aKb fun _=>h _ _
 case store=>exact aFk fun _=>aHS fun _ _=>h _ _
 case nilCheck=>exact aFk fun _=>aFj fun _=>h _ _
 case binOp=>exact aLK fun _=>h _ _
 case unOp=>exact aKd fun _=>h _ _
 case convert=>exact aKe fun _=>h _ _
 case makeFunc fn first caps=>
  cases fn<;>(try simp only)<;>first
   | exact aK.none
   | exact aK.ite (h _ _) aK.none
 case slice t x lo hi mx=>
  cases mx with
  | none=>exact aI7 fun _=>h _ _
  | some _=>exact aHR fun _ _=>h _ _
 case fieldAddr=>exact aD4 fun _=>h _ _
 case field=>exact aI6 fun _=>h _ _
 case indexAddr=>exact aD5 fun _=>h _ _
 case index=>exact aI5 fun _=>h _ _
 case extract=>exact aGo fun _=>h _ _
 case call c=>
  cases c.callee with
  | value f=>exact aI9 hO fun _ _ _=>h _ _
  | builtin b=>exact aGr fun _ _ _=>h _ _
  | invoke _ _=>exact aK.none
theorem gO (hO : EvO O O') {ops : Array Oper} {draw : Bool} : ∀ {r : List Oper} {i : Nat} {acc : List (Nat × Foot)} {e : Env} {s : St} {k : Kont} {k' : Nat→Kont},(∀ e s,aK (k e s) (fun n=>k' n e s))→aK (execOps X O ops draw i acc r e s k) (fun n=>execOps X (O' n) ops draw i acc r e s (k' n))
 | [],i,acc,e,s,k,k',h=>by
  unfold execOps
  exact aK.ite aK.none (h _ _)
 | o::r,i,acc,e,s,k,k',h=>by
   unfold execOps
   simp only [stf,stp]
   cases o.guard with
   | none=>exact aCV hO fun e s'=>aK.ite (gO hO h) aK.none
   | some p=>
     obtain ⟨j,want⟩:=p
     simp only
     cases guardDst ops.toList j with
     | none=>exact aK.none
     | some t=>
       simp only
       generalize e.get t=d0
       have hskip:=gO (ops:=ops) (draw:=draw) (r:=r) (i:=i+1) (acc:=if draw then (i,Foot.none)::acc else []) (e:=put o.dst (.tup []) e) (s:={ s with nb:=s.base+16*i,nl:=s.base+16*i}) hO h
       cases d0<;>(try simp only)<;>first
        | exact aK.none
        | (rename_i cs;cases cs with
           | nil=>exact hskip
           | cons=>exact aK.none)
        | exact aK.pvite (aK.ite (aCV hO fun e s'=>aK.ite (gO hO h) aK.none) (gO hO h)) (aK.ite (gO hO h) (aCV hO fun e s'=>aK.ite (gO hO h) aK.none))
theorem aAE (hO : EvO O O') : ∀ (m : Nat) (first : Bool) (todo : List Item) (e : Env) (s : St),aK (eval X O m first todo e s) (fun n=>eval X (O' n) m first todo e s)
 | 0,_,_,_,_=>by simp only [eval];exact aK.none
 | m+1,first,todo,e,s=>by
   have ih:=aAE hO m
   cases todo with
   | nil=>simp only [eval];exact aK.rfl _
   | cons x k=>
   cases x with
   | inBlock id=>simp only [eval];exact ih _ _ _ _
   | inScope c=>simp only [eval];exact ih _ _ _ _
   | inLoop c=>simp only [eval];exact ih _ _ _ _
   | code c=>
     cases c<;>simp only [eval]<;>first
      | exact aK.none
      | exact aK.rfl _
      | exact ih _ _ _ _
      | skip
     case exit id=>
      cases exitTo id k with
      | none=>exact aK.none
      | some k'=>exact ih _ _ _ _
     case goto l=>
      cases gotoIn l k with
      | none=>exact aK.none
      | some k'=>exact ih _ _ _ _
     case cond c a b=>
      generalize ev X e c=d0
      cases d0<;>(try simp only)<;>first
       | exact aK.none
       | exact aK.nilT (ih _ _ _ _) (ih _ _ _ _)
       | skip
      cases c<;>(try simp only)<;>exact aK.pvite (ih _ _ _ _) (ih _ _ _ _)
     case region id ops draw=>
      refine vZ fun e s=>?_
      cases first with
      | true=>exact gO hO fun e s=>ih _ _ _ _
      | false=>
        cases X.cut id with
        | none=>exact gO hO fun e s=>ih _ _ _ _
        | some keep=>exact hO.L _ _ _
   | _=>simp only [eval];exact aK.none
end
section
variable (P : Program) (T : Tab) (H : Hints)
def tN (f nb nl : Nat) (out : Option Tmpl) (todo : List Item) (e : Env) (s : St) : Option R:=
 open Classical in if h : ∃ r,∃ n,runN P T H n f nb nl out todo e s=some r then some h.choose else none
end
section
variable {P : Program} {T : Tab} {H : Hints}
theorem aK.le {β : Type} {a b : Option β} (h : ∀ r,a=some r→b=some r) : aK a (fun _=>b):=fun r hr=>⟨0,fun _ _=>h r hr⟩
theorem aK.of {β : Type} {a b : Option β} (h : aK a (fun _=>b)) : ∀ r,a=some r→b=some r:=fun r hr=>let ⟨N,hN⟩:=h r hr;hN N (Nat.le_refl _)
theorem aFp {run : Nat→Nat→Nat→Option Tmpl→List Item→Env→St→Option R} {run' : Nat→Nat→Nat→Nat→Option Tmpl→List Item→Env→St→Option R}
 (h : ∀ f nb nl out todo e s,aK (run f nb nl out todo e s) (fun n=>run' n f nb nl out todo e s)) (f nb nl : Nat) (out : Option Tmpl) : EvO (orcOf P H run f nb nl out) (fun n=>orcOf P H (run' n) f nb nl out) where
 L:=fun todo e s=>h _ _ _ _ _ _ _
 C:=fun g args=>by
  simp only [orcOf]
  cases H.prim g with
  | none=>exact h _ _ _ _ _ _ _
  | some p=>exact aK.rfl _
 S:=fun g args s=>by
  simp only [orcOf]
  cases H.mode g with
  | none=>exact aK.none
  | some t=>cases H.primS g with
    | none=>exact h _ _ _ _ _ _ _
    | some p=>exact aK.rfl _
theorem aG6 : ∀ (n f nb nl : Nat) (out : Option Tmpl) (todo : List Item) (e : Env) (s : St) (r : R),runN P T H n f nb nl out todo e s=some r→runN P T H (n+1) f nb nl out todo e s=some r
 | 0,_,_,_,_,_,_,_,_,h=>by simp [runN] at h
 | n+1,f,nb,nl,out,todo,e,s,r,h=>by
   have ih:=aG6 n
   unfold runN at h ⊢
   exact (aAE (aFp (run':=fun _=>runN P T H (n+1)) (fun f nb nl out todo e s=>aK.le (ih f nb nl out todo e s)) f nb nl out) evalFuel true todo e s).of r h
theorem aHU {n n' f nb nl : Nat} {out : Option Tmpl} {todo : List Item} {e : Env} {s : St} {r : R} (h : runN P T H n f nb nl out todo e s=some r) (hn : n≤n') : runN P T H n' f nb nl out todo e s=some r:=by
 induction hn with
 | refl=>exact h
 | step _ ih=>exact aG6 _ _ _ _ _ _ _ _ _ ih
theorem aKS {n f nb nl : Nat} {out : Option Tmpl} {todo : List Item} {e : Env} {s : St} {r : R} (h : runN P T H n f nb nl out todo e s=some r) : tN P T H f nb nl out todo e s=some r:=by
 unfold tN
 have hex : ∃ r,∃ n,runN P T H n f nb nl out todo e s=some r:=⟨r,n,h⟩
 rw [dif_pos hex]
 obtain ⟨n',h'⟩:=hex.choose_spec
 have h1:=aHU h (Nat.le_max_left n n')
 have h2:=aHU h' (Nat.le_max_right n n')
 rw [h1] at h2
 exact h2.symm
theorem aAF {f nb nl : Nat} {out : Option Tmpl} {todo : List Item} {e : Env} {s : St} {r : R} (h : tN P T H f nb nl out todo e s=some r) : ∃ n,runN P T H n f nb nl out todo e s=some r:=by
 unfold tN at h
 split at h
 ·rename_i hex
  cases h
  exact hex.choose_spec
 ·cases h
theorem aLL (f nb nl : Nat) (out : Option Tmpl) (todo : List Item) (e : Env) (s : St) : aK (tN P T H f nb nl out todo e s) (fun n=>runN P T H n f nb nl out todo e s):=by
 intro r hr
 obtain ⟨n,hn⟩:=aAF hr
 exact ⟨n,fun n' h'=>aHU hn h'⟩
theorem aKT (f nb nl : Nat) (out : Option Tmpl) (todo : List Item) (e : Env) (s : St) :
 tN P T H f nb nl out todo e s=eval (cxOf P T H f nb nl out) (orcOf P H (tN P T H) f nb nl out) evalFuel true todo e s:=by
 cases h : eval (cxOf P T H f nb nl out) (orcOf P H (tN P T H) f nb nl out) evalFuel true todo e s with
 | some r=>
   obtain ⟨N,hN⟩:=aAE (aFp (run':=fun n=>runN P T H n) aLL f nb nl out) evalFuel true todo e s r h
   refine aKS (n:=N+1) ?_
   unfold runN
   exact hN N (Nat.le_refl _)
 | none=>
   cases h' : tN P T H f nb nl out todo e s with
   | none=>rfl
   | some r=>
     exfalso
     obtain ⟨n,hn⟩:=aAF h'
     cases n with
     | zero=>simp [runN] at hn
     | succ n=>
       unfold runN at hn
       have:=(aAE (aFp (run':=fun _=>tN P T H) (fun f nb nl out todo e s=>aK.le (fun r h=>aKS h)) f nb nl out) evalFuel true todo e s).of r hn
       rw [h] at this
       cases this
def aMC (P : Program) (T : Tab) (H : Hints) (f : Nat) (args : List PV) : Option R:=(orcOf P H (tN P T H) 0 0 0 none).C f args
def aOl (P : Program) (T : Tab) (H : Hints) (f : Nat) (args : List DV) (s : St) : Option R:=(orcOf P H (tN P T H) 0 0 0 none).S f args s
theorem aNL (hy : Hyp P T H) : aKR P (tN P T H):=by
 intro f nb nl out todo e s r fn h hfn hok
 obtain ⟨n,hn⟩:=aAF h
 exact aG3 hy n f nb nl out todo e s r fn hn hfn hok
theorem aNM : aMA P (tN P T H):=by
 intro f nb nl out e s r h
 obtain ⟨n,hn⟩:=aAF h
 exact aBm hn
theorem aJa (hy : Hyp P T H) {f : Nat} {args : List PV} {r : R} (h : aMC P T H f args=some r) {w : World} {aU : Array Value} {Z : Nat→Prop} (hz : ZOk w Z) (hl : args.length=aU.size)
 (hr : ∀ (i : Nat) x v,args[i]? = some x→aU[i]? = some v→eU w Z x v) : Calls P f aU w (fun e w'=>∃ v,e = .returned v∧∃ Z',aB9 w w' Z Z'∧eU w' Z' (hd r) v):=
 (aI1 hy (aNL hy) aNM 0 0 0 none f args r h).2 w Z aU hz hl hr
theorem aKU (f nb nl : Nat) (out : Option Tmpl) (todo : List Item) (e : Env) (s : St) (r : Option R) (h : eval (cxOf P T H f nb nl out) (orcOf P H (tN P T H) f nb nl out) evalFuel true todo e s=r) : tN P T H f nb nl out todo e s=r:=
 (aKT f nb nl out todo e s).trans h
theorem aMD (f : Nat) (hp : H.prim f=none) (args : List PV) (r : Option R) (h : eval (cxOf P T H f 0 0 none) (orcOf P H (tN P T H) f 0 0 none) evalFuel true (startOf P f) (argEnv 0 (args.map .p)) ⟨[],[],0,0,0⟩=r) : aMC P T H f args=r:=by
 show (match H.prim f with | some h=>h args | none=>tN P T H f 0 0 none (startOf P f) (argEnv 0 (args.map .p)) ⟨[],[],0,0,0⟩)=r
 rw [hp]
 exact aKU _ _ _ _ _ _ _ _ h
theorem aME (f : Nat) (hp : H.primS f=none) (args : List DV) (s : St) (r : Option R) (h : (match H.mode f with | some t=>eval (cxOf P T H f s.boxes.length (if t.keep then s.lists.length else 0) (some (t.fit s))) (orcOf P H (tN P T H) f s.boxes.length (if t.keep then s.lists.length else 0) (some (t.fit s))) evalFuel true (startOf P f) (argEnv 0 args) s | none=>none)=r) : aOl P T H f args s=r:=by
 show (match H.mode f with | some t=>(match H.primS f with | some h=>h args s | none=>tN P T H f s.boxes.length (if t.keep then s.lists.length else 0) (some (t.fit s)) (startOf P f) (argEnv 0 args) s) | none=>none)=r
 rw [← h,hp]
 cases H.mode f with
 | none=>rfl
 | some t=>exact aKT _ _ _ _ _ _ _
end
def bV (f nb nl : Nat) (out : Option Tmpl) (todo : List Item) (e : Env) (s : St) : Option R:=tN Tryz.prog T aW f nb nl out todo e s
def aS (f : Nat) (args : List PV) : Option R:=aMC Tryz.prog T aW f args
def cK (f : Nat) (args : List DV) (s : St) : Option R:=aOl Tryz.prog T aW f args s
def orc (f nb nl : Nat) (out : Option Tmpl) : Orc:=orcOf Tryz.prog aW (tN Tryz.prog T aW) f nb nl out
theorem aT (f nb nl : Nat) (out : Option Tmpl) (todo : List Item) (e : Env) (s : St) (r : Option R) (h : eval (cxOf Tryz.prog T aW f nb nl out) (orc f nb nl out) evalFuel true todo e s=r) : bV f nb nl out todo e s=r:=aKU f nb nl out todo e s r h
theorem aP (f : Nat) (args : List PV) (r : Option R) (h : (match aW.prim f with | some p=>p args | none=>eval (cxOf Tryz.prog T aW f 0 0 none) (orc f 0 0 none) evalFuel true (startOf Tryz.prog f) (argEnv 0 (args.map .p)) ⟨[],[],0,0,0⟩)=r) : aS f args=r:=by
 cases hp : aW.prim f with
 | none=>rw [hp] at h;exact aMD f hp args r h
 | some p=>rw [hp] at h;rw [← h];show (match aW.prim f with | some h=>h args | none=>_)=_;rw [hp]
theorem bQ (f : Nat) (args : List DV) (s : St) (r : Option R) (h : (match aW.mode f with | some t=>(match aW.primS f with | some p=>p args s | none=>eval (cxOf Tryz.prog T aW f s.boxes.length (if t.keep then s.lists.length else 0) (some (t.fit s))) (orc f s.boxes.length (if t.keep then s.lists.length else 0) (some (t.fit s))) evalFuel true (startOf Tryz.prog f) (argEnv 0 args) s) | none=>none)=r) : cK f args s=r:=by
 cases hp : aW.primS f with
 | none=>simp only [hp] at h;exact aME f hp args s r h
 | some p=>
   simp only [hp] at h
   rw [← h]
   show (match aW.mode f with | some t=>(match aW.primS f with | some h=>h args s | none=>_) | none=>none)=_
   rw [hp]
set_option maxRecDepth 100000 in
theorem aKV : (Tryz.prog.funcs.toList.all fun f=>match f.body with | some c=>codeOk f.ntmps c&&(f.name != "runtime.NumGoroutine") | none=>true)=true:=by kernel_rfl
theorem aNN : Tryz.prog.follows .mixedOrders=true:=by kernel_rfl
theorem aPd : (aKJ.all fun p=>p.2.wf)=true:=by kernel_rfl
theorem aMF {m m' : aV} {s s' : St} {l : Nat} {scr : DV→DV} {w : Own} {v : Value} {t : Tmpl} (hf : fM m s s.base)
 (G : bM m m' (s.at s.base) s' (fun _=>True) (fun _=>True) (fun b=>b∈([] : List Nat)∨true=true) (fun l=>l∈([] : List Nat)∨true=true) s.base scr) (hl : s'.list l=some w) (hv : m'.rd (.ref l []) v)
 (ht : t.res = .ref 0 []∧t.boxes = []∧t.lists = [some ⟨w.o,.int .i64 0⟩]) : sM m 0 0 (some t) [w.c] v m'.w:=by
 have hf':=(bM.full (f:=⟨[],[],[],[],true,true⟩) hf G).1
 have hb : ∀ b∈([] : List Nat),m'.s.box b=s'.box b:=fun b _=>hf'.box b
 have hl' : ∀ x∈[l],m'.s.list x=s'.list x:=fun x _=>hf'.list x
 have pf:=aAB (a:=⟨[],[l]⟩) hf'.inv hb hl' List.nodup_nil (by simp)
 have fw:=aE5 (a:=⟨[],[l]⟩) hf' 0 0 (fun b h=>by omega) (fun b h=>by omega)
 refine ⟨m'.pick [] [l] (s'.pick ⟨[],[l]⟩),rfl,pf.inv,(G.step.fwd hf.inv 0 0).trans fw,?_⟩
 refine ⟨.ref 0 [],s',⟨[],[l]⟩,?_,?_,pf,fun x hx=>hx.1,fun x hx=>hx.1⟩
 ·unfold Tmpl.read
  rw [ht.1,ht.2.1,ht.2.2]
  have e1 : (s'.pick ⟨[],[l]⟩).boxes = []:=rfl
  have e2 : (s'.pick ⟨[],[l]⟩).lists = [(0,some w)]:=by
   show [(0,s'.list l)]=_
   rw [hl]
  rw [e1,e2]
  simp [readD,readB,readO,OTy.same_refl]
 ·have:=aE4 (a:=⟨[],[l]⟩) hl' deep hv
  have e : ren (idx · [] 0) (idx · [l] 0) deep (.ref l []) = .ref 0 []:=by
   simp [deep,ren,ren1,idx]
  rw [e] at this
  exact this
theorem aJb {P : Program} {ρ : Go.Shelf.Ren} (L : Lays8.n4 P ρ) {i0 : TypeInfo} {z : Value} (hi0 : P.info? (ρ.t 25)=some i0) (hz0 : i0.zero=some z) (hzs : z.cells.size=i0.size) (hs0 : 0<i0.size) {e : Nat} (hby : i0.bytes=e)
 {args : List DV} {s : St} {r : R} (h : sG e args s=some r) {m : aV} {aU : Array Value} (hf : fM m s s.base) (hl : args.length=aU.size) (hr : ∀ (i : Nat) d v,args[i]? = some d→aU[i]? = some v→m.rd d v)
 {t : Tmpl} {eb : Nat} {g : Bool} (ht : t.res = .ref 0 []∧t.boxes = []∧t.lists = [some ⟨.own i0.size eb g [],.int .i64 0⟩]) :
 Calls P (ρ.f 4) aU m.w (fun e w'=>∃ v,e = .returned v∧sM m 0 0 (some t) r v w'):=by
 unfold sG at h
 split at h
 rotate_left
 ·cases h
 rename_i n _
 split at h
 rotate_left
 ·cases h
 rename_i hc
 obtain ⟨hn,hbound,hlen⟩:=hc
 cases h
 obtain ⟨v0,v1,rfl⟩ : ∃ v0 v1,aU = #[v0,v1]:=by
  match aU,hl with
  | ⟨[a,b]⟩,_=>exact ⟨a,b,rfl⟩
  | ⟨[]⟩,h=>simp at h
  | ⟨[_]⟩,h=>simp at h
  | ⟨_::_::_::_⟩,h=>simp at h
 have h0:=hr 0 _ _ rfl rfl
 have h1:=hr 1 _ _ rfl rfl
 obtain rfl : v1 = .int .i64 n:=by
  cases h1 with
  | p _ _ h1=>cases h1;rfl
 obtain rfl : v0 = .slice none 0 0:=by cases h0;rfl
 obtain ⟨k,rfl⟩:=Int.eq_ofNat_of_zero_le hn
 simp only [Int.toNat_natCast] at hbound
 have sit:=hf.sit (Nat.le_refl s.base)
 have hlf : (OTy.own i0.size eb g []).isLeaf=false:=rfl
 have hmw : m.w.heap.size=m.w.heap.size:=rfl
 have fin : ∀ {w' : World} {v : Value} {F' : Nat→Prop},bX w' m.Z (.own i0.size eb g []) (.lst []) v F'→cN v→(∀ r,F' r→m.w.heap.size≤r)→(∀ r,r<m.w.heap.size→w'.heap[r]? = m.w.heap[r]?)→
  m.w.heap.size≤w'.heap.size→w'.os=m.w.os→w'.tape=m.w.tape→w'.output=m.w.output→sM m 0 0 (some t) [.lst []] v w':=by
  intro w' v F' hro' hcv hF' hw hsize hos htape hout
  have G2:=bM.addRow (B:=fun _=>True) (L:=fun _=>True) (fun b=>b∈([] : List Nat)∨true=true) (fun l=>l∈([] : List Nat)∨true=true) sit (show s.base<s.base+16 by omega) (own:=⟨.own i0.size eb g [],.lst []⟩) hlf hro' (fun r hr=>.inr (hF' r hr)) (fun r hr _=>hw r hr) hsize hos htape hout
  exact aMF (l:=s.base) hf G2 (w:=⟨.own i0.size eb g [],.lst []⟩) (by simp [St.list,St.addList,St.at,look]) (aV.addRow_rd hcv) ht
 by_cases hroom : 0+k≤0
 ·refine (Any8.slices_Grow_room L none 0 0 k m.w (Nat.le_refl _) (by omega) (by omega) hroom).mono ?_
  rintro e w' ⟨rfl,rfl⟩
  exact ⟨_,rfl,fin (F':=fun _=>False) (.nil _ _ _ _ _ _ (fun _ h=>h)) trivial (fun _ h=>h.elim) (fun _ _=>rfl) (Nat.le_refl _) rfl rfl rfl⟩
 ·refine (Any8.slices_Grow_grow L i0 z hi0 hz0 hs0 none 0 0 k [] m.w (Nat.le_refl _) (by omega) (by rw [hby,Nat.zero_add];exact hbound) (by omega) (by simp) (fun _=>rfl) (fun a h=>by cases h)).mono ?_
  rintro e w' ⟨rfl,rfl⟩
  refine ⟨_,rfl,?_⟩
  generalize hcp : grownCap m.w (0+k) 0 (ρ.t 25)=cp
  have hge : 0+k≤cp:=by rw [← hcp];exact grownCap_ge _ _ _ _
  generalize hcells : (([] : List Value).toArray++Builtin.zeroCells z.cells (0+k - 0)++Builtin.zeroCells z.cells (cp - (0+k)) : Array Value)=cells
  have hcsz : cp*i0.size≤cells.size:=by
   rw [← hcells]
   simp only [Array.size_append,List.size_toArray,List.length_nil,xX,hzs,← Nat.add_mul]
   rw [Nat.zero_add,← Nat.add_mul]
   exact Nat.mul_le_mul_right _ (by omega)
  have hnew : (m.w.drew.alloc (.cells cells (ρ.t 25))).heap[m.w.heap.size]? = some (.cells cells (ρ.t 25) (0,0)):=heap_alloc_new m.w.drew _
  have hro':=(Els.nil (w:=m.w.drew.alloc (.cells cells (ρ.t 25))) (Z:=m.Z) (.own i0.size eb g []) (fun _ _=>.nilFunc) (fun _ _ _=>False)).repO hlf hs0 (b:=m.w.heap.size) (off:=0) (cap:=cp) hnew (by rw [Nat.zero_add];exact hcsz) (by simp) (fun hzr=>by have:=hf.inv.zlt _ hzr;omega)
   (fun i j hi=>by simp at hi) (fun i j hi=>by simp at hi)
  refine fin hro' trivial (fun r hr=>?_) (fun r hr=>heap_alloc_old m.w.drew _ hr) (by simp) rfl rfl rfl
  rcases hr with rfl | ⟨i,j,hi,_⟩
  ·exact Nat.le_refl _
  ·simp at hi
end
noncomputable section
open Go Go.Shelf
def Tryz.lays8n4_ren : Go.Shelf.Ren:=⟨fun | 4=>142 | n=>n,fun | 22=>60 | 25=>36 | 3=>3 | 4=>4 | 9=>9 | 20=>20 | 0=>0 | n=>n,fun | n=>n⟩
theorem Tryz.lays8n4 : Go.Proofs.Lays8.n4 Tryz.prog Tryz.lays8n4_ren:={
 mixed:=by kernel_rfl
 f4:=⟨Tryz.f142.name,by decide,Tryz.func142.trans (congrArg some (by kernel_rfl))⟩
 t0:=Tryz.underlying0
 a0:=Tryz.isAgg0
 z0:=Tryz.sizeOf0
 v0:=Tryz.zeroValue0
 t3:=Tryz.underlying3
 a3:=Tryz.isAgg3
 z3:=Tryz.sizeOf3
 v3:=Tryz.zeroValue3
 t4:=Tryz.underlying4
 a4:=Tryz.isAgg4
 z4:=Tryz.sizeOf4
 v4:=Tryz.zeroValue4
 t9:=Tryz.underlying9
 a9:=Tryz.isAgg9
 z9:=Tryz.sizeOf9
 v9:=Tryz.zeroValue9
 t20:=Tryz.underlying20
 a20:=Tryz.isAgg20
 z20:=Tryz.sizeOf20
 v20:=Tryz.zeroValue20
 t22:=Tryz.underlying60
 a22:=Tryz.isAgg60
 z22:=Tryz.sizeOf60
 v22:=Tryz.zeroValue60}
def Tryz.sort64_ren : Go.Shelf.Ren:=⟨fun | 5=>64 | 8=>101 | 7=>100 | 19=>131 | 20=>132 | 10=>122 | 11=>123 | 12=>124 | 13=>125 | 14=>126 | 15=>127 | 16=>128 | 17=>129 | 18=>130 | 30=>144 | 31=>145 | 32=>146 | 33=>147 | 34=>148 | 35=>149 | 40=>153 | n=>n,fun | 23=>57 | 25=>3 | 3=>3 | 32=>145 | 22=>57 | 0=>0 | 44=>173 | 46=>175 | 4=>4 | 36=>167 | 35=>166 | 41=>156 | 5=>5 | 9=>9 | 53=>187 | 57=>191 | 63=>198 | 64=>151 | n=>n,fun | n=>n⟩
theorem Tryz.sort64 : Go.Proofs.SlLaysM.n5 Tryz.prog Tryz.sort64_ren:={
 mixed:=by kernel_rfl
 f5:=⟨Tryz.f64.name,by decide,Tryz.func64.trans (congrArg some (by kernel_rfl))⟩
 f7:=⟨Tryz.f100.name,by decide,Tryz.func100.trans (congrArg some (by kernel_rfl))⟩
 f8:=Tryz.func101.trans (congrArg some (by kernel_rfl))
 f10:=⟨Tryz.f122.name,by decide,Tryz.func122.trans (congrArg some (by kernel_rfl))⟩
 f11:=⟨Tryz.f123.name,by decide,Tryz.func123.trans (congrArg some (by kernel_rfl))⟩
 f12:=⟨Tryz.f124.name,by decide,Tryz.func124.trans (congrArg some (by kernel_rfl))⟩
 f13:=⟨Tryz.f125.name,by decide,Tryz.func125.trans (congrArg some (by kernel_rfl))⟩
 f14:=⟨Tryz.f126.name,by decide,Tryz.func126.trans (congrArg some (by kernel_rfl))⟩
 f15:=⟨Tryz.f127.name,by decide,Tryz.func127.trans (congrArg some (by kernel_rfl))⟩
 f16:=⟨Tryz.f128.name,by decide,Tryz.func128.trans (congrArg some (by kernel_rfl))⟩
 f17:=⟨Tryz.f129.name,by decide,Tryz.func129.trans (congrArg some (by kernel_rfl))⟩
 f18:=⟨Tryz.f130.name,by decide,Tryz.func130.trans (congrArg some (by kernel_rfl))⟩
 f19:=Tryz.func131.trans (congrArg some (by kernel_rfl))
 f20:=Tryz.func132.trans (congrArg some (by kernel_rfl))
 f30:=⟨Tryz.f144.name,by decide,Tryz.func144.trans (congrArg some (by kernel_rfl))⟩
 f31:=Tryz.func145.trans (congrArg some (by kernel_rfl))
 f32:=Tryz.func146.trans (congrArg some (by kernel_rfl))
 f33:=⟨Tryz.f147.name,by decide,Tryz.func147.trans (congrArg some (by kernel_rfl))⟩
 f34:=⟨Tryz.f148.name,by decide,Tryz.func148.trans (congrArg some (by kernel_rfl))⟩
 f35:=⟨Tryz.f149.name,by decide,Tryz.func149.trans (congrArg some (by kernel_rfl))⟩
 f40:=⟨Tryz.f153.name,by decide,Tryz.func153.trans (congrArg some (by kernel_rfl))⟩
 t0:=Tryz.underlying0
 a0:=Tryz.isAgg0
 z0:=Tryz.sizeOf0
 v0:=Tryz.zeroValue0
 t3:=Tryz.underlying3
 a3:=Tryz.isAgg3
 z3:=Tryz.sizeOf3
 v3:=Tryz.zeroValue3
 t4:=Tryz.underlying4
 a4:=Tryz.isAgg4
 z4:=Tryz.sizeOf4
 v4:=Tryz.zeroValue4
 t5:=Tryz.underlying5
 a5:=Tryz.isAgg5
 z5:=Tryz.sizeOf5
 v5:=Tryz.zeroValue5
 t9:=Tryz.underlying9
 a9:=Tryz.isAgg9
 z9:=Tryz.sizeOf9
 v9:=Tryz.zeroValue9
 t22:=Tryz.underlying57
 a22:=Tryz.isAgg57
 z22:=Tryz.sizeOf57
 v22:=Tryz.zeroValue57
 t23:=Tryz.underlying57
 a23:=Tryz.isAgg57
 z23:=Tryz.sizeOf57
 v23:=Tryz.zeroValue57
 t25:=Tryz.underlying3
 a25:=Tryz.isAgg3
 z25:=Tryz.sizeOf3
 v25:=Tryz.zeroValue3
 t32:=Tryz.underlying145
 a32:=Tryz.isAgg145
 z32:=Tryz.sizeOf145
 v32:=Tryz.zeroValue145
 t35:=Tryz.underlying166
 a35:=Tryz.isAgg166
 z35:=Tryz.sizeOf166
 v35:=Tryz.zeroValue166
 t36:=Tryz.underlying167
 a36:=Tryz.isAgg167
 z36:=Tryz.sizeOf167
 v36:=Tryz.zeroValue167
 t41:=Tryz.underlying156
 a41:=Tryz.isAgg156
 z41:=Tryz.sizeOf156
 v41:=Tryz.zeroValue156
 t44:=Tryz.underlying173
 a44:=Tryz.isAgg173
 z44:=Tryz.sizeOf173
 v44:=Tryz.zeroValue173
 t46:=Tryz.underlying175
 a46:=Tryz.isAgg175
 z46:=Tryz.sizeOf175
 v46:=Tryz.zeroValue175
 t53:=Tryz.underlying187
 a53:=Tryz.isAgg187
 z53:=Tryz.sizeOf187
 v53:=Tryz.zeroValue187
 t57:=Tryz.underlying191
 a57:=Tryz.isAgg191
 z57:=Tryz.sizeOf191
 v57:=Tryz.zeroValue191
 t63:=Tryz.underlying198
 a63:=Tryz.isAgg198
 z63:=Tryz.sizeOf198
 v63:=Tryz.zeroValue198
 t64:=Tryz.underlying151
 a64:=Tryz.isAgg151
 z64:=Tryz.sizeOf151
 v64:=Tryz.zeroValue151}
end
noncomputable section
open Go Go.RowKit Go.Shelf
section
attribute [local go_sem] Oper.semAt_some
def aGs (zs : List Int) (k : Nat) : List Int:=(List.range k).map fun j=>zs[j]?.getD 0
theorem aLM (zs : List Int) (k : Nat) : aGs zs (k+1)=aGs zs k++[zs[k]?.getD 0]:=by simp [aGs,List.range_succ]
theorem aJc (zs : List Int) (k : Nat) : (aGs zs k).length=k:=by simp [aGs]
theorem aMG (zs : List Int) : aGs zs zs.length=zs:=by
 apply List.ext_getElem
 ·simp [aGs]
 ·intro i h1 h2
  simp [aGs,h2]
set_option maxRecDepth 100000 in
set_option maxHeartbeats 2000000 in
theorem aMH (F : Fence) (n : Nat) (h7 : F.fn 65) (hro : F.round=none) (hn : 1≤n) (l Bs o n₀ b off len cap : Nat) (zs : List Int) (hreach : len*8≤140737488351232) (hb : b<n₀) (J Jx : List Int→World→Prop)
 (hY : ∀ pre x W,J pre W→pre.length<len→YieldAt F (n - 1) Tryz.prog l #[.int .i64 x] W fun e W'=>
  (e = .returned (.bool true)∧J (pre++[x]) W'∧Below n₀ W W')∨(e = .returned (.bool false)∧Jx (pre++[x]) W'))
 (W : World) (hBs : W.cell? ⟨Bs,o,none⟩=some (.slice (some ⟨b,off,none⟩) len cap)) (hc : ∀ j,j<len→W.cell? ⟨b,off+j,none⟩=some (.int .i64 (zs[j]?.getD 0))) (h0 : J [] W) :
 CallsIn F n Tryz.prog 65 #[.func (.yield l) #[] #[],.pointer (some ⟨Bs,o,none⟩)] W fun e W'=>(∃ v,e = .returned v)∧
  ((∃ ys,ys=aGs zs len∧J ys W')∨(∃ pre,True∧Jx pre W')):=by
 refine callsIn_of_wp Tryz.func65 rfl h7 ?_ hro
 simp only [Tryz.ntmps65,List.size_toArray,List.length_cons,List.length_nil,Nat.reduceAdd,Nat.reduceSub,Array.replicate_succ,Array.replicate_zero,List.push_toArray,List.append_toArray,List.nil_append,List.cons_append]
 gi_wp2
 gi_loopw [7] (fun i wr=>∃ k : Nat,k≤len∧i = .int .i64 k∧J (aGs zs k) wr∧Below n₀ W wr)
  (fun i _=>match i with | .int _ k=>len - k.toNat | _=>0)
 case atStart=>exact ⟨0,Nat.zero_le _,rfl,h0,Below.refl _ _⟩
 case round=>
  obtain ⟨k,hk,rfl,hJs,hnx⟩:=hrel
  have hcx : k<len→wr.cell? ⟨b,off+k,none⟩=some (.int .i64 (zs[k]?.getD 0)):=fun h=>(hnx.cell (p:=⟨b,off+k,none⟩) hb).trans (hc k h)
  by_cases hlt : k<len
  ·obtain ⟨fn,tmps,assign,body,hy,hR⟩:=hY _ (zs[k]?.getD 0) wr hJs (by rw [aJc];exact hlt)
   have hcx':=hcx hlt
   gi_wp2
   refine hR.mono ?_
   rintro e W3 (⟨rfl,hJ3,hk3⟩ | ⟨rfl,hJx3⟩)
   ·gi_wp2
    go_roundw
    case rel=>exact ⟨k+1,by omega,by simp,by rw [aLM];exact hJ3,hnx.trans hk3⟩
    case measure=>simp;omega
   ·gi_wp2
    refine bodyPost_ret (results_none rfl _ _ _) rfl ?_
    exact ⟨⟨_,rfl⟩,.inr ⟨_,trivial,hJx3⟩⟩
  ·obtain rfl : k=len:=by omega
   gi_wp2
   go_end0
   exact ⟨⟨_,rfl⟩,.inl ⟨_,rfl,hJs⟩⟩
set_option maxRecDepth 100000 in
set_option maxHeartbeats 1000000 in
theorem aHV (F : Fence) (n : Nat) (h7 : F.fn 65) (hro : F.round=none) (l Bs o : Nat) (a : Option Addr) (cap : Nat) (J : List Int→World→Prop) (W : World) (hBs : W.cell? ⟨Bs,o,none⟩=some (.slice a 0 cap)) (h0 : J [] W) :
 CallsIn F n Tryz.prog 65 #[.func (.yield l) #[] #[],.pointer (some ⟨Bs,o,none⟩)] W fun e W'=>(∃ v,e = .returned v)∧J [] W':=by
 refine callsIn_of_wp Tryz.func65 rfl h7 ?_ hro
 simp only [Tryz.ntmps65,List.size_toArray,List.length_cons,List.length_nil,Nat.reduceAdd,Nat.reduceSub,Array.replicate_succ,Array.replicate_zero,List.push_toArray,List.append_toArray,List.nil_append,List.cons_append]
 gi_wp2
 gi_loopw [7] (fun i wr=>i = .int .i64 0∧J [] wr) (fun _ _=>0)
 case atStart=>exact ⟨rfl,h0⟩
 case round=>
  obtain ⟨rfl,hJs⟩:=hrel
  gi_wp2
  go_end0
  exact ⟨⟨_,rfl⟩,hJs⟩
def nB (n₀ : Nat) (W : World) (sv : Value) (zs : List Int) : Prop:=
 (∃ a cap,sv = .slice a 0 cap∧zs = [])∨∃ b off cap,sv = .slice (some ⟨b,off,none⟩) zs.length cap∧b<n₀∧∀ j,j<zs.length→W.cell? ⟨b,off+j,none⟩=some (.int .i64 (zs[j]?.getD 0))
theorem nB.below {n₀ : Nat} {A B : World} (h : Below n₀ A B) {sv : Value} {zs : List Int} : nB n₀ A sv zs→nB n₀ B sv zs
 | .inl e=>.inl e
 | .inr ⟨b,off,cap,e,hb,hc⟩=>.inr ⟨b,off,cap,e,hb,fun j hj=>(h.cell (p:=⟨b,off+j,none⟩) hb).trans (hc j hj)⟩
theorem aKj (F : Fence) (n : Nat) (h7 : F.fn 65) (hro : F.round=none) (hn : 1≤n) (Bs o n₀ : Nat) (sv : Value) (zs : List Int) (hreach : zs.length*8≤140737488351232) (w : World) (hBs : Bs<w.heap.size) (hn₀ : n₀≤w.heap.size)
 (hc : w.cell? ⟨Bs,o,none⟩=some sv) (hI : nB n₀ w sv zs) :
 SeqStopsK F n Tryz.prog 65 #[.pointer (some ⟨Bs,o,none⟩)] (fun x : Int=>#[Value.int .i64 x]) (Below n₀) (fun ys=>ys=zs) (fun _=>True) zs.length w:=fun l J Jx W hW _ _ hY h0=>by
 have hc':=(hW.cell (p:=⟨Bs,o,none⟩) hBs).trans hc
 rcases hI.below (hW.mono hn₀) with ⟨a,cap,rfl,rfl⟩ | ⟨b,off,cap,rfl,hb,hcs⟩
 ·exact (aHV F n h7 hro l Bs o a cap J W hc' h0).mono fun e W' ⟨he,hj⟩=>⟨he,.inl ⟨_,rfl,hj⟩⟩
 ·refine (aMH F n h7 hro hn l Bs o n₀ b off zs.length cap zs hreach hb J Jx hY W hc' hcs h0).mono ?_
  rintro e W' ⟨he,⟨ys,rfl,hj⟩ | ⟨pre,_,hj⟩⟩
  ·exact ⟨he,.inl ⟨_,aMG zs,hj⟩⟩
  ·exact ⟨he,.inr ⟨_,trivial,hj⟩⟩
end
set_option maxRecDepth 100000 in
theorem aMI : ∃ i0 : TypeInfo,Tryz.prog.info? 3=some i0∧i0.zero=some (.int .i64 0)∧i0.size=1∧i0.bytes=8:=by
 have h : (Tryz.prog.info? 3).map (fun i=>(i.zero,i.size,i.bytes))=some (some (.int .i64 0),1,8):=by kernel_rfl
 cases hi : Tryz.prog.info? 3 with
 | none=>rw [hi] at h;cases h
 | some i=>rw [hi] at h;simp at h;exact ⟨i,rfl,h.1,h.2.1,h.2.2⟩
def ApI (n₀ B : Nat) (pre : List Int) (W : World) : Prop:=∃ v,Boxed W B 57 v∧W.ownsRow n₀ 3 1 v pre.length (pre.map (Value.int .i64))
theorem pS {W : World} {n₀ : Nat} {v : Value} {k : Nat} {xs : List Value} (h : W.ownsRow n₀ 3 1 v k xs) {j : Nat} {o : Obj} (hj : W.heap[j]? = some o) (ho : ∀ cur,o≠.cells cur 3 (0,0)) : v.ownBlock=none∨v.ownBlock≠some j:=by
 rcases h.2 with ⟨rfl,_⟩ | ⟨g,cap,cur,rfl,_,hg,_⟩
 ·exact .inl rfl
 ·refine .inr (fun e=>?_)
  cases e
  rw [hg] at hj
  cases hj
  exact ho _ rfl
theorem aNO (n₀ B : Nat) : Go.Own (ApI n₀ B):=fun pre A W row ⟨v,h1,h2⟩ hg hr=>by
 cases row with
 | none=>exact ⟨v,h1.kept hg (by simp),h2.kept hg (by cases v.ownBlock<;>simp)⟩
 | some r=>
   obtain ⟨o,ho,hc⟩:=hr r rfl
   refine ⟨v,h1.kept hg (fun e=>?_),h2.kept hg (pS h2 ho (fun cur e=>by subst e;cases hc))⟩
   cases e
   have:=h1
   unfold Boxed at this
   rw [this] at ho
   cases ho
   cases hc
set_option maxRecDepth 100000 in
set_option maxHeartbeats 4000000 in
theorem aHW (F : Fence) (n : Nat) (h99 : F.fn 99) (h65 : F.fn 65) (hro : F.round=none) (hn : 4≤n) (Bs o : Nat) (sv : Value) (zs : List Int) (hreach : zs.length*8≤140737488351232) (w : World) (hBs : Bs<w.heap.size)
 (hc : w.cell? ⟨Bs,o,none⟩=some sv) (hI : nB w.heap.size w sv zs) :
 CallsIn F n Tryz.prog 99 #[.slice none 0 0,.func (.func 65) #[] #[.pointer (some ⟨Bs,o,none⟩)]] w fun e w'=>∃ v,e = .returned v∧w'.ownsRow w.heap.size 3 1 v zs.length (zs.map (Value.int .i64))∧Below w.heap.size w w':=by
 have h1 : 1≤n:=by omega
 obtain ⟨i0,hi,hz0,hz1,hz2⟩:=aMI
 refine callsIn_of_wp_marks Tryz.func99 rfl h99 ?_ hro
 simp only [Tryz.ntmps99,List.size_toArray,List.length_cons,List.length_nil,Nat.reduceAdd,Nat.reduceSub,Array.replicate_succ,Array.replicate_zero,List.push_toArray,List.append_toArray,List.nil_append,List.cons_append]
 gi_wp2
 have bS:=Boxed.new w 57 (.slice none 0 0)
 have hB0 : Below w.heap.size w (w.alloc (.cells #[.slice none 0 0] 57)):=(Below.refl _ w).alloc (Nat.le_refl _) _
 refine wpIn_rangeFunc_ownG hro h1 (gf:=65) (lb:=#[.pointer (some ⟨Bs,o,none⟩)]) rfl h65 (enters_of Tryz.func65 (by kernel_rfl) rfl)
  (aKj F (n - 1) h65 hro (by omega) Bs o w.heap.size sv zs hreach _ (by simp;omega) (by simp) ((hB0.cell (p:=⟨Bs,o,none⟩) hBs).trans hc) (hI.below hB0)) belowK_t (belowK_b (by simp)) (Below.refl _ _) (fun _=>rfl)
  (fun pre W=>ApI w.heap.size w.heap.size pre W∧Below w.heap.size w W)
  (fun _ _ _=>False)
  (OwnFrom.and (Go.Own.from (aNO _ _) _) (ownFrom_below (Nat.le_refl _) (by simp)))
  (fun _ _ _ _ _ hs _ _=>hs)
  ⟨⟨_,bS,World.ownsRow_nil _ _ _ _⟩,hB0⟩
  (fun x=>{ tmps:=#[.slice none 0 0,.func (.func 65) #[] #[.pointer (some ⟨Bs,o,none⟩)],.pointer (some ⟨w.heap.size,0,none⟩),undef,.slice none 0 0,.int .i64 x,.func (.func 65) #[] #[.pointer (some ⟨Bs,o,none⟩)],.int .i64 x,undef,undef,undef,undef,undef],defers:=[]}) ?assign ?body ?done ?stop
 case assign=>
  intro l x W K hK
  gi_wp2_with gi_round_op_a
  exact hK
 case body=>
  rintro l pre x W ⟨⟨v,hb,hrow⟩,hB⟩ hlt
  have hbc:=hb.cell
  have hbl:=hb.lt
  gi_wp2_with (first
   | (gi_at_builtin;refine wpListIn_append_own _ rfl _ _ 57 rfl w.heap.size 3 i0 (.int .i64 0) 1 8 Tryz.underlying57 hi hz0 hz1 hz2 rfl (by decide) _ _ _ rfl (hrow.alloc _) ⟨W.heap.size,0,none⟩ 1 1 [.int .i64 x] rfl rfl (cell_one_new _ _ _) (by simp [Value.oneCell']) (by unfold maxLen;omega) (by omega) (by have:=hB.size;simp;omega) ?_;intro v' w3 hown' hg3 hnil3
      have hg3 : (W.alloc (.cells #[.int .i64 x] 3)).grownBy w3 v.ownBlock:=hg3
      have hb3 : Boxed w3 w.heap.size 57 v:=Boxed.kept (hb.alloc _) hg3 (fun e=>by
       rcases pS hrow hb (fun cur e=>by cases e) with h | h
       ·rw [h] at e;cases e
       ·exact h e.symm)
      have hcell : ∀ (j : Nat) (o : Obj),v.ownBlock=some j→(W.alloc (.cells #[.int .i64 x] 3)).heap[j]? = some o→o.isCells=true:=fun j o hj ho=>by
       rcases (hrow.alloc (.cells #[.int .i64 x] 3)).2 with ⟨rfl,_⟩ | ⟨g,cap,cur,rfl,_,hg,_⟩
       ·cases hj
       ·cases hj;rw [hg] at ho;cases ho;rfl
      have hK3 : KeepsOthers W w3:=(KeepsOthers.alloc W _).trans (KeepsOthers.of_grownBy hg3 hcell)
      have hBel : Below w.heap.size W w3:=((Below.refl w.heap.size W).alloc hB.size _).grown hg3 (by have:=hB.size;simp;omega) (fun k e=>(hrow.lt k e).1)
      have hc3:=hb3.cell
      have hf3:=hb3.frozen
      obtain ⟨g',cap',rfl⟩ : ∃ g' cap',v' = .slice (some ⟨g',0,none⟩) (pre.length+1) cap':=by
       rcases hown'.2 with ⟨_,h0⟩ | ⟨g',cap',cur',h,_⟩
       ·omega
       ·exact ⟨g',cap',h⟩
      go_frame)
   | gi_round_op_a)
  have ho4:=hown'.kept (grownBy_setCell' w3 w.heap.size (.slice (some ⟨g',0,none⟩) (pre.length+1) cap')) (pS hown' hb3 (fun cur e=>by cases e))
  refine ⟨(hK3.trans (KeepsOthers.setCell _ _ _)).from _,hBel.setCell (p:=⟨w.heap.size,0,none⟩) (Nat.le_refl _) _,⟨_,Boxed.set _ hb3,?_⟩,(hB.trans hBel).setCell (p:=⟨w.heap.size,0,none⟩) (Nat.le_refl _) _⟩
  simpa using ho4
 case done=>
  rintro D ys W hD rfl ⟨⟨v,hb,hrow⟩,hB⟩ hK
  have hbc:=hb.cell
  gi_wp2
  refine ⟨by simp,.inl ⟨_,_,rfl,run_takeDeferred hK,?_⟩⟩
  refine ⟨_,results_tmp rfl _ _ _,?_⟩
  have hbk:=belowK_b (w:=w) (Nat.le_refl _) W D (.deferred (some [])) (.deferred none) (by simp at hD;omega) hK rfl rfl
  exact ⟨v,rfl,hrow.kept (grownBy_putObj' _ _ _) (pS hrow hK (fun cur e=>by cases e)),hB.trans hbk⟩
 case stop=>
  rintro D c pre W _ _ h _
  exact h.elim
set_option maxRecDepth 100000 in
set_option maxHeartbeats 1000000 in
theorem aKk (F : Fence) (n : Nat) (h63 : F.fn 63) (h99 : F.fn 99) (h65 : F.fn 65) (hro : F.round=none) (hn : 5≤n) (Bs o : Nat) (sv : Value) (zs : List Int) (hreach : zs.length*8≤140737488351232) (w : World) (hBs : Bs<w.heap.size)
 (hc : w.cell? ⟨Bs,o,none⟩=some sv) (hI : nB w.heap.size w sv zs) :
 CallsIn F n Tryz.prog 63 #[.func (.func 65) #[] #[.pointer (some ⟨Bs,o,none⟩)]] w fun e w'=>∃ v,e = .returned v∧w'.ownsRow w.heap.size 3 1 v zs.length (zs.map (Value.int .i64))∧Below w.heap.size w w':=by
 have h1 : 1≤n:=by omega
 refine callsIn_of_wp Tryz.func63 rfl h63 ?_ hro
 simp only [Tryz.ntmps63,List.size_toArray,List.length_cons,List.length_nil,Nat.reduceAdd,Nat.reduceSub,Array.replicate_succ,Array.replicate_zero,List.push_toArray,List.append_toArray,List.nil_append,List.cons_append]
 gi_wp2_with (gi_at_call 99;refine (aHW F (n - 1) h99 h65 hro (by omega) Bs o sv zs hreach w hBs hc hI).mono ?_;rintro e w' ⟨v,rfl,hrow,hb⟩)
 go_ret
 exact ⟨v,rfl,hrow,hb⟩
set_option maxRecDepth 100000 in
set_option maxHeartbeats 2000000 in
theorem aLN (F : Fence) (n : Nat) (h31 : F.fn 31) (h63 : F.fn 63) (h64 : F.fn 64) (h99 : F.fn 99) (h65 : F.fn 65) (hro : F.round=none) (hn : 6≤n) (hsort : ∀ (blk off cap : Nat) (ss : List Int) (W : World),Sort.Holds (Value.int .i64) W blk off ss.toArray→blk<W.heap.size→ss.length<4611686018427387904→
 CallsIn F (n - 1) Tryz.prog 64 #[.slice (some ⟨blk,off,none⟩) ss.length cap] W fun e w'=>e = .returned (.tuple #[])∧∃ k os,w'=Sort.grow (Sort.putRow (Value.int .i64) (Sort.ahead W k) blk off (ss.mergeSort fun x y=>decide (x≤y)).toArray) os)
 (hnone : ∀ (p : Option Addr) (cap : Nat) (W : World),CallsIn F (n - 1) Tryz.prog 64 #[.slice p 0 cap] W fun e w'=>e = .returned (.tuple #[])∧w'=W)
 (Bs o : Nat) (sv : Value) (zs : List Int) (hreach : zs.length*8≤140737488351232) (w : World) (hBs : Bs<w.heap.size)
 (hc : w.cell? ⟨Bs,o,none⟩=some sv) (hI : nB w.heap.size w sv zs) :
 CallsIn F n Tryz.prog 31 #[.func (.func 65) #[] #[.pointer (some ⟨Bs,o,none⟩)]] w fun e w'=>∃ v,e = .returned v∧Below w.heap.size w w'∧
  (zs = []∧v = .slice none 0 0∨∃ g cap cur,v = .slice (some ⟨g,0,none⟩) zs.length cap∧w.heap.size≤g∧w'.heap[g]? = some (.cells cur 3 (0,0))∧zs.length≤cap∧∀ j : Nat,j<zs.length→cur[j]? = ((zs.mergeSort fun x y=>decide (x≤y)).map (Value.int .i64))[j]?):=by
 have h1 : 1≤n:=by omega
 refine callsIn_of_wp Tryz.func31 rfl h31 ?_ hro
 simp only [Tryz.ntmps31,List.size_toArray,List.length_cons,List.length_nil,Nat.reduceAdd,Nat.reduceSub,Array.replicate_succ,Array.replicate_zero,List.push_toArray,List.append_toArray,List.nil_append,List.cons_append]
 gi_wp2_with (gi_at_call 63;refine (aKk F (n - 1) h63 h99 h65 hro (by omega) Bs o sv zs hreach w hBs hc hI).mono ?_;rintro e W ⟨v,rfl,hrow,hb⟩)
 rcases hrow.2 with ⟨rfl,hz⟩ | ⟨gb,cap,cur,rfl,hbase,hgb,r1,r2,r3,r4⟩
 ·have hzs : zs = []:=List.eq_nil_of_length_eq_zero hz
  subst hzs
  gi_wp2_with (gi_at_call 64;refine (hnone none 0 W).mono ?_;rintro e w' ⟨rfl,rfl⟩)
  go_ret
  refine ⟨_,rfl,hb,?_⟩
  simp
 ·have hH : Sort.Holds (Value.int .i64) W gb 0 zs.toArray:=holds_of_block_i hgb (by simpa using r4)
  have hgl : gb<W.heap.size:=(Array.getElem?_eq_some_iff.1 hgb).1
  gi_wp2_with (gi_at_call 64;refine (hsort gb 0 cap zs W hH hgl (by omega)).mono ?_;rintro e w' ⟨rfl,k,os,rfl⟩)
  go_ret
  have ho : (Sort.grow (Sort.putRow (Value.int .i64) (Sort.ahead W k) gb 0 (zs.mergeSort fun x y=>decide (x≤y)).toArray) os).ownsRow w.heap.size 3 1 (.slice (some ⟨gb,0,none⟩) zs.length cap) zs.length ((zs.mergeSort fun x y=>decide (x≤y)).map (Value.int .i64)):=ownsRow_sorted_i (by simp) hbase hgb r1 r2 r3
  refine ⟨_,rfl,hb.grown (grownBy_sorted_i _) hb.size (fun j hj=>by cases hj;exact hbase),?_⟩
  rcases ho.2 with ⟨h,_⟩ | ⟨g2,cap2,cur2,h,hb2,hg2,q1,q2,q3,q4⟩
  ·cases h
  ·cases h
   refine .inr ⟨gb,cap,cur2,rfl,hbase,hg2,r1,fun j hj=>?_⟩
   rw [← q4,List.getElem?_take_of_lt (by omega),Array.getElem?_toList]
theorem aFq : ∀ {xs : List PV} {l : List Int},yQ xs=some l→xs=l.map (PV.int .i64)
 | [],l,h=>by cases h;rfl
 | x::r,l,h=>by
   cases x with
   | int k n=>
     cases k<;>try (simp [yQ] at h)
     cases hl : yQ r with
     | none=>rw [hl] at h;cases h
     | some l'=>
       rw [hl] at h
       cases h
       rw [aFq hl];rfl
   | _=>simp [yQ] at h
theorem aGt {args : List PV} {r : R} (h : sH 65 args=some r) {w : World} {Z : Nat→Prop} {aU : Array Value} (hz : ∀ r,Z r→r<w.heap.size) (hl : args.length=aU.size)
 (hr : ∀ (i : Nat) x v,args[i]? = some x→aU[i]? = some v→eU w Z x v) : Calls Tryz.prog 31 aU w (fun e w'=>∃ v,e = .returned v∧∃ Z',aB9 w w' Z Z'∧eU w' Z' (hd r) v):=by
 unfold sH at h
 split at h
 rotate_left
 ·cases h
 rename_i g xs
 split at h
 rotate_left
 ·cases h
 rename_i hg
 have hg:=bI hg
 subst hg
 split at h
 rotate_left
 ·cases h
 rename_i l hxs
 split at h
 rotate_left
 ·cases h
 rename_i hlen
 cases h
 have hx:=aFq hxs
 subst hx
 obtain ⟨v0,rfl⟩ : ∃ v0,aU = #[v0]:=by
  match aU,hl with
  | ⟨[a]⟩,_=>exact ⟨a,rfl⟩
  | ⟨[]⟩,h=>simp at h
  | ⟨_::_::_⟩,h=>simp at h
 have h0:=hr 0 _ _ rfl rfl
 cases h0 with
 | fn _ _ us hul hur=>
   obtain ⟨pv,rfl⟩ : ∃ pv,us = [pv]:=by
    match us,hul with
    | [a],_=>exact ⟨a,rfl⟩
    | [],h=>simp at h
    | _::_::_,h=>simp at h
   have hp:=hur 0 _ _ rfl rfl
   cases hp with
   | bx _ B o cells ety fz cv hZB hh hcl hcv hrep=>
     have hB:=hz _ hZB
     have hc : w.cell? ⟨B,o,none⟩=some (cv 0):=pN hh (by simpa using hcl 0 (by simp))
     have hrow:=hrep 0 _ rfl
     have hI : nB w.heap.size w (cv 0) l:=by
      generalize hL : PV.lst (l.map (PV.int .i64))=x at hrow
      generalize cv 0=sv at hrow
      cases hrow with
      | empty a cap=>
        injection hL with hL
        exact .inl ⟨a,cap,rfl,by simpa using hL⟩
      | lst ys b o2 s cap g cells2 e2 fz2 cv2 hZ2 hh2 hs hcap hel hc2 hcv2 hr2=>
        injection hL with hL
        subst hL
        rw [List.length_map] at hc2 ⊢
        refine .inr ⟨b,o2,cap,rfl,hz _ hZ2,fun j hj=>?_⟩
        have hy : (l.map (PV.int .i64))[j]? = some (.int .i64 (l[j]?.getD 0)):=by
         rw [List.getElem?_map,List.getElem?_eq_getElem hj];rfl
        have he:=hel j _ hy
        have hgs : g=false∧s=1:=by
         unfold PV.isEl at he
         simp only [Bool.and_eq_true,Bool.not_eq_true'] at he
         exact ⟨he.1,bI he.2⟩
        obtain ⟨rfl,rfl⟩:=hgs
        have hv:=hr2 j 0 _ hy (by omega)
        have hcell:=hc2 j 0 hj (by omega)
        have hv : eU w Z (.int .i64 (l[j]?.getD 0)) (cv2 j 0):=hv
        generalize hq : cv2 j 0=q at hv hcell
        cases hv
        exact pN hh2 (by rw [← hcell];congr 1;omega)
      | _=>cases hL
     have hsort : ∀ (blk off cap : Nat) (ss : List Int) (W : World),Sort.Holds (Value.int .i64) W blk off ss.toArray→blk<W.heap.size→ss.length<4611686018427387904→
      CallsIn Fence.wide (6 - 1) Tryz.prog 64 #[.slice (some ⟨blk,off,none⟩) ss.length cap] W fun e w'=>e = .returned (.tuple #[])∧∃ k os,w'=Sort.grow (Sort.putRow (Value.int .i64) (Sort.ahead W k) blk off (ss.mergeSort fun x y=>decide (x≤y)).toArray) os:=
      fun blk off cap ss W h1 h2 h3=>callsIn_wide.2 (AnyM.slices_Sort_int Tryz.sort64 blk off cap ss W h1 h2 h3)
     have hnone : ∀ (p : Option Addr) (cap : Nat) (W : World),CallsIn Fence.wide (6 - 1) Tryz.prog 64 #[.slice p 0 cap] W fun e w'=>e = .returned (.tuple #[])∧w'=W:=
      fun p cap W=>callsIn_wide.2 (AnyM.slices_Sort_int_none Tryz.sort64 p cap W)
     have main:=(callsIn_wide (n:=6)).1 (aLN Fence.wide 6 trivial trivial trivial trivial trivial rfl (Nat.le_refl _) hsort hnone B o (cv 0) l (by omega) w hB hc hI)
     refine main.mono ?_
     rintro e w' ⟨v,rfl,hb,hv⟩
     refine ⟨v,rfl,?_⟩
     rcases hv with ⟨rfl,rfl⟩ | ⟨g,cap,cur,rfl,hge,hgb,hcap,hcells⟩
     ·exact ⟨Z,⟨hb.size,hb.os,hb.tape,hb.output,fun r hr=>hb.block r hr,fun _ h=>h,fun _ h=>.inl h⟩,by simpa [hd] using eU.empty (w:=w') (Z:=Z) none 0⟩
     ·have hgl : g<w'.heap.size:=(Array.getElem?_eq_some_iff.1 hgb).1
      refine ⟨fun r=>Z r∨r=g,⟨hb.size,hb.os,hb.tape,hb.output,fun r hr=>hb.block r hr,fun _ h=>.inl h,fun r h=>?_⟩,?_⟩
      ·rcases h with h | rfl
       ·exact .inl h
       ·exact .inr ⟨hge,hgl⟩
      ·have hml : ((l.mergeSort fun x y=>decide (x≤y)).map (PV.int .i64)).length=l.length:=by simp
       have key:=eU.lst (w:=w') (Z:=fun r=>Z r∨r=g) ((l.mergeSort fun x y=>decide (x≤y)).map (PV.int .i64)) g 0 1 cap false cur 3 (0,0) (fun i _=>.int .i64 ((l.mergeSort fun x y=>decide (x≤y))[i]?.getD 0)) (.inr rfl) hgb (by omega) (by rw [hml];exact hcap)
        (fun i x hx=>by
         rw [List.getElem?_map] at hx
         cases hq : (l.mergeSort fun x y=>decide (x≤y))[i]? with
         | none=>rw [hq] at hx;cases hx
         | some n=>rw [hq] at hx;cases hx;rfl)
        (fun i j hi hj=>by
         rw [hml] at hi
         rw [show 0+i*1+j=i by omega,hcells i hi,List.getElem?_map,List.getElem?_eq_getElem (by simpa using hi)];rfl)
        (fun i j _ _=>trivial)
        (fun i j x hx hj=>by
         rw [List.getElem?_map] at hx
         cases hq : (l.mergeSort fun x y=>decide (x≤y))[i]? with
         | none=>rw [hq] at hx;cases hx
         | some n=>rw [hq] at hx;cases hx;exact .int _ _)
       rw [hml] at key
       exact key
end
noncomputable section
open Go
theorem aMJ {α : Type} {n : Nat} : ∀ {l : List (Nat × α)} {a : α},lk n l=some a→∃ p∈l,p.2=a
 | [],a,h=>by simp [lk] at h
 | (m,b)::r,a,h=>by
   unfold lk at h
   split at h
   ·cases h;exact ⟨_,List.mem_cons_self,rfl⟩
   ·obtain ⟨p,h1,h2⟩:=aMJ h
    exact ⟨p,List.mem_cons_of_mem _ h1,h2⟩
theorem aKl {α : Type} {n : Nat} : ∀ {l : List (Nat × α)} {a : α},lk n l=some a→(n,a)∈l
 | [],a,h=>by simp [lk] at h
 | (m,b)::r,a,h=>by
   unfold lk at h
   split at h
   ·rename_i hb
    cases h
    rw [bI hb]
    exact List.mem_cons_self
   ·exact List.mem_cons_of_mem _ (aKl h)
theorem aDU {g : Nat} (h : ((Tryz.prog.funcs[g]?).bind (·.body)).isSome=true) : jM Tryz.prog g:=by
 cases hf : Tryz.prog.funcs[g]? with
 | none=>rw [hf] at h;cases h
 | some fn=>
   rw [hf] at h
   cases hb : fn.body with
   | none=>simp [hb] at h
   | some c=>
     have hc:=aKV
     rw [List.all_eq_true] at hc
     have:=hc fn (by rw [← Array.getElem?_toList] at hf;exact List.mem_of_getElem? hf)
     rw [hb] at this
     simp only [Bool.and_eq_true,bne_iff_ne,ne_eq] at this
     exact ⟨fn,c,hf,hb,this.2⟩
set_option maxRecDepth 100000 in
theorem aOz : aCR Tryz.prog fun g args=>(aW.prim g).bind fun p=>p args:=by
 intro g args r h
 have h : ((aW.prim g).bind fun p=>p args)=some r:=h
 cases hp : aW.prim g with
 | none=>rw [hp] at h;cases h
 | some p=>
   rw [hp] at h
   have h : p args=some r:=h
   have hm:=aKl (show lk g aHu=some p from hp)
   simp only [aHu,List.mem_cons,List.not_mem_nil,or_false,Prod.mk.injEq] at hm
   obtain ⟨rfl,rfl⟩:=hm
   exact ⟨aDU (by kernel_rfl),fun w Z aU hz hl hr=>aGt h (fun r hr=>hz r hr) hl hr⟩
set_option maxRecDepth 100000 in
theorem aPe : (Tryz.prog.info? (Tryz.lays8n4_ren.t 25)).map (fun i=>(i.size,i.bytes,i.zero.map (·.cells.size)))=some (3,32,some 3):=by kernel_rfl
set_option maxRecDepth 100000 in
theorem aNP : ∀ g h,aW.primS g=some h→∀ t args s l,aW.mode g=some t→h args s=some l→jM Tryz.prog g∧∀ (m : aV) (aU : Array Value),fM m s s.base→args.length=aU.size→
 (∀ (i : Nat) d v,args[i]? = some d→aU[i]? = some v→m.rd d v)→Calls Tryz.prog g aU m.w (fun e w'=>∃ v,e = .returned v∧sM m s.boxes.length (if t.keep then s.lists.length else 0) (some (t.fit s)) l v w'):=by
 intro g h hp t args s l ht h
 have hm:=aKl (show lk g aEF=some _ from hp)
 simp only [aEF,List.mem_cons,List.not_mem_nil,or_false,Prod.mk.injEq] at hm
 obtain ⟨rfl,rfl⟩:=hm
 refine ⟨aDU (by kernel_rfl),fun m aU hf hl hr=>?_⟩
 have htt : aW.mode 142=some ⟨false,false,.ref 0 [],[],[some ⟨.own 3 32 true [],.int .i64 0⟩],true⟩:=by kernel_rfl
 rw [htt] at ht
 cases ht
 have tg:=aPe
 cases hi : Tryz.prog.info? (Tryz.lays8n4_ren.t 25) with
 | none=>rw [hi] at tg;cases tg
 | some i0=>
   rw [hi] at tg
   simp only [Option.map_some,Option.some.injEq,Prod.mk.injEq] at tg
   cases hz : i0.zero with
   | none=>rw [hz] at tg;cases tg.2.2
   | some z=>
     rw [hz] at tg
     simp only [Option.map_some,Option.some.injEq] at tg
     have hb : s.boxes.length=0:=by
      have : ∀ a,sG 32 args s=some a→s.boxes = []:=fun a h=>by
       unfold sG at h
       split at h
       ·assumption
       ·cases h
      rw [this _ h];rfl
     rw [hb]
     exact aJb Tryz.lays8n4 hi hz (by omega) (by omega) tg.2.1 h hf hl hr (g:=true) (eb:=32) (t:=⟨false,false,.ref 0 [],[],[some ⟨.own 3 32 true [],.int .i64 0⟩],true⟩) ⟨rfl,rfl,by rw [tg.1]⟩
theorem aKW : ∀ (l : List Nat),(l.map fun t=>(Tryz.prog.info? t).bind (·.zero))=(l.map fun t=>some (zeroVal T t))→∀ t,mem t l=true→(Tryz.prog.info? t).bind (·.zero)=some (zeroVal T t)
 | [],_,t,h=>by simp [mem] at h
 | x::r,h,t,hm=>by
   simp only [List.map_cons,List.cons.injEq] at h
   unfold mem at hm
   split at hm
   ·rename_i hx
    rw [bI hx];exact h.1
   ·exact aKW r h.2 t hm
theorem hyp : Hyp Tryz.prog T aW where
 tab:=aOj.symm
 zero:=fun t h=>by
  rw [aOj]
  exact aKW aNG aO9 t h
 mixed:=aNN
 code:=fun f fn c hf hc=>by
  have h:=aKV
  rw [List.all_eq_true] at h
  have:=h fn (by rw [← Array.getElem?_toList] at hf;exact List.mem_of_getElem? hf)
  rw [hc] at this
  simp only [Bool.and_eq_true,bne_iff_ne,ne_eq] at this
  exact this
 prim:=aOz
 primS:=aNP
 glob:=fun _=>rfl
 wf:=fun g t h=>by
  obtain ⟨p,hp,rfl⟩:=aMJ h
  have:=aPd
  rw [List.all_eq_true] at this
  exact this p hp
end
noncomputable section
open Go Go.IntWalk
def Ok (P : R→Prop) (o : Option R) : Prop:=∃ r,o=some r∧P r
section
variable {P Q : R → Prop}
theorem Ok.eq {r : R} {o : Option R} (h : Ok (fun x=>x=r) o) : o=some r:=by
 obtain ⟨x,h1,rfl⟩:=h
 exact h1
theorem Ok.of {r : R} {o : Option R} (h : o=some r) : Ok (fun x=>x=r) o:=⟨r,h,rfl⟩
theorem Ok.mono {o : Option R} (h : Ok Q o) (hq : ∀ r,Q r→P r) : Ok P o:=by
 obtain ⟨x,h1,h2⟩:=h
 exact ⟨x,h1,hq x h2⟩
theorem aB {r : R} (h : P r) : Ok P (some r):=⟨r,rfl,h⟩
theorem dR {α : Type} {o : Option α} {k : α→Option R} (a : α) (h : o=some a) (hk : Ok P (k a)) : Ok P (bd o k):=by rw [h];exact hk
theorem aF {o : Option R} {k : R→Option R} (h : Ok Q o) (hk : ∀ r,Q r→Ok P (k r)) : Ok P (bd o k):=by
 obtain ⟨r,h1,h2⟩:=h
 rw [h1]
 exact hk r h2
theorem aC {p : Prop} [Decidable p] {x y : Option R} (h1 : p→Ok P x) (h2 : ¬ p→Ok P y) : Ok P (PV.ite (.bool (decide p)) x y):=by
 by_cases h : p
 ·rw [decide_eq_true h];exact h1 h
 ·rw [decide_eq_false h];exact h2 h
theorem aY {p : Prop} [Decidable p] {x y : Option R} (h1 : ¬ p→Ok P x) (h2 : p→Ok P y) : Ok P (PV.ite (.bool (!decide p)) x y):=by
 by_cases h : p
 ·rw [decide_eq_true h];exact h2 h
 ·rw [decide_eq_false h];exact h1 h
theorem aZ {b : Bool} {x y : Option R} (h1 : b=true→Ok P x) (h2 : b=false→Ok P y) : Ok P (PV.ite (.bool b) x y):=by
 cases b
 ·exact h2 rfl
 ·exact h1 rfl
theorem bG {x y : Option R} (h1 : Ok P x) : Ok P (PV.ite (.bool true) x y):=h1
theorem aQ {x y : Option R} (h1 : Ok P y) : Ok P (PV.ite (.bool false) x y):=h1
variable {k : PV → Option R} {kk : IntKind} {a b : Int}
theorem kY {op : BinOp} (h1 : op≠.shl) (h2 : op≠.shr) : PV.bin op (.int kk a) (.int kk b)=PV.intBin op kk a b:=by
 cases op<;>simp [PV.bin]<;>first | exact absurd rfl h1 | exact absurd rfl h2
theorem aE (h : Ok P (k (.bool (decide (a<b))))) : Ok P (bd (PV.bin .lss (.int kk a) (.int kk b)) k):=dR _ (by rw [kY (by simp) (by simp)];rfl) h
theorem lQ (h : Ok P (k (.bool (decide (a≤b))))) : Ok P (bd (PV.bin .leq (.int kk a) (.int kk b)) k):=dR _ (by rw [kY (by simp) (by simp)];rfl) h
theorem iC (h : Ok P (k (.bool (decide (b<a))))) : Ok P (bd (PV.bin .gtr (.int kk a) (.int kk b)) k):=dR _ (by rw [kY (by simp) (by simp)];rfl) h
theorem sQ (h : Ok P (k (.bool (decide (b≤a))))) : Ok P (bd (PV.bin .geq (.int kk a) (.int kk b)) k):=dR _ (by rw [kY (by simp) (by simp)];rfl) h
theorem aM (h : Ok P (k (.bool (decide (a=b))))) : Ok P (bd (PV.bin .eql (.int kk a) (.int kk b)) k):=dR _ (by rw [kY (by simp) (by simp)];rfl) h
theorem cW (h : Ok P (k (.bool (!decide (a=b))))) : Ok P (bd (PV.bin .neq (.int kk a) (.int kk b)) k):=dR _ (by rw [kY (by simp) (by simp)];rfl) h
theorem aI (hr : -9223372036854775808≤a+b∧a+b≤9223372036854775807) (h : Ok P (k (.int .i64 (a+b)))) : Ok P (bd (PV.bin .add (.int .i64 a) (.int .i64 b)) k):=
 dR _ (by rw [kY (by simp) (by simp)];simp only [PV.intBin];rw [i64_in _ hr]) h
theorem bY (hr : -9223372036854775808≤a - b∧a - b≤9223372036854775807) (h : Ok P (k (.int .i64 (a - b)))) : Ok P (bd (PV.bin .sub (.int .i64 a) (.int .i64 b)) k):=
 dR _ (by rw [kY (by simp) (by simp)];simp only [PV.intBin];rw [i64_in _ hr]) h
theorem aOA (h0 : 0≤a) (hb : 0<b) (h : Ok P (k (.int kk (a % b)))) : Ok P (bd (PV.bin .rem (.int kk a) (.int kk b)) k):=
 dR _ (by rw [kY (by simp) (by simp)];simp only [PV.intBin];rw [if_neg (by omega),Int.tmod_eq_emod_of_nonneg h0]) h
theorem aOB (h0 : 0≤a) (hb : 0<b) (hr : a≤9223372036854775807) (h : Ok P (k (.int .i64 (a / b)))) : Ok P (bd (PV.bin .quo (.int .i64 a) (.int .i64 b)) k):=
 dR _ (by rw [kY (by simp) (by simp)];simp only [PV.intBin];rw [if_neg (by omega),i64_quo _ _ ⟨h0,hr,by omega⟩]) h
theorem bC {x : Bool} (h : Ok P (k (.bool (!x)))) : Ok P (bd (PV.not (.bool x)) k):=h
theorem bJ {xs : List PV} (h : Ok P (k (.int .i64 xs.length))) : Ok P (bd (PV.len (.lst xs)) k):=h
theorem wV {s : ByteArray} (h : Ok P (k (.int .i64 s.size))) : Ok P (bd (PV.slen (.str s)) k):=h
theorem aOC (hr : -9223372036854775808≤a∧a≤9223372036854775807) (h : Ok P (k (.int .i64 a))) : Ok P (bd (PV.conv .i64 (.int kk a)) k):=dR _ (by simp only [PV.conv];rw [i64_in _ hr]) h
theorem aPf (hr : 0≤a∧a≤255) (h : Ok P (k (.int .u8 a))) : Ok P (bd (PV.conv .u8 (.int kk a)) k):=dR _ (by simp only [PV.conv];rw [u8_in _ hr]) h
theorem aNQ {s : Nat} {g : Bool} {xs : List PV} {i : Int} (h0 : 0≤i) (h1 : i<xs.length) (he : ∀ x∈xs,x.isEl s g=true) : ∃ x,x∈xs∧xs[i.toNat]? = some x∧PV.at_ s g (.lst xs) (.int kk i)=some x:=by
 have hlt : i.toNat<xs.length:=by omega
 refine ⟨xs[i.toNat],List.getElem_mem _,List.getElem?_eq_getElem hlt,?_⟩
 simp only [PV.at_]
 rw [if_pos h0,List.getElem?_eq_getElem hlt]
 simp only
 rw [if_pos (he _ (List.getElem_mem _))]
theorem aOm {s : Nat} {g : Bool} {xs : List PV} {i : Int} (h0 : 0≤i) (h1 : i<xs.length) (he : ∀ x∈xs,x.isEl s g=true) (h : ∀ x,x∈xs→xs[i.toNat]? = some x→Ok P (k x)) :
 Ok P (bd (PV.at_ s g (.lst xs) (.int kk i)) k):=by
 obtain ⟨x,h2,h3,h4⟩:=aNQ (kk:=kk) h0 h1 he
 exact dR x h4 (h x h2 h3)
theorem aKm {xs : List PV} {i : Int} (h0 : 0≤i) (h1 : i<xs.length) (h : Ok P (k (.lst xs))) : Ok P (bd (PV.inb (.lst xs) (.int kk i)) k):=
 dR _ (by simp only [PV.inb];rw [if_pos ⟨h0,h1⟩]) h
theorem nT {s e : Nat} {g : Bool} {xs ys : List PV} (hb : (xs.length+ys.length)*e≤140737488355328) (he : ∀ x∈ys,x.isEl s g=true) (h : Ok P (k (.lst (xs++ys)))) : Ok P (bd (PV.cat s e g (.lst xs) (.lst ys)) k):=
 dR _ (by
  simp only [PV.cat,PV.elems]
  rw [if_pos ⟨hb,List.all_eq_true.2 he⟩]) h
theorem aKn {s : Nat} {g : Bool} {xs : List PV} {m n : Int} {k1 k2 : IntKind} (h0 : 0≤m) (h1 : m≤n) (h2 : n≤xs.length) (he : ∀ x∈xs,x.isEl s g=true) (h : Ok P (k (.lst ((xs.take n.toNat).drop m.toNat)))) :
 Ok P (bd (PV.cut s g (.lst xs) (.int k1 m) (.int k2 n)) k):=
 dR _ (by
  have hh : PV.headIs s g xs=true:=by
   cases xs with
   | nil=>rfl
   | cons x r=>exact he x List.mem_cons_self
  simp only [PV.cut,hh,if_true,PV.bound]
  rw [if_pos ⟨by omega,h2⟩,Option.bind_some,if_pos ⟨h0,by omega⟩,Option.bind_some]) h
theorem aKo {s : Nat} {xs cs : List PV} {i : Int} {off : Nat} {v : PV} (h0 : 0≤i) (hx : xs[i.toNat]? = some (.agg cs)) (hc : cs.length=s) (ho : off<s) (hv : v.isEl 1 false=true) (h : Ok P (k (.lst (xs.set i.toNat (.agg (cs.set off v)))))) :
 Ok P (bd (PV.setCell s (.lst xs) (.int kk i) off v) k):=
 dR _ (by
  simp only [PV.setCell]
  rw [if_pos h0,hx]
  simp only
  rw [if_pos ⟨hc,ho,hv⟩]) h
theorem aJd {s : Nat} {g : Bool} {xs : List PV} {i : Int} {v : PV} (h0 : 0≤i) (h1 : i<xs.length) (hv : v.isEl s g=true) (h : Ok P (k (.lst (xs.set i.toNat v)))) :
 Ok P (bd (PV.setAt s g (.lst xs) (.int kk i) v) k):=
 dR _ (by simp only [PV.setAt];rw [if_pos ⟨h0,h1,hv⟩]) h
theorem bR {x : PV} (hx : x.isEl 1 false=true) (h : Ok P (k x)) : Ok P (bd (PV.one x) k):=dR x (by simp only [PV.one];rw [if_pos hx]) h
theorem aA {cs : List PV} {j : Nat} {y : PV} (hy : cs[j]? = some y) (h : Ok P (k y)) : Ok P (bd (PV.cell (.agg cs) j) k):=dR y hy h
theorem kB {cs : List PV} {j : Nat} {y : PV} (hy : cs[j]? = some y) (h : Ok P (k y)) : Ok P (bd (PV.comp (.tup cs) j) k):=dR y hy h
theorem aH {cs : List PV} {n : Nat} (hy : cs.length=n) (h : Ok P (k (.agg cs))) : Ok P (bd (PV.whole n (.agg cs)) k):=dR _ (by simp only [PV.whole];rw [if_pos (by rw [hy];exact Nat.beq_refl n)]) h
theorem fE {r : PV} {o : Option R} (hf : r.flat=true) (h : Ok P o) : Ok P (PV.guardFlat r o):=by
 unfold PV.guardFlat;rw [if_pos hf];exact h
theorem eA {t : OTy} {r : PV} {o : Option R} (hf : PV.flatO t r=true) (h : Ok P o) : Ok P (PV.guardOwn t r o):=by
 unfold PV.guardOwn;rw [if_pos hf];exact h
theorem zL {C : Nat→List PV→Option R} {kr : R→Option R} {f : Nat} {caps args : List PV} {o : Option R} (e : C f (args++caps)=o) (h : Ok Q o) (hk : ∀ r,Q r→Ok P (kr r)) : Ok P (bd (PV.apply C (.fn f caps) args) kr):=by
 refine aF (Q:=Q) ?_ hk
 show Ok Q (C f (args++caps))
 rw [e]
 exact h
theorem sR {cs : List PV} {j : Nat} {y : PV} (hy : cs[j]? = some y) (h : Ok P (k y)) : Ok P (bd (PV.deref (.bx cs) j) k):=dR y hy h
theorem aFr : ∀ l : List Int,(l.map (PV.int .u8)).mapM PV.byteOf=some (l.map fun x=>UInt8.ofNat x.toNat)
 | []=>rfl
 | x::r=>by
   rw [List.map_cons,List.mapM_cons,aFr r]
   rfl
def wW (l : List Int) : PV:=.lst (l.map (PV.int .u8))
theorem aAG {s : ByteArray} (h : Ok P (k (.bool false))) : Ok P (bd (PV.bin .neq (.str s) (.str s)) k):=dR _ (by simp [PV.bin,PV.strBin]) h
theorem aMK {l : List Int} (h : Ok P (k (.str ⟨(l.map fun x=>UInt8.ofNat x.toNat).toArray⟩))) : Ok P (bd (PV.toStr (wW l)) k):=
 dR _ (by
  show PV.toStr (.lst (l.map (PV.int .u8)))=_
  simp only [PV.toStr]
  rw [aFr]
  rfl) h
theorem wX {s e : Nat} {g : Bool} {ys : List PV} (hb : ys.length*e≤140737488355328) (he : ∀ x∈ys,x.isEl s g=true) (h : Ok P (k (.lst ys))) : Ok P (bd (PV.cat s e g (.lst []) (.lst ys)) k):=
 nT (by simpa using hb) he h
theorem aJe {xs : List PV} (h : Ok P (k (.lst xs))) : Ok P (bd (PV.isLst (.lst xs)) k):=h
theorem aBp {s : Nat} {g : Bool} {xs : List PV} {i : Int} {x : PV} (h0 : 0≤i) (hx : xs[i.toNat]? = some x) (he : x.isEl s g=true) (h : Ok P (k x)) : Ok P (bd (PV.at_ s g (.lst xs) (.int kk i)) k):=
 dR x (by simp only [PV.at_];rw [if_pos h0,hx];simp only;rw [if_pos he]) h
end
theorem aKX {xs : List PV} {r : R} {x y : Option R} (hx : xs = []→Ok (fun q=>q=r) x) (hy : Ok (fun q=>q=r) y) : Ok (fun q=>q=r) (PV.nilT (.lst xs) x y):=by
 cases xs with
 | nil=>
   have h1:=(hx rfl).eq
   have h2:=hy.eq
   refine ⟨r,?_,rfl⟩
   show @_root_.ite _ (x=y) (Classical.propDecidable _) x none=some r
   rw [h1,h2,if_pos rfl]
 | cons a l=>exact hy
end
noncomputable section
open Go Go.ChangeShapes Go.WideShapes Go.ChangeAt Go.RowKit
def aEx (w : World) (a : Option Addr) (len cap : Nat) (zs : List Int) : Prop:=
 (a=none∧len=0∧cap=0∧zs = [])∨
 ∃ x,a=some x∧len≤cap∧cap≤maxLen∧zs.length=cap∧(∀ i,i<zs.length→w.cell? (x.add i)=some (.int .u8 (zs.getD i 0)))∧∀ n∈zs,(Lit.int .u8 n).wf=true
theorem cell_inv {w : World} {a : Addr} {v : Value} (h : w.cell? a=some v) : a.spot=none∧∃ c e fz,w.heap[a.block]? = some (.cells c e fz)∧c[a.off]? = some v:=by
 unfold World.cell? at h
 split at h
 ·rename_i c e fz hc
  split at h
  ·cases h
  ·rename_i hs
   exact ⟨by simpa using hs,c,e,fz,hc,h⟩
 ·cases h
theorem aEx.rep {w : World} {a : Option Addr} {len cap : Nat} {zs : List Int} (h : aEx w a len cap zs) : eU w (fun r=>r<w.heap.size) (wW (zs.take len)) (.slice a len cap):=by
 rcases h with ⟨rfl,rfl,rfl,rfl⟩ | ⟨x,rfl,hl,_,hz,hc,_⟩
 ·exact .empty none 0
 ·by_cases h0 : len=0
  ·subst h0;exact .empty _ cap
  ·have hlen : ((zs.take len).map (PV.int .u8)).length=len:=by simp;omega
   obtain ⟨hsp,c,e,fz,hh,hc0⟩:=cell_inv (hc 0 (by omega))
   have hx : x=⟨x.block,x.off,none⟩:=by
    have : x.spot=none:=by
     have h1 : (x.add 0).spot=none:=hsp
     unfold Addr.add at h1
     split at h1<;>simp_all
    cases x;simp_all
   rw [hx] at hc ⊢
   have hb : (x.add 0).block=x.block:=by unfold Addr.add;split<;>rfl
   rw [hb] at hh
   have:=eU.lst (w:=w) (Z:=fun r=>r<w.heap.size) ((zs.take len).map (PV.int .u8)) x.block x.off 1 cap false c e fz (fun i _=>.int .u8 (zs.getD i 0)) (Array.getElem?_eq_some_iff.1 hh).1 hh (by omega) (by omega)
    (fun i y hy=>by
     rw [List.getElem?_map] at hy
     cases hi : (zs.take len)[i]? with
     | none=>rw [hi] at hy;cases hy
     | some q=>rw [hi] at hy;cases hy;rfl)
    (fun i j hi hj=>by
     have hj0 : j=0:=by omega
     subst hj0
     have h1:=hc i (by omega)
     rw [iM] at h1
     obtain ⟨_,c',e',fz',hh',hc'⟩:=cell_inv h1
     have hh' : w.heap[x.block]? = some (.cells c' e' fz'):=hh'
     rw [hh] at hh'
     cases hh'
     simpa using hc')
    (fun _ _ _ _=>trivial)
    (fun i j y hy hj=>by
     rw [List.getElem?_map] at hy
     cases hi : (zs.take len)[i]? with
     | none=>rw [hi] at hy;cases hy
     | some q=>
       rw [hi] at hy
       cases hy
       have hlt : i<(zs.take len).length:=(List.getElem?_eq_some_iff.1 hi).1
       have : zs.getD i 0=q:=by
        rw [List.getElem?_take] at hi
        split at hi
        ·rw [List.getD,hi];rfl
        ·cases hi
       rw [this]
       exact .int _ _)
   rw [hlen] at this
   exact this
theorem aEx.wf {w : World} {a : Option Addr} {len cap : Nat} {zs : List Int} (h : aEx w a len cap zs) : ∀ x∈zs.take len,(Lit.int .u8 x).wf=true:=by
 intro x hx
 rcases h with ⟨_,_,_,rfl⟩ | ⟨_,_,_,_,_,_,hw⟩
 ·simp at hx
 ·exact hw x (List.mem_of_mem_take hx)
theorem aKp (n : Nat) (args : List PV) (aU : Array Value) (h : aS n args=some [.bool true]) {w : World} (gz : aEG w fun r=>r<w.heap.size) (hl : args.length=aU.size) (hr : ∀ (i : Nat) x v,args[i]? = some x→aU[i]? = some v→eU w (fun r=>r<w.heap.size) x v) :
 Calls Tryz.prog n aU w fun e w'=>e = .returned (.bool true)∧Below w.heap.size w w':=by
 refine (aJa hyp h (Z:=fun r=>r<w.heap.size) ⟨fun _ h=>h,gz⟩ hl hr).mono ?_
 rintro e w' ⟨v,rfl,Z',pe,hrep⟩
 have hrep : eU w' Z' (.bool true) v:=hrep
 rw [hrep.bool_inv]
 exact ⟨rfl,pe.os,pe.tape,pe.output,pe.size,pe.old⟩
theorem own : ownKnob Tryz.prog.godebug=none:=by kernel_rfl
theorem aKY : laidOutB Tryz.prog=true:=by kernel_rfl
end
noncomputable section
open Go
def lR (x0 x1 : PV) : Option R:=aS 3 [x0,x1]
def uW (x0 x1 : PV) : Option R:=aS 4 [x0,x1]
def aCW (x0 x1 : PV) : Option R:=aS 5 [x0,x1]
def pE (x0 x1 : PV) : Option R:=aS 10 [x0,x1]
def pT (x0 x1 : PV) : Option R:=aS 11 [x0,x1]
def tV (x0 x1 : PV) : Option R:=aS 14 [x0,x1]
def nU (x0 x1 : PV) : Option R:=aS 15 [x0,x1]
def gP (x0 x1 x2 : PV) : Option R:=bV 15 0 0 (aW.mode 15) (todoOf Tryz.prog 15 5) [(0,.p x0),(1,.p x1),(5,.p x2)] ⟨[],[],0,0,0⟩
def wY (x0 x1 : PV) : Option R:=aS 16 [x0,x1]
def jN (x0 x1 x2 : PV) : Option R:=bV 16 0 0 (aW.mode 16) (todoOf Tryz.prog 16 5) [(0,.p x0),(1,.p x1),(5,.p x2)] ⟨[],[],0,0,0⟩
def uX (x0 x1 : PV) : Option R:=aS 17 [x0,x1]
def iO (x0 x1 x2 : PV) : Option R:=bV 17 0 0 (aW.mode 17) (todoOf Tryz.prog 17 5) [(0,.p x0),(1,.p x1),(5,.p x2)] ⟨[],[],0,0,0⟩
def zM (x0 x1 : PV) : Option R:=aS 18 [x0,x1]
def kL (x0 x1 x2 : PV) : Option R:=bV 18 0 0 (aW.mode 18) (todoOf Tryz.prog 18 5) [(0,.p x0),(1,.p x1),(5,.p x2)] ⟨[],[],0,0,0⟩
def rO (x0 x1 : PV) : Option R:=aS 19 [x0,x1]
def uY (x0 x1 : PV) : Option R:=aS 34 [x0,x1]
def kZ (x0 x1 x2 : PV) : Option R:=bV 34 0 0 (aW.mode 34) (todoOf Tryz.prog 34 4) [(0,.p x0),(1,.p x1),(5,.p x2)] ⟨[],[],0,0,0⟩
def zN (x0 x1 : PV) : Option R:=aS 35 [x0,x1]
def nV (x0 x1 x2 : PV) : Option R:=bV 35 0 0 (aW.mode 35) (todoOf Tryz.prog 35 4) [(0,.p x0),(1,.p x1),(5,.p x2)] ⟨[],[],0,0,0⟩
def nW (x0 x1 : PV) : Option R:=aS 36 [x0,x1]
def kC (x0 x1 x2 : PV) : Option R:=bV 36 0 0 (aW.mode 36) (todoOf Tryz.prog 36 4) [(0,.p x0),(1,.p x1),(5,.p x2)] ⟨[],[],0,0,0⟩
def rP (x0 x1 : PV) : Option R:=aS 37 [x0,x1]
def wZ (x0 x1 : PV) : Option R:=aS 38 [x0,x1]
def mH (x0 x1 x2 : PV) : Option R:=bV 38 0 0 (aW.mode 38) (todoOf Tryz.prog 38 4) [(0,.p x0),(1,.p x1),(5,.p x2)] ⟨[],[],0,0,0⟩
def qJ (x0 x1 : PV) : Option R:=aS 43 [x0,x1]
def jC (x0 x1 x2 : PV) : Option R:=bV 43 0 0 (aW.mode 43) (todoOf Tryz.prog 43 2) [(0,.p x0),(1,.p x1),(5,.p x2)] ⟨[],[],0,0,0⟩
def uZ (x0 x1 : PV) : Option R:=aS 44 [x0,x1]
def lA (x0 x1 x2 : PV) : Option R:=bV 44 0 0 (aW.mode 44) (todoOf Tryz.prog 44 2) [(0,.p x0),(1,.p x1),(5,.p x2)] ⟨[],[],0,0,0⟩
def pF (x0 x1 : PV) : Option R:=aS 45 [x0,x1]
def iF (x0 x1 x2 : PV) : Option R:=bV 45 0 0 (aW.mode 45) (todoOf Tryz.prog 45 2) [(0,.p x0),(1,.p x1),(5,.p x2)] ⟨[],[],0,0,0⟩
def zO (x0 x1 : PV) : Option R:=aS 46 [x0,x1]
def xA (x0 x1 : PV) : Option R:=aS 47 [x0,x1]
def aBq (x0 x1 : PV) : Option R:=aS 48 [x0,x1]
def xB (x0 x1 : PV) : Option R:=aS 68 [x0,x1]
def aBr (x0 x1 : PV) : Option R:=aS 69 [x0,x1]
def zP (x0 x1 : PV) : Option R:=aS 70 [x0,x1]
def jO (x0 x1 : PV) : Option R:=aS 74 [x0,x1]
def jD (x0 x1 x2 : PV) : Option R:=bV 74 0 0 (aW.mode 74) (todoOf Tryz.prog 74 2) [(0,.p x0),(1,.p x1),(5,.p x2)] ⟨[],[],0,0,0⟩
def fW (x0 : PV) : Option R:=aS 71 [x0]
def lB (x0 x1 : PV) : Option R:=bV 71 0 0 (aW.mode 71) (todoOf Tryz.prog 71 4) [(0,.p x0),(3,.p x1)] ⟨[],[],0,0,0⟩
def zQ (x0 x1 : PV) : Option R:=aS 75 [x0,x1]
def lZ (x0 x1 : PV) : Option R:=aS 76 [x0,x1]
def iP (x0 x1 x2 : PV) : Option R:=bV 76 0 0 (aW.mode 76) (todoOf Tryz.prog 76 5) [(0,.p x0),(1,.p x1),(5,.p x2)] ⟨[],[],0,0,0⟩
def mA (x0 x1 : PV) : Option R:=aS 102 [x0,x1]
def lC (x0 x1 x2 : PV) : Option R:=bV 102 0 0 (aW.mode 102) (todoOf Tryz.prog 102 4) [(0,.p x0),(1,.p x1),(5,.p x2)] ⟨[],[],0,0,0⟩
def zR (x0 x1 : PV) : Option R:=aS 103 [x0,x1]
def nX (x0 x1 x2 : PV) : Option R:=bV 103 0 0 (aW.mode 103) (todoOf Tryz.prog 103 4) [(0,.p x0),(1,.p x1),(5,.p x2)] ⟨[],[],0,0,0⟩
def aBs (x0 x1 : PV) : Option R:=aS 133 [x0,x1]
def fX (x0 : PV) : Option R:=cK 7 [.p x0] ⟨[],[],0,0,0⟩
def pG (x0 : PV) : Option R:=cK 8 [.p x0] ⟨[],[],0,0,0⟩
def rQ (x0 : PV) : Option R:=aS 28 [x0]
def rR (x0 x1 : PV) : Option R:=cK 6 [.p x0,.p x1] ⟨[],[],0,0,0⟩
def jP (x0 x1 x2 x3 x4 x5 x6 x7 x8 x9 x10 x11 x12 x13 x14 x15 x16 x17 x18 x19 x20 x21 x22 x23 : PV) : Option R:=bV 6 0 0 (aW.mode 6) (todoOf Tryz.prog 6 5) [(3,.ptr 0 0),(4,.ptr 1 0),(5,.ptr 2 0),(6,.p x0)] ⟨[(0,some [.p x1,.p x2,.p x3,.p x4,.p x5,.p x6,.p x7,.p x8,.p x9,.p x10]),(1,some [.ref 0 [],.ref 1 [],.p x11,.ref 2 [],.p x12,.p x13,.p x14,.p x15,.p x16,.p x17]),(2,some [.p x18,.ref 3 [],.ref 4 []])],[(0,some ⟨(.own 4 64 true [.leaf,.leaf,(.own 3 32 true []),(.own 3 32 true [])]),x19⟩),(1,some ⟨(.own 1 24 true [(.own 3 32 true [])]),x20⟩),(2,some ⟨(.own 1 16 false []),x21⟩),(3,some ⟨(.own 1 8 false []),x22⟩),(4,some ⟨(.own 1 8 false []),x23⟩)],0,0,8⟩
def jQ (x0 x1 x2 x3 x4 x5 x6 x7 x8 x9 x10 x11 x12 x13 x14 x15 x16 x17 x18 x19 x20 x21 x22 x23 : PV) : Option R:=bV 6 0 0 (aW.mode 6) (todoOf Tryz.prog 6 9) [(3,.ptr 0 0),(4,.ptr 1 0),(5,.ptr 2 0),(7,.p x0)] ⟨[(0,some [.p x1,.p x2,.p x3,.p x4,.p x5,.p x6,.p x7,.p x8,.p x9,.p x10]),(1,some [.ref 0 [],.ref 1 [],.p x11,.ref 2 [],.p x12,.p x13,.p x14,.p x15,.p x16,.p x17]),(2,some [.p x18,.ref 3 [],.ref 4 []])],[(0,some ⟨(.own 4 64 true [.leaf,.leaf,(.own 3 32 true []),(.own 3 32 true [])]),x19⟩),(1,some ⟨(.own 1 24 true [(.own 3 32 true [])]),x20⟩),(2,some ⟨(.own 1 16 false []),x21⟩),(3,some ⟨(.own 1 8 false []),x22⟩),(4,some ⟨(.own 1 8 false []),x23⟩)],0,0,8⟩
def lD (x0 x1 x2 x3 x4 x5 x6 x7 x8 x9 x10 x11 x12 x13 x14 x15 x16 x17 x18 x19 x20 x21 x22 x23 : PV) : Option R:=bV 6 0 0 (aW.mode 6) (todoOf Tryz.prog 6 15) [(3,.ptr 0 0),(4,.ptr 1 0),(5,.ptr 2 0),(8,.p x0)] ⟨[(0,some [.p x1,.p x2,.p x3,.p x4,.p x5,.p x6,.p x7,.p x8,.p x9,.p x10]),(1,some [.ref 0 [],.ref 1 [],.p x11,.ref 2 [],.p x12,.p x13,.p x14,.p x15,.p x16,.p x17]),(2,some [.p x18,.ref 3 [],.ref 4 []])],[(0,some ⟨(.own 4 64 true [.leaf,.leaf,(.own 3 32 true []),(.own 3 32 true [])]),x19⟩),(1,some ⟨(.own 1 24 true [(.own 3 32 true [])]),x20⟩),(2,some ⟨(.own 1 16 false []),x21⟩),(3,some ⟨(.own 1 8 false []),x22⟩),(4,some ⟨(.own 1 8 false []),x23⟩)],0,0,8⟩
def fY (x0 x1 x2 x3 x4 x5 x6 x7 x8 x9 x10 x11 x12 x13 x14 x15 x16 x17 x18 x19 x20 x21 x22 x23 x24 x25 x26 x27 : PV) : Option R:=bV 6 0 0 (aW.mode 6) (todoOf Tryz.prog 6 21) [(3,.ptr 0 0),(4,.ptr 1 0),(5,.ptr 2 0),(9,.ptr 3 0),(10,.p x0),(11,.p x1)] ⟨[(0,some [.p x2,.p x3,.p x4,.p x5,.p x6,.p x7,.p x8,.p x9,.p x10,.p x11]),(1,some [.ref 0 [],.ref 1 [],.p x12,.ref 2 [],.p x13,.p x14,.p x15,.p x16,.p x17,.p x18]),(2,some [.p x19,.ref 3 [],.ref 4 []]),(3,some [.p x20,.ref 5 [],.ref 6 []])],[(0,some ⟨(.own 4 64 true [.leaf,.leaf,(.own 3 32 true []),(.own 3 32 true [])]),x21⟩),(1,some ⟨(.own 1 24 true [(.own 3 32 true [])]),x22⟩),(2,some ⟨(.own 1 16 false []),x23⟩),(3,some ⟨(.own 1 8 false []),x24⟩),(4,some ⟨(.own 1 8 false []),x25⟩),(5,some ⟨(.own 1 8 false []),x26⟩),(6,some ⟨(.own 1 8 false []),x27⟩)],0,0,11⟩
def fZ (x0 x1 x2 x3 x4 x5 x6 x7 x8 x9 x10 x11 x12 x13 x14 x15 x16 x17 x18 x19 x20 x21 x22 x23 x24 x25 x26 x27 x28 x29 x30 x31 x32 x33 x34 x35 x36 : PV) : Option R:=bV 6 0 0 (aW.mode 6) (todoOf Tryz.prog 6 29) [(3,.ptr 0 0),(4,.ptr 1 0),(5,.ptr 2 0),(9,.ptr 3 0),(12,.ptr 4 0),(13,.p x0)] ⟨[(0,some [.p x1,.p x2,.p x3,.p x4,.p x5,.p x6,.p x7,.p x8,.p x9,.p x10]),(1,some [.ref 0 [],.ref 1 [],.p x11,.ref 2 [],.p x12,.p x13,.p x14,.p x15,.p x16,.p x17]),(2,some [.p x18,.ref 3 [],.ref 4 []]),(3,some [.p x19,.ref 5 [],.ref 6 []]),(4,some [.ref 7 [],.ref 8 [],.p x20,.ref 9 [],.p x21,.p x22,.p x23,.p x24,.p x25,.p x26])],[(0,some ⟨(.own 4 64 true [.leaf,.leaf,(.own 3 32 true []),(.own 3 32 true [])]),x27⟩),(1,some ⟨(.own 1 24 true [(.own 3 32 true [])]),x28⟩),(2,some ⟨(.own 1 16 false []),x29⟩),(3,some ⟨(.own 1 8 false []),x30⟩),(4,some ⟨(.own 1 8 false []),x31⟩),(5,some ⟨(.own 1 8 false []),x32⟩),(6,some ⟨(.own 1 8 false []),x33⟩),(7,some ⟨(.own 4 64 true [.leaf,.leaf,(.own 3 32 true []),(.own 3 32 true [])]),x34⟩),(8,some ⟨(.own 1 24 true [(.own 3 32 true [])]),x35⟩),(9,some ⟨(.own 1 16 false []),x36⟩)],0,0,15⟩
def iQ (x0 x1 x2 x3 x4 x5 x6 x7 x8 x9 x10 x11 x12 x13 x14 x15 x16 x17 x18 x19 x20 x21 x22 x23 x24 x25 x26 x27 x28 x29 x30 x31 x32 x33 : PV) : Option R:=bV 6 0 0 (aW.mode 6) (todoOf Tryz.prog 6 34) [(3,.ptr 0 0),(4,.ptr 1 0),(9,.ptr 2 0),(12,.ptr 3 0),(14,.p x0)] ⟨[(0,some [.p x1,.p x2,.p x3,.p x4,.p x5,.p x6,.p x7,.p x8,.p x9,.p x10]),(1,some [.ref 0 [],.ref 1 [],.p x11,.ref 2 [],.p x12,.p x13,.p x14,.p x15,.p x16,.p x17]),(2,some [.p x18,.ref 3 [],.ref 4 []]),(3,some [.ref 5 [],.ref 6 [],.p x19,.ref 7 [],.p x20,.p x21,.p x22,.p x23,.p x24,.p x25])],[(0,some ⟨(.own 4 64 true [.leaf,.leaf,(.own 3 32 true []),(.own 3 32 true [])]),x26⟩),(1,some ⟨(.own 1 24 true [(.own 3 32 true [])]),x27⟩),(2,some ⟨(.own 1 16 false []),x28⟩),(3,some ⟨(.own 1 8 false []),x29⟩),(4,some ⟨(.own 1 8 false []),x30⟩),(5,some ⟨(.own 4 64 true [.leaf,.leaf,(.own 3 32 true []),(.own 3 32 true [])]),x31⟩),(6,some ⟨(.own 1 24 true [(.own 3 32 true [])]),x32⟩),(7,some ⟨(.own 1 16 false []),x33⟩)],0,0,12⟩
def wA (x0 x1 : PV) : Option R:=aS 20 [x0,x1]
def xC (x0 : PV) : Option R:=aS 49 [x0]
def aCe (x0 x1 : PV) : Option R:=aS 50 [x0,x1]
def gL (x0 x1 x2 x3 x4 x5 x6 x7 x8 x9 x10 x11 x12 x13 : PV) : Option R:=bV 50 0 0 (aW.mode 50) (todoOf Tryz.prog 50 5) [(2,.ptr 0 0),(3,.ptr 1 0),(5,.p x0),(6,.p x1)] ⟨[(0,some [.p x2,.p x3]),(1,some [.p x4,.p x5,.p x6,.p x7,.p x8,.p x9,.p x10,.p x11,.p x12,.p x13])],[],0,0,2⟩
def eD (x0 x1 x2 x3 x4 x5 x6 x7 x8 x9 x10 x11 x12 x13 : PV) : Option R:=bV 50 0 0 (aW.mode 50) (todoOf Tryz.prog 50 10) [(2,.ptr 0 0),(3,.ptr 1 0),(5,.p x0),(7,.p x1)] ⟨[(0,some [.p x2,.p x3]),(1,some [.p x4,.p x5,.p x6,.p x7,.p x8,.p x9,.p x10,.p x11,.p x12,.p x13])],[],0,0,2⟩
def bD (x0 x1 x2 x3 x4 x5 x6 x7 x8 x9 x10 x11 x12 x13 : PV) : Option R:=bV 50 0 0 (aW.mode 50) (todoOf Tryz.prog 50 21) [(2,.ptr 0 0),(3,.ptr 1 0),(5,.p x0),(8,.p x1)] ⟨[(0,some [.p x2,.p x3]),(1,some [.p x4,.p x5,.p x6,.p x7,.p x8,.p x9,.p x10,.p x11,.p x12,.p x13])],[],0,0,2⟩
def zS (x0 : PV) : Option R:=aS 77 [x0]
def kM (x0 x1 x2 x3 x4 x5 : PV) : Option R:=bV 77 0 0 (aW.mode 77) (todoOf Tryz.prog 77 4) [(1,.ptr 0 0),(2,.ptr 1 0),(3,.p x0)] ⟨[(0,some [.p x1,.p x2]),(1,some [.p x3,.p x4,.p x5])],[],0,0,2⟩
def iR (x0 x1 x2 x3 x4 x5 x6 x7 x8 : PV) : Option R:=bV 77 0 0 (aW.mode 77) (todoOf Tryz.prog 77 9) [(1,.ptr 0 0),(2,.ptr 1 0),(3,.p x0),(4,.p x1),(5,.p x2),(6,.p x3)] ⟨[(0,some [.p x4,.p x5]),(1,some [.p x6,.p x7,.p x8])],[],0,0,2⟩
def jR (x0 x1 x2 x3 x4 x5 x6 x7 x8 x9 x10 x11 : PV) : Option R:=bV 77 0 0 (aW.mode 77) (todoOf Tryz.prog 77 18) [(1,.ptr 0 0),(2,.ptr 1 0),(3,.p x0),(4,.p x1),(5,.p x2),(6,.p x3),(9,.p x4),(10,.p x5),(11,.p x6)] ⟨[(0,some [.p x7,.p x8]),(1,some [.p x9,.p x10,.p x11])],[],0,0,2⟩
def gM (x0 x1 x2 x3 x4 x5 x6 x7 x8 x9 x10 x11 : PV) : Option R:=bV 77 0 0 (aW.mode 77) (todoOf Tryz.prog 77 23) [(1,.ptr 0 0),(2,.ptr 1 0),(3,.p x0),(4,.p x1),(5,.p x2),(6,.p x3),(9,.p x4),(10,.p x5),(12,.p x6)] ⟨[(0,some [.p x7,.p x8]),(1,some [.p x9,.p x10,.p x11])],[],0,0,2⟩
def aJ (x0 x1 x2 : PV) : Option R:=aS 78 [x0,x1,x2]
def xD (x0 x1 x2 : PV) : Option R:=aS 79 [x0,x1,x2]
def iS (x0 x1 x2 : PV) : Option R:=aS 80 [x0,x1,x2]
def gQ (x0 x1 x2 x3 x4 : PV) : Option R:=bV 80 0 0 (aW.mode 80) (todoOf Tryz.prog 80 2) [(1,.p x0),(2,.p x1),(3,.ptr 0 0),(7,.p x2)] ⟨[(0,some [.p x3,.p x4])],[],0,0,1⟩
def lE (x0 : PV) : Option R:=aS 81 [x0]
def mJ (x0 x1 : PV) : Option R:=bV 81 0 0 (aW.mode 81) (todoOf Tryz.prog 81 4) [(0,.p x0),(3,.p x1)] ⟨[],[],0,0,0⟩
def mK (x0 x1 x2 x3 : PV) : Option R:=aS 82 [x0,x1,x2,x3]
def vA (x0 : PV) : Option R:=aS 104 [x0]
def lF (x0 x1 x2 : PV) : Option R:=bV 104 0 0 (aW.mode 104) (todoOf Tryz.prog 104 4) [(1,.ptr 0 0),(3,.p x0)] ⟨[(0,some [.p x1,.p x2])],[],0,0,1⟩
def iT (x0 x1 x2 : PV) : Option R:=bV 104 0 0 (aW.mode 104) (todoOf Tryz.prog 104 9) [(1,.ptr 0 0),(4,.p x0)] ⟨[(0,some [.p x1,.p x2])],[],0,0,1⟩
def kD (x0 x1 x2 x3 x4 x5 x6 : PV) : Option R:=bV 104 0 0 (aW.mode 104) (todoOf Tryz.prog 104 15) [(1,.ptr 0 0),(4,.p x0),(5,.ptr 1 0),(6,.p x1)] ⟨[(0,some [.p x2,.p x3]),(1,some [.p x4,.p x5,.p x6])],[],0,0,2⟩
def iU (x0 x1 : PV) : Option R:=aS 105 [x0,x1]
def kE (x0 x1 x2 x3 x4 : PV) : Option R:=bV 105 0 0 (aW.mode 105) (todoOf Tryz.prog 105 4) [(2,.ptr 0 0),(5,.p x0),(6,.ref 0 []),(7,.p x1)] ⟨[(0,some [.p x2,.p x3])],[(0,some ⟨(.own 1 8 false []),x4⟩)],0,0,2⟩
def gR (x0 x1 x2 x3 x4 : PV) : Option R:=bV 105 0 0 (aW.mode 105) (todoOf Tryz.prog 105 9) [(2,.ptr 0 0),(5,.p x0),(6,.ref 0 []),(8,.p x1)] ⟨[(0,some [.p x2,.p x3])],[(0,some ⟨(.own 1 8 false []),x4⟩)],0,0,2⟩
def dN (x0 x1 x2 x3 x4 x5 : PV) : Option R:=bV 105 0 0 (aW.mode 105) (todoOf Tryz.prog 105 12) [(2,.ptr 0 0),(5,.p x0),(6,.ref 0 []),(8,.p x1),(9,.p x2)] ⟨[(0,some [.p x3,.p x4])],[(0,some ⟨(.own 1 8 false []),x5⟩)],0,0,2⟩
def eB (x0 x1 x2 x3 x4 x5 x6 x7 x8 : PV) : Option R:=bV 105 0 0 (aW.mode 105) (todoOf Tryz.prog 105 19) [(2,.ptr 0 0),(5,.p x0),(6,.ref 0 []),(8,.p x1),(9,.p x2),(12,.p x3),(13,.p x4),(14,.p x5)] ⟨[(0,some [.p x6,.p x7])],[(0,some ⟨(.own 1 8 false []),x8⟩)],0,0,2⟩
def sS (x0 x1 x2 x3 x4 x5 x6 x7 : PV) : Option R:=bV 105 0 0 (aW.mode 105) (todoOf Tryz.prog 105 22) [(2,.ptr 0 0),(5,.p x0),(6,.ref 0 []),(9,.p x1),(12,.p x2),(13,.p x3),(14,.p x4)] ⟨[(0,some [.p x5,.p x6])],[(0,some ⟨(.own 1 8 false []),x7⟩)],0,0,2⟩
def tW (x0 x1 : PV) : Option R:=aS 106 [x0,x1]
def rS (x0 x1 : PV) : Option R:=aS 107 [x0,x1]
def yA (x0 x1 x2 x3 : PV) : Option R:=bV 107 0 0 (aW.mode 107) (todoOf Tryz.prog 107 3) [(1,.p x0),(2,.ptr 0 0),(5,.ref 0 [])] ⟨[(0,some [.p x1,.p x2])],[(0,some ⟨(.own 1 8 false []),x3⟩)],0,0,2⟩
def mL (x0 x1 x2 : PV) : Option R:=bV 107 0 0 (aW.mode 107) (todoOf Tryz.prog 107 4) [(2,.ptr 0 0),(5,.ref 0 [])] ⟨[(0,some [.p x0,.p x1])],[(0,some ⟨(.own 1 8 false []),x2⟩)],0,0,2⟩
def mN (x0 x1 x2 : PV) : Option R:=bV 107 0 0 (aW.mode 107) (todoOf Tryz.prog 107 5) [(2,.ptr 0 0),(5,.ref 0 [])] ⟨[(0,some [.p x0,.p x1])],[(0,some ⟨(.own 1 8 false []),x2⟩)],0,0,2⟩
def tX (x0 : PV) : Option R:=aS 108 [x0]
def aBt (x0 x1 x2 : PV) : Option R:=aS 134 [x0,x1,x2]
def nY (x0 x1 : PV) : Option R:=cK 9 [.p x0,.p x1] ⟨[],[],0,0,0⟩
def wC (x0 x1 : PV) : Option R:=aS 29 [x0,x1]
def pH (x0 : PV) : Option R:=aS 33 [x0]
def iG (x0 x1 x2 x3 x4 x5 x6 x7 x8 x9 x10 x11 x12 x13 : PV) : Option R:=bV 33 0 0 (aW.mode 33) (todoOf Tryz.prog 33 4) [(1,.ptr 0 0),(3,.ptr 1 0),(4,.fn 66 [.ptr 1 0]),(11,.p x0),(12,.p x1),(13,.p x2)] ⟨[(0,some [.p x3,.p x4,.p x5,.p x6,.p x7,.p x8,.p x9,.p x10,.p x11,.p x12]),(1,some [.ref 0 []])],[(0,some ⟨(.own 1 8 false []),x13⟩)],0,0,3⟩
def gS (x0 x1 x2 x3 x4 x5 x6 x7 x8 x9 x10 x11 : PV) : Option R:=bV 33 0 0 (aW.mode 33) (todoOf Tryz.prog 33 11) [(1,.ptr 0 0),(3,.ptr 1 0),(4,.fn 66 [.ptr 1 0]),(7,.p x0)] ⟨[(0,some [.p x1,.p x2,.p x3,.p x4,.p x5,.p x6,.p x7,.p x8,.p x9,.p x10]),(1,some [.ref 0 []])],[(0,some ⟨(.own 1 8 false []),x11⟩)],0,0,3⟩
def oP (x0 : PV) : Option R:=aS 32 [x0]
def nZ (x0 : PV) : Option R:=aS 31 [x0]
def zT (x0 : PV) : Option R:=aS 56 [x0]
def xE (x0 : PV) : Option R:=aS 58 [x0]
def jS (x0 x1 x2 x3 x4 : PV) : Option R:=bV 58 0 0 (aW.mode 58) (todoOf Tryz.prog 58 3) [(1,.ptr 0 0),(3,.ref 0 []),(8,.p x0),(9,.p x1)] ⟨[(0,some [.p x2,.p x3])],[(0,some ⟨(.own 1 24 false []),x4⟩)],0,0,2⟩
def aG7 (x0 x1 x2 : PV) : Option R:=aS 57 [x0,x1,x2]
def gT (x0 x1 x2 x3 x4 x5 x6 x7 x8 x9 x10 x11 x12 x13 x14 x15 x16 : PV) : Option R:=bV 57 0 0 (aW.mode 57) (todoOf Tryz.prog 57 8) [(1,.p x0),(3,.ptr 0 0),(5,.ptr 1 0),(7,.ptr 2 0),(43,.p x1),(44,.p x2),(45,.p x3)] ⟨[(0,some [.p x4,.p x5]),(1,some [.p x6,.p x7,.p x8,.p x9,.p x10,.p x11,.p x12,.p x13,.p x14,.p x15]),(2,some [.p x16])],[],0,0,3⟩
def zU (x0 : PV) : Option R:=aS 85 [x0]
def kN (x0 x1 x2 x3 x4 x5 x6 : PV) : Option R:=bV 85 0 0 (aW.mode 85) (todoOf Tryz.prog 85 4) [(1,.ptr 0 0),(2,.ptr 1 0),(16,.p x0),(17,.p x1)] ⟨[(0,some [.p x2,.p x3]),(1,some [.p x4,.p x5,.p x6])],[],0,0,2⟩
def kO (x0 x1 x2 x3 x4 x5 x6 x7 x8 x9 x10 x11 : PV) : Option R:=bV 85 0 0 (aW.mode 85) (todoOf Tryz.prog 85 8) [(1,.ptr 0 0),(2,.ptr 1 0),(3,.p x0),(4,.ptr 2 0),(16,.p x1),(17,.p x2),(28,.p x3),(29,.p x4),(30,.p x5)] ⟨[(0,some [.p x6,.p x7]),(1,some [.p x8,.p x9,.p x10]),(2,some [.p x11])],[],0,0,3⟩
def tY (x0 x1 : PV) : Option R:=aS 95 [x0,x1]
def kP (x0 x1 x2 x3 x4 : PV) : Option R:=bV 95 0 0 (aW.mode 95) (todoOf Tryz.prog 95 5) [(2,.ptr 0 0),(5,.p x0),(6,.ref 0 []),(7,.p x1)] ⟨[(0,some [.p x2,.p x3])],[(0,some ⟨(.own 1 8 false []),x4⟩)],0,0,2⟩
def gB (x0 x1 x2 x3 x4 x5 x6 x7 : PV) : Option R:=bV 95 0 0 (aW.mode 95) (todoOf Tryz.prog 95 8) [(2,.ptr 0 0),(5,.p x0),(6,.ref 0 []),(7,.p x1),(27,.p x2),(28,.p x3),(29,.p x4)] ⟨[(0,some [.p x5,.p x6])],[(0,some ⟨(.own 1 8 false []),x7⟩)],0,0,2⟩
def eQ (x0 x1 x2 x3 x4 x5 x6 x7 x8 x9 x10 x11 x12 : PV) : Option R:=bV 95 0 0 (aW.mode 95) (todoOf Tryz.prog 95 13) [(2,.ptr 0 0),(5,.p x0),(6,.ref 0 []),(7,.p x1),(10,.p x2),(11,.p x3),(27,.p x4),(28,.p x5),(29,.p x6),(51,.p x7),(52,.p x8),(53,.p x9)] ⟨[(0,some [.p x10,.p x11])],[(0,some ⟨(.own 1 8 false []),x12⟩)],0,0,2⟩
def yB (x0 x1 x2 x3 x4 x5 x6 x7 x8 x9 x10 x11 x12 : PV) : Option R:=bV 95 0 0 (aW.mode 95) (todoOf Tryz.prog 95 16) [(2,.ptr 0 0),(5,.p x0),(6,.ref 0 []),(10,.p x1),(11,.p x2),(13,.p x3),(27,.p x4),(28,.p x5),(29,.p x6),(51,.p x7),(52,.p x8),(53,.p x9)] ⟨[(0,some [.p x10,.p x11])],[(0,some ⟨(.own 1 8 false []),x12⟩)],0,0,2⟩
def tZ (x0 : PV) : Option R:=aS 86 [x0]
def bU (x0 x1 x2 : PV) : Option R:=aS 87 [x0,x1,x2]
def dF (x0 x1 : PV) : Option R:=aS 88 [x0,x1]
def zV (x0 : PV) : Option R:=aS 89 [x0]
def rT (x0 x1 x2 x3 x4 x5 x6 : PV) : Option R:=aS 94 [x0,x1,x2,x3,x4,x5,x6]
def vB (x0 : PV) : Option R:=aS 110 [x0]
def lG (x0 x1 x2 x3 x4 : PV) : Option R:=bV 110 0 0 (aW.mode 110) (todoOf Tryz.prog 110 4) [(1,.ptr 0 0),(22,.p x0),(23,.p x1),(24,.p x2)] ⟨[(0,some [.p x3,.p x4])],[],0,0,1⟩
def uA (x0 x1 x2 : PV) : Option R:=aS 111 [x0,x1,x2]
def rU (x0 x1 : PV) : Option R:=aS 112 [x0,x1]
def eE (x0 x1 : PV) : Option R:=aS 67 [x0,x1]
def fT (x0 x1 : PV) : Option R:=aS 113 [x0,x1]
def aA6 (x0 x1 x2 : PV) : Option R:=aS 114 [x0,x1,x2]
def fF (x0 x1 : PV) : Option R:=aS 115 [x0,x1]
def vC (x0 : PV) : Option R:=aS 116 [x0]
def iV (x0 x1 : PV) : Option R:=aS 117 [x0,x1]
def dG (x0 x1 x2 x3 : PV) : Option R:=bV 117 0 0 (aW.mode 117) (todoOf Tryz.prog 117 2) [(0,.p x0),(1,.p x1),(7,.p x2),(8,.p x3)] ⟨[],[],0,0,0⟩
def nC (x0 : PV) : Option R:=aS 90 [x0]
def oA (x0 x1 x2 : PV) : Option R:=bV 90 0 0 (aW.mode 90) (todoOf Tryz.prog 90 2) [(0,.p x0),(5,.p x1),(6,.p x2)] ⟨[],[],0,0,0⟩
def cL (x0 x1 : PV) : Option R:=aS 120 [x0,x1]
def yC (x0 : PV) : Option R:=aS 135 [x0]
def dP (x0 x1 : PV) : Option R:=aS 136 [x0,x1]
def yD (x0 x1 x2 : PV) : Option R:=aS 137 [x0,x1,x2]
def zW (x0 x1 : PV) : Option R:=aS 139 [x0,x1]
def mO (x0 x1 x2 x3 : PV) : Option R:=bV 139 0 0 (aW.mode 139) (todoOf Tryz.prog 139 24) [(2,.ptr 0 0),(3,.ptr 1 0)] ⟨[(0,some [.p x0,.p x1]),(1,some [.p x2,.p x3])],[],0,0,2⟩
def yE (x0 x1 x2 x3 : PV) : Option R:=bV 139 0 0 (aW.mode 139) (todoOf Tryz.prog 139 25) [(2,.ptr 0 0),(3,.ptr 1 0)] ⟨[(0,some [.p x0,.p x1]),(1,some [.p x2,.p x3])],[],0,0,2⟩
def eF (x0 x1 : PV) : Option R:=aS 60 [x0,x1]
def eG (x0 x1 x2 x3 : PV) : Option R:=bV 60 0 0 (aW.mode 60) (todoOf Tryz.prog 60 2) [(0,.p x0),(1,.p x1),(7,.p x2),(8,.p x3)] ⟨[],[],0,0,0⟩
def mB (x0 x1 : PV) : Option R:=aS 140 [x0,x1]
def eH (x0 x1 x2 x3 : PV) : Option R:=bV 140 0 0 (aW.mode 140) (todoOf Tryz.prog 140 2) [(0,.p x0),(1,.p x1),(7,.p x2),(8,.p x3)] ⟨[],[],0,0,0⟩
def gC (x0 x1 : PV) : Option R:=aS 141 [x0,x1]
def bE (x0 x1 x2 x3 : PV) : Option R:=bV 141 0 0 (aW.mode 141) (todoOf Tryz.prog 141 2) [(0,.p x0),(1,.p x1),(7,.p x2),(8,.p x3)] ⟨[],[],0,0,0⟩
def gD (x0 x1 : PV) : Option R:=aS 150 [x0,x1]
def cO (x0 x1 x2 x3 : PV) : Option R:=bV 150 0 0 (aW.mode 150) (todoOf Tryz.prog 150 2) [(0,.p x0),(1,.p x1),(7,.p x2),(8,.p x3)] ⟨[],[],0,0,0⟩
def aBu (x0 x1 x2 : PV) : Option R:=aS 138 [x0,x1,x2]
def sT (x0 : PV) : Option R:=aS 119 [x0]
def qK (x0 x1 x2 : PV) : Option R:=cK 12 [.agg [.ref 0 [],.ref 1 []],.p x0] ⟨[],[(0,some ⟨(.own 1 16 false []),x1⟩),(1,some ⟨(.own 3 40 true [.leaf,.leaf,(.own 2 16 true [])]),x2⟩)],0,0,2⟩
def uB (x0 x1 x2 x3 x4 x5 x6 x7 x8 x9 x10 : PV) : Option R:=cK 13 [.agg [.ref 0 [],.ref 1 [],.p x0,.ref 2 [],.p x1,.p x2,.p x3,.p x4,.p x5,.p x6],.p x7] ⟨[],[(0,some ⟨(.own 4 64 true [.leaf,.leaf,(.own 3 32 true []),(.own 3 32 true [])]),x8⟩),(1,some ⟨(.own 1 24 true [(.own 3 32 true [])]),x9⟩),(2,some ⟨(.own 1 16 false []),x10⟩)],0,0,3⟩
def oB (x0 : PV) : Option R:=cK 24 [.p x0] ⟨[],[],0,0,0⟩
def kF (x0 x1 x2 : PV) : Option R:=bV 24 0 0 (aW.mode 24) (todoOf Tryz.prog 24 3) [(0,.p x0),(3,.ref 0 []),(4,.p x1)] ⟨[],[(0,some ⟨(.own 1 16 false []),x2⟩)],0,0,1⟩
def xF (x0 : PV) : Option R:=cK 25 [.p x0] ⟨[],[],0,0,0⟩
def jT (x0 x1 x2 : PV) : Option R:=bV 25 0 0 (aW.mode 25) (todoOf Tryz.prog 25 3) [(0,.p x0),(3,.ref 0 []),(4,.p x1)] ⟨[],[(0,some ⟨(.own 3 40 true [.leaf,.leaf,(.own 2 16 true [])]),x2⟩)],0,0,1⟩
def vD (x0 : PV) : Option R:=cK 26 [.p x0] ⟨[],[],0,0,0⟩
def iW (x0 x1 x2 : PV) : Option R:=bV 26 0 0 (aW.mode 26) (todoOf Tryz.prog 26 3) [(0,.p x0),(3,.ref 0 []),(4,.p x1)] ⟨[],[(0,some ⟨(.own 4 64 true [.leaf,.leaf,(.own 3 32 true []),(.own 3 32 true [])]),x2⟩)],0,0,1⟩
def zX (x0 : PV) : Option R:=cK 27 [.p x0] ⟨[],[],0,0,0⟩
def kQ (x0 x1 x2 : PV) : Option R:=bV 27 0 0 (aW.mode 27) (todoOf Tryz.prog 27 3) [(0,.p x0),(3,.ref 0 []),(4,.p x1)] ⟨[],[(0,some ⟨(.own 1 24 true [(.own 3 32 true [])]),x2⟩)],0,0,1⟩
def cE (x0 x1 x2 x3 : PV) : Option R:=cK 21 [.ptr 0 0,.p x0] ⟨[(0,some [.p x1,.ref 0 [],.ref 1 []])],[(0,some ⟨(.own 1 8 false []),x2⟩),(1,some ⟨(.own 1 8 false []),x3⟩)],0,0,3⟩
def cZ (x0 x1 x2 x3 x4 x5 : PV) : Option R:=bV 21 1 0 (aW.mode 21) (todoOf Tryz.prog 21 3) [(0,.ptr 0 0),(1,.p x0),(5,.ref 2 []),(6,.p x1)] ⟨[(0,some [.p x2,.ref 0 [],.ref 1 []])],[(0,some ⟨(.own 1 8 false []),x3⟩),(1,some ⟨(.own 1 8 false []),x4⟩),(2,some ⟨(.own 3 32 true []),x5⟩)],0,0,4⟩
def gE (x0 x1 x2 x3 x4 x5 : PV) : Option R:=cK 22 [.ptr 0 0,.agg [.p x0,.p x1,.p x2]] ⟨[(0,some [.p x3,.ref 0 [],.ref 1 []])],[(0,some ⟨(.own 1 8 false []),x4⟩),(1,some ⟨(.own 1 8 false []),x5⟩)],0,0,3⟩
def cQ (x0 x1 x2 x3 x4 x5 x6 x7 x8 : PV) : Option R:=bV 22 1 0 (aW.mode 22) (todoOf Tryz.prog 22 6) [(0,.ptr 0 0),(3,.ptr 1 0),(4,.ptr 2 0)] ⟨[(0,some [.p x0,.ref 0 [],.ref 1 []]),(1,some [.p x1,.p x2,.p x3]),(2,some [.p x4,.p x5,.p x6])],[(0,some ⟨(.own 1 8 false []),x7⟩),(1,some ⟨(.own 1 8 false []),x8⟩)],0,0,5⟩
def rV (x0 : PV) : Option R:=cK 23 [.p x0] ⟨[],[],0,0,0⟩
def mP (x0 x1 x2 x3 x4 x5 x6 x7 x8 x9 x10 x11 x12 x13 x14 x15 x16 x17 x18 x19 x20 x21 : PV) : Option R:=bV 23 0 0 (aW.mode 23) (todoOf Tryz.prog 23 3) [(1,.ptr 0 0),(2,.ptr 1 0),(3,.ref 3 []),(4,.p x0)] ⟨[(0,some [.p x1,.p x2,.p x3,.p x4,.p x5,.p x6,.p x7,.p x8,.p x9,.p x10]),(1,some [.ref 0 [],.ref 1 [],.p x11,.ref 2 [],.p x12,.p x13,.p x14,.p x15,.p x16,.p x17])],[(0,some ⟨(.own 4 64 true [.leaf,.leaf,(.own 3 32 true []),(.own 3 32 true [])]),x18⟩),(1,some ⟨(.own 1 24 true [(.own 3 32 true [])]),x19⟩),(2,some ⟨(.own 1 16 false []),x20⟩),(3,some ⟨(.own 4 64 true [.leaf,.leaf,(.own 3 32 true []),(.own 3 32 true [])]),x21⟩)],0,0,6⟩
def qL (x0 x1 : PV) : Option R:=cK 30 [.p x0,.p x1] ⟨[],[],0,0,0⟩
def jE (x0 x1 x2 x3 x4 x5 x6 x7 x8 x9 x10 x11 x12 x13 x14 x15 x16 x17 x18 x19 x20 x21 x22 x23 x24 x25 x26 x27 x28 x29 x30 x31 x32 x33 : PV) : Option R:=bV 30 0 0 (aW.mode 30) (todoOf Tryz.prog 30 5) [(2,.ptr 0 0),(4,.ptr 1 0),(5,.fn 59 [.ptr 2 0]),(6,.ptr 3 0),(18,.p x0),(19,.p x1),(20,.p x2)] ⟨[(0,some [.p x3,.p x4,.p x5,.p x6,.p x7,.p x8,.p x9,.p x10,.p x11,.p x12]),(1,some [.ref 0 [],.ref 1 [],.p x13,.ref 2 [],.p x14,.p x15,.p x16,.p x17,.p x18,.p x19]),(2,some [.p x20]),(3,some [.ref 3 [],.ref 4 [],.p x21,.ref 5 [],.p x22,.p x23,.p x24,.p x25,.p x26,.p x27])],[(0,some ⟨(.own 4 64 true [.leaf,.leaf,(.own 3 32 true []),(.own 3 32 true [])]),x28⟩),(1,some ⟨(.own 1 24 true [(.own 3 32 true [])]),x29⟩),(2,some ⟨(.own 1 16 false []),x30⟩),(3,some ⟨(.own 4 64 true [.leaf,.leaf,(.own 3 32 true []),(.own 3 32 true [])]),x31⟩),(4,some ⟨(.own 1 24 true [(.own 3 32 true [])]),x32⟩),(5,some ⟨(.own 1 16 false []),x33⟩)],0,0,10⟩
def fP (x0 x1 x2 x3 x4 x5 x6 x7 x8 x9 x10 x11 x12 x13 x14 x15 x16 x17 x18 x19 x20 x21 x22 x23 x24 x25 x26 x27 x28 x29 x30 x31 x32 : PV) : Option R:=bV 30 0 0 (aW.mode 30) (todoOf Tryz.prog 30 10) [(2,.ptr 0 0),(4,.ptr 1 0),(5,.fn 59 [.ptr 2 0]),(6,.ptr 3 0),(39,.ref 3 []),(40,.p x0),(41,.p x1)] ⟨[(0,some [.p x2,.p x3,.p x4,.p x5,.p x6,.p x7,.p x8,.p x9,.p x10,.p x11]),(1,some [.ref 0 [],.ref 1 [],.p x12,.ref 2 [],.p x13,.p x14,.p x15,.p x16,.p x17,.p x18]),(2,some [.p x19]),(3,some [.ref 3 [],.ref 4 [],.p x20,.ref 5 [],.p x21,.p x22,.p x23,.p x24,.p x25,.p x26])],[(0,some ⟨(.own 4 64 true [.leaf,.leaf,(.own 3 32 true []),(.own 3 32 true [])]),x27⟩),(1,some ⟨(.own 1 24 true [(.own 3 32 true [])]),x28⟩),(2,some ⟨(.own 1 16 false []),x29⟩),(3,some ⟨(.own 4 64 true [.leaf,.leaf,(.own 3 32 true []),(.own 3 32 true [])]),x30⟩),(4,some ⟨(.own 1 24 true [(.own 3 32 true [])]),x31⟩),(5,some ⟨(.own 1 16 false []),x32⟩)],0,0,10⟩
def fQ (x0 x1 x2 x3 x4 x5 x6 x7 x8 x9 x10 x11 x12 x13 x14 x15 x16 x17 x18 x19 x20 x21 x22 x23 x24 x25 x26 x27 x28 x29 x30 x31 x32 : PV) : Option R:=bV 30 0 0 (aW.mode 30) (todoOf Tryz.prog 30 16) [(2,.ptr 0 0),(4,.ptr 1 0),(5,.fn 59 [.ptr 2 0]),(6,.ptr 3 0),(55,.ref 4 []),(56,.p x0),(57,.p x1)] ⟨[(0,some [.p x2,.p x3,.p x4,.p x5,.p x6,.p x7,.p x8,.p x9,.p x10,.p x11]),(1,some [.ref 0 [],.ref 1 [],.p x12,.ref 2 [],.p x13,.p x14,.p x15,.p x16,.p x17,.p x18]),(2,some [.p x19]),(3,some [.ref 3 [],.ref 4 [],.p x20,.ref 5 [],.p x21,.p x22,.p x23,.p x24,.p x25,.p x26])],[(0,some ⟨(.own 4 64 true [.leaf,.leaf,(.own 3 32 true []),(.own 3 32 true [])]),x27⟩),(1,some ⟨(.own 1 24 true [(.own 3 32 true [])]),x28⟩),(2,some ⟨(.own 1 16 false []),x29⟩),(3,some ⟨(.own 4 64 true [.leaf,.leaf,(.own 3 32 true []),(.own 3 32 true [])]),x30⟩),(4,some ⟨(.own 1 24 true [(.own 3 32 true [])]),x31⟩),(5,some ⟨(.own 1 16 false []),x32⟩)],0,0,10⟩
def gF (x0 x1 : PV) : Option R:=cK 66 [.p x0,.ptr 0 0] ⟨[(0,some [.ref 0 []])],[(0,some ⟨(.own 1 8 false []),x1⟩)],0,0,2⟩
def dV (x0 x1 x2 x3 : PV) : Option R:=bV 66 1 0 (aW.mode 66) (todoOf Tryz.prog 66 1) [(1,.ptr 0 0),(5,.p x0),(6,.p x1),(7,.p x2)] ⟨[(0,some [.ref 0 []])],[(0,some ⟨(.own 1 8 false []),x3⟩)],0,0,2⟩
def oQ (x0 x1 x2 x3 x4 x5 x6 : PV) : Option R:=bV 66 1 0 (aW.mode 66) (todoOf Tryz.prog 66 4) [(1,.ptr 0 0),(4,.ptr 1 0),(5,.p x0),(6,.p x1),(7,.p x2)] ⟨[(0,some [.ref 0 []]),(1,some [.p x3,.p x4,.p x5])],[(0,some ⟨(.own 1 8 false []),x6⟩)],0,0,3⟩
def jX (x0 x1 : PV) : Option R:=cK 66 [.ref 0 [],.ptr 0 0] ⟨[(0,some [.ref 1 []])],[(0,some ⟨(.own 3 32 true []),x0⟩),(1,some ⟨(.own 1 8 false []),x1⟩)],0,0,3⟩
def dL (x0 x1 x2 x3 : PV) : Option R:=bV 66 1 0 (aW.mode 66) (todoOf Tryz.prog 66 1) [(1,.ptr 0 0),(5,.ref 1 []),(6,.p x0),(7,.p x1)] ⟨[(0,some [.ref 0 []])],[(0,some ⟨(.own 1 8 false []),x2⟩),(1,some ⟨(.own 3 32 true []),x3⟩)],0,0,3⟩
def nD (x0 x1 x2 x3 x4 x5 x6 : PV) : Option R:=bV 66 1 0 (aW.mode 66) (todoOf Tryz.prog 66 4) [(1,.ptr 0 0),(4,.ptr 1 0),(5,.ref 1 []),(6,.p x0),(7,.p x1)] ⟨[(0,some [.ref 0 []]),(1,some [.p x2,.p x3,.p x4])],[(0,some ⟨(.own 1 8 false []),x5⟩),(1,some ⟨(.own 3 32 true []),x6⟩)],0,0,4⟩
def oC (x0 x1 x2 x3 x4 x5 x6 x7 x8 x9 x10 x11 x12 x13 x14 x15 x16 x17 x18 x19 x20 x21 x22 : PV) : Option R:=cK 91 [.agg [.p x0,.p x1,.p x2,.p x3,.p x4,.p x5,.p x6,.p x7,.p x8,.p x9],.fn 92 [.ptr 0 0,.ptr 1 0,.ptr 2 0]] ⟨[(0,some [.p x10]),(1,some [.p x11,.p x12]),(2,some [.p x13,.p x14,.p x15,.p x16,.p x17,.p x18,.p x19,.p x20,.p x21,.p x22])],[],0,0,3⟩
def eN (x0 x1 x2 x3 x4 x5 x6 x7 x8 x9 x10 x11 x12 x13 x14 x15 x16 x17 x18 x19 x20 x21 x22 x23 x24 x25 : PV) : Option R:=bV 91 3 0 (aW.mode 91) (todoOf Tryz.prog 91 2) [(1,.fn 92 [.ptr 0 0,.ptr 1 0,.ptr 2 0]),(2,.ptr 3 0),(13,.p x0),(14,.p x1),(15,.p x2)] ⟨[(0,some [.p x3]),(1,some [.p x4,.p x5]),(2,some [.p x6,.p x7,.p x8,.p x9,.p x10,.p x11,.p x12,.p x13,.p x14,.p x15]),(3,some [.p x16,.p x17,.p x18,.p x19,.p x20,.p x21,.p x22,.p x23,.p x24,.p x25])],[],0,0,4⟩
def eO (x0 x1 x2 x3 x4 x5 x6 x7 x8 x9 x10 x11 x12 x13 x14 x15 x16 x17 x18 x19 x20 x21 x22 x23 x24 x25 x26 x27 x28 : PV) : Option R:=bV 91 3 0 (aW.mode 91) (todoOf Tryz.prog 91 5) [(1,.fn 92 [.ptr 0 0,.ptr 1 0,.ptr 2 0]),(2,.ptr 3 0),(13,.p x0),(14,.p x1),(15,.p x2),(24,.ref 0 []),(25,.p x3),(26,.p x4)] ⟨[(0,some [.p x5]),(1,some [.p x6,.p x7]),(2,some [.p x8,.p x9,.p x10,.p x11,.p x12,.p x13,.p x14,.p x15,.p x16,.p x17]),(3,some [.p x18,.p x19,.p x20,.p x21,.p x22,.p x23,.p x24,.p x25,.p x26,.p x27])],[(0,some ⟨(.own 3 32 true []),x28⟩)],0,0,5⟩
def dA (x0 x1 x2 x3 x4 x5 x6 x7 x8 x9 x10 x11 x12 x13 x14 x15 x16 x17 x18 x19 x20 x21 x22 x23 x24 x25 : PV) : Option R:=bV 91 3 0 (aW.mode 91) (todoOf Tryz.prog 91 11) [(1,.fn 92 [.ptr 0 0,.ptr 1 0,.ptr 2 0]),(2,.ptr 3 0),(36,.p x0),(37,.p x1),(38,.p x2)] ⟨[(0,some [.p x3]),(1,some [.p x4,.p x5]),(2,some [.p x6,.p x7,.p x8,.p x9,.p x10,.p x11,.p x12,.p x13,.p x14,.p x15]),(3,some [.p x16,.p x17,.p x18,.p x19,.p x20,.p x21,.p x22,.p x23,.p x24,.p x25])],[],0,0,4⟩
def eC (x0 x1 x2 x3 x4 x5 x6 x7 x8 x9 x10 x11 x12 x13 x14 x15 x16 x17 x18 x19 x20 x21 x22 x23 x24 x25 x26 x27 x28 : PV) : Option R:=bV 91 3 0 (aW.mode 91) (todoOf Tryz.prog 91 14) [(1,.fn 92 [.ptr 0 0,.ptr 1 0,.ptr 2 0]),(2,.ptr 3 0),(36,.p x0),(37,.p x1),(38,.p x2),(43,.p x3),(44,.p x4),(45,.p x5)] ⟨[(0,some [.p x6]),(1,some [.p x7,.p x8]),(2,some [.p x9,.p x10,.p x11,.p x12,.p x13,.p x14,.p x15,.p x16,.p x17,.p x18]),(3,some [.p x19,.p x20,.p x21,.p x22,.p x23,.p x24,.p x25,.p x26,.p x27,.p x28])],[],0,0,4⟩
def jY (x0 x1 : PV) : Option R:=cK 121 [.p x0,.p x1] ⟨[],[],0,0,0⟩
def mC (x0 x1 : PV) : Option R:=bV 121 0 0 (aW.mode 121) (todoOf Tryz.prog 121 3) [(0,.p x0),(1,.p x1)] ⟨[],[],0,0,0⟩
def mD (x0 x1 : PV) : Option R:=bV 121 0 0 (aW.mode 121) (todoOf Tryz.prog 121 6) [(0,.p x0),(6,.p x1)] ⟨[],[],0,0,0⟩
def eY (x0 x1 : PV) : Option R:=bV 121 0 0 (aW.mode 121) (todoOf Tryz.prog 121 8) [(7,.ref 0 []),(8,.p x0)] ⟨[],[(0,some ⟨(.own 1 8 false []),x1⟩)],0,0,1⟩
def aA7 (x0 x1 : PV) : Option R:=aS 143 [x0,x1]
def yF (x0 x1 : PV) : Option R:=aS 152 [x0,x1]
def lH (x0 x1 : PV) : Option R:=cK 39 [.ref 0 [],.p x0] ⟨[],[(0,some ⟨(.own 1 16 false []),x1⟩)],0,0,1⟩
def iH (x0 x1 x2 : PV) : Option R:=bV 39 0 1 ((aW.mode 39).map (Tmpl.fitK · [some (.own 1 16 false [])])) (todoOf Tryz.prog 39 2) [(0,.ref 0 []),(1,.p x0),(5,.p x1)] ⟨[],[(0,some ⟨(.own 1 16 false []),x2⟩)],0,0,1⟩
def sU (x0 x1 : PV) : Option R:=cK 40 [.ref 0 [],.p x0] ⟨[],[(0,some ⟨(.own 3 40 true [.leaf,.leaf,(.own 2 16 true [])]),x1⟩)],0,0,1⟩
def kG (x0 x1 x2 : PV) : Option R:=bV 40 0 1 ((aW.mode 40).map (Tmpl.fitK · [some (.own 3 40 true [.leaf,.leaf,(.own 2 16 true [])])])) (todoOf Tryz.prog 40 2) [(0,.ref 0 []),(1,.p x0),(5,.p x1)] ⟨[],[(0,some ⟨(.own 3 40 true [.leaf,.leaf,(.own 2 16 true [])]),x2⟩)],0,0,1⟩
def qM (x0 x1 : PV) : Option R:=cK 41 [.ref 0 [],.p x0] ⟨[],[(0,some ⟨(.own 4 64 true [.leaf,.leaf,(.own 3 32 true []),(.own 3 32 true [])]),x1⟩)],0,0,1⟩
def jF (x0 x1 x2 : PV) : Option R:=bV 41 0 1 ((aW.mode 41).map (Tmpl.fitK · [some (.own 4 64 true [.leaf,.leaf,(.own 3 32 true []),(.own 3 32 true [])])])) (todoOf Tryz.prog 41 2) [(0,.ref 0 []),(1,.p x0),(5,.p x1)] ⟨[],[(0,some ⟨(.own 4 64 true [.leaf,.leaf,(.own 3 32 true []),(.own 3 32 true [])]),x2⟩)],0,0,1⟩
def vE (x0 x1 : PV) : Option R:=cK 42 [.ref 0 [],.p x0] ⟨[],[(0,some ⟨(.own 1 24 true [(.own 3 32 true [])]),x1⟩)],0,0,1⟩
def lI (x0 x1 x2 : PV) : Option R:=bV 42 0 1 ((aW.mode 42).map (Tmpl.fitK · [some (.own 1 24 true [(.own 3 32 true [])])])) (todoOf Tryz.prog 42 2) [(0,.ref 0 []),(1,.p x0),(5,.p x1)] ⟨[],[(0,some ⟨(.own 1 24 true [(.own 3 32 true [])]),x2⟩)],0,0,1⟩
def zY (x0 : PV) : Option R:=cK 53 [.p x0] ⟨[],[],0,0,0⟩
def xG (x0 : PV) : Option R:=cK 54 [.p x0] ⟨[],[],0,0,0⟩
def aBv (x0 : PV) : Option R:=cK 55 [.p x0] ⟨[],[],0,0,0⟩
def jZ (x0 x1 x2 x3 : PV) : Option R:=cK 22 [.ptr 0 0,.p x0] ⟨[(0,some [.p x1,.ref 0 [],.ref 1 []])],[(0,some ⟨(.own 1 8 false []),x2⟩),(1,some ⟨(.own 1 8 false []),x3⟩)],0,0,3⟩
def oD (x0 : PV) : Option R:=cK 51 [.p x0] ⟨[],[],0,0,0⟩
def pI (x0 : PV) : Option R:=cK 52 [.p x0] ⟨[],[],0,0,0⟩
def iI (x0 x1 x2 : PV) : Option R:=bV 52 0 0 (aW.mode 52) (todoOf Tryz.prog 52 3) [(0,.p x0),(3,.ref 0 []),(4,.p x1)] ⟨[],[(0,some ⟨(.own 1 24 true [(.own 3 32 true [])]),x2⟩)],0,0,1⟩
def vF (x0 : PV) : Option R:=cK 61 [.p x0] ⟨[],[],0,0,0⟩
def bP (x0 : PV) : Option R:=cK 62 [.p x0] ⟨[],[],0,0,0⟩
def fG (x0 x1 : PV) : Option R:=cK 59 [.ref 0 [],.ptr 0 0] ⟨[(0,some [.p x0])],[(0,some ⟨(.own 3 32 true []),x1⟩)],0,0,2⟩
def eZ (x0 x1 x2 x3 : PV) : Option R:=bV 59 1 1 ((aW.mode 59).map (Tmpl.fitK · [some (.own 3 32 true [])])) (todoOf Tryz.prog 59 1) [(0,.ref 0 []),(1,.ptr 0 0),(5,.ref 0 []),(6,.p x0),(7,.p x1)] ⟨[(0,some [.p x2])],[(0,some ⟨(.own 3 32 true []),x3⟩)],0,0,2⟩
def dW (x0 : PV) : Option R:=cK 118 [.p x0] ⟨[],[],0,0,0⟩
def bN (x0 x1 x2 x3 x4 : PV) : Option R:=bV 118 0 0 (aW.mode 118) (todoOf Tryz.prog 118 3) [(0,.p x0),(3,.p x1),(9,.p x2),(10,.p x3),(11,.p x4)] ⟨[],[],0,0,0⟩
def bL (x0 x1 x2 x3 : PV) : Option R:=bV 118 0 0 (aW.mode 118) (todoOf Tryz.prog 118 11) [(6,.ref 0 []),(25,.p x0),(26,.p x1),(27,.p x2)] ⟨[],[(0,some ⟨(.own 3 32 true []),x3⟩)],0,0,1⟩
def nE (x0 x1 x2 x3 x4 x5 x6 x7 x8 x9 x10 x11 x12 x13 x14 x15 : PV) : Option R:=cK 92 [.agg [.p x0,.p x1,.p x2],.ptr 0 0,.ptr 1 0,.ptr 2 0] ⟨[(0,some [.p x3]),(1,some [.p x4,.p x5]),(2,some [.p x6,.p x7,.p x8,.p x9,.p x10,.p x11,.p x12,.p x13,.p x14,.p x15])],[],0,0,3⟩
def xH (x0 x1 x2 : PV) : Option R:=aS 93 [x0,x1,x2]
def vG (x0 x1 x2 : PV) : Option R:=cK 72 [.ref 0 [(x0,2)],.p x1] ⟨[],[(0,some ⟨(.own 3 40 true [.leaf,.leaf,(.own 2 16 true [])]),x2⟩)],0,0,1⟩
def lJ (x0 x1 x2 x3 : PV) : Option R:=bV 72 0 1 ((aW.mode 72).map (Tmpl.fitK · [some (.own 3 40 true [.leaf,.leaf,(.own 2 16 true [])])])) (todoOf Tryz.prog 72 2) [(0,.ref 0 [(x0,2)]),(1,.p x1),(5,.p x2)] ⟨[],[(0,some ⟨(.own 3 40 true [.leaf,.leaf,(.own 2 16 true [])]),x3⟩)],0,0,1⟩
def qN (x0 x1 x2 : PV) : Option R:=cK 73 [.ref 0 [(x0,2)],.p x1] ⟨[],[(0,some ⟨(.own 4 64 true [.leaf,.leaf,(.own 3 32 true []),(.own 3 32 true [])]),x2⟩)],0,0,1⟩
def jG (x0 x1 x2 x3 : PV) : Option R:=bV 73 0 1 ((aW.mode 73).map (Tmpl.fitK · [some (.own 4 64 true [.leaf,.leaf,(.own 3 32 true []),(.own 3 32 true [])])])) (todoOf Tryz.prog 73 2) [(0,.ref 0 [(x0,2)]),(1,.p x1),(5,.p x2)] ⟨[],[(0,some ⟨(.own 4 64 true [.leaf,.leaf,(.own 3 32 true []),(.own 3 32 true [])]),x3⟩)],0,0,1⟩
def mU (x0 x1 x2 : PV) : Option R:=cK 73 [.ref 0 [(x0,3)],.p x1] ⟨[],[(0,some ⟨(.own 4 64 true [.leaf,.leaf,(.own 3 32 true []),(.own 3 32 true [])]),x2⟩)],0,0,1⟩
def gU (x0 x1 x2 x3 : PV) : Option R:=bV 73 0 1 ((aW.mode 73).map (Tmpl.fitK · [some (.own 4 64 true [.leaf,.leaf,(.own 3 32 true []),(.own 3 32 true [])])])) (todoOf Tryz.prog 73 2) [(0,.ref 0 [(x0,3)]),(1,.p x1),(5,.p x2)] ⟨[],[(0,some ⟨(.own 4 64 true [.leaf,.leaf,(.own 3 32 true []),(.own 3 32 true [])]),x3⟩)],0,0,1⟩
def mW (x0 x1 x2 : PV) : Option R:=cK 73 [.ref 0 [(x0,0)],.p x1] ⟨[],[(0,some ⟨(.own 1 24 true [(.own 3 32 true [])]),x2⟩)],0,0,1⟩
def gV (x0 x1 x2 x3 : PV) : Option R:=bV 73 0 1 ((aW.mode 73).map (Tmpl.fitK · [some (.own 1 24 true [(.own 3 32 true [])])])) (todoOf Tryz.prog 73 2) [(0,.ref 0 [(x0,0)]),(1,.p x1),(5,.p x2)] ⟨[],[(0,some ⟨(.own 1 24 true [(.own 3 32 true [])]),x3⟩)],0,0,1⟩
def zZ (x0 : PV) : Option R:=cK 83 [.p x0] ⟨[],[],0,0,0⟩
def oE (x0 x1 x2 : PV) : Option R:=bV 83 0 0 (aW.mode 83) (todoOf Tryz.prog 83 3) [(0,.p x0),(3,.ref 0 []),(4,.p x1)] ⟨[],[(0,some ⟨(.own 2 16 true []),x2⟩)],0,0,1⟩
def aBw (x0 : PV) : Option R:=aS 109 [x0]
def mE (x0 : PV) : Option R:=cK 84 [.p x0] ⟨[],[],0,0,0⟩
def lK (x0 x1 x2 : PV) : Option R:=bV 84 0 0 (aW.mode 84) (todoOf Tryz.prog 84 3) [(0,.p x0),(3,.ref 0 []),(4,.p x1)] ⟨[],[(0,some ⟨(.own 3 32 true []),x2⟩)],0,0,1⟩
def qO (x0 : PV) : Option R:=cK 96 [.p x0] ⟨[],[],0,0,0⟩
def jH (x0 x1 x2 x3 : PV) : Option R:=bV 96 0 0 (aW.mode 96) (todoOf Tryz.prog 96 3) [(3,.ref 0 []),(7,.p x0),(8,.p x1),(9,.p x2)] ⟨[],[(0,some ⟨(.own 4 64 true [.leaf,.leaf,(.own 3 32 true []),(.own 3 32 true [])]),x3⟩)],0,0,1⟩
def vH (x0 : PV) : Option R:=cK 97 [.p x0] ⟨[],[],0,0,0⟩
def lL (x0 x1 x2 x3 : PV) : Option R:=bV 97 0 0 (aW.mode 97) (todoOf Tryz.prog 97 3) [(3,.ref 0 []),(7,.p x0),(8,.p x1),(9,.p x2)] ⟨[],[(0,some ⟨(.own 1 24 true [(.own 3 32 true [])]),x3⟩)],0,0,1⟩
def gG (x0 : PV) : Option R:=cK 98 [.p x0] ⟨[],[],0,0,0⟩
def eI (x0 : PV) : Option R:=cK 142 [.nils,.p x0] ⟨[],[],0,0,0⟩
theorem xI (x0 x1 : PV) : lR x0 x1=bd (PV.whole 2 x0) fun v0=>bd (PV.cell v0 0) fun v1=>bd (PV.cell v0 1) fun v2=>bd (PV.whole 10 x1) fun v3=>bd (PV.cell v3 0) fun v4=>bd (PV.cell v3 1) fun v5=>bd (PV.cell v3 2) fun v6=>bd (PV.cell v3 3) fun v7=>bd (PV.cell v3 4) fun v8=>bd (PV.cell v3 5) fun v9=>bd (PV.cell v3 6) fun v10=>bd (PV.cell v3 7) fun v11=>
 bd (PV.cell v3 8) fun v12=>bd (PV.cell v3 9) fun v13=>bd (uW (.agg [v1,v2]) (.int .i64 1048576)) fun r14=>bd (PV.bin .lss (hd r14) (.int .i64 0)) fun v15=>PV.ite v15 (some [.bool true]) (bd (aCW (.agg [v4,v5,v6,v7,v8,v9,v10,v11,v12,v13]) (hd r14)) fun r16=>bd (PV.bin .lss (hd r16) (.int .i64 0)) fun v17=>PV.ite v17 (some [.bool true]) (bd (fX (.agg [v1,v2])) fun r18=>
 PV.guardOwn (.own 1 16 false []) (gd r18 0) (PV.guardOwn (.own 3 40 true [.leaf,.leaf,(.own 2 16 true [])]) (gd r18 1) (bd (pG (.agg [v4,v5,v6,v7,v8,v9,v10,v11,v12,v13])) fun r19=>PV.guardFlat (gd r19 0) (PV.guardFlat (gd r19 1) (PV.guardFlat (gd r19 2) (PV.guardFlat (gd r19 3) (PV.guardFlat (gd r19 4) (PV.guardFlat (gd r19 5) (PV.guardFlat (gd r19 6) (PV.guardOwn (.own 4 64 true [.leaf,.leaf,(.own 3 32 true []),(.own 3 32 true [])]) (gd r19 7) (
 PV.guardOwn (.own 1 24 true [(.own 3 32 true [])]) (gd r19 8) (PV.guardOwn (.own 1 16 false []) (gd r19 9) (bd (rR (.agg [(gd r18 0),(gd r18 1)]) (.agg [(gd r19 7),(gd r19 8),(gd r19 0),(gd r19 9),(gd r19 1),(gd r19 2),(gd r19 3),(gd r19 4),(gd r19 5),(gd r19 6)])) fun r20=>PV.guardFlat (gd r20 0) (PV.guardFlat (gd r20 1) (PV.guardFlat (gd r20 2) (PV.guardFlat (gd r20 3) (
 PV.guardFlat (gd r20 4) (PV.guardFlat (gd r20 5) (PV.guardFlat (gd r20 6) (PV.guardOwn (.own 4 64 true [.leaf,.leaf,(.own 3 32 true []),(.own 3 32 true [])]) (gd r20 7) (PV.guardOwn (.own 1 24 true [(.own 3 32 true [])]) (gd r20 8) (PV.guardOwn (.own 1 16 false []) (gd r20 9) (bd (fX (.agg [v1,v2])) fun r21=>PV.guardOwn (.own 1 16 false []) (gd r21 0) (PV.guardOwn (.own 3 40 true [.leaf,.leaf,(.own 2 16 true [])]) (gd r21 1) (
 bd (pG (.agg [v4,v5,v6,v7,v8,v9,v10,v11,v12,v13])) fun r22=>PV.guardFlat (gd r22 0) (PV.guardFlat (gd r22 1) (PV.guardFlat (gd r22 2) (PV.guardFlat (gd r22 3) (PV.guardFlat (gd r22 4) (PV.guardFlat (gd r22 5) (PV.guardFlat (gd r22 6) (PV.guardOwn (.own 4 64 true [.leaf,.leaf,(.own 3 32 true []),(.own 3 32 true [])]) (gd r22 7) (PV.guardOwn (.own 1 24 true [(.own 3 32 true [])]) (gd r22 8) (
 PV.guardOwn (.own 1 16 false []) (gd r22 9) (bd (nY (.agg [(gd r21 0),(gd r21 1)]) (.agg [(gd r22 7),(gd r22 8),(gd r22 0),(gd r22 9),(gd r22 1),(gd r22 2),(gd r22 3),(gd r22 4),(gd r22 5),(gd r22 6)])) fun r23=>PV.guardFlat (gd r23 0) (PV.guardFlat (gd r23 1) (PV.guardFlat (gd r23 2) (PV.guardFlat (gd r23 3) (PV.guardFlat (gd r23 4) (PV.guardFlat (gd r23 5) (PV.guardFlat (gd r23 6) (
 PV.guardOwn (.own 4 64 true [.leaf,.leaf,(.own 3 32 true []),(.own 3 32 true [])]) (gd r23 7) (PV.guardOwn (.own 1 24 true [(.own 3 32 true [])]) (gd r23 8) (PV.guardOwn (.own 1 16 false []) (gd r23 9) (bd (pE (.agg [(gd r23 7),(gd r23 8),(gd r23 0),(gd r23 9),(gd r23 1),(gd r23 2),(gd r23 3),(gd r23 4),(gd r23 5),(gd r23 6)]) (.agg [(gd r20 7),(gd r20 8),(gd r20 0),(gd r20 9),(gd r20 1),(gd r20 2),(gd r20 3),(gd r20 4),(gd r20 5),(gd r20 6)])) fun r24=>
 PV.guardFlat (hd r24) (bd (PV.not (hd r24)) fun v25=>PV.ite v25 (some [.bool false]) (bd (fX (.agg [v1,v2])) fun r26=>PV.guardOwn (.own 1 16 false []) (gd r26 0) (PV.guardOwn (.own 3 40 true [.leaf,.leaf,(.own 2 16 true [])]) (gd r26 1) (bd (pT (.agg [(gd r21 0),(gd r21 1)]) (.agg [(gd r26 0),(gd r26 1)])) fun r27=>PV.guardFlat (hd r27) (bd (PV.not (hd r27)) fun v28=>
 PV.ite v28 (some [.bool false]) (bd (pG (.agg [v4,v5,v6,v7,v8,v9,v10,v11,v12,v13])) fun r29=>PV.guardFlat (gd r29 0) (PV.guardFlat (gd r29 1) (PV.guardFlat (gd r29 2) (PV.guardFlat (gd r29 3) (PV.guardFlat (gd r29 4) (PV.guardFlat (gd r29 5) (PV.guardFlat (gd r29 6) (PV.guardOwn (.own 4 64 true [.leaf,.leaf,(.own 3 32 true []),(.own 3 32 true [])]) (gd r29 7) (PV.guardOwn (.own 1 24 true [(.own 3 32 true [])]) (gd r29 8) (
 PV.guardOwn (.own 1 16 false []) (gd r29 9) (bd (pE (.agg [(gd r22 7),(gd r22 8),(gd r22 0),(gd r22 9),(gd r22 1),(gd r22 2),(gd r22 3),(gd r22 4),(gd r22 5),(gd r22 6)]) (.agg [(gd r29 7),(gd r29 8),(gd r29 0),(gd r29 9),(gd r29 1),(gd r29 2),(gd r29 3),(gd r29 4),(gd r29 5),(gd r29 6)])) fun r30=>PV.guardFlat (hd r30) (bd (PV.not (hd r30)) fun v31=>PV.ite v31 (some [.bool false])
 (bd (qK (.int .i64 1) (gd r21 0) (gd r21 1)) fun r32=>bd (uB (gd r22 0) (gd r22 1) (gd r22 2) (gd r22 3) (gd r22 4) (gd r22 5) (gd r22 6) (gd r32 0) (gd r22 7) (gd r22 8) (gd r22 9)) fun r33=>bd (PV.bin .lss (gd r33 0) (.int .i64 0)) fun v34=>PV.ite v34 (some [.bool false]) (bd (pE (.agg [(gd r23 7),(gd r23 8),(gd r23 0),(gd r23 9),(gd r23 1),(gd r23 2),(gd r23 3),(gd r23 4),(gd r23 5),(gd r23 6)]) (.agg [(gd r20 7),(gd r20 8),(gd r20 0),(gd r20 9),(gd r20 1),(gd r20 2),(gd r20 3),(gd r20 4),(gd r20 5),(gd r20 6)])) fun r35=>
 PV.guardFlat (hd r35) (bd (PV.not (hd r35)) fun v36=>PV.ite v36 (some [.bool false]) (bd (uB (gd r23 0) (gd r23 1) (gd r23 2) (gd r23 3) (gd r23 4) (gd r23 5) (gd r23 6) (.int .i64 1) (gd r23 7) (gd r23 8) (gd r23 9)) fun r37=>bd (tV (.agg [(gd r37 1),(gd r37 2),(gd r23 0),(gd r37 3),(gd r23 1),(gd r23 2),(gd r23 3),(gd r23 4),(gd r23 5),(gd r23 6)]) (.int .i64 1)) fun r38=>
 PV.guardFlat (hd r38) (bd (PV.bin .lss (hd r38) (.int .i64 0)) fun v39=>PV.ite v39 (some [.bool false]) (bd (PV.bin .neq (hd r38) (gd r37 0)) fun v40=>PV.ite v40 (some [.bool false]) (bd (fX (.agg [v1,v2])) fun r41=>PV.guardOwn (.own 1 16 false []) (gd r41 0) (PV.guardOwn (.own 3 40 true [.leaf,.leaf,(.own 2 16 true [])]) (gd r41 1) (bd (pG (.agg [v4,v5,v6,v7,v8,v9,v10,v11,v12,v13])) fun r42=>
 PV.guardFlat (gd r42 0) (PV.guardFlat (gd r42 1) (PV.guardFlat (gd r42 2) (PV.guardFlat (gd r42 3) (PV.guardFlat (gd r42 4) (PV.guardFlat (gd r42 5) (PV.guardFlat (gd r42 6) (PV.guardOwn (.own 4 64 true [.leaf,.leaf,(.own 3 32 true []),(.own 3 32 true [])]) (gd r42 7) (PV.guardOwn (.own 1 24 true [(.own 3 32 true [])]) (gd r42 8) (PV.guardOwn (.own 1 16 false []) (gd r42 9) (bd (nY (.agg [(gd r41 0),(gd r41 1)]) (.agg [(gd r42 7),(gd r42 8),(gd r42 0),(gd r42 9),(gd r42 1),(gd r42 2),(gd r42 3),(gd r42 4),(gd r42 5),(gd r42 6)])) fun r43=>
 PV.guardFlat (gd r43 0) (PV.guardFlat (gd r43 1) (PV.guardFlat (gd r43 2) (PV.guardFlat (gd r43 3) (PV.guardFlat (gd r43 4) (PV.guardFlat (gd r43 5) (PV.guardFlat (gd r43 6) (PV.guardOwn (.own 4 64 true [.leaf,.leaf,(.own 3 32 true []),(.own 3 32 true [])]) (gd r43 7) (PV.guardOwn (.own 1 24 true [(.own 3 32 true [])]) (gd r43 8) (PV.guardOwn (.own 1 16 false []) (gd r43 9) (bd (pE (.agg [(gd r43 7),(gd r43 8),(gd r43 0),(gd r43 9),(gd r43 1),(gd r43 2),(gd r43 3),(gd r43 4),(gd r43 5),(gd r43 6)]) (.agg [(gd r20 7),(gd r20 8),(gd r20 0),(gd r20 9),(gd r20 1),(gd r20 2),(gd r20 3),(gd r20 4),(gd r20 5),(gd r20 6)])) fun r44=>
 PV.guardFlat (hd r44) (bd (PV.not (hd r44)) fun v45=>PV.ite v45 (some [.bool false]) (bd (tV (.agg [(gd r37 1),(gd r37 2),(gd r23 0),(gd r37 3),(gd r23 1),(gd r23 2),(gd r23 3),(gd r23 4),(gd r23 5),(gd r23 6)]) (.int .i64 1)) fun r46=>PV.guardFlat (hd r46) (bd (PV.bin .lss (hd r46) (.int .i64 0)) fun v47=>PV.ite v47 (some [.bool false]) (bd (PV.bin .neq (hd r46) (gd r37 0)) fun v48=>
 PV.ite v48 (some [.bool false]) (some [.bool true]))))))))))))))))))))))))))))))))))))))))))))))))))))))))))))))))))))))))))))))))))))))))))))))))):=aP _ _ _ (by kernel_rfl)
theorem aCX (x0 x1 : PV) : uW x0 x1=bd (PV.whole 2 x0) fun v0=>bd (PV.cell v0 0) fun v1=>bd (PV.cell v0 1) fun v2=>bd (nU v1 x1) fun r3=>bd (PV.bin .lss (hd r3) (.int .i64 0)) fun v4=>PV.ite v4 (some [(.int .i64 (-1))]) (bd (wY v2 (hd r3)) fun r5=>bd (PV.bin .lss (hd r5) (.int .i64 0)) fun v6=>PV.ite v6 (some [(.int .i64 (-1))]) (some [(hd r5)])):=aP _ _ _ (by kernel_rfl)
theorem aHX (x0 x1 : PV) : aCW x0 x1=bd (PV.whole 10 x0) fun v0=>bd (PV.cell v0 0) fun v1=>bd (PV.cell v0 1) fun v2=>bd (PV.cell v0 2) fun v3=>bd (PV.cell v0 3) fun v4=>bd (PV.cell v0 4) fun v5=>bd (PV.cell v0 5) fun v6=>bd (PV.cell v0 6) fun v7=>bd (PV.cell v0 7) fun v8=>bd (PV.cell v0 8) fun v9=>bd (PV.cell v0 9) fun v10=>bd (uX v1 x1) fun r11=>
 bd (PV.bin .lss (hd r11) (.int .i64 0)) fun v12=>PV.ite v12 (some [(.int .i64 (-1))]) (bd (zM v2 (hd r11)) fun r13=>bd (PV.bin .lss (hd r13) (.int .i64 0)) fun v14=>PV.ite v14 (some [(.int .i64 (-1))]) (bd (nU v4 (hd r13)) fun r15=>bd (PV.bin .lss (hd r15) (.int .i64 0)) fun v16=>PV.ite v16 (some [(.int .i64 (-1))]) (bd (rO (.agg [v7,v8,v9]) (hd r15)) fun r17=>
 bd (PV.bin .lss (hd r17) (.int .i64 0)) fun v18=>PV.ite v18 (some [(.int .i64 (-1))]) (some [(hd r17)])))):=aP _ _ _ (by kernel_rfl)
theorem aHY (x0 x1 : PV) : pE x0 x1=bd (PV.whole 10 x0) fun v0=>bd (PV.cell v0 0) fun v1=>bd (PV.cell v0 1) fun v2=>bd (PV.cell v0 2) fun v3=>bd (PV.cell v0 3) fun v4=>bd (PV.cell v0 4) fun v5=>bd (PV.cell v0 5) fun v6=>bd (PV.cell v0 6) fun v7=>bd (PV.cell v0 7) fun v8=>bd (PV.cell v0 8) fun v9=>bd (PV.cell v0 9) fun v10=>bd (PV.whole 10 x1) fun v11=>bd (PV.cell v11 0) fun v12=>
 bd (PV.cell v11 1) fun v13=>bd (PV.cell v11 2) fun v14=>bd (PV.cell v11 3) fun v15=>bd (PV.cell v11 4) fun v16=>bd (PV.cell v11 5) fun v17=>bd (PV.cell v11 6) fun v18=>bd (PV.cell v11 7) fun v19=>bd (PV.cell v11 8) fun v20=>bd (PV.cell v11 9) fun v21=>bd (uY v1 v12) fun r22=>bd (PV.not (hd r22)) fun v23=>PV.ite v23 (some [.bool false]) (bd (zN v2 v13) fun r24=>
 bd (PV.not (hd r24)) fun v25=>PV.ite v25 (some [.bool false]) (bd (PV.bin .neq v3 v14) fun v26=>PV.ite v26 (some [.bool false]) (bd (nW v4 v15) fun r27=>bd (PV.not (hd r27)) fun v28=>PV.ite v28 (some [.bool false]) (bd (PV.bin .neq v5 v16) fun v29=>PV.ite v29 (some [.bool false]) (bd (PV.bin .neq v6 v17) fun v30=>PV.ite v30 (some [.bool false]) (bd (rP (.agg [v7,v8,v9]) (.agg [v18,v19,v20])) fun r31=>
 bd (PV.not (hd r31)) fun v32=>PV.ite v32 (some [.bool false]) (bd (PV.bin .neq v10 v21) fun v33=>PV.ite v33 (some [.bool false]) (some [.bool true])))))))):=aP _ _ _ (by kernel_rfl)
theorem aCY (x0 x1 : PV) : pT x0 x1=bd (PV.whole 2 x0) fun v0=>bd (PV.cell v0 0) fun v1=>bd (PV.cell v0 1) fun v2=>bd (PV.whole 2 x1) fun v3=>bd (PV.cell v3 0) fun v4=>bd (PV.cell v3 1) fun v5=>bd (nW v1 v4) fun r6=>bd (PV.not (hd r6)) fun v7=>PV.ite v7 (some [.bool false]) (bd (wZ v2 v5) fun r8=>bd (PV.not (hd r8)) fun v9=>PV.ite v9
 (some [.bool false]) (some [.bool true])):=aP _ _ _ (by kernel_rfl)
theorem aFs (x0 x1 : PV) : tV x0 x1=bd (PV.whole 10 x0) fun v0=>bd (PV.cell v0 0) fun v1=>bd (PV.cell v0 1) fun v2=>bd (PV.cell v0 2) fun v3=>bd (PV.cell v0 3) fun v4=>bd (PV.cell v0 4) fun v5=>bd (PV.cell v0 5) fun v6=>bd (PV.cell v0 6) fun v7=>bd (PV.cell v0 7) fun v8=>bd (PV.cell v0 8) fun v9=>bd (PV.cell v0 9) fun v10=>bd (qJ v1 x1) fun r11=>
 bd (PV.bin .lss (hd r11) (.int .i64 0)) fun v12=>PV.ite v12 (some [(.int .i64 (-1))]) (bd (uZ v2 (hd r11)) fun r13=>bd (PV.bin .lss (hd r13) (.int .i64 0)) fun v14=>PV.ite v14 (some [(.int .i64 (-1))]) (bd (pF v4 (hd r13)) fun r15=>bd (PV.bin .lss (hd r15) (.int .i64 0)) fun v16=>PV.ite v16 (some [(.int .i64 (-1))]) (some [(hd r15)]))):=aP _ _ _ (by kernel_rfl)
theorem aCf (x0 x1 : PV) : nU x0 x1=bd (PV.len x0) fun v0=>bd (PV.bin .sub x1 v0) fun v1=>bd (PV.bin .lss v1 (.int .i64 0)) fun v2=>PV.ite v2 (some [(.int .i64 (-1))]) (gP x0 v1 (.int .i64 0)):=aP _ _ _ (by kernel_rfl)
theorem pV (x0 x1 x2 : PV) : gP x0 x1 x2=bd (PV.len x0) fun v0=>bd (PV.bin .lss x2 v0) fun v1=>PV.ite v1 (bd (PV.at_ 1 false x0 x2) fun v2=>bd (PV.slen v2) fun v3=>bd (PV.bin .sub x1 v3) fun v4=>bd (PV.bin .lss v4 (.int .i64 0)) fun v5=>PV.ite v5 (some [(.int .i64 (-1))]) (bd (PV.bin .add x2 (.int .i64 1)) fun v6=>gP x0 v4 v6)) (some [x1]):=aT _ _ _ _ _ _ _ _ (by kernel_rfl)
theorem aD6 (x0 x1 : PV) : wY x0 x1=bd (PV.len x0) fun v0=>bd (PV.bin .sub x1 v0) fun v1=>bd (PV.bin .lss v1 (.int .i64 0)) fun v2=>PV.ite v2 (some [(.int .i64 (-1))]) (jN x0 v1 (.int .i64 0)):=aP _ _ _ (by kernel_rfl)
theorem sV (x0 x1 x2 : PV) : jN x0 x1 x2=bd (PV.len x0) fun v0=>bd (PV.bin .lss x2 v0) fun v1=>PV.ite v1 (bd (PV.at_ 3 true x0 x2) fun v2=>bd (zO v2 x1) fun r3=>bd (PV.bin .lss (hd r3) (.int .i64 0)) fun v4=>PV.ite v4 (some [(.int .i64 (-1))]) (bd (PV.bin .add x2 (.int .i64 1)) fun v5=>jN x0 (hd r3) v5)) (some [x1]):=aT _ _ _ _ _ _ _ _ (by kernel_rfl)
theorem aCZ (x0 x1 : PV) : uX x0 x1=bd (PV.len x0) fun v0=>bd (PV.bin .sub x1 v0) fun v1=>bd (PV.bin .lss v1 (.int .i64 0)) fun v2=>PV.ite v2 (some [(.int .i64 (-1))]) (iO x0 v1 (.int .i64 0)):=aP _ _ _ (by kernel_rfl)
theorem qS (x0 x1 x2 : PV) : iO x0 x1 x2=bd (PV.len x0) fun v0=>bd (PV.bin .lss x2 v0) fun v1=>PV.ite v1 (bd (PV.at_ 4 true x0 x2) fun v2=>bd (xA v2 x1) fun r3=>bd (PV.bin .lss (hd r3) (.int .i64 0)) fun v4=>PV.ite v4 (some [(.int .i64 (-1))]) (bd (PV.bin .add x2 (.int .i64 1)) fun v5=>iO x0 (hd r3) v5)) (some [x1]):=aT _ _ _ _ _ _ _ _ (by kernel_rfl)
theorem aFt (x0 x1 : PV) : zM x0 x1=bd (PV.len x0) fun v0=>bd (PV.bin .sub x1 v0) fun v1=>bd (PV.bin .lss v1 (.int .i64 0)) fun v2=>PV.ite v2 (some [(.int .i64 (-1))]) (kL x0 v1 (.int .i64 0)):=aP _ _ _ (by kernel_rfl)
theorem uC (x0 x1 x2 : PV) : kL x0 x1 x2=bd (PV.len x0) fun v0=>bd (PV.bin .lss x2 v0) fun v1=>PV.ite v1 (bd (PV.at_ 1 true x0 x2) fun v2=>bd (aBq v2 x1) fun r3=>bd (PV.bin .lss (hd r3) (.int .i64 0)) fun v4=>PV.ite v4 (some [(.int .i64 (-1))]) (bd (PV.bin .add x2 (.int .i64 1)) fun v5=>kL x0 (hd r3) v5)) (some [x1]):=aT _ _ _ _ _ _ _ _ (by kernel_rfl)
theorem aD7 (x0 x1 : PV) : rO x0 x1=bd (PV.whole 3 x0) fun v0=>bd (PV.cell v0 0) fun v1=>bd (PV.cell v0 1) fun v2=>bd (PV.cell v0 2) fun v3=>bd (PV.slen v3) fun v4=>bd (PV.bin .sub x1 v4) fun v5=>bd (PV.bin .lss v5 (.int .i64 0)) fun v6=>PV.ite v6 (some [(.int .i64 (-1))]) (some [v5]):=aP _ _ _ (by kernel_rfl)
theorem aC0 (x0 x1 : PV) : uY x0 x1=bd (PV.len x0) fun v0=>bd (PV.len x1) fun v1=>bd (PV.bin .neq v0 v1) fun v2=>PV.ite v2 (some [.bool false]) (kZ x0 x1 (.int .i64 0)):=aP _ _ _ (by kernel_rfl)
theorem qT (x0 x1 x2 : PV) : kZ x0 x1 x2=bd (PV.len x0) fun v0=>bd (PV.bin .lss x2 v0) fun v1=>PV.ite v1 (bd (PV.at_ 4 true x0 x2) fun v2=>bd (PV.at_ 4 true x1 x2) fun v3=>bd (xB v2 v3) fun r4=>bd (PV.not (hd r4)) fun v5=>PV.ite v5 (some [.bool false]) (bd (PV.bin .add x2 (.int .i64 1)) fun v6=>kZ x0 x1 v6)) (some [.bool true]):=aT _ _ _ _ _ _ _ _ (by kernel_rfl)
theorem aFu (x0 x1 : PV) : zN x0 x1=bd (PV.len x0) fun v0=>bd (PV.len x1) fun v1=>bd (PV.bin .neq v0 v1) fun v2=>PV.ite v2 (some [.bool false]) (nV x0 x1 (.int .i64 0)):=aP _ _ _ (by kernel_rfl)
theorem uD (x0 x1 x2 : PV) : nV x0 x1 x2=bd (PV.len x0) fun v0=>bd (PV.bin .lss x2 v0) fun v1=>PV.ite v1 (bd (PV.at_ 1 true x0 x2) fun v2=>bd (PV.at_ 1 true x1 x2) fun v3=>bd (aBr v2 v3) fun r4=>bd (PV.not (hd r4)) fun v5=>PV.ite v5 (some [.bool false]) (bd (PV.bin .add x2 (.int .i64 1)) fun v6=>nV x0 x1 v6)) (some [.bool true]):=aT _ _ _ _ _ _ _ _ (by kernel_rfl)
theorem aCg (x0 x1 : PV) : nW x0 x1=bd (PV.len x0) fun v0=>bd (PV.len x1) fun v1=>bd (PV.bin .neq v0 v1) fun v2=>PV.ite v2 (some [.bool false]) (kC x0 x1 (.int .i64 0)):=aP _ _ _ (by kernel_rfl)
theorem pW (x0 x1 x2 : PV) : kC x0 x1 x2=bd (PV.len x0) fun v0=>bd (PV.bin .lss x2 v0) fun v1=>PV.ite v1 (bd (PV.at_ 1 false x0 x2) fun v2=>bd (PV.at_ 1 false x1 x2) fun v3=>bd (PV.bin .neq v2 v3) fun v4=>PV.ite v4 (some [.bool false]) (bd (PV.bin .add x2 (.int .i64 1)) fun v5=>kC x0 x1 v5)) (some [.bool true]):=aT _ _ _ _ _ _ _ _ (by kernel_rfl)
theorem aD8 (x0 x1 : PV) : rP x0 x1=bd (PV.whole 3 x0) fun v0=>bd (PV.cell v0 0) fun v1=>bd (PV.cell v0 1) fun v2=>bd (PV.cell v0 2) fun v3=>bd (PV.whole 3 x1) fun v4=>bd (PV.cell v4 0) fun v5=>bd (PV.cell v4 1) fun v6=>bd (PV.cell v4 2) fun v7=>bd (PV.bin .neq v1 v5) fun v8=>PV.ite v8 (some [.bool false]) (bd (PV.bin .neq v2 v6) fun v9=>PV.ite v9 (some [.bool false])
 (bd (PV.bin .neq v3 v7) fun v10=>PV.ite v10 (some [.bool false]) (some [.bool true]))):=aP _ _ _ (by kernel_rfl)
theorem aD9 (x0 x1 : PV) : wZ x0 x1=bd (PV.len x0) fun v0=>bd (PV.len x1) fun v1=>bd (PV.bin .neq v0 v1) fun v2=>PV.ite v2 (some [.bool false]) (mH x0 x1 (.int .i64 0)):=aP _ _ _ (by kernel_rfl)
theorem sW (x0 x1 x2 : PV) : mH x0 x1 x2=bd (PV.len x0) fun v0=>bd (PV.bin .lss x2 v0) fun v1=>PV.ite v1 (bd (PV.at_ 3 true x0 x2) fun v2=>bd (PV.at_ 3 true x1 x2) fun v3=>bd (zP v2 v3) fun r4=>bd (PV.not (hd r4)) fun v5=>PV.ite v5 (some [.bool false]) (bd (PV.bin .add x2 (.int .i64 1)) fun v6=>mH x0 x1 v6)) (some [.bool true]):=aT _ _ _ _ _ _ _ _ (by kernel_rfl)
theorem aBx (x0 x1 : PV) : qJ x0 x1=jC x0 x1 (.int .i64 0):=aP _ _ _ (by kernel_rfl)
theorem oR (x0 x1 x2 : PV) : jC x0 x1 x2=bd (PV.len x0) fun v0=>bd (PV.bin .lss x2 v0) fun v1=>PV.ite v1 (bd (PV.at_ 4 true x0 x2) fun v2=>bd (PV.cell v2 0) fun v3=>bd (PV.bin .neq v3 x1) fun v4=>PV.ite v4 (some [(.int .i64 (-1))]) (bd (PV.bin .add x1 (.int .i64 1)) fun v5=>bd (PV.at_ 4 true x0 x2) fun v6=>bd (PV.cell v6 1) fun v7=>bd (PV.bin .neq v7 v5) fun v8=>
 PV.ite v8 (some [(.int .i64 (-1))]) (bd (PV.bin .add v5 (.int .i64 1)) fun v9=>bd (PV.at_ 4 true x0 x2) fun v10=>bd (PV.cell v10 2) fun v11=>bd (jO v11 v9) fun r12=>bd (PV.bin .lss (hd r12) (.int .i64 0)) fun v13=>PV.ite v13 (some [(.int .i64 (-1))]) (bd (PV.at_ 4 true x0 x2) fun v14=>bd (PV.cell v14 3) fun v15=>bd (jO v15 (hd r12)) fun r16=>bd (PV.bin .lss (hd r16) (.int .i64 0)) fun v17=>
 PV.ite v17 (some [(.int .i64 (-1))]) (bd (PV.bin .add x2 (.int .i64 1)) fun v18=>jC x0 (hd r16) v18))))) (some [x1]):=aT _ _ _ _ _ _ _ _ (by kernel_rfl)
theorem aC1 (x0 x1 : PV) : uZ x0 x1=lA x0 x1 (.int .i64 0):=aP _ _ _ (by kernel_rfl)
theorem qU (x0 x1 x2 : PV) : lA x0 x1 x2=bd (PV.len x0) fun v0=>bd (PV.bin .lss x2 v0) fun v1=>PV.ite v1 (bd (PV.at_ 1 true x0 x2) fun v2=>bd (PV.cell v2 0) fun v3=>bd (jO v3 x1) fun r4=>bd (PV.bin .lss (hd r4) (.int .i64 0)) fun v5=>PV.ite v5 (some [(.int .i64 (-1))]) (bd (PV.bin .add x2 (.int .i64 1)) fun v6=>lA x0 (hd r4) v6))
 (some [x1]):=aT _ _ _ _ _ _ _ _ (by kernel_rfl)
theorem aAT (x0 x1 : PV) : pF x0 x1=iF x0 x1 (.int .i64 0):=aP _ _ _ (by kernel_rfl)
theorem oF (x0 x1 x2 : PV) : iF x0 x1 x2=bd (PV.len x0) fun v0=>bd (PV.bin .lss x2 v0) fun v1=>PV.ite v1 (bd (PV.at_ 1 false x0 x2) fun v2=>bd (fW x1) fun r3=>bd (PV.bin .neq v2 (hd r3)) fun v4=>PV.ite v4 (some [(.int .i64 (-1))]) (bd (PV.bin .add x1 (.int .i64 1)) fun v5=>bd (PV.bin .add x2 (.int .i64 1)) fun v6=>iF x0 v5 v6))
 (some [x1]):=aT _ _ _ _ _ _ _ _ (by kernel_rfl)
theorem aFv (x0 x1 : PV) : zO x0 x1=bd (PV.whole 3 x0) fun v0=>bd (PV.cell v0 0) fun v1=>bd (PV.cell v0 1) fun v2=>bd (PV.cell v0 2) fun v3=>bd (zQ v3 x1) fun r4=>bd (PV.bin .lss (hd r4) (.int .i64 0)) fun v5=>PV.ite v5 (some [(.int .i64 (-1))]) (some [(hd r4)]):=aP _ _ _ (by kernel_rfl)
theorem aEa (x0 x1 : PV) : xA x0 x1=bd (PV.whole 4 x0) fun v0=>bd (PV.cell v0 0) fun v1=>bd (PV.cell v0 1) fun v2=>bd (PV.cell v0 2) fun v3=>bd (PV.cell v0 3) fun v4=>bd (lZ v3 x1) fun r5=>bd (PV.bin .lss (hd r5) (.int .i64 0)) fun v6=>PV.ite v6 (some [(.int .i64 (-1))]) (bd (lZ v4 (hd r5)) fun r7=>bd (PV.bin .lss (hd r7) (.int .i64 0)) fun v8=>
 PV.ite v8 (some [(.int .i64 (-1))]) (some [(hd r7)])):=aP _ _ _ (by kernel_rfl)
theorem aGu (x0 x1 : PV) : aBq x0 x1=bd (PV.whole 1 x0) fun v0=>bd (PV.cell v0 0) fun v1=>bd (lZ v1 x1) fun r2=>bd (PV.bin .lss (hd r2) (.int .i64 0)) fun v3=>PV.ite v3 (some [(.int .i64 (-1))]) (some [(hd r2)]):=aP _ _ _ (by kernel_rfl)
theorem aEb (x0 x1 : PV) : xB x0 x1=bd (PV.whole 4 x0) fun v0=>bd (PV.cell v0 0) fun v1=>bd (PV.cell v0 1) fun v2=>bd (PV.cell v0 2) fun v3=>bd (PV.cell v0 3) fun v4=>bd (PV.whole 4 x1) fun v5=>bd (PV.cell v5 0) fun v6=>bd (PV.cell v5 1) fun v7=>bd (PV.cell v5 2) fun v8=>bd (PV.cell v5 3) fun v9=>bd (PV.bin .neq v1 v6) fun v10=>PV.ite v10 (some [.bool false])
 (bd (PV.bin .neq v2 v7) fun v11=>PV.ite v11 (some [.bool false]) (bd (mA v3 v8) fun r12=>bd (PV.not (hd r12)) fun v13=>PV.ite v13 (some [.bool false]) (bd (mA v4 v9) fun r14=>bd (PV.not (hd r14)) fun v15=>PV.ite v15 (some [.bool false]) (some [.bool true])))):=aP _ _ _ (by kernel_rfl)
theorem aGv (x0 x1 : PV) : aBr x0 x1=bd (PV.whole 1 x0) fun v0=>bd (PV.cell v0 0) fun v1=>bd (PV.whole 1 x1) fun v2=>bd (PV.cell v2 0) fun v3=>bd (mA v1 v3) fun r4=>bd (PV.not (hd r4)) fun v5=>PV.ite v5 (some [.bool false]) (some [.bool true]):=aP _ _ _ (by kernel_rfl)
theorem aFw (x0 x1 : PV) : zP x0 x1=bd (PV.whole 3 x0) fun v0=>bd (PV.cell v0 0) fun v1=>bd (PV.cell v0 1) fun v2=>bd (PV.cell v0 2) fun v3=>bd (PV.whole 3 x1) fun v4=>bd (PV.cell v4 0) fun v5=>bd (PV.cell v4 1) fun v6=>bd (PV.cell v4 2) fun v7=>bd (PV.bin .neq v1 v5) fun v8=>PV.ite v8 (some [.bool false]) (bd (PV.bin .neq v2 v6) fun v9=>PV.ite v9 (some [.bool false])
 (bd (zR v3 v7) fun r10=>bd (PV.not (hd r10)) fun v11=>PV.ite v11 (some [.bool false]) (some [.bool true]))):=aP _ _ _ (by kernel_rfl)
theorem aBy (x0 x1 : PV) : jO x0 x1=jD x0 x1 (.int .i64 0):=aP _ _ _ (by kernel_rfl)
theorem oS (x0 x1 x2 : PV) : jD x0 x1 x2=bd (PV.len x0) fun v0=>bd (PV.bin .lss x2 v0) fun v1=>PV.ite v1 (bd (PV.at_ 3 true x0 x2) fun v2=>bd (PV.cell v2 0) fun v3=>bd (PV.bin .neq v3 x1) fun v4=>PV.ite v4 (some [(.int .i64 (-1))]) (bd (PV.bin .add x1 (.int .i64 1)) fun v5=>bd (PV.at_ 3 true x0 x2) fun v6=>bd (PV.cell v6 1) fun v7=>bd (PV.bin .neq v7 v5) fun v8=>
 PV.ite v8 (some [(.int .i64 (-1))]) (bd (PV.bin .add v5 (.int .i64 1)) fun v9=>bd (PV.at_ 3 true x0 x2) fun v10=>bd (PV.cell v10 2) fun v11=>bd (fW v9) fun r12=>bd (PV.bin .neq v11 (hd r12)) fun v13=>PV.ite v13 (some [(.int .i64 (-1))]) (bd (PV.bin .add v9 (.int .i64 1)) fun v14=>bd (PV.bin .add x2 (.int .i64 1)) fun v15=>jD x0 v14 v15)))) (some [x1]):=aT _ _ _ _ _ _ _ _ (by kernel_rfl)
theorem aC2 (x0 : PV) : fW x0=bd (PV.bin .leq x0 (.int .i64 0)) fun v0=>PV.ite v0 (some [(.str (bs [109,48]))]) (lB x0 (.str (bs []))):=aP _ _ _ (by kernel_rfl)
theorem qV (x0 x1 : PV) : lB x0 x1=bd (PV.bin .gtr x0 (.int .i64 0)) fun v0=>PV.ite v0 (bd (PV.bin .rem x0 (.int .i64 10)) fun v1=>bd (PV.bin .add (.int .i64 48) v1) fun v2=>bd (PV.conv .u8 v2) fun v3=>bd (PV.cat 1 1 false (.lst []) (.lst [v3])) fun v4=>bd (PV.toStr v4) fun v5=>bd (PV.bin .add v5 x1) fun v6=>bd (PV.bin .quo x0 (.int .i64 10)) fun v7=>
 lB v7 v6) (bd (PV.bin .add (.str (bs [109])) x1) fun v8=>some [v8]):=aT _ _ _ _ _ _ _ _ (by kernel_rfl)
theorem aFx (x0 x1 : PV) : zQ x0 x1=bd (PV.len x0) fun v0=>bd (PV.bin .sub x1 v0) fun v1=>bd (PV.bin .lss v1 (.int .i64 0)) fun v2=>PV.ite v2 (some [(.int .i64 (-1))]) (some [v1]):=aP _ _ _ (by kernel_rfl)
theorem aC3 (x0 x1 : PV) : lZ x0 x1=bd (PV.len x0) fun v0=>bd (PV.bin .sub x1 v0) fun v1=>bd (PV.bin .lss v1 (.int .i64 0)) fun v2=>PV.ite v2 (some [(.int .i64 (-1))]) (iP x0 v1 (.int .i64 0)):=aP _ _ _ (by kernel_rfl)
theorem qW (x0 x1 x2 : PV) : iP x0 x1 x2=bd (PV.len x0) fun v0=>bd (PV.bin .lss x2 v0) fun v1=>PV.ite v1 (bd (PV.at_ 3 true x0 x2) fun v2=>bd (rO v2 x1) fun r3=>bd (PV.bin .lss (hd r3) (.int .i64 0)) fun v4=>PV.ite v4 (some [(.int .i64 (-1))]) (bd (PV.bin .add x2 (.int .i64 1)) fun v5=>iP x0 (hd r3) v5)) (some [x1]):=aT _ _ _ _ _ _ _ _ (by kernel_rfl)
theorem aC4 (x0 x1 : PV) : mA x0 x1=bd (PV.len x0) fun v0=>bd (PV.len x1) fun v1=>bd (PV.bin .neq v0 v1) fun v2=>PV.ite v2 (some [.bool false]) (lC x0 x1 (.int .i64 0)):=aP _ _ _ (by kernel_rfl)
theorem qX (x0 x1 x2 : PV) : lC x0 x1 x2=bd (PV.len x0) fun v0=>bd (PV.bin .lss x2 v0) fun v1=>PV.ite v1 (bd (PV.at_ 3 true x0 x2) fun v2=>bd (PV.at_ 3 true x1 x2) fun v3=>bd (rP v2 v3) fun r4=>bd (PV.not (hd r4)) fun v5=>PV.ite v5 (some [.bool false]) (bd (PV.bin .add x2 (.int .i64 1)) fun v6=>lC x0 x1 v6)) (some [.bool true]):=aT _ _ _ _ _ _ _ _ (by kernel_rfl)
theorem aFy (x0 x1 : PV) : zR x0 x1=bd (PV.len x0) fun v0=>bd (PV.len x1) fun v1=>bd (PV.bin .neq v0 v1) fun v2=>PV.ite v2 (some [.bool false]) (nX x0 x1 (.int .i64 0)):=aP _ _ _ (by kernel_rfl)
theorem uE (x0 x1 x2 : PV) : nX x0 x1 x2=bd (PV.len x0) fun v0=>bd (PV.bin .lss x2 v0) fun v1=>PV.ite v1 (bd (PV.at_ 2 true x0 x2) fun v2=>bd (PV.at_ 2 true x1 x2) fun v3=>bd (aBs v2 v3) fun r4=>bd (PV.not (hd r4)) fun v5=>PV.ite v5 (some [.bool false]) (bd (PV.bin .add x2 (.int .i64 1)) fun v6=>nX x0 x1 v6)) (some [.bool true]):=aT _ _ _ _ _ _ _ _ (by kernel_rfl)
theorem aGw (x0 x1 : PV) : aBs x0 x1=bd (PV.whole 2 x0) fun v0=>bd (PV.cell v0 0) fun v1=>bd (PV.cell v0 1) fun v2=>bd (PV.whole 2 x1) fun v3=>bd (PV.cell v3 0) fun v4=>bd (PV.cell v3 1) fun v5=>bd (PV.bin .neq v1 v4) fun v6=>PV.ite v6 (some [.bool false]) (bd (PV.bin .neq v2 v5) fun v7=>PV.ite v7 (some [.bool false]) (some [.bool true])):=aP _ _ _ (by kernel_rfl)
theorem aC5 (x0 : PV) : fX x0=bd (PV.whole 2 x0) fun v0=>bd (PV.cell v0 0) fun v1=>bd (PV.cell v0 1) fun v2=>bd (oB v1) fun r3=>PV.guardOwn (.own 1 16 false []) (gd r3 0) (bd (xF v2) fun r4=>PV.guardOwn (.own 3 40 true [.leaf,.leaf,(.own 2 16 true [])]) (gd r4 0) (some [(gd r3 0),(gd r4 0)])):=bQ _ _ _ _ (by kernel_rfl)
theorem aHZ (x0 : PV) : pG x0=bd (PV.whole 10 x0) fun v0=>bd (PV.cell v0 0) fun v1=>bd (PV.cell v0 1) fun v2=>bd (PV.cell v0 2) fun v3=>bd (PV.cell v0 3) fun v4=>bd (PV.cell v0 4) fun v5=>bd (PV.cell v0 5) fun v6=>bd (PV.cell v0 6) fun v7=>bd (PV.cell v0 7) fun v8=>bd (PV.cell v0 8) fun v9=>bd (PV.cell v0 9) fun v10=>bd (vD v1) fun r11=>PV.guardOwn (.own 4 64 true [.leaf,.leaf,(.own 3 32 true []),(.own 3 32 true [])]) (gd r11 0) (
 bd (zX v2) fun r12=>PV.guardOwn (.own 1 24 true [(.own 3 32 true [])]) (gd r12 0) (bd (PV.one v3) fun v13=>bd (oB v4) fun r14=>PV.guardOwn (.own 1 16 false []) (gd r14 0) (bd (PV.one v5) fun v15=>bd (PV.one v6) fun v16=>bd (rQ (.agg [v7,v8,v9])) fun r17=>bd (PV.whole 3 (hd r17)) fun v18=>bd (PV.cell v18 0) fun v19=>bd (PV.cell v18 1) fun v20=>bd (PV.cell v18 2) fun v21=>
 bd (PV.one v10) fun v22=>some [v13,v15,v16,v19,v20,v21,v22,(gd r11 0),(gd r12 0),(gd r14 0)]))):=bQ _ _ _ _ (by kernel_rfl)
end
end Go.Proofs.YthkofpnllaapeaaGreat
