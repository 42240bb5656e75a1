/-
  Texts of the proof, part 4: a value-level evaluator and its soundness, what the functions compute, laws about it.
  Conditions: none.
-/
import Derived.Test.YthkofpnllaapeaaC
import Derived.Calls
import Derived.KernelRfl
import Derived.Orders
import Derived.Test.YthkofpnllaapeaaProg
import Derived.Lib.AppendIntMem
import Derived.Laws.IdiomCopy
import Derived.Laws.Cells
import Derived.Below
import Derived.Laws.StructEq
import Derived.Laws.BytesString
import Derived.Laws.NewFold
import Derived.Laws.Tables
import Derived.Great.FillDense
import Derived.Shelf.Spec.SlicesGrow
import Derived.Shelf.Strconv.Itoa3
import Derived.Shelf.SlGeneric
import Derived.Ground.Names8Prog
import Derived.IntWalk
import Derived.WalkKit
import Derived.ProofKit
import Derived.OpenShut
import Derived.ShutString
import Derived.ChangeOld
set_option linter.all false
namespace Go.Proofs.Ythkofpnllaapeaa
open Go
def aBG (P : Program) (mode : Nat→Option Tmpl) (S : Nat→List DV→St→Option R) : Prop:=∀ g t args s l,mode g=some t→S g args s=some l→gA P g∧∀ (m : aM) (bD : Array Value),dX m s s.base→args.length=bD.size→
  (∀ (i : Nat) d v,args[i]? = some d→bD[i]? = some v→m.rd d v)→Calls P g bD m.w (fun e w'=>∃ v,e = .returned v∧nJ m s.boxes.length (if t.keep then s.lists.length else 0) (some (t.fit s)) l v w')
theorem xI : ∀ (ts : List (Option Own)) (ks : List (Option OTy)) (n : Nat),numO (fitO ts ks) n=numO ts n
  | [],[],_=>rfl
  | [],_::_,_=>rfl
  | some w::r,some o::q,n=>by
    simp only [fitO,numO]
    cases w.c<;>simp only [xI r q]
  | some w::r,none::q,n=>by
    simp only [fitO,numO]
    cases w.c<;>simp only [xI r q]
  | none::r,_::q,n=>by simp only [fitO,numO,xI r q]
  | some _::_,[],_=>rfl
  | none::_,[],_=>rfl
theorem Tmpl.fit_keep {t : Tmpl} {s : St} : (t.fit s).keep=t.keep:=by
  unfold Tmpl.fit Tmpl.fitK
  split
  · rfl
  · rfl
theorem Tmpl.fit_wf {t : Tmpl} {s : St} (h : t.wf=true) : (t.fit s).wf=true:=by
  unfold Tmpl.fit Tmpl.fitK
  split
  · unfold Tmpl.wf at h ⊢
    simp only [xI]
    exact h
  · exact h
theorem Tmpl.fit_nil {t : Tmpl} {s : St} (h : s.lists = []) : t.fit s=t:=by
  unfold Tmpl.fit Tmpl.fitK
  split
  · rw [h]
    show ({ t with lists:=fitO t.lists []} : Tmpl)=t
    have : fitO t.lists []=t.lists:=by
      cases t.lists with
      | nil=>rfl
      | cons a r=>cases a<;>rfl
    rw [this]
  · rfl
theorem yY (l : R) : ∀ (bs : List (Option (List DV))),(fillB l bs).length=bs.length
  | []=>rfl
  | some _::r=>by simp [fillB,yY l r]
  | none::r=>by simp [fillB,yY l r]
theorem nB (l : R) : ∀ (bs : List (Option Own)),(fillO l bs).length=bs.length
  | []=>rfl
  | some _::r=>by simp [fillO,nB l r]
  | none::r=>by simp [fillO,nB l r]
theorem vH (l : R) : ∀ {bs : List (Option (List DV))} {i : Nat} {fs : List DV},(fillB l bs)[i]? = some (some fs)→∃ ts,bs[i]? = some (some ts)
  | [],i,fs,h=>by simp [fillB] at h
  | some t::r,i,fs,h=>by
    cases i with
    | zero=>exact ⟨t,rfl⟩
    | succ i=>simpa using vH l (bs:=r) (i:=i) (by simpa [fillB] using h)
  | none::r,i,fs,h=>by
    cases i with
    | zero=>simp [fillB] at h
    | succ i=>simpa using vH l (bs:=r) (i:=i) (by simpa [fillB] using h)
theorem nK (l : R) : ∀ {bs : List (Option Own)} {i : Nat} {w : Own},(fillO l bs)[i]? = some (some w)→∃ ts,bs[i]? = some (some ts)
  | [],i,fs,h=>by simp [fillO] at h
  | some t::r,i,fs,h=>by
    cases i with
    | zero=>exact ⟨t,rfl⟩
    | succ i=>simpa using nK l (bs:=r) (i:=i) (by simpa [fillO] using h)
  | none::r,i,fs,h=>by
    cases i with
    | zero=>simp [fillO] at h
    | succ i=>simpa using nK l (bs:=r) (i:=i) (by simpa [fillO] using h)
theorem aAr {α : Type} : ∀ {l : List (Option α)},allSome l=true→∀ (i : Nat) o,l[i]? = some o→∃ a,o=some a
  | [],_,i,o,h=>by simp at h
  | some a::r,h,i,o,hi=>by
    cases i with
    | zero=>simp at hi;exact ⟨a,hi.symm⟩
    | succ i=>exact aAr (l:=r) h i o (by simpa using hi)
  | none::r,h,_,_,_=>by simp [allSome] at h
theorem getD_some {α : Type} {l : List (Option α)} {i : Nat} {x : α} (h : l.getD i none=some x) : l[i]? = some (some x):=by
  rw [List.getD] at h
  cases hi : l[i]? with
  | none=>rw [hi] at h;cases h
  | some o=>rw [hi] at h;simp at h;rw [h]
theorem sU {m : aM} {s : St} {a : Seen} {r : Nat} (h : (m.pick a.bs a.ls (s.pick a)).owned r) : aBF m a.bs a.ls r:=by
  rcases h with ⟨i,cs,h,rfl⟩ | ⟨l,o,h,hr⟩ | h
  · have h : (s.pick a).box i=some cs:=h
    rw [sP] at h
    cases hbi : a.bs[i]? with
    | none=>rw [hbi] at h;cases h
    | some b=>
      refine .inl ⟨b,List.mem_of_getElem? hbi,?_⟩
      show m.ρ.box (a.bs.getD i 0)=_
      rw [cB hbi]
  · have h : (s.pick a).list l=some o:=h
    rw [qM] at h
    cases hbi : a.ls[l]? with
    | none=>rw [hbi] at h;cases h
    | some l0=>
      refine .inr ⟨l0,List.mem_of_getElem? hbi,?_⟩
      have hr : m.ρ.fp (a.ls.getD l 0) r:=hr
      rw [cB hbi] at hr
      exact hr
  · exact h.elim
section
variable {P : Program} {X : Cx} {O : Orc}
theorem aET (hS : aBG P X.mode O.S) {ft : Foot} {n0 : Nat} {t : Tmpl} {f : Nat} (hm : X.mode f=some t) (hwf : t.wf=true) {args : List DV} {s : St} {k : DV→St→List Nat→Option R} {r : R} (h : liveK O ft n0 t f args s k=some r) :
    gA P f∧∃ d' s' kl,k d' s' kl=some r∧s.nl≤s'.nl∧∀ (n : Nat) (m : aM) (B L WB WL : Nat→Prop),jT m s B L n→s'.nb≤n+16→s'.nl≤n+16→n≤n0→(∀ b∈ft.rb,B b∧WB b)→(∀ l∈ft.rl,L l∧WL l)→(t.keep=true→∀ x,(B x∧WB x)∧(L x∧WL x))→
      ∀ vs : Array Value,args.length=vs.size→(∀ (i : Nat) d v,args[i]? = some d→vs[i]? = some v→m.rd d v)→
        Calls P f vs m.w (fun e w'=>∃ v,e = .returned v∧∃ m',m'.w=w'∧aZ m m' s s' B L WB WL n (scrubKeptD t.keep kl)∧m'.rd d' v):=by
  unfold liveK at h
  generalize ha : reach s fuelR args ⟨[],[]⟩=a at h
  simp only at h
  have hkp : (t.fit (s.pick a)).keep=t.keep:=Tmpl.fit_keep
  have hwf : (t.fit (s.pick a)).wf=true:=Tmpl.fit_wf hwf
  have hS':=fun l=>hS f t (args.map (ren (idx · a.bs 0) (idx · a.ls 0) deep)) (s.pick a) l hm
  rw [← hkp] at hS' ⊢
  generalize t.fit (s.pick a)=t at h hwf hS' ⊢
  generalize hkd : (if t.keep=true then a.ls else [])=kl at h
  split at h
  rotate_left
  · cases h
  rename_i hc
  simp only [Bool.and_eq_true,List.all_eq_true,Bool.or_eq_true,Nat.blt_eq] at hc
  obtain ⟨⟨⟨⟨hlen,hsome⟩,hbs⟩,hls⟩,hkl⟩:=hc
  have hkl:=jU hkl
  have hlen:=jU hlen
  obtain ⟨l,hl,hk⟩:=aJ h
  obtain ⟨hcb,HS⟩:=hS' l hl
  have nod:=eI (s:=s) fuelR args ⟨[],[]⟩ List.nodup_nil List.nodup_nil
  have liv:=cX (s:=s) fuelR args ⟨[],[]⟩ (by simp) (by simp)
  rw [ha] at nod liv
  refine ⟨hcb,_,_,_,hk,Nat.le_add_right _ _,fun n m B L WB WL sit hnb hnl hn0 hB hL hall vs hvl hrd=>?_⟩
  have hnl : s.nl+(t.lists.length - kl.length)≤n+16:=hnl
  have hks : ∀ l∈kl,l∈a.ls:=fun l hl=>by rw [← hkd] at hl;split at hl;exact hl;cases hl
  have hkn : kl.Nodup:=by rw [← hkd];split;exact nod.2.1;exact List.nodup_nil
  have hkk : t.keep=false→kl = []:=fun hf=>by rw [← hkd,hf];rfl
  have hlists : (s.pick a).lists.length=a.ls.length:=lC
  have hnb : s.nb+(t.boxes.length - a.bs.length)≤n+16:=hnb
  have sn1:=sit.nb
  have sn2:=sit.nl
  have lin : ∀ l∈a.ls,l∈ft.rl∨(n≤l∧l<n+16):=fun l hl=>by
    rcases hls l hl with h | ⟨h1,h2⟩
    · exact .inl (lA.1 h)
    · have:=jU h1;exact .inr (by omega)
  have hb : ∀ b∈a.bs,m.s.box b=s.box b:=fun b hb=>sit.ab b (.inl (hB b (lA.1 (hbs b hb))).1)
  have hl' : ∀ l∈a.ls,m.s.list l=s.list l:=fun l hl=>sit.al l ((lin l hl).imp (fun h=>(hL l h).1) id)
  have pf:=tU (a:=a) sit.inv hb hl' nod.1 nod.2.1
  have hboxes : (s.pick a).boxes.length=a.bs.length:=pV
  refine (HS (m.pick a.bs a.ls (s.pick a)) vs pf (by simpa using hvl) (fun i d v hd hv=>?_)).mono ?_
  · rw [List.getElem?_map] at hd
    cases hdi : args[i]? with
    | none=>rw [hdi] at hd;cases hd
    | some d0=>rw [hdi] at hd;cases hd;exact aBz hl' deep (hrd i d0 v hdi hv)
  · rintro e w' ⟨v,rfl,c,hw,cinv,fw,d,s0,a0,hread,hdv,hfull,hub,hul⟩
    rw [hboxes,hlists] at fw
    obtain ⟨hless,lenB,lenL,HB,HO⟩:=Tmpl.read_sound hread hwf
    have lenB : t.boxes.length=a0.bs.length:=lenB.trans pV
    have lenL : t.lists.length=a0.ls.length:=lenL.trans lC
    refine ⟨v,rfl,?_⟩
    generalize hcsB : ((fillB l t.boxes).map fun o=>o.map fun cs=>cs.map (ren (backFb a.bs s.nb) (backFb kl s.nl) deep))=csB
    have hcsBl : csB.length=t.boxes.length:=by rw [← hcsB,List.length_map,yY]
    have hab : ∀ b∈a.bs,∃ cs,m.s.box b=some cs:=fun b hbm=>by
      rw [hb b hbm]
      exact Option.ne_none_iff_exists'.1 (liv.1 b hbm)
    have hal : ∀ l∈a.ls,∃ o,m.s.list l=some o:=fun l hlm=>by
      rw [hl' l hlm]
      exact Option.ne_none_iff_exists'.1 (liv.2 l hlm)
    have freshB : ∀ x,s.nb≤x→x<s.nb+(t.boxes.length - a.bs.length)→¬ m.ρ.ub x:=fun x h1 h2=>sit.fb x h1 (by omega)
    have freshL : ∀ x,s.nl≤x→x<s.nl+(t.lists.length - kl.length)→¬ m.ρ.ul x:=fun x h1 h2=>sit.fl x h1 (by omega)
    have hout : ∀ b∈a.bs,¬ (s.nb≤b∧b<s.nb+(csB.length - a.bs.length)):=fun b hbm hr=>by
      obtain ⟨cs,hcs⟩:=hab b hbm
      rw [hcsBl] at hr
      exact freshB b hr.1 hr.2 (sit.inv.ub b cs hcs)
    have scrL : ∀ x,look x (scrubKept t.keep kl s.boxes)=(s.box x).map (·.map (scrubKeptD t.keep kl)):=fun x=>by
      unfold scrubKept scrubKeptD
      cases t.keep with
      | true=>exact tS kl x s.boxes
      | false=>
        rw [if_neg (by simp),if_neg (by simp)]
        exact fX _
    have boxL : ∀ x,look x (backB a.bs s.nb csB (scrubKept t.keep kl s.boxes))=match cJ a.bs s.nb (t.boxes.length - a.bs.length) x with | some i=>csB.getD i none | none=>(s.box x).map (·.map (scrubKeptD t.keep kl)):=fun x=>by
      have:=vG (x:=x) (cs:=csB) (bs:=a.bs) (n:=s.nb) (old:=scrubKept t.keep kl s.boxes) nod.1 (by rw [hcsBl];exact hlen) hout
      rw [hcsBl,scrL] at this
      exact this
    have houtL : ∀ l0∈kl,¬ (s.nl≤l0∧l0<s.nl+((fillO l t.lists).length - kl.length)):=fun l0 hlm hr=>by
      obtain ⟨o,ho⟩:=hal l0 (hks l0 hlm)
      rw [nB] at hr
      exact freshL l0 hr.1 hr.2 (sit.inv.ul l0 o ho)
    have listL : ∀ x,look x (backB kl s.nl (fillO l t.lists) (s.killL a.ls).lists)=match cJ kl s.nl (t.lists.length - kl.length) x with | some i=>(fillO l t.lists).getD i none | none=>(s.killL a.ls).list x:=fun x=>by
      have:=vG (x:=x) (cs:=fillO l t.lists) (bs:=kl) (n:=s.nl) (old:=(s.killL a.ls).lists) hkn (by rw [nB];exact hkl) houtL
      rw [nB] at this
      exact this
    let S : Sx:={ box:=fun x=>match cJ a.bs s.nb (t.boxes.length - a.bs.length) x with | some i=>csB.getD i none | none=>(m.s.box x).map (·.map (scrubKeptD t.keep kl))
                  list:=fun x=>match cJ kl s.nl (t.lists.length - kl.length) x with | some i=>(fillO l t.lists).getD i none | none=>if x∈a.ls then none else m.s.list x}
    have hbn : ∀ x,(∃ cs,m.s.box x=some cs)→¬ (s.nb≤x∧x<s.nb+(t.boxes.length - a.bs.length)):=fun x ⟨cs,hcs⟩ hr=>freshB x hr.1 hr.2 (sit.inv.ub x cs hcs)
    have cb_fb : ∀ b b',b<t.boxes.length→backFb a.bs s.nb b=some b'→cJ a.bs s.nb (t.boxes.length - a.bs.length) b'=some b∧(m.ρ.ub b'∨(s.nb≤b'∧b'<s.nb+(t.boxes.length - a.bs.length))):=by
      intro b b' hlt hbb
      unfold backFb at hbb
      split at hbb
      · rename_i x hx
        cases hbb
        obtain ⟨cs,hcs⟩:=hab b' (List.mem_of_getElem? hx)
        refine ⟨?_,.inl (sit.inv.ub b' cs hcs)⟩
        unfold cJ
        rw [aDU (n:=0) nod.1 hx,Nat.zero_add]
      · rename_i hx
        cases hbb
        have hge : a.bs.length≤b:=by
          rcases Nat.lt_or_ge b a.bs.length with h | h
          · rw [List.getElem?_eq_getElem h] at hx;cases hx
          · exact h
        have hnot : s.nb+(b - a.bs.length)∉a.bs:=fun hm'=>hbn _ (hab _ hm') ⟨by omega,by omega⟩
        refine ⟨?_,.inr ⟨by omega,by omega⟩⟩
        unfold cJ
        rw [xG hnot]
        simp only
        rw [if_pos ⟨by omega,by omega⟩]
        congr 1
        omega
    have cl_fl : ∀ b b',b<t.lists.length→backFb kl s.nl b=some b'→cJ kl s.nl (t.lists.length - kl.length) b'=some b∧(m.ρ.ul b'∨(s.nl≤b'∧b'<s.nl+(t.lists.length - kl.length))):=by
      intro b b' hlt hbb
      unfold backFb at hbb
      split at hbb
      · rename_i x hx
        cases hbb
        obtain ⟨o,ho⟩:=hal b' (hks b' (List.mem_of_getElem? hx))
        refine ⟨?_,.inl (sit.inv.ul b' o ho)⟩
        unfold cJ
        rw [aDU (n:=0) hkn hx,Nat.zero_add]
      · rename_i hx
        cases hbb
        have hge : kl.length≤b:=by
          rcases Nat.lt_or_ge b kl.length with h | h
          · rw [List.getElem?_eq_getElem h] at hx;cases hx
          · exact h
        have hnot : s.nl+(b - kl.length)∉kl:=fun hm'=>by
          obtain ⟨o,ho⟩:=hal _ (hks _ hm')
          exact freshL _ (by omega) (by omega) (sit.inv.ul _ o ho)
        refine ⟨?_,.inr ⟨by omega,by omega⟩⟩
        unfold cJ
        rw [xG hnot]
        simp only
        rw [if_pos ⟨by omega,by omega⟩]
        congr 1
        omega
    have ren_ok : ∀ {d : DV} {v : Value},c.rd d v→(m.back c a.bs kl s.nb (t.boxes.length - a.bs.length) s.nl (t.lists.length - kl.length) S).rd (ren (backFb a.bs s.nb) (backFb kl s.nl) deep d) v:=by
      intro d v hd
      refine bR.renum (fun b b' hu hbb=>?_) (fun l0 l' hu hll=>?_) deep hd
      · obtain ⟨h1,h2⟩:=cb_fb b b' (by rw [lenB];exact hub b hu) hbb
        refine ⟨h2,?_⟩
        show (match cJ a.bs s.nb (t.boxes.length - a.bs.length) b' with | some i=>c.ρ.box i | none=>m.ρ.box b')=_
        rw [h1]
      · have hlt:=hul l0 hu
        rw [← lenL] at hlt
        obtain ⟨hcl,hcu⟩:=cl_fl l0 l' hlt hll
        refine ⟨hcu,fun hv=>⟨?_,?_,?_,?_⟩⟩
        · have hv : (match cJ kl s.nl (t.lists.length - kl.length) l' with | some i=>(fillO l t.lists).getD i none | none=>if l'∈a.ls then none else m.s.list l')≠none:=hv
          rw [hcl] at hv
          obtain ⟨w1,hw1⟩:=Option.ne_none_iff_exists'.1 hv
          have hg:=getD_some hw1
          obtain ⟨ts,hts⟩:=nK l hg
          obtain ⟨x,w2,g1,_⟩:=HO l0 ts hts
          have g1 : (s0.pick a0).list l0=some w2:=by
            have:=iU (n:=0) g1
            rw [Nat.zero_add] at this
            exact this
          rw [← hfull.list l0] at g1
          exact aM.live_of g1
        · show (match cJ kl s.nl (t.lists.length - kl.length) l' with | some i=>c.ρ.hdr i | none=>_)=_
          rw [hcl]
        · show (match cJ kl s.nl (t.lists.length - kl.length) l' with | some i=>c.ρ.ty i | none=>_)=_
          rw [hcl]
        · show (match cJ kl s.nl (t.lists.length - kl.length) l' with | some i=>c.ρ.fp i | none=>_)=_
          rw [hcl]
    have came : oM m c t.keep a.bs a.ls kl s.nb (t.boxes.length - a.bs.length) s.nl (t.lists.length - kl.length) S:={
      kk:=hkk
      kn:=hkn
      ks:=hks
      row:=fun i l0 hi hlv=>by
        have hkt : t.keep=true:=by
          cases hk2 : t.keep with
          | true=>rfl
          | false=>rw [hkk hk2] at hi;simp at hi
        have hkl2 : kl=a.ls:=by rw [← hkd,hkt];rfl
        rw [hkl2] at hi
        obtain ⟨o,ho⟩:=hal l0 (List.mem_of_getElem? hi)
        have hlt : i<a.ls.length:=(List.getElem?_eq_some_iff.1 hi).1
        rw [hkt] at fw
        have hu : (m.pick a.bs a.ls (s.pick a)).ρ.ul i:=⟨hlt,by rw [cB hi];exact sit.inv.ul l0 o ho⟩
        obtain ⟨_,q⟩:=fw.row i (by simpa using hlt) hu
        obtain ⟨_,q1,q2⟩:=q hlv
        rw [q1,q2]
        show m.ρ.hdr (a.ls.getD i 0)=_∧m.ρ.ty (a.ls.getD i 0)=_
        rw [cB hi]
        exact ⟨rfl,rfl⟩
      inv:=sit.inv
      cinv:=cinv
      nb:=nod.1
      ab:=hab
      al:=hal
      size:=fw.size
      os:=fw.os
      tape:=fw.tape
      output:=fw.output
      keep:=fun r hr hn=>fw.keep r hr (fun ho=>hn (sU ho))
      own:=fun r hr=>(fw.own r hr).imp (fun h=>sU h) id
      z:=fun r hr=>(fw.z r hr).imp id (fun h=>h.imp (fun h=>sU h) id)
      zz:=fw.zz
      box:=fun i b hbi=>by
        obtain ⟨cs,hcs⟩:=hab b (List.mem_of_getElem? hbi)
        have:=fw.box i (List.getElem?_eq_some_iff.1 hbi).1 (cs.map (ren (idx · a.bs 0) (idx · a.ls 0) deep)) (by
          show (s.pick a).box i=_
          rw [sP,hbi,Option.bind_some,← hb b (List.mem_of_getElem? hbi),hcs];rfl)
        rw [this.1]
        show m.ρ.box (a.bs.getD i 0)=_
        rw [cB hbi]
      freshB:=freshB
      freshL:=freshL
      sb:=fun x cs hx=>by
        have hx : (match cJ a.bs s.nb (t.boxes.length - a.bs.length) x with | some i=>csB.getD i none | none=>(m.s.box x).map (·.map (scrubKeptD t.keep kl)))=some cs:=hx
        cases hcb : cJ a.bs s.nb (t.boxes.length - a.bs.length) x with
        | none=>
          rw [hcb] at hx
          simp only at hx
          cases hmx : m.s.box x with
          | none=>rw [hmx] at hx;cases hx
          | some cs0=>rw [hmx] at hx;cases hx;exact .inr ⟨rfl,cs0,rfl,rfl⟩
        | some i=>
          rw [hcb] at hx
          have hg:=getD_some hx
          rw [← hcsB,List.getElem?_map] at hg
          cases hfi : (fillB l t.boxes)[i]? with
          | none=>rw [hfi] at hg;cases hg
          | some o=>
            rw [hfi] at hg
            simp only [Option.map_some,Option.some.injEq] at hg
            cases o with
            | none=>cases hg
            | some fs=>
              simp only [Option.map_some,Option.some.injEq] at hg
              obtain ⟨ts,hts⟩:=vH l hfi
              obtain ⟨g1,x',cs0,g2,g3⟩:=HB i ts hts
              rw [hfi] at g1
              cases g1
              have g2 : (s0.pick a0).box i=some cs0:=by
                have:=uT (n:=0) g2
                rw [Nat.zero_add] at this
                exact this
              rw [← hfull.box i] at g2
              refine .inl ⟨i,cs0,rfl,g2,by rw [← hg,List.length_map];exact g3.1,fun j d0 d1 v0 h1 h2 h3=>?_⟩
              rw [← hg,List.getElem?_map] at h2
              cases hj : (fillDs l ts)[j]? with
              | none=>rw [hj] at h2;cases h2
              | some d2=>
                rw [hj] at h2
                cases h2
                exact ren_ok (g3.2 j d0 d2 h1 hj c v0 h3)
      sbx:=fun x hx=>by
        show ∃ cs,(match cJ a.bs s.nb (t.boxes.length - a.bs.length) x with | some i=>csB.getD i none | none=>(m.s.box x).map (·.map (scrubKeptD t.keep kl)))=some cs
        rcases cR a.bs s.nb (t.boxes.length - a.bs.length) x with ⟨i,h1,h2⟩ | ⟨i,h1,h2,h3,h4⟩ | ⟨h1,_⟩
        · rw [h1]
          have hlt : i<a.bs.length:=(List.getElem?_eq_some_iff.1 h2).1
          have hti : (t.boxes.take a.bs.length)[i]? = some (t.boxes[i]'(by omega)):=by rw [List.getElem?_take,if_pos hlt,List.getElem?_eq_getElem]
          obtain ⟨ts,hts⟩:=aAr hsome i _ hti
          obtain ⟨g1,_⟩:=HB i ts (by rw [List.getElem?_eq_getElem (by omega),hts])
          refine ⟨(fillDs l ts).map (ren (backFb a.bs s.nb) (backFb kl s.nl) deep),?_⟩
          simp only
          rw [List.getD,← hcsB,List.getElem?_map,g1]
          rfl
        · exact absurd ⟨by omega,by omega⟩ (hbn x hx)
        · rw [h1]
          obtain ⟨cs,hcs⟩:=hx
          exact ⟨_,by simp only [hcs,Option.map_some];rfl⟩
      sl:=fun x o hx=>by
        have hx : (match cJ kl s.nl (t.lists.length - kl.length) x with | some i=>(fillO l t.lists).getD i none | none=>if x∈a.ls then none else m.s.list x)=some o:=hx
        cases hcl : cJ kl s.nl (t.lists.length - kl.length) x with
        | none=>
          rw [hcl] at hx
          simp only at hx
          split at hx
          · cases hx
          · rename_i hn;exact .inr ⟨rfl,hn,hx⟩
        | some i=>
          rw [hcl] at hx
          have hg:=getD_some hx
          obtain ⟨ts,hts⟩:=nK l hg
          obtain ⟨x',w2,g1,g2,_⟩:=HO i ts hts
          rw [hg] at g2
          cases g2
          have g1 : (s0.pick a0).list i=some o:=by
            have:=iU (n:=0) g1
            rw [Nat.zero_add] at this
            exact this
          rw [← hfull.list i] at g1
          exact .inl ⟨i,rfl,g1⟩}
    have wbs : ∀ b∈a.bs,B b∧WB b:=fun b hbm=>hB b (lA.1 (hbs b hbm))
    refine ⟨m.back c a.bs kl s.nb (t.boxes.length - a.bs.length) s.nl (t.lists.length - kl.length) S,hw,?_,ren_ok (hless c v hdv)⟩
    refine {
      step:=came.step sn1 hnb sn2 hnl
      after:=⟨fun x hx=>?_,fun x hx=>?_,fun x h1 h2=>?_,fun x h1 h2=>?_,fun x h1 h2=>?_,fun x h1 h2=>?_⟩
      nb:=Nat.le_add_right _ _
      nl:=Nat.le_add_right _ _
      ub:=fun x hx hu=>hu.elim id (fun h=>by have hx : s.nb+(t.boxes.length - a.bs.length)≤x:=hx;omega)
      ul:=fun x hx hu=>hu.elim id (fun h=>by have hx : s.nl+(t.lists.length - kl.length)≤x:=hx;omega)}
    · show (match cJ a.bs s.nb (t.boxes.length - a.bs.length) x with | some i=>csB.getD i none | none=>(m.s.box x).map (·.map (scrubKeptD t.keep kl)))=look x (backB a.bs s.nb _ (scrubKept t.keep kl s.boxes))
      rw [boxL x]
      cases cJ a.bs s.nb (t.boxes.length - a.bs.length) x with
      | some i=>rfl
      | none=>simp only;rw [sit.ab x hx]
    · show (match cJ kl s.nl (t.lists.length - kl.length) x with | some i=>(fillO l t.lists).getD i none | none=>if x∈a.ls then none else m.s.list x)=look x (backB kl s.nl (fillO l t.lists) (s.killL a.ls).lists)
      rw [listL x]
      cases cJ kl s.nl (t.lists.length - kl.length) x with
      | some i=>rfl
      | none=>
        simp only
        rw [dH,sit.al x hx]
    · by_cases hkt : t.keep=true
      · exact absurd ((hall hkt x).1.1) h1
      · have hkt : t.keep=false:=by simpa using hkt
        show (match cJ a.bs s.nb (t.boxes.length - a.bs.length) x with | some i=>csB.getD i none | none=>(m.s.box x).map (fun cs : List DV=>cs.map (scrubKeptD t.keep kl)))=_
        rcases cR a.bs s.nb (t.boxes.length - a.bs.length) x with ⟨i,g1,g2⟩ | ⟨i,g1,g2,g3,g4⟩ | ⟨g1,_⟩
        · exact absurd (wbs x (List.mem_of_getElem? g2)).1 h1
        · exact absurd ⟨by omega,by omega⟩ h2
        · rw [g1,hkt]
          exact (fX _).symm
    · by_cases hkt : t.keep=true
      · exact absurd ((hall hkt x).2.1) h1
      · have hkt : t.keep=false:=by simpa using hkt
        show (match cJ kl s.nl (t.lists.length - kl.length) x with | some i=>(fillO l t.lists).getD i none | none=>if x∈a.ls then none else m.s.list x)=_
        rw [hkk hkt]
        rcases cR [] s.nl (t.lists.length - ([] : List Nat).length) x with ⟨i,g1,g2⟩ | ⟨i,g1,g2,g3,_⟩ | ⟨g1,_⟩
        · simp at g2
        · exact absurd ⟨by omega,by rw [hkk hkt] at hnl;omega⟩ h2
        · rw [g1]
          simp only
          rw [if_neg]
          intro hxm
          rcases lin x hxm with h | h
          · exact h1 (hL x h).1
          · exact h2 h
    · by_cases hkt : t.keep=true
      · exact absurd ((hall hkt x).1.2) h1
      · have hkt : t.keep=false:=by simpa using hkt
        show look x (backB a.bs s.nb _ (scrubKept t.keep kl s.boxes))=_
        rw [boxL x]
        rcases cR a.bs s.nb (t.boxes.length - a.bs.length) x with ⟨i,g1,g2⟩ | ⟨i,g1,g2,g3,g4⟩ | ⟨g1,_⟩
        · exact absurd (wbs x (List.mem_of_getElem? g2)).2 h1
        · exact absurd ⟨by omega,by omega⟩ h2
        · rw [g1,hkt]
          exact (fX _).symm
    · by_cases hkt : t.keep=true
      · exact absurd ((hall hkt x).2.2) h1
      · have hkt : t.keep=false:=by simpa using hkt
        show look x (backB kl s.nl (fillO l t.lists) (s.killL a.ls).lists)=_
        rw [listL x,hkk hkt]
        rcases cR [] s.nl (t.lists.length - ([] : List Nat).length) x with ⟨i,g1,g2⟩ | ⟨i,g1,g2,g3,_⟩ | ⟨g1,_⟩
        · simp at g2
        · exact absurd ⟨by omega,by rw [hkk hkt] at hnl;omega⟩ h2
        · rw [g1]
          simp only
          rw [dH,if_neg]
          intro hxm
          rcases lin x hxm with h | h
          · exact h1 (hL x h).2
          · exact h2 h
end
end Go.Proofs.Ythkofpnllaapeaa
namespace Go.Proofs.Ythkofpnllaapeaa
open Go
theorem aBH : ∀ {cs : List PV} {cts : List OTy},PV.flatCs cts cs=true→∀ (j : Nat) c,cs[j]? = some c→PV.flatO (cts.getD j .leaf) c=true∨c.flat=true
  | [],_,_,j,c,h=>by simp at h
  | x::r,cts,h,j,c,hj=>by
    have tail : ∀ {b : Bool},(b&&PV.flatCs cts.tail r)=true→j≠0→PV.flatO (cts.getD j .leaf) c=true∨c.flat=true:=by
      intro b hb hj0
      simp only [Bool.and_eq_true] at hb
      obtain ⟨q,rfl⟩ : ∃ q,j=q+1:=⟨j - 1,by omega⟩
      have:=aBH hb.2 q c (by simpa using hj)
      cases cts with
      | nil=>simpa [List.getD] using this
      | cons o os=>simpa [List.getD] using this
    by_cases hj0 : j=0
    · subst hj0
      simp at hj
      subst hj
      cases x with
      | lst xs=>
        unfold PV.flatCs at h
        simp only [Bool.and_eq_true] at h
        cases cts with
        | nil=>simp at h
        | cons o os=>
          cases o with
          | leaf=>simp at h
          | own s e g cts'=>exact .inl (by simpa [List.getD,PV.flatO] using h.1)
      | _=>unfold PV.flatCs at h;simp only [Bool.and_eq_true] at h;exact .inr h.1
    · cases x<;>(unfold PV.flatCs at h;exact tail h hj0)
theorem aBI : ∀ {xs : List PV} {g : Bool} {cts : List OTy},PV.flatEs g cts xs=true→∀ (i : Nat) x,xs[i]? = some x→PV.flatE g cts x=true
  | [],_,_,_,i,x,h=>by simp at h
  | y::r,g,cts,h,i,x,hi=>by
    unfold PV.flatEs at h
    simp only [Bool.and_eq_true] at h
    cases i with
    | zero=>simp at hi;subst hi;exact h.1
    | succ i=>exact aBI h.2 i x (by simpa using hi)
theorem bH.flat {w : World} {Z Z' : Nat→Prop} {o : OTy} {x : PV} {v : Value} {F : Nat→Prop} (h : bH w Z o x v F) (hf : PV.flatO o x=true∨x.flat=true) (hn : ∀ r,F r→¬ Z' r) : bH w Z' o x v F:=by
  induction h with
  | leaf x v F h hF=>
    rcases hf with hf | hf
    · simp [PV.flatO] at hf
    · exact .leaf x v F (h.flat hf) hF
  | hole s e g cts v F h hF=>exact .hole s e g cts v F h hF
  | nil s e g cts F a hF=>exact .nil s e g cts F a hF
  | own s e g cts xs b o cap cells ety cv fp F hh hs ho hl hz he hc hv hr hF hb hd ih=>
    have hf : PV.flatEs g cts xs=true:=by
      rcases hf with hf | hf
      · simpa [PV.flatO] using hf
      · simp [PV.flat] at hf
    refine .own s e g cts xs b o cap cells ety cv fp F hh hs ho hl (hn b ((hF b).2 (.inl rfl))) he hc hv (fun i j x hx hj=>?_) hF hb hd
    have hi : i<xs.length:=(List.getElem?_eq_some_iff.1 hx).1
    refine ih i j x hx hj ?_ (fun r hr=>hn r ((hF r).2 (.inr ⟨i,j,hi,hj,hr⟩)))
    have hfe:=aBI hf i x hx
    have hel:=he i x hx
    cases g with
    | true=>
      obtain ⟨cs,rfl,hlen⟩:=sG hel
      rw [dF]
      unfold PV.flatE at hfe
      simp only [Bool.true_and] at hfe
      have hj' : cs[j]? = some (cs[j]'(by omega)):=List.getElem?_eq_getElem (by omega)
      have hg : cs.getD j .hole=cs[j]'(by omega):=by rw [List.getD,hj'];rfl
      rw [hg]
      exact aBH hfe j _ hj'
    | false=>
      have hs1:=wN hel
      have hj0 : j=0:=by omega
      subst hj0
      show PV.flatO (cts.getD 0 .leaf) x=true∨x.flat=true
      cases x with
      | lst ys=>
        unfold PV.flatE at hfe
        cases cts with
        | nil=>simp at hfe
        | cons o os=>
          cases o with
          | leaf=>simp at hfe
          | own s' e' g' cts'=>exact .inl (by simpa [List.getD,PV.flatO] using hfe)
      | agg cs=>unfold PV.flatE at hfe;simp at hfe
      | _=>unfold PV.flatE at hfe;simp only [Bool.not_false,Bool.true_and] at hfe;exact .inr hfe
inductive rT (l : R) : DV→Prop
  | p (k : IntKind) (i : Int) : (gd l i.toNat).flat=true→rT l (.p (.int k i))
  | ref (n : Nat) (path : cQ) : rT l (.ref n path)
  | agg (cs : List DV) : (∀ c∈cs,rT l c)→rT l (.agg cs)
  | tup (cs : List DV) : (∀ c∈cs,rT l c)→rT l (.tup cs)
theorem jW {l : R} : ∀ {cs : List DV} {k : Option R} {r : R},guardCells l cs k=some r→(∀ c∈cs,rT l c)∧k=some r
  | [],k,r,h=>⟨by simp,h⟩
  | .p (.int kk i)::cs,k,r,h=>by
    unfold guardCells at h
    obtain ⟨hf,h'⟩:=sT h
    obtain ⟨h1,h2⟩:=jW h'
    refine ⟨fun c hc=>?_,h2⟩
    rcases List.mem_cons.1 hc with rfl | hc
    · exact .p _ _ hf
    · exact h1 c hc
  | .ref n path::cs,k,r,h=>by
    unfold guardCells at h
    obtain ⟨h1,h2⟩:=jW h
    refine ⟨fun c hc=>?_,h2⟩
    rcases List.mem_cons.1 hc with rfl | hc
    · exact .ref _ _
    · exact h1 c hc
  | .p (.bool _)::_,_,_,h=>by simp [guardCells] at h
  | .p (.str _)::_,_,_,h=>by simp [guardCells] at h
  | .p .nil::_,_,_,h=>by simp [guardCells] at h
  | .p .nilf::_,_,_,h=>by simp [guardCells] at h
  | .p (.agg _)::_,_,_,h=>by simp [guardCells] at h
  | .p (.lst _)::_,_,_,h=>by simp [guardCells] at h
  | .p (.bx _)::_,_,_,h=>by simp [guardCells] at h
  | .p (.fn _ _)::_,_,_,h=>by simp [guardCells] at h
  | .p (.tup _)::_,_,_,h=>by simp [guardCells] at h
  | .p .hole::_,_,_,h=>by simp [guardCells] at h
  | .nils::_,_,_,h=>by simp [guardCells] at h
  | .agg _::_,_,_,h=>by simp [guardCells] at h
  | .tup _::_,_,_,h=>by simp [guardCells] at h
  | .fn _ _::_,_,_,h=>by simp [guardCells] at h
  | .ptr _ _::_,_,_,h=>by simp [guardCells] at h
  | .sref _ _ _ _::_,_,_,h=>by simp [guardCells] at h
  | .eptr _ _ _ _::_,_,_,h=>by simp [guardCells] at h
  | .fptr _ _ _ _::_,_,_,h=>by simp [guardCells] at h
  | .bptr _ _::_,_,_,h=>by simp [guardCells] at h
  | .gptr _ _ _ _::_,_,_,h=>by simp [guardCells] at h
  | .nilq _ _::_,_,_,h=>by simp [guardCells] at h
  | .bsl _ _::_,_,_,h=>by simp [guardCells] at h
  | .dead::_,_,_,h=>by simp [guardCells] at h
theorem lD {l : R} : ∀ {cs : List DV} {k : Option R} {r : R},guardAggs l cs k=some r→(∀ c∈cs,rT l c)∧k=some r
  | [],k,r,h=>⟨by simp,h⟩
  | d::cs,k,r,h=>by
    have one : ∀ {d : DV},guardCells l [d] (guardAggs l cs k)=some r→(∀ c∈d::cs,rT l c)∧k=some r:=by
      intro d h
      obtain ⟨h1,h2⟩:=jW h
      obtain ⟨h3,h4⟩:=lD h2
      refine ⟨fun c hc=>?_,h4⟩
      rcases List.mem_cons.1 hc with rfl | hc
      · exact h1 _ List.mem_cons_self
      · exact h3 c hc
    cases d with
    | agg ds=>
      unfold guardAggs at h
      obtain ⟨h1,h2⟩:=jW h
      obtain ⟨h3,h4⟩:=lD h2
      refine ⟨fun c hc=>?_,h4⟩
      rcases List.mem_cons.1 hc with rfl | hc
      · exact .agg _ h1
      · exact h3 c hc
    | _=>exact one (by simpa only [guardAggs] using h)
theorem aDV {l : R} {d : DV} {k : Option R} {r : R} (h : guardRes l d k=some r) : rT l d∧k=some r:=by
  unfold guardRes at h
  split at h
  · obtain ⟨h1,h2⟩:=lD h
    exact ⟨.tup _ h1,h2⟩
  · obtain ⟨h1,h2⟩:=lD h
    exact ⟨h1 _ List.mem_cons_self,h2⟩
theorem uU {l : R} : ∀ {cs : List (Option Own)} {k : Option R} {r : R},guardRows l cs k=some r→(∀ (i : Nat) w kk j,cs[i]? = some (some w)→w.c = .int kk j→PV.flatO w.o (gd l j.toNat)=true)∧k=some r
  | [],k,r,h=>⟨fun i w kk j hi=>by simp at hi,h⟩
  | none::_,_,_,h=>by simp [guardRows] at h
  | some w::cs,k,r,h=>by
    unfold guardRows at h
    split at h
    · rename_i kk j hc
      unfold PV.guardOwn at h
      split at h
      · rename_i hf
        obtain ⟨h1,h2⟩:=uU h
        refine ⟨fun i w' kk' j' hi hc'=>?_,h2⟩
        cases i with
        | zero=>
          simp at hi
          subst hi
          rw [hc] at hc'
          cases hc'
          exact hf
        | succ i=>exact h1 i w' kk' j' (by simpa using hi) hc'
      · cases h
    · cases h
mutual
theorem vI (l : R) : ∀ (ds : List DV),fillDs l ds=ds.map (fillD l)
  | []=>rfl
  | d::r=>by simp only [fillDs,List.map_cons,vI l r]
end
theorem rT.rd {l : R} {w : World} {Z Z' : Nat→Prop} {ρ : Loc} {live live' : Nat→Prop} (hl : ∀ x,live' x→live x) {d : DV} (hf : rT l d) : ∀ {v : Value},bR w Z ρ live (fillD l d) v→bR w Z' ρ live' (fillD l d) v:=by
  induction hf with
  | p k i hfl=>
    intro v h
    simp only [fillD] at h ⊢
    cases h with
    | p _ _ h=>exact .p _ _ (h.flat hfl)
  | ref n path=>
    intro v h
    simp only [fillD] at h ⊢
    cases h with
    | ref _ _ _ h1 h2 h3=>exact .ref _ _ _ h1 h2 (fun hv=>h3 (hl _ hv))
  | agg cs _ ih=>
    intro v h
    simp only [fillD,vI] at h ⊢
    cases h with
    | agg _ vs h1 h2 h3=>
      refine .agg _ vs h1 h2 (fun i d v hd hv=>?_)
      rw [List.getElem?_map] at hd
      cases hc : cs[i]? with
      | none=>rw [hc] at hd;cases hd
      | some c=>
        rw [hc] at hd
        cases hd
        exact ih c (List.mem_of_getElem? hc) (h3 i _ v (by rw [List.getElem?_map,hc];rfl) hv)
  | tup cs _ ih=>
    intro v h
    simp only [fillD,vI] at h ⊢
    cases h with
    | tup _ vs h1 h3=>
      refine .tup _ vs h1 (fun i d v hd hv=>?_)
      rw [List.getElem?_map] at hd
      cases hc : cs[i]? with
      | none=>rw [hc] at hd;cases hd
      | some c=>
        rw [hc] at hd
        cases hd
        exact ih c (List.mem_of_getElem? hc) (h3 i _ v (by rw [List.getElem?_map,hc];rfl) hv)
section
variable {P : Program} {X : Cx} {O : Orc}
theorem lentK_sound (hS : aBG P X.mode O.S) {t : Tmpl} {f : Nat} (hm : X.mode f=some t) (hwf : t.wf=true) {args : List DV} {s : St} {k : DV→St→Option R} {r : R} (h : lentK O t f args s k=some r) :
    gA P f∧∃ d' s',k d' s'=some r∧∀ (n : Nat) (m : aM) (B L WB WL : Nat→Prop),jT m s B L n→s'.nb≤n+16→s'.nl≤n+16→aA2 m s args→
      ∀ vs : Array Value,args.length=vs.size→(∀ (i : Nat) d v,args[i]? = some d→vs[i]? = some v→m.rd d v)→
        Calls P f vs m.w (fun e w'=>∃ v,e = .returned v∧∃ m',m'.w=w'∧aZ m m' s s' B L WB WL n id∧m'.rd d' v):=by
  unfold lentK at h
  obtain ⟨ps,h1,hpl,H⟩:=oW h
  obtain ⟨l,hl,h2⟩:=aJ h1
  obtain ⟨hflat,h3⟩:=aDV h2
  obtain ⟨hrows,hk⟩:=uU h3
  obtain ⟨hcb,HS⟩:=hS f t _ _ l hm hl
  rw [Tmpl.fit_nil rfl] at HS
  refine ⟨hcb,_,_,hk,fun n m B L WB WL sit hnb hnl hM vs hvl hrd=>?_⟩
  have hnl : s.nl+t.lists.length≤n+16:=hnl
  have sn1:=sit.nb
  have sn2:=sit.nl
  let m0 : aM:={ w:=m.w,Z:=fun x=>m.Z x∨m.owned x,s:={ box:=fun _=>none,list:=fun _=>none},L:=fun _=>False,
                 ρ:={ box:=fun _=>0,hdr:=fun _=>.nilFunc,fp:=fun _ _=>False,ty:=fun _=>.leaf,ub:=fun _=>False,ul:=fun _=>False}}
  have full0 : dX m0 ⟨[],[],0,0,0⟩ 0:={
    inv:={
      ub:=fun _ _ h=>by cases h
      ul:=fun _ _ h=>by cases h
      zlt:=sit.inv.zlt.next (fun _ h=>.inl h) (fun _ _=>rfl) fun r hr=>hr.elim (sit.inv.zlt r) (fun h=>sit.inv.owned_lt h)
      box:=fun _ _ h=>by cases h
      row:=fun _ _ h=>by cases h
      bz:=fun _ _ h=>by cases h
      bb:=fun _ _ _ _ h=>by cases h
      bl:=fun _ _ _ _ h=>by cases h
      ll:=fun _ _ _ _ _ h=>by cases h
      Lz:=fun _ h=>h.elim
      Lb:=fun _ _ _ h=>h
      Ll:=fun _ _ _ _ _ h=>h}
    box:=fun _=>rfl
    list:=fun _=>rfl
    ub:=fun _ h=>h.elim
    ul:=fun _ h=>h.elim}
  have own0 : ∀ r,¬ m0.owned r:=by
    rintro r (⟨_,_,h,_⟩ | ⟨_,_,h,_⟩ | h)
    · cases h
    · cases h
    · exact h
  have hreps:=H m (fun x=>m.Z x∨m.owned x) sit.inv hM (.inl fun r hr=>.inr hr) (fun r hr=>.inl hr) vs hvl hrd
  refine (HS m0 vs full0 (by rw [List.length_map];omega) (fun i d v hd hv=>?_)).mono ?_
  · rw [List.getElem?_map] at hd
    cases hp : ps[i]? with
    | none=>rw [hp] at hd;cases hd
    | some p=>rw [hp] at hd;cases hd;exact .p _ _ (hreps i p v hp hv)
  · rintro e w' ⟨v,rfl,c,hw,cinv,fw,d,s0,a0,hread,hdv,hfull,hub,hul⟩
    obtain ⟨hless,lenB,lenL,HB,HO⟩:=Tmpl.read_sound hread hwf
    have lenL : t.lists.length=a0.ls.length:=lenL.trans lC
    refine ⟨v,rfl,?_⟩
    have rowC : ∀ i w,c.s.list i=some w→∃ w0,t.lists[i]? = some (some w0)∧(fillO l t.lists)[i]? = some (some w)∧PV.flatO w.o w.c=true:=by
      intro i w hi
      have hlt : i<t.lists.length:=by rw [lenL];exact hul i (cinv.ul i w hi)
      have hi':=hi
      rw [hfull.list i] at hi'
      cases hti : t.lists[i]'hlt with
      | none=>
        exfalso
        have : ∀ {cs : List (Option Own)} {k : Option R} {r : R},guardRows l cs k=some r→∀ (j : Nat),cs[j]?≠some none:=by
          intro cs
          induction cs with
          | nil=>intro k r _ j;simp
          | cons x xs ih=>
            intro k r h j
            cases x with
            | none=>simp [guardRows] at h
            | some w=>
              unfold guardRows at h
              split at h
              · unfold PV.guardOwn at h
                split at h
                · cases j with
                  | zero=>simp
                  | succ j=>simpa using ih h j
                · cases h
              · cases h
        exact this h3 i (by rw [List.getElem?_eq_getElem hlt,hti])
      | some w0=>
        have ht : t.lists[i]? = some (some w0):=by rw [List.getElem?_eq_getElem hlt,hti]
        obtain ⟨x,w1,g1,g2,⟨kk,j,g3,g4⟩,g5⟩:=HO i w0 ht
        have g1 : (s0.pick a0).list i=some w1:=by
          have:=iU (n:=0) g1
          rw [Nat.zero_add] at this
          exact this
        rw [g1] at hi'
        cases hi'
        refine ⟨w0,ht,g2,?_⟩
        have:=hrows i w0 kk j ht g3
        rw [g4,g5] at this
        exact this
    let c1 : aM:={ w:=c.w,Z:=fun x=>c.Z x∧(m.Z x∨m.w.heap.size≤x),s:={ box:=fun _=>none,list:=c.s.list},L:=fun _=>False,ρ:=c.ρ}
    have c1inv : iQ c1:={
      ub:=fun _ _ h=>by cases h
      ul:=fun l o h=>cinv.ul l o h
      zlt:=⟨fun r hr=>cinv.zlt r hr.1,sit.inv.zlt.glob.mono (fun r h=>⟨fw.zz r (.inl h),.inl h⟩) (fun r h=>fw.keep r (Nat.lt_of_lt_of_le (sit.inv.zlt r h) (Nat.le_refl _)) (own0 r))⟩
      box:=fun _ _ h=>by cases h
      row:=fun i o hi=>by
        have hi : c.s.list i=some o:=hi
        obtain ⟨g1,g2,g3⟩:=cinv.row i o hi
        obtain ⟨w0,_,_,hf⟩:=rowC i o hi
        exact ⟨g1,g2,g3.flat (.inl hf) (fun r hr hz=>g3.notZ r hr hz.1)⟩
      bz:=fun _ _ h=>by cases h
      bb:=fun _ _ _ _ h=>by cases h
      bl:=fun _ _ _ _ h=>by cases h
      ll:=fun l o l' o' r h h'=>cinv.ll l o l' o' r h h'
      Lz:=fun _ h=>h.elim
      Lb:=fun _ _ _ h=>h
      Ll:=fun _ _ _ _ _ h=>h}
    have c1own : ∀ r,c1.owned r→c.owned r:=by
      rintro r (⟨_,_,h,_⟩ | ⟨l,o,h,hr⟩ | h)
      · cases h
      · exact .inr (.inl ⟨l,o,h,hr⟩)
      · exact h.elim
    let S : Sx:={ box:=m.s.box
                  list:=fun x=>match rD s.nl t.lists.length x with | some i=>(fillO l t.lists).getD i none | none=>m.s.list x}
    have freshL : ∀ x,s.nl≤x→x<s.nl+t.lists.length→¬ m.ρ.ul x:=fun x h1 h2=>sit.fl x h1 (by omega)
    have cb0 : ∀ x,cJ [] s.nb 0 x=none:=fun x=>by
      unfold cJ
      simp only [idx]
      rw [if_neg (by omega)]
    have listC : ∀ i w,(fillO l t.lists)[i]? = some (some w)→c.s.list i=some w:=by
      intro i w hi
      obtain ⟨ts,hts⟩:=nK l hi
      obtain ⟨x',w2,g1,g2,_⟩:=HO i ts hts
      rw [hi] at g2
      cases g2
      have g1 : (s0.pick a0).list i=some w:=by
        have:=iU (n:=0) g1
        rw [Nat.zero_add] at this
        exact this
      rw [← hfull.list i] at g1
      exact g1
    have came : oM m c1 false [] [] [] s.nb 0 s.nl t.lists.length S:={
      kk:=fun _=>rfl
      kn:=List.nodup_nil
      ks:=by simp
      row:=fun i l0 h=>by simp at h
      inv:=sit.inv
      cinv:=c1inv
      nb:=List.nodup_nil
      ab:=by simp
      al:=by simp
      size:=fw.size
      os:=fw.os
      tape:=fw.tape
      output:=fw.output
      keep:=fun r hr _=>fw.keep r hr (own0 r)
      own:=fun r hr=>.inr ((fw.own r (c1own r hr)).resolve_left (own0 r))
      z:=fun r hr=>hr.2.imp id (fun h=>.inr h)
      zz:=fun r hr=>⟨fw.zz r (.inl hr),.inl hr⟩
      box:=fun i b h=>by simp at h
      freshB:=fun x h1 h2=>by omega
      freshL:=freshL
      sb:=fun x cs hx=>.inr ⟨cb0 x,cs,hx,(List.map_id _).symm⟩
      sbx:=fun x hx=>hx
      sl:=fun x o hx=>by
        have hx : (match rD s.nl t.lists.length x with | some i=>(fillO l t.lists).getD i none | none=>m.s.list x)=some o:=hx
        rw [xH]
        cases hcl : rD s.nl t.lists.length x with
        | none=>rw [hcl] at hx;exact .inr ⟨rfl,by simp,hx⟩
        | some i=>
          rw [hcl] at hx
          exact .inl ⟨i,rfl,listC i o (getD_some hx)⟩}
    have listL : ∀ x,look x (backO s.nl (fillO l t.lists) s.lists)=match rD s.nl t.lists.length x with | some i=>(fillO l t.lists).getD i none | none=>s.list x:=fun x=>by
      have:=aBD (x:=x) (cs:=fillO l t.lists) (n:=s.nl) (old:=s.lists)
      rw [nB] at this
      exact this
    have hres : c1.rd (fillD l t.res) v:=hflat.rd (fun _ h=>h) (hless c v hdv)
    refine ⟨m.back c1 [] [] s.nb 0 s.nl t.lists.length S,hw,?_,?_⟩
    · refine {
        step:=by have:=came.step sn1 (by omega) sn2 hnl;exact this
        after:=⟨fun x hx=>sit.ab x hx,fun x hx=>?_,fun _ _ _=>rfl,fun x h1 h2=>?_,fun _ _ _=>rfl,fun x h1 h2=>?_⟩
        nb:=Nat.le_refl _
        nl:=Nat.le_add_right _ _
        ub:=fun x hx hu=>hu.elim id (fun h=>by omega)
        ul:=fun x hx hu=>hu.elim id (fun h=>by have hx : s.nl+t.lists.length≤x:=hx;omega)}
      · show (match rD s.nl t.lists.length x with | some i=>(fillO l t.lists).getD i none | none=>m.s.list x)=look x (backO s.nl (fillO l t.lists) s.lists)
        rw [listL x]
        cases rD s.nl t.lists.length x with
        | some i=>rfl
        | none=>exact sit.al x hx
      · show (match rD s.nl t.lists.length x with | some i=>(fillO l t.lists).getD i none | none=>m.s.list x)=_
        rcases aBE s.nl t.lists.length x with ⟨i,g1,g2,g3⟩ | ⟨g1,_⟩
        · exact absurd ⟨by omega,by omega⟩ h2
        · rw [g1]
      · show look x (backO s.nl (fillO l t.lists) s.lists)=_
        rw [listL x]
        rcases aBE s.nl t.lists.length x with ⟨i,g1,g2,g3⟩ | ⟨g1,_⟩
        · exact absurd ⟨by omega,by omega⟩ h2
        · rw [g1]
    · refine bR.renum (ρ:=c1.ρ) (live:=c1.s.live) (fun b b' hu hbb=>by cases hbb) (fun l0 l' hu hll=>?_) deep hres
      unfold backFl at hll
      cases hll
      have hlt:=hul l0 hu
      rw [← lenL] at hlt
      have hcl : rD s.nl t.lists.length (s.nl+l0)=some l0:=by
        unfold rD
        rw [if_pos ⟨by omega,by omega⟩]
        congr 1
        omega
      refine ⟨.inr ⟨by omega,by omega⟩,fun hv=>⟨?_,?_,?_,?_⟩⟩
      · have hv : (match rD s.nl t.lists.length (s.nl+l0) with | some i=>(fillO l t.lists).getD i none | none=>m.s.list (s.nl+l0))≠none:=hv
        rw [hcl] at hv
        obtain ⟨w1,hw1⟩:=Option.ne_none_iff_exists'.1 hv
        have:=listC l0 w1 (getD_some hw1)
        show c.s.list l0≠none
        rw [this];simp
      · show (match cJ [] s.nl t.lists.length (s.nl+l0) with | some i=>c.ρ.hdr i | none=>_)=_
        rw [xH,hcl]
      · show (match cJ [] s.nl t.lists.length (s.nl+l0) with | some i=>c.ρ.ty i | none=>_)=_
        rw [xH,hcl]
      · show (match cJ [] s.nl t.lists.length (s.nl+l0) with | some i=>c.ρ.fp i | none=>_)=_
        rw [xH,hcl]
end
end Go.Proofs.Ythkofpnllaapeaa
namespace Go.Proofs.Ythkofpnllaapeaa
open Go
section
variable {P : Program} {X : Cx} {O : Orc}
theorem vJ : ∀ (ds : List DV) (ts : List Nat) (s : St) (k : List DV→St→Option R),ownArgs X ds ts s k=ownCells X ds (ts.map (elemOf X)) s k
  | [],ts,s,k=>by cases ts<;>rfl
  | d::ds,[],s,k=>rfl
  | d::ds,t::ts,s,k=>by
    unfold ownArgs ownCells
    simp only [List.map_cons]
    cases d<;>cases elemOf X t<;>simp only [vJ ds ts]
theorem aCI {f : Nat} (hP : yX P O.C) : ∀ ps r,O.C f ps=some r→gA P f∧∀ (w : World) (Z : Nat→Prop) (bD us : Array Value),ZOk w Z→ps.length=bD.size→
      (∀ (i : Nat) x v,ps[i]? = some x→bD[i]? = some v→dM w Z x v)→([] : List PV).length=us.size→(∀ (i : Nat) x v,([] : List PV)[i]? = some x→us[i]? = some v→dM w Z x v)→
      Calls P f (bD++us) w (fun e w'=>∃ v,e = .returned v∧∃ Z',aA1 w w' Z Z'∧dM w' Z' (hd r) v):=by
  intro ps r h
  obtain ⟨h1,h2⟩:=hP f ps r h
  refine ⟨h1,fun w Z bD us hz hl hr hu _=>?_⟩
  have : us = #[]:=Array.eq_empty_of_size_eq_zero hu.symm
  subst this
  rw [Array.append_empty]
  exact h2 w Z bD hz hl hr
theorem aBJ (kp : Bool) (kl : List Nat) (t : Nat) (e : Env) : (scrubKeptE kp kl e).get t=scrubKeptD kp kl (e.get t):=by
  unfold scrubKeptE scrubKeptD
  cases kp with
  | true=>exact qX kl t e
  | false=>rfl
theorem aEU (hP : yX P O.C) (hS : aBG P X.mode O.S) (hwf : ∀ g t,X.mode g=some t→t.wf=true) {f : Nat} {args : List DV} {ts : List Nat} {e : Env} {s : St} {k : DV→Env→St→Option R} {r : R} (h : callK X O f args ts e s k=some r) :
    gA P f∧∃ d' e' s' scr,k d' e' s'=some r∧(∀ t,e'.get t=scr (e.get t))∧((match X.mode f with | some t=>{ deepFoot s args (!t.lent) with last:=!t.lent&&t.keep} | none=>deepFoot s args false).last=false→scr=_root_.id)∧∀ (n : Nat) (m : aM) (B L WB WL : Nat→Prop),jT m s B L n→s'.nb≤n+16→s'.nl≤n+16→
      (∀ ft,ft=(match X.mode f with | some t=>{ deepFoot s args (!t.lent) with last:=!t.lent&&t.keep} | none=>deepFoot s args false)→ft.Cov B L WB WL∧(ft.ok=true∨∀ x,B x∧L x))→
      ∀ vs : Array Value,args.length=vs.size→(∀ (i : Nat) d v,args[i]? = some d→vs[i]? = some v→m.rd d v)→
        Calls P f vs m.w (fun e w'=>∃ v,e = .returned v∧∃ m',m'.w=w'∧aZ m m' s s' B L WB WL n scr∧m'.rd d' v):=by
  unfold callK at h
  split at h
  · rename_i hmode
    unfold pureK at h
    obtain ⟨hcb,d',hk,H⟩:=aEQ (caps:=[]) (k:=fun d s=>k d e s) (aCI hP) h
    refine ⟨hcb,d',e,s,_root_.id,hk,fun _=>rfl,fun _=>rfl,fun n m B L WB WL sit _ _ hft vs hl hr=>?_⟩
    obtain ⟨C,hok⟩:=hft _ rfl
    rw [hmode] at C hok
    have:=H n m B L WB WL sit (aDT sit C hok) vs #[] hl hr rfl (fun i x v h=>by simp at h)
    rwa [Array.append_empty] at this
  · rename_i t hmode
    split at h
    · rename_i hlent
      obtain ⟨hcb,d',s',hk,H⟩:=lentK_sound hS hmode (hwf f t hmode) h
      refine ⟨hcb,d',e,s',_root_.id,hk,fun _=>rfl,fun _=>rfl,fun n m B L WB WL sit hnb hnl hft vs hl hr=>?_⟩
      obtain ⟨C,hok⟩:=hft _ rfl
      rw [hmode] at C hok
      simp only [hlent,Bool.not_true,Bool.false_and] at C hok
      exact H n m B L WB WL sit hnb hnl (aDT sit C hok) vs hl hr
    · rename_i hlent
      have hlent : t.lent=false:=by simpa using hlent
      rw [vJ] at h
      obtain ⟨ds',s1,h1,hlen,hms,HM⟩:=gW h
      obtain ⟨hcb,d',s',kl,hk,hs1,H⟩:=aET hS hmode (hwf f t hmode) h1
      refine ⟨hcb,d',scrubKeptE t.keep kl e,s',scrubKeptD t.keep kl,hk,fun t'=>aBJ t.keep kl t' e,fun hla=>?_,fun n m B L WB WL sit hnb hnl hft vs hl hr=>?_⟩
      · rw [hmode] at hla
        simp only [hlent,Bool.not_false,Bool.true_and] at hla
        unfold scrubKeptD
        rw [hla];rfl
      obtain ⟨C,hok⟩:=hft _ rfl
      rw [hmode] at C hok
      simp only [hlent,Bool.not_false,Bool.true_and] at C hok
      obtain ⟨m1,M1,hr1⟩:=HM n m sit.inv sit.nl (by omega) sit.fl vs.toList (fun i d u h1 h2=>hr i d u h1 (by simpa using h2))
      have G1:=M1.goes WB WL sit hms (by omega)
      have sit1:=G1.sit sit
      have hwb : (deepFoot s args true).wb=(deepFoot s args true).rb:=rfl
      have hwl : (deepFoot s args true).wl=(deepFoot s args true).rl:=rfl
      have:=H n m1 B L WB WL sit1 hnb hnl sit.nl (fun b hb=>⟨C.rb b hb,C.wb b (by show b∈(deepFoot s args true).wb;rw [hwb];exact hb)⟩) (fun l hl=>⟨C.rl l hl,C.wl l (by show l∈(deepFoot s args true).wl;rw [hwl];exact hl)⟩) (fun hkp x=>⟨⟨(C.all hkp x).1,(C.all hkp x).2.2.1⟩,⟨(C.all hkp x).2.1,(C.all hkp x).2.2.2⟩⟩) vs (by omega) (fun i d v h1 h2=>hr1 i d v h1 (by simpa using h2))
      rw [M1.w] at this
      refine this.mono ?_
      rintro e w' ⟨v,rfl,m',hw,G,hd⟩
      exact ⟨v,rfl,m',hw,G1.trans G,hd⟩
theorem aFQ (hP : yX P O.C) (hS : aBG P X.mode O.S) (hwf : ∀ g t,X.mode g=some t→t.wf=true) : xC P X O:=by
  intro d args ts e s k r h
  unfold applyK at h
  split at h
  · rename_i f caps
    obtain ⟨hcb,d',e',s',scr,hk,he,hid,H⟩:=aEU hP hS hwf h
    have hfeq : callFoot X (.fn f caps) args s=(match X.mode f with | some t=>{ deepFoot s (args++caps) (!t.lent) with last:=!t.lent&&t.keep} | none=>deepFoot s (args++caps) false):=by
      unfold callFoot
      simp only
      cases X.mode f<;>rfl
    refine ⟨d',e',s',scr,hk,he,fun hla=>hid (by rw [← hfeq];exact hla),fun n m B L WB WL sit hnb hnl C hok vf vs hvf hl hr=>?_⟩
    cases hvf with
    | fn _ _ us hul hur=>
      have e1 : (do let df ← Deferred.ofValue (.func (.func f) #[] us.toArray) vs;invoke df.target df.args : Sem Next).run P m.w = .ok (.enter f (vs++us.toArray)) m.w:=by
        simp [Deferred.ofValue,invoke,xF hcb]
      rw [e1]
      refine (H n m B L WB WL sit hnb hnl (fun ft hft=>?_) (vs++us.toArray) (by simp;omega) (fun i d v hd hv=>?_))
      · rw [hfeq,← hft] at C hok
        exact ⟨C,hok⟩
      · rw [Array.getElem?_append] at hv
        split at hv
        · rename_i hi
          rw [List.getElem?_append_left (by omega)] at hd
          exact hr i d v hd hv
        · rename_i hi
          rw [List.getElem?_append_right (by omega)] at hd
          refine hur (i - args.length) d v hd ?_
          rw [hl]
          simpa using hv
  · rename_i v
    cases v with
    | fn f caps=>
      obtain ⟨hcb,d',hk,H⟩:=aEQ (P:=P) (f:=f) (C:=fun vs=>PV.apply O.C (.fn f caps) vs) (caps:=caps) (k:=fun d s=>k d e s) (fun ps r0 h0=>by
        have h0 : O.C f (ps++caps)=some r0:=h0
        obtain ⟨h1,h2⟩:=hP f _ _ h0
        refine ⟨h1,fun w Z bD us hz hl hr hul hur=>h2 w Z (bD++us) hz (by simp;omega) (fun i x v hx hv=>?_)⟩
        rw [Array.getElem?_append] at hv
        split at hv
        · rw [List.getElem?_append_left (by omega)] at hx
          exact hr i x v hx hv
        · rw [List.getElem?_append_right (by omega)] at hx
          exact hur (i - ps.length) x v hx (by rw [hl];exact hv)) h
      refine ⟨d',e,s,id,hk,fun _=>rfl,fun _=>rfl,fun n m B L WB WL sit hnb hnl C hok vf vs hvf hl hr=>?_⟩
      cases hvf with
      | p _ _ hvf=>cases hvf with
        | fn _ _ us hul hur=>
          have e1 : (do let df ← Deferred.ofValue (.func (.func f) #[] us.toArray) vs;invoke df.target df.args : Sem Next).run P m.w = .ok (.enter f (vs++us.toArray)) m.w:=by
            simp [Deferred.ofValue,invoke,xF hcb]
          rw [e1]
          exact H n m B L WB WL sit (aDT (ds:=args) (wr:=false) sit C hok) vs us.toArray hl hr (by simpa using hul) (fun i x v hx hv=>hur i x v hx (by simpa using hv))
    | _=>
      exfalso
      split at h<;>
      · obtain ⟨ps,h1,_⟩:=oW (s:=s) h
        obtain ⟨r0,hr0,_⟩:=aJ h1
        simp [PV.apply] at hr0
  · cases h
end
structure Hyp (P : Program) (T : Tab) (H : Hints) : Prop where
  tab : T=tabOf P
  zero : gK P H.zok
  mixed : P.follows .mixedOrders=true
  code : ∀ (f : Nat) (fn : Func) (c : Code),P.funcs[f]? = some fn→fn.body=some c→codeOk fn.ntmps c=true∧fn.name≠ "runtime.NumGoroutine"
  prim : yX P fun g args=>(H.prim g).bind fun p=>p args
  primS : ∀ g h,H.primS g=some h→∀ t args s l,H.mode g=some t→h args s=some l→gA P g∧∀ (m : aM) (bD : Array Value),dX m s s.base→args.length=bD.size→
    (∀ (i : Nat) d v,args[i]? = some d→bD[i]? = some v→m.rd d v)→Calls P g bD m.w (fun e w'=>∃ v,e = .returned v∧nJ m s.boxes.length (if t.keep then s.lists.length else 0) (some (t.fit s)) l v w')
  glob : ∀ g,H.glob g=none
  wf : ∀ g t,H.mode g=some t→t.wf=true
section
variable {P : Program} {T : Tab} {H : Hints}
theorem aBK : ∀ (ds : List DV) (n t : Nat),(argEnv n ds).get t=if n≤t then ds.getD (t - n) .dead else .dead
  | [],n,t=>by simp [argEnv,Env.get]
  | d::r,n,t=>by
    unfold argEnv
    simp only [Env.get]
    by_cases h : t=n
    · subst h;simp
    · have hb : Nat.beq t n=false:=by
        cases hb : Nat.beq t n with
        | false=>rfl
        | true=>exact absurd (aV hb) h
      rw [hb]
      simp only [Bool.false_eq_true,if_false]
      rw [aBK]
      by_cases h2 : n≤t
      · rw [if_pos h2,if_pos (by omega),show t - n=t - (n+1)+1 by omega]
        simp [List.getD]
      · rw [if_neg h2,if_neg (by omega)]
theorem aEV {m : aM} {args : List DV} {vs : Array Value} {n : Nat} (hl : args.length=vs.size) (hr : ∀ (i : Nat) d v,args[i]? = some d→vs[i]? = some v→m.rd d v) :
    eG m (argEnv 0 args).get ⟨vs++Array.replicate n undef,[]⟩:=by
  intro t
  rw [aBK,if_pos (Nat.zero_le _),Nat.sub_zero]
  by_cases h : t<args.length
  · have hd : args[t]? = some args[t]:=List.getElem?_eq_getElem h
    have hv : vs[t]? = some (vs[t]'(by omega)):=Array.getElem?_eq_getElem (by omega)
    have e1 : args.getD t .dead=args[t]:=by rw [List.getD,hd];rfl
    have e2 : Act.eval ⟨vs++Array.replicate n undef,[]⟩ (.tmp t)=vs[t]'(by omega):=by
      show (vs++Array.replicate n undef).getD t undef=_
      rw [Array.getD_eq_getD_getElem?,Array.getElem?_append_left (by omega),hv];rfl
    rw [e1,e2]
    exact hr t _ _ hd hv
  · have e1 : args.getD t .dead = .dead:=by rw [List.getD,List.getElem?_eq_none (by omega)];rfl
    rw [e1]
    exact .dead _
theorem uV {f : Nat} {fn : Func} {c : Code} (hfn : P.funcs[f]? = some fn) (hc : fn.body=some c) {nb nl : Nat} {out : Option Tmpl} {args : List DV} {s : St} {r : R} (hg : aIz P f nb nl out [.code c] (argEnv 0 args) s r)
    {m : aM} {vs : Array Value} (hf : dX m s s.base) (hl : args.length=vs.size) (hr : ∀ (i : Nat) d v,args[i]? = some d→vs[i]? = some v→m.rd d v) :
    Calls P f vs m.w (fun e w'=>∃ v,e = .returned v∧nJ m nb nl out r v w'):=by
  intro cs
  let b : Frame:={ (default : Frame) with fn:=f,kind:=.normal}
  have henter : Frame.enter P f vs .normal=b.at ⟨vs++Array.replicate (fn.ntmps - vs.size) undef,[]⟩ [.code c]:=by
    simp [Frame.enter,Frame.at,hfn,hc,b]
  obtain ⟨v,w',fr,h1,h2,h3,h4⟩:=hg m ⟨vs++Array.replicate (fn.ntmps - vs.size) undef,[]⟩ fn hfn hf (aEV hl hr) (by simp;omega) rfl b cs rfl rfl
  rw [← henter] at h2
  exact ⟨.returned v,w',fr,⟨v,rfl,h1⟩,h2,h3,h4⟩
theorem vK {f : Nat} {n nb nl : Nat} {out : Option Tmpl} {e : Env} {s : St} {r : R} (h : runN P T H n f nb nl out (startOf P f) e s=some r) : ∃ fn c,P.funcs[f]? = some fn∧fn.body=some c∧startOf P f = [.code c]:=by
  cases hb : bodyOf P f with
  | none=>
    exfalso
    cases n with
    | zero=>simp [runN] at h
    | succ n=>
      unfold runN at h
      have hs : startOf P f = [.code (.refuse "")]:=by unfold startOf;rw [hb]
      rw [hs] at h
      unfold evalFuel eval at h
      simp at h
  | some c=>
    have hs : startOf P f = [.code c]:=by unfold startOf;rw [hb]
    unfold bodyOf at hb
    cases hf : P.funcs[f]? with
    | none=>rw [hf] at hb;cases hb
    | some fn=>rw [hf] at hb;exact ⟨fn,c,rfl,hb,hs⟩
theorem aI6 (hy : Hyp P T H) {g : Nat} {fn : Func} {c : Code} (hg : P.funcs[g]? = some fn) (hc : fn.body=some c) : iN fn.ntmps [.code c]:=fun x hx=>by
  simp at hx;subst hx;exact (hy.code _ _ _ hg hc).1
def aGr (P : Program) (run : Nat→Nat→Nat→Option Tmpl→List Item→Env→St→Option R) : Prop:=∀ (f nb nl : Nat) (out : Option Tmpl) (todo : List Item) (e : Env) (s : St) (r : R) (fn : Func),run f nb nl out todo e s=some r→P.funcs[f]? = some fn→iN fn.ntmps todo→aIz P f nb nl out todo e s r
def aHS (P : Program) (run : Nat→Nat→Nat→Option Tmpl→List Item→Env→St→Option R) : Prop:=∀ {f nb nl : Nat} {out : Option Tmpl} {e : Env} {s : St} {r : R},run f nb nl out (startOf P f) e s=some r→∃ fn c,P.funcs[f]? = some fn∧fn.body=some c∧startOf P f = [.code c]
variable {run : Nat → Nat → Nat → Option Tmpl → List Item → Env → St → Option R}
theorem aEW (hy : Hyp P T H) (hrun : aGr P run) (hst : aHS P run) (f nb nl : Nat) (out : Option Tmpl) : yX P (orcOf P H run f nb nl out).C:=by
  intro g args r h
  have h : (match H.prim g with | some h=>h args | none=>run g 0 0 none (startOf P g) (argEnv 0 (args.map .p)) ⟨[],[],0,0,0⟩)=some r:=h
  cases hpr : H.prim g with
  | some p=>
    rw [hpr] at h
    exact hy.prim g args r (by simp only [hpr,Option.bind_some];exact h)
  | none=>
  rw [hpr] at h
  simp only at h
  obtain ⟨fg,c,hfg,hc,hst'⟩:=hst h
  rw [hst'] at h
  have good:=hrun g 0 0 none _ _ _ r fg h hfg (aI6 hy hfg hc)
  refine ⟨⟨fg,c,hfg,hc,(hy.code _ _ _ hfg hc).2⟩,fun w Z bD hz hl hr=>?_⟩
  let m0 : aM:={ w:=w,Z:=Z,s:={ box:=fun _=>none,list:=fun _=>none},L:=fun _=>False,
                 ρ:={ box:=fun _=>0,hdr:=fun _=>.nilFunc,fp:=fun _ _=>False,ty:=fun _=>.leaf,ub:=fun _=>False,ul:=fun _=>False}}
  have full0 : dX m0 ⟨[],[],0,0,0⟩ 0:={
    inv:={
      ub:=fun _ _ h=>by cases h
      ul:=fun _ _ h=>by cases h
      zlt:=hz
      box:=fun _ _ h=>by cases h
      row:=fun _ _ h=>by cases h
      bz:=fun _ _ h=>by cases h
      bb:=fun _ _ _ _ h=>by cases h
      bl:=fun _ _ _ _ h=>by cases h
      ll:=fun _ _ _ _ _ h=>by cases h
      Lz:=fun _ h=>h.elim
      Lb:=fun _ _ _ h=>h
      Ll:=fun _ _ _ _ _ h=>h}
    box:=fun _=>rfl
    list:=fun _=>rfl
    ub:=fun _ h=>h.elim
    ul:=fun _ h=>h.elim}
  have own0 : ∀ r,¬ m0.owned r:=by
    rintro r (⟨_,_,h,_⟩ | ⟨_,_,h,_⟩ | h)
    · cases h
    · cases h
    · exact h
  refine (uV hfg hc good (m:=m0) (vs:=bD) full0 (by simpa using hl) (fun i d v hd hv=>?_)).mono ?_
  · rw [List.getElem?_map] at hd
    cases hp : args[i]? with
    | none=>rw [hp] at hd;cases hd
    | some p=>rw [hp] at hd;cases hd;exact .p _ _ (hr i p v hp hv)
  · rintro e w' ⟨v,rfl,m',rfl,inv',fw,pv,rfl,hrep⟩
    refine ⟨v,rfl,fun x=>m'.Z x∨m'.owned x,⟨fw.size,fw.os,fw.tape,fw.output,fun r hr=>fw.keep r hr (own0 r),fun r hr=>.inl (fw.zz r hr),fun r hr=>?_⟩,hrep⟩
    rcases hr with hr | hr
    · rcases fw.z r hr with h | h | h
      · exact .inl h
      · exact (own0 r h).elim
      · exact .inr ⟨h,inv'.zlt r hr⟩
    · exact .inr ⟨(fw.own r hr).resolve_left (own0 r),inv'.owned_lt hr⟩
theorem aHT (hy : Hyp P T H) (hrun : aGr P run) (hst : aHS P run) (f nb nl : Nat) (out : Option Tmpl) : aBG P H.mode (orcOf P H run f nb nl out).S:=by
  intro g t args s l hmode h
  have h : (match H.mode g with | some t=>(match H.primS g with | some h=>h args s | none=>run g s.boxes.length (if t.keep then s.lists.length else 0) (some (t.fit s)) (startOf P g) (argEnv 0 args) s) | none=>none)=some l:=h
  rw [hmode] at h
  simp only at h
  cases hps : H.primS g with
  | some p=>
    rw [hps] at h
    exact hy.primS g p hps t args s l hmode h
  | none=>
  rw [hps] at h
  simp only at h
  obtain ⟨fg,c,hfg,hc,hst'⟩:=hst h
  rw [hst'] at h
  have good:=hrun g s.boxes.length (if t.keep then s.lists.length else 0) (some (t.fit s)) _ _ _ l fg h hfg (aI6 hy hfg hc)
  exact ⟨⟨fg,c,hfg,hc,(hy.code _ _ _ hfg hc).2⟩,fun m bD hf hl hr=>uV hfg hc good hf hl hr⟩
theorem aDf (hy : Hyp P T H) : ∀ (n : Nat),aGr P (runN P T H n)
  | 0,_,_,_,_,_,_,_,_,_,h,_,_=>by simp [runN] at h
  | n+1,f,nb,nl,out,todo,e,s,r,fn,h,hfn,hok=>by
    unfold runN at h
    have ih:=aDf hy n
    have hP:=aEW hy ih vK f nb nl out
    have hS:=aHT hy ih vK f nb nl out
    refine aBB (X:=cxOf P T H f nb nl out) (O:=orcOf P H (runN P T H n) f nb nl out) hy.tab hy.zero hy.glob (aFQ hP hS hy.wf) hy.mixed hfn ?_ (fun todo e s r h hk=>ih f nb nl out todo e s r fn h hfn hk) evalFuel true todo e s r h hok
    show ((P.funcs[f]?).map (·.results.toList)).getD []=_
    rw [hfn];rfl
end
end Go.Proofs.Ythkofpnllaapeaa
namespace Go.Proofs.Ythkofpnllaapeaa
open Go
def aG {β : Type} (a : Option β) (b : Nat→Option β) : Prop:=∀ r,a=some r→∃ N,∀ n,N≤n→b n=some r
section
variable {α β : Type}
theorem aG.none {b : Nat→Option β} : aG (Option.none : Option β) b:=fun r h=>by cases h
theorem aG.rfl (a : Option β) : aG a (fun _=>a):=fun r h=>⟨0,fun _ _=>h⟩
theorem aG.bd {o : Option α} {k : α→Option β} {k' : Nat→α→Option β} (h : ∀ a,aG (k a) (fun n=>k' n a)) : aG (bd o k) (fun n=>bd o (k' n)):=by
  cases o with
  | none=>exact aG.none
  | some a=>exact h a
theorem aG.bd2 {o : Option α} {o' : Nat→Option α} {k : α→Option β} {k' : Nat→α→Option β} (ho : aG o o') (h : ∀ a,aG (k a) (fun n=>k' n a)) : aG (Go.Proofs.Ythkofpnllaapeaa.bd o k) (fun n=>Go.Proofs.Ythkofpnllaapeaa.bd (o' n) (k' n)):=by
  intro r hr
  obtain ⟨a,ha,hk⟩:=aJ hr
  obtain ⟨N,hN⟩:=ho a ha
  obtain ⟨M,hM⟩:=h a r hk
  refine ⟨max N M,fun n hn=>?_⟩
  show Go.Proofs.Ythkofpnllaapeaa.bd (o' n) (k' n)=some r
  rw [hN n (by omega)]
  exact hM n (by omega)
theorem aG.pvite {c : PV} {a b : Option β} {a' b' : Nat→Option β} (ha : aG a a') (hb : aG b b') : aG (PV.ite c a b) (fun n=>PV.ite c (a' n) (b' n)):=by
  intro r hr
  rcases qI hr with ⟨rfl,h⟩ | ⟨rfl,h⟩
  · obtain ⟨N,hN⟩:=ha r h
    exact ⟨N,fun n hn=>hN n hn⟩
  · obtain ⟨N,hN⟩:=hb r h
    exact ⟨N,fun n hn=>hN n hn⟩
theorem aG.nilT {c : PV} {a b : Option β} {a' b' : Nat→Option β} (ha : aG a a') (hb : aG b b') : aG (PV.nilT c a b) (fun n=>PV.nilT c (a' n) (b' n)):=by
  intro r hr
  obtain ⟨h1,h2⟩:=aDc hr
  obtain ⟨M,hM⟩:=hb r h2
  cases c with
  | lst xs=>
    cases xs with
    | nil=>
      obtain ⟨N,hN⟩:=ha r (h1 (Eq.refl _))
      refine ⟨max N M,fun n hn=>?_⟩
      show @_root_.ite _ (a' n=b' n) (Classical.propDecidable _) (a' n) Option.none=some r
      rw [hN n (by omega),hM n (by omega),if_pos (Eq.refl _)]
    | cons x xs=>exact ⟨M,fun n hn=>hM n hn⟩
  | _=>cases hr
theorem aG.ite {c : Prop} [Decidable c] {a b : Option β} {a' b' : Nat→Option β} (ha : aG a a') (hb : aG b b') : aG (if c then a else b) (fun n=>if c then a' n else b' n):=by
  by_cases h : c
  · simp only [h,if_true];exact ha
  · simp only [h,if_false];exact hb
theorem aG.flat {r : PV} {a : Option β} {a' : Nat→Option β} (ha : aG a a') : aG (PV.guardFlat r a) (fun n=>PV.guardFlat r (a' n)):=by
  unfold PV.guardFlat;exact aG.ite ha aG.none
theorem aG.own {o : OTy} {r : PV} {a : Option β} {a' : Nat→Option β} (ha : aG a a') : aG (PV.guardOwn o r a) (fun n=>PV.guardOwn o r (a' n)):=by
  unfold PV.guardOwn;exact aG.ite ha aG.none
end
section
variable {X : Cx}
theorem xJ {v : PV} : ∀ {m : Nat} {k : List PV→Option R} {k' : Nat→List PV→Option R},(∀ l,aG (k l) (fun n=>k' n l))→aG (cellsK.go v m k) (fun n=>cellsK.go v m (k' n))
  | 0,_,_,h=>h []
  | _+1,_,_,h=>by
    unfold cellsK.go
    exact xJ fun l=>aG.bd fun c=>h _
theorem jN {m : Nat} {d : DV} {k : List DV→Option R} {k' : Nat→List DV→Option R} (h : ∀ l,aG (k l) (fun n=>k' n l)) : aG (cellsK m d k) (fun n=>cellsK m d (k' n)):=by
  cases d<;>simp only [cellsK]<;>first
    | exact aG.none
    | exact aG.ite (h _) aG.none
    | exact aG.bd fun v=>xJ fun l=>h _
theorem gI : ∀ {path : cQ} {o : OTy} {c : PV} {k : OTy→PV→Option R} {k' : Nat→OTy→PV→Option R},(∀ o c,aG (k o c) (fun n=>k' n o c))→aG (getK o c path k) (fun n=>getK o c path (k' n))
  | [],_,_,_,_,h=>h _ _
  | (i,j)::r,o,c,k,k',h=>by
    unfold getK
    exact aG.bd fun x=>aG.ite (aG.bd fun y=>gI h) (aG.ite (gI h) aG.none)
theorem qN : ∀ {path : cQ} {o : OTy} {c y : PV} {k : PV→Option R} {k' : Nat→PV→Option R},(∀ c,aG (k c) (fun n=>k' n c))→aG (setK o c path y k) (fun n=>setK o c path y (k' n))
  | [],_,_,_,_,_,h=>h _
  | (i,j)::r,o,c,y,k,k',h=>by
    unfold setK
    exact aG.bd fun x=>aG.ite (aG.bd fun z=>qN fun z'=>aG.bd h) (aG.ite (qN fun z'=>aG.bd h) aG.none)
theorem nC {s : St} {d : DV} {k : OTy→PV→Option R} {k' : Nat→OTy→PV→Option R} (h : ∀ o c,aG (k o c) (fun n=>k' n o c)) : aG (rowK s d k) (fun n=>rowK s d (k' n)):=by
  cases d<;>simp only [rowK]<;>try exact aG.none
  · rename_i l path
    cases s.list l with
    | none=>exact aG.none
    | some w=>exact gI h
  · rename_i l path lo hi
    cases s.list l with
    | none=>exact aG.none
    | some w=>exact gI fun o c=>aG.bd fun c=>h _ _
theorem yZ {α β : Type} {f : α→(β→Option R)→Option R} (hf : ∀ a k (k' : Nat→β→Option R),(∀ b,aG (k b) (fun n=>k' n b))→aG (f a k) (fun n=>f a (k' n))) :
    ∀ {l : List α} {k : List β→Option R} {k' : Nat→List β→Option R},(∀ b,aG (k b) (fun n=>k' n b))→aG (mapK f l k) (fun n=>mapK f l (k' n))
  | [],_,_,h=>h _
  | d::r,k,k',h=>by
    unfold mapK
    exact hf _ _ _ fun v=>yZ hf fun vs=>h _
theorem vL {s : St} : ∀ {m : Nat} {d : DV} {k : PV→Option R} {k' : Nat→PV→Option R},(∀ v,aG (k v) (fun n=>k' n v))→aG (snapK s m d k) (fun n=>snapK s m d (k' n))
  | 0,_,_,_,_=>by simp only [snapK];exact aG.none
  | m+1,d,k,k',h=>by
    have mp:=fun {ds : List DV} {k : List PV→Option R} {k' : Nat→List PV→Option R} (h : ∀ v,aG (k v) (fun n=>k' n v))=>yZ (f:=snapK s m) (fun a k k' h=>vL h) (l:=ds) h
    cases d<;>simp only [snapK]<;>first
      | exact aG.none
      | exact h _
      | exact mp fun vs=>h _
      | exact nC fun _ c=>h _
      | skip
    · rename_i b off
      cases off with
      | zero=>
        cases s.box b with
        | none=>exact aG.none
        | some cs=>exact mp fun vs=>h _
      | succ n=>exact aG.none
    · rename_i b n
      cases s.box b with
      | none=>exact aG.none
      | some cs=>exact aG.ite (mp fun vs=>aG.bd fun c=>h _) aG.none
theorem nL {s : St} {m : Nat} {ds : List DV} {k : List PV→Option R} {k' : Nat→List PV→Option R} (h : ∀ v,aG (k v) (fun n=>k' n v)) : aG (snapL s m ds k) (fun n=>snapL s m ds (k' n)):=by
  unfold snapL
  exact yZ (f:=snapK s m) (fun a k k' h=>vL h) h
theorem aFR {s : St} {d : DV} {k : PV→St→Option R} {k' : Nat→PV→St→Option R} (h : ∀ v s,aG (k v s) (fun n=>k' n v s)) : aG (sinkK s d k) (fun n=>sinkK s d (k' n)):=by
  unfold sinkK
  cases bsOf deep d with
  | nil=>exact vL fun v=>h _ _
  | cons=>exact aG.none
theorem oX {ct : OTy} {s : St} {d : DV} {k : PV→St→Option R} {k' : Nat→PV→St→Option R} (h : ∀ v s,aG (k v s) (fun n=>k' n v s)) : aG (sinkAs ct s d k) (fun n=>sinkAs ct s d (k' n)):=by
  cases ct with
  | leaf=>exact aFR h
  | own a b c e=>
    cases d<;>simp only [sinkAs]<;>first
      | exact aG.none
      | exact h _ _
      | skip
    · rename_i l path
      cases path with
      | nil=>
        dsimp only
        cases s.list l with
        | none=>exact aG.none
        | some w=>exact aG.ite (h _ _) aG.none
      | cons=>exact aG.none
    · rename_i l path lo hi
      cases path with
      | nil=>
        dsimp only
        cases s.list l with
        | none=>exact aG.none
        | some w=>exact aG.ite (aG.bd fun c=>h _ _) aG.none
      | cons=>exact aG.none
theorem nM {o : OTy} : ∀ {ds : List DV} {s : St} {j : Nat} {k : List PV→St→Option R} {k' : Nat→List PV→St→Option R},(∀ v s,aG (k v s) (fun n=>k' n v s))→aG (sinkCells o s j ds k) (fun n=>sinkCells o s j ds (k' n))
  | [],_,_,_,_,h=>h _ _
  | d::r,s,j,k,k',h=>by
    unfold sinkCells
    exact oX fun v s=>nM fun vs s=>h _ _
theorem aBL {o : OTy} {s : St} {d : DV} {k : PV→St→Option R} {k' : Nat→PV→St→Option R} (h : ∀ v s,aG (k v s) (fun n=>k' n v s)) : aG (elemK o s d k) (fun n=>elemK o s d (k' n)):=by
  unfold elemK
  cases o.g with
  | true=>
    cases d<;>simp only [if_true]<;>first
      | exact aG.none
      | exact aG.ite (h _ _) aG.none
      | exact aG.ite (nM fun vs s=>h _ _) aG.none
  | false=>
    cases d<;>simp only [Bool.false_eq_true,if_false]<;>first
      | exact aG.none
      | exact oX h
theorem gJ : ∀ {ds : List DV} {ts : List (Option Nat)} {s : St} {k : List DV→St→Option R} {k' : Nat→List DV→St→Option R},(∀ v s,aG (k v s) (fun n=>k' n v s))→aG (ownCells X ds ts s k) (fun n=>ownCells X ds ts s (k' n))
  | [],ts,s,k,k',h=>by cases ts<;>exact h _ _
  | d::ds,[],s,k,k',h=>h _ _
  | d::ds,t::ts,s,k,k',h=>by
    unfold ownCells
    cases d<;>cases t<;>exact gJ fun vs s=>h _ _
theorem sV {l : Nat} {path : cQ} {i : PV} {o : OTy} {x : PV} : ∀ {m off : Nat} {k : List DV→Option R} {k' : Nat→List DV→Option R},(∀ v,aG (k v) (fun n=>k' n v))→aG (cellsE l path i o x m off k) (fun n=>cellsE l path i o x m off (k' n))
  | 0,_,_,_,h=>h _
  | m+1,off,k,k',h=>by
    unfold cellsE
    exact aG.ite (aG.bd fun y=>sV fun ds=>h _) (sV fun ds=>h _)
theorem aBM {x : PV} {s : Nat} {g : Bool} {off : Nat} {r : TyR} {k : DV→Option R} {k' : Nat→DV→Option R} (h : ∀ v,aG (k v) (fun n=>k' n v)) : aG (partK x s g off r k) (fun n=>partK x s g off r (k' n)):=by
  unfold partK
  exact aG.ite (aG.ite (h _) (aG.bd fun y=>h _)) (aG.ite (aG.bd fun y=>h _) (aG.ite (h _) aG.none))
theorem aAs {c : PV} : ∀ {m off : Nat} {k : List PV→Option R} {k' : Nat→List PV→Option R},(∀ v,aG (k v) (fun n=>k' n v))→aG (loadK.cellsB c m off k) (fun n=>loadK.cellsB c m off (k' n))
  | 0,_,_,_,h=>h _
  | m+1,off,k,k',h=>by
    unfold loadK.cellsB
    exact aG.bd fun v=>aAs fun l=>h _
theorem aFS {t : Nat} {a : DV} {s : St} {k : DV→Option R} {k' : Nat→DV→Option R} (h : ∀ v,aG (k v) (fun n=>k' n v)) : aG (loadK X t a s k) (fun n=>loadK X t a s (k' n)):=by
  unfold loadK
  refine aG.ite aG.none ?_
  cases a<;>(try simp only)<;>first
    | exact aG.none
    | exact aG.ite (aAs fun l=>h _) (aG.bd fun y=>h _)
    | exact aBM h
    | skip
  · rename_i b off
    cases s.box b with
    | none=>exact aG.none
    | some cs=>
      refine aG.ite (aG.ite (h _) aG.none) ?_
      cases cs[off]? with
      | none=>exact aG.none
      | some d=>exact h _
  · rename_i l path i off
    cases s.list l with
    | none=>exact aG.none
    | some w=>
      exact gI fun o c=>aG.bd fun x=>aG.ite (aBM h) (aG.ite (aG.ite (sV fun ds=>h _) aG.none)
        (aG.ite (aG.ite (aG.bd fun y=>h _) (aG.ite (h _) aG.none)) (aG.ite (h _) aG.none)))
theorem tV {d : DV} {k : DV→Option R} {k' : Nat→DV→Option R} (h : ∀ v,aG (k v) (fun n=>k' n v)) : aG (oneK d k) (fun n=>oneK d (k' n)):=by
  cases d<;>simp only [oneK]<;>first
    | exact aG.none
    | exact h _
    | exact aG.bd fun x=>h _
theorem aEX {t b off : Nat} {v : DV} {s : St} {k : St→Option R} {k' : Nat→St→Option R} (h : ∀ v,aG (k v) (fun n=>k' n v)) : aG (storeB X t b off v s k) (fun n=>storeB X t b off v s (k' n)):=by
  unfold storeB
  simp only
  cases s.box b with
  | none=>exact aG.none
  | some cs=>
    refine aG.ite (aG.ite (jN fun vs=>gJ fun vs s=>h _) (aG.ite (tV fun v=>?_) aG.none)) aG.none
    cases v<;>(try simp only)<;>first
      | exact h _
      | skip
    · cases elemOf X t with
      | none=>exact aG.none
      | some u=>exact h _
    · rename_i l path lo hi
      cases path with
      | cons=>exact h _
      | nil=>
        cases cs[off]? with
        | none=>exact h _
        | some d=>
          cases d<;>(try simp only)<;>first
            | exact h _
            | skip
          rename_i l' path'
          cases path' with
          | cons=>exact h _
          | nil=>
            refine aG.ite ?_ (h _)
            cases s.list l with
            | none=>exact aG.none
            | some w=>exact aG.bd fun c=>h _
theorem aAt {m : Nat} {c i : PV} : ∀ {ys : List PV} {c : PV} {off : Nat} {k : PV→Option R} {k' : Nat→PV→Option R},(∀ v,aG (k v) (fun n=>k' n v))→aG (storeK.setAll m c i off ys k) (fun n=>storeK.setAll m c i off ys (k' n))
  | [],_,_,_,_,h=>h _
  | y::ys,c,off,k,k',h=>by
    unfold storeK.setAll
    exact aG.bd fun c=>aAt (c:=c) h
theorem aEY {e : Env} {l : Nat} {path : cQ} {w : Own} {c : PV} {s : St} {k : Env→St→Option R} {k' : Nat→Env→St→Option R} (h : ∀ e s,aG (k e s) (fun n=>k' n e s)) : aG (storeK.fin e k l path w c s) (fun n=>storeK.fin e (k' n) l path w c s):=by
  unfold storeK.fin
  refine qN fun c'=>?_
  unfold touchK
  exact aG.ite (h _ _) (h _ _)
theorem aBN {e : Env} {o : OTy} {ds : List DV} {off l : Nat} {path : cQ} {i : PV} {s : St} {k : Env→St→Option R} {k' : Nat→Env→St→Option R} (h : ∀ e s,aG (k e s) (fun n=>k' n e s)) : aG (storeK.setIn e k o ds off l path i s) (fun n=>storeK.setIn e (k' n) o ds off l path i s):=by
  unfold storeK.setIn
  refine nM fun ys s=>?_
  cases s.list l with
  | none=>exact aG.none
  | some w=>exact gI fun o c=>aAt (c:=c) fun c=>aEY h
theorem aAu {t : Nat} {a v : DV} {e : Env} {s : St} {k : Env→St→Option R} {k' : Nat→Env→St→Option R} (h : ∀ e s,aG (k e s) (fun n=>k' n e s)) : aG (storeK X t a v e s k) (fun n=>storeK X t a v e s (k' n)):=by
  unfold storeK
  refine aG.ite aG.none ?_
  cases a<;>(try simp only)<;>first
    | exact aG.none
    | exact aEX fun s=>h _ _
    | skip
  rename_i l path i off
  cases s.list l with
  | none=>exact aG.none
  | some w=>
    refine gI fun o c=>aG.ite (aBL fun x s=>?_) (aG.ite (jN fun ds=>aBN h) (aG.ite (tV fun v=>aBN h) aG.none))
    cases s.list l with
    | none=>exact aG.none
    | some w=>exact gI fun o c=>aG.bd fun c=>aEY h
theorem sW {fs : List (Nat × Nat)} : ∀ {ps : List (Nat × DV)} {cs : List DV} {k : List DV→Option R} {k' : Nat→List DV→Option R},(∀ v,aG (k v) (fun n=>k' n v))→aG (buildK X fs ps cs k) (fun n=>buildK X fs ps cs (k' n))
  | [],_,_,_,h=>h _
  | (i,v)::r,cs,k,k',h=>by
    unfold buildK
    cases fs[i]? with
    | none=>exact aG.none
    | some p=>exact aG.ite (aG.ite (jN fun vs=>sW h) (aG.ite (tV fun v=>sW h) aG.none)) aG.none
theorem aAv {o : OTy} : ∀ {ds : List DV} {s : St} {k : List PV→St→Option R} {k' : Nat→List PV→St→Option R},(∀ v s,aG (k v s) (fun n=>k' n v s))→aG (elemsK o s ds k) (fun n=>elemsK o s ds (k' n))
  | [],_,_,_,h=>h _ _
  | d::r,s,k,k',h=>by
    unfold elemsK
    exact aBL fun v s=>aAv fun vs s=>h _ _
theorem rE {dst : Option Nat} {t : Nat} {d : DV} {e : Env} {s : St} {k : DV→St→Option R} {k' : Nat→DV→St→Option R} (h : ∀ v s,aG (k v s) (fun n=>k' n v s)) : aG (moveK X dst t d e s k) (fun n=>moveK X dst t d e s (k' n)):=by
  cases d<;>simp only [moveK]<;>first
    | exact aG.none
    | exact h _ _
    | skip
  · cases elemOf X t with
    | none=>exact h _ _
    | some u=>exact h _ _
  · rename_i l path lo hi
    cases path with
    | cons=>exact h _ _
    | nil=>
      cases dst with
      | none=>exact h _ _
      | some t=>
        dsimp only
        generalize e.get t=d0
        cases d0<;>(try simp only)<;>first
          | exact h _ _
          | skip
        rename_i l' path'
        cases path' with
        | cons=>exact h _ _
        | nil=>
          refine aG.ite ?_ (h _ _)
          cases s.list l with
          | none=>exact aG.none
          | some w=>exact aG.bd fun c=>h _ _
theorem aFT {c a b : DV} {e : Env} {s : St} {k : DV→St→Option R} {k' : Nat→DV→St→Option R} (h : ∀ v s,aG (k v s) (fun n=>k' n v s)) : aG (pickK X c a b e s k) (fun n=>pickK X c a b e s (k' n)):=by
  cases c<;>simp only [pickK]<;>first
    | exact aG.none
    | exact aG.pvite (rE h) (rE h)
theorem aEZ {t : Nat} {s : St} {k : DV→St→Option R} {k' : Nat→DV→St→Option R} (h : ∀ v s,aG (k v s) (fun n=>k' n v s)) : aG (allocK X t s k) (fun n=>allocK X t s (k' n)):=by
  unfold allocK
  exact aG.ite (gJ fun cs s=>h _ _) aG.none
theorem aG3 {t : Nat} {x : DV} {s : St} {k : DV→St→Option R} {k' : Nat→DV→St→Option R} (h : ∀ v s,aG (k v s) (fun n=>k' n v s)) : aG (boxK X t x s k) (fun n=>boxK X t x s (k' n)):=by
  unfold boxK
  exact aG.ite (jN fun cs=>gJ fun cs s=>h _ _) (tV fun d=>gJ fun cs s=>h _ _)
theorem aDW {t : Nat} {ps : List (Nat × DV)} {k : DV→Option R} {k' : Nat→DV→Option R} (h : ∀ v,aG (k v) (fun n=>k' n v)) : aG (buildTK X t ps k) (fun n=>buildTK X t ps (k' n)):=by
  unfold buildTK
  cases (X.T.at t).d<;>(try simp only)<;>first
    | exact aG.none
    | exact aG.ite (sW fun cs=>h _) aG.none
theorem zA {t m : Nat} {ps : List (Nat × DV)} {s : St} {k : DV→St→Option R} {k' : Nat→DV→St→Option R} (h : ∀ v s,aG (k v s) (fun n=>k' n v s)) : aG (buildSliceK X t m ps s k) (fun n=>buildSliceK X t m ps s (k' n)):=by
  unfold buildSliceK lendK
  cases elemOf X t with
  | none=>exact aG.none
  | some u=>exact aG.ite (aG.ite (h _ _) aG.none) (aG.ite (aAv fun vs s=>aG.bd fun c=>h _ _) aG.none)
theorem aAI {t : Nat} {l c : DV} {s : St} {k : DV→St→Option R} {k' : Nat→DV→St→Option R} (h : ∀ v s,aG (k v s) (fun n=>k' n v s)) : aG (makeSliceK X t l c s k) (fun n=>makeSliceK X t l c s (k' n)):=by
  unfold makeSliceK
  cases elemOf X t with
  | none=>exact aG.none
  | some u=>
    cases l<;>cases c<;>(try simp only)<;>first
      | exact aG.none
      | exact aG.ite (aG.bd fun _=>aG.bd fun y=>aG.pvite (aG.bd fun c=>h _ _) aG.none) aG.none
theorem aBO {x : DV} {s : St} {k : DV→Option R} {k' : Nat→DV→Option R} (h : ∀ v,aG (k v) (fun n=>k' n v)) : aG (nilCheckK x s k) (fun n=>nilCheckK x s (k' n)):=by
  cases x<;>simp only [nilCheckK]<;>first
    | exact aG.none
    | exact h _
    | exact aG.bd fun v=>h _
    | skip
  rename_i l path i off
  cases s.list l with
  | none=>exact aG.none
  | some w=>exact h _
theorem aFU {op : UnOp} {x : DV} {k : DV→Option R} {k' : Nat→DV→Option R} (h : ∀ v,aG (k v) (fun n=>k' n v)) : aG (unOpK op x k) (fun n=>unOpK op x (k' n)):=by
  cases op<;>cases x<;>simp only [unOpK]<;>first
    | exact aG.none
    | exact aG.bd fun v=>h _
theorem aE0 {t : Nat} {x i : DV} {k : DV→Option R} {k' : Nat→DV→Option R} (h : ∀ v,aG (k v) (fun n=>k' n v)) : aG (indexK X t x i k) (fun n=>indexK X t x i (k' n)):=by
  unfold indexK
  cases (X.T.at t).d<;>cases x<;>cases i<;>(try simp only)<;>first
    | exact aG.none
    | exact aG.bd fun v=>h _
    | skip
  refine aG.ite ?_ aG.none
  split
  · exact aG.bd fun v=>h _
  · exact aG.none
theorem aBP {d : DV} {k : DV→Option R} {k' : Nat→DV→Option R} (h : ∀ v,aG (k v) (fun n=>k' n v)) : aG (soK d k) (fun n=>soK d (k' n)):=by
  cases d<;>simp only [soK]<;>first
    | exact aG.bd fun v=>h _
    | exact h _
theorem aCJ {x : DV} {i : Nat} {k : DV→Option R} {k' : Nat→DV→Option R} (h : ∀ v,aG (k v) (fun n=>k' n v)) : aG (extractK x i k) (fun n=>extractK x i (k' n)):=by
  cases x<;>simp only [extractK]<;>first
    | exact aG.none
    | exact aG.bd fun v=>h _
    | skip
  rename_i cs
  cases cs[i]? with
  | none=>exact aG.none
  | some d=>exact h _
theorem aE1 {t f : Nat} {x : DV} {k : DV→Option R} {k' : Nat→DV→Option R} (h : ∀ v,aG (k v) (fun n=>k' n v)) : aG (fieldK X t x f k) (fun n=>fieldK X t x f (k' n)):=by
  unfold fieldK
  cases (X.T.at t).d<;>(try simp only)<;>first
    | exact aG.none
    | skip
  rename_i fs
  cases fs[f]? with
  | none=>exact aG.none
  | some p=>
    refine aG.ite aG.none ?_
    cases x<;>(try simp only)<;>first
      | exact aG.none
      | exact aG.ite (aG.bd fun y=>h _) (aG.bd fun y=>h _)
      | skip
    rename_i cs
    refine aG.ite (aG.ite (h _) aG.none) ?_
    cases cs[p.1]? with
    | none=>exact aG.none
    | some d=>exact h _
theorem aAJ {t f : Nat} {x : DV} {s : St} {k : DV→Option R} {k' : Nat→DV→Option R} (h : ∀ v,aG (k v) (fun n=>k' n v)) : aG (fieldAddrK X t x f s k) (fun n=>fieldAddrK X t x f s (k' n)):=by
  unfold fieldAddrK
  cases (X.T.at t).d<;>(try simp only)<;>first
    | exact aG.none
    | skip
  rename_i fs
  cases fs[f]? with
  | none=>exact aG.none
  | some p=>
    refine aG.ite aG.none ?_
    cases x<;>(try simp only)<;>first
      | exact aG.none
      | exact h _
      | exact aG.bd fun y=>h _
      | skip
    rename_i l path i off
    cases s.list l with
    | none=>exact aG.none
    | some w=>exact h _
theorem aAK {t : Nat} {x i : DV} {s : St} {k : DV→Option R} {k' : Nat→DV→Option R} (h : ∀ v,aG (k v) (fun n=>k' n v)) : aG (indexAddrK X t x i s k) (fun n=>indexAddrK X t x i s (k' n)):=by
  unfold indexAddrK
  cases (X.T.at t).d<;>cases i<;>(try simp only)<;>first
    | exact aG.none
    | skip
  · refine aG.ite aG.none ?_
    cases x<;>(try simp only)<;>first
      | exact aG.none
      | exact aG.bd fun y=>h _
      | exact nC fun o c=>aG.ite (aG.bd fun _=>h _) aG.none
      | exact nC fun o c=>aG.ite (aG.bd fun _=>aG.bd fun j=>h _) aG.none
  · rename_i i
    refine aG.ite aG.none ?_
    cases x<;>cases i<;>(try simp only)<;>first
      | exact aG.none
      | exact aG.ite (h _) aG.none
      | exact aG.ite (aG.bd fun v=>h _) aG.none
theorem aDX {t : Nat} {x : DV} {lo hi : Option DV} {mx : DV} {s : St} {k : DV→St→Option R} {k' : Nat→DV→St→Option R} (h : ∀ v s,aG (k v s) (fun n=>k' n v s)) : aG (noRoomK X t x lo hi mx s k) (fun n=>noRoomK X t x lo hi mx s (k' n)):=by
  unfold noRoomK
  cases elemOf X t with
  | none=>exact aG.none
  | some u=>
    cases x<;>cases lo<;>(try exact aG.none)
    cases hi with
    | none=>exact aG.none
    | some d=>
      cases d<;>cases mx<;>first
        | exact aG.none
        | exact aG.ite (aG.bd fun _=>h _ _) aG.none
theorem aE2 {t : Nat} {x : DV} {lo hi : Option DV} {s : St} {k : DV→Option R} {k' : Nat→DV→Option R} (h : ∀ v,aG (k v) (fun n=>k' n v)) : aG (sliceK X t x lo hi s k) (fun n=>sliceK X t x lo hi s (k' n)):=by
  unfold sliceK
  cases sliceK.lowOf lo with
  | none=>exact aG.none
  | some l=>
    cases (X.T.at t).d<;>(try simp only)<;>first
      | exact aG.none
      | skip
    · cases x<;>(try simp only)<;>first
        | exact aG.none
        | skip
      cases hi with
      | none=>exact aG.bd fun _=>aG.bd fun y=>h _
      | some d=>
        cases d<;>(try simp only)<;>first
          | exact aG.none
          | exact aG.bd fun y=>h _
    · refine aG.ite aG.none ?_
      cases x<;>(try simp only)<;>first
        | exact aG.none
        | skip
      · cases hi with
        | none=>exact aG.bd fun _=>aG.bd fun y=>h _
        | some d=>
          cases d<;>(try simp only)<;>first
            | exact aG.none
            | exact aG.bd fun y=>h _
      · refine nC fun o c=>aG.ite ?_ aG.none
        cases hi with
        | none=>exact aG.bd fun _=>aG.bd fun y=>h _
        | some d=>
          cases d<;>(try simp only)<;>first
            | exact aG.none
            | exact aG.bd fun y=>h _
theorem aG4 {t : Nat} {d : DV} {s : St} {k : DV→Option R} {k' : Nat→DV→Option R} (h : ∀ v,aG (k v) (fun n=>k' n v)) : aG (lenK X t d s k) (fun n=>lenK X t d s (k' n)):=by
  unfold lenK
  cases (X.T.at t).d<;>cases d<;>(try simp only)<;>first
    | exact aG.none
    | exact h _
    | exact aG.bd fun y=>h _
    | exact nC fun _ c=>aG.bd fun y=>h _
theorem vM : ∀ {ds : List DV} {k : List PV→Option R} {k' : Nat→List PV→Option R},(∀ v,aG (k v) (fun n=>k' n v))→aG (eqK.trees ds k) (fun n=>eqK.trees ds (k' n))
  | [],_,_,h=>h _
  | d::ds,k,k',h=>by
    cases d<;>simp only [eqK.trees]<;>first
      | exact aG.none
      | exact vM fun vs=>h _
theorem aG5 {op : BinOp} {x : DV} {k : DV→Option R} {k' : Nat→DV→Option R} (h : ∀ v,aG (k v) (fun n=>k' n v)) : aG (nilK op x k) (fun n=>nilK op x (k' n)):=by
  unfold nilK
  cases op<;>cases x<;>(try simp only)<;>first
    | exact aG.none
    | exact aG.bd fun v=>h _
theorem aG6 {op : BinOp} {t : Nat} {x y : DV} {k : DV→Option R} {k' : Nat→DV→Option R} (h : ∀ v,aG (k v) (fun n=>k' n v)) : aG (binK X op t x y k) (fun n=>binK X op t x y (k' n)):=by
  unfold binK
  cases (X.T.at t).d<;>(try simp only)<;>first
    | exact aG.none
    | skip
  · cases x<;>cases y<;>(try simp only)<;>first
      | exact aG.none
      | exact aG.bd fun v=>h _
  · cases x<;>cases y<;>(try simp only)<;>first
      | exact aG.none
      | exact aG.bd fun v=>h _
  · cases x<;>cases y<;>(try simp only)<;>first
      | exact aG.none
      | exact aG.bd fun v=>h _
  · cases x<;>cases y<;>(try simp only)<;>first
      | exact aG.none
      | exact aG.bd fun v=>h _
      | skip
    rename_i v
    cases v<;>cases op<;>(try simp only)<;>first
      | exact aG.none
      | exact h _
  · cases y<;>(try simp only)<;>first
      | exact aG.none
      | exact aG5 h
  · unfold eqK
    cases eqKinds X 10 t with
    | none=>exact aG.none
    | some qs=>exact jN fun as_=>jN fun bs=>vM fun as_=>vM fun bs=>aG.bd fun v=>h _
theorem tW {d : DV} {s : St} {k : PV→Option R} {k' : Nat→PV→Option R} (h : ∀ v,aG (k v) (fun n=>k' n v)) : aG (srcK d s k) (fun n=>srcK d s (k' n)):=by
  cases d<;>simp only [srcK]<;>first
    | exact aG.none
    | exact h _
    | exact nC fun o c=>aG.ite (h _) aG.none
theorem aFV {a b : Nat} {x : DV} {s : St} {k : DV→Option R} {k' : Nat→DV→Option R} (h : ∀ v,aG (k v) (fun n=>k' n v)) : aG (convK X a b x s k) (fun n=>convK X a b x s (k' n)):=by
  unfold convK
  cases (X.T.at a).d<;>cases (X.T.at b).d<;>(try simp only)<;>first
    | exact aG.none
    | skip
  · cases x<;>(try simp only)<;>first
      | exact aG.none
      | exact aG.bd fun v=>h _
  · cases x<;>(try simp only)<;>first
      | exact aG.none
      | exact aG.bd fun v=>h _
  · rename_i e
    cases x<;>(try simp only)<;>first
      | exact aG.none
      | skip
    cases (X.T.at e).d<;>(try simp only)<;>first
      | exact aG.none
      | skip
    rename_i kk
    cases kk<;>(try simp only)<;>first
      | exact aG.none
      | exact aG.bd fun v=>h _
  · rename_i e
    cases (X.T.at e).d<;>(try simp only)<;>first
      | exact aG.none
      | skip
    rename_i kk
    cases kk<;>(try simp only)<;>first
      | exact aG.none
      | exact tW fun c=>aG.bd fun y=>h _
theorem aBQ {o : OTy} {d : DV} {s : St} {k : PV→St→Option R} {k' : Nat→PV→St→Option R} (h : ∀ v s,aG (k v s) (fun n=>k' n v s)) : aG (appendedK o d s k) (fun n=>appendedK o d s (k' n)):=by
  unfold appendedK
  exact aG.ite (tW fun y=>h _ _) (oX h)
theorem aAw {o : OTy} {c : PV} {q : Option (PV × PV)} {k : PV→Option R} {k' : Nat→PV→Option R} (h : ∀ v,aG (k v) (fun n=>k' n v)) : aG (pieceK o c q k) (fun n=>pieceK o c q (k' n)):=by
  cases q with
  | none=>exact h _
  | some p=>exact aG.bd h
theorem aE3 {l : Nat} {path : cQ} {q : Option (PV × PV)} {s : St} {k : DV→St→Option R} {k' : Nat→DV→St→Option R} (h : ∀ d s,aG (k d s) (fun n=>k' n d s)) : aG (leaveK l path q s k) (fun n=>leaveK l path q s (k' n)):=by
  unfold leaveK
  cases s.list l with
  | none=>exact aG.none
  | some w=>exact gI fun o c=>aG.ite (aAw fun c1=>qN fun c'=>h _ _) aG.none
theorem aDY {t : Nat} {a v : DV} {e : Env} {s : St} {k : Env→St→Option R} {k' : Nat→Env→St→Option R} (h : ∀ e s,aG (k e s) (fun n=>k' n e s)) : aG (storeLK X t a v e s k) (fun n=>storeLK X t a v e s (k' n)):=by
  unfold storeLK
  split
  · exact aE3 fun _ _=>aAu fun _ _=>aG.ite (h _ _) aG.none
  · exact aAu h
theorem aDg {d : DV} {te : Nat} {e : Env} {s : St} {l : Nat} {path : cQ} {q : Option (PV × PV)} {k : DV→Env→St→Option R} {k' : Nat→DV→Env→St→Option R} (h : ∀ v e s,aG (k v e s) (fun n=>k' n v e s)) : aG (appendK.nest X d te e s k l path q) (fun n=>appendK.nest X d te e s (k' n) l path q):=by
  unfold appendK.nest
  cases s.list l with
  | none=>exact aG.none
  | some w=>
    exact gI fun o c=>aG.ite (tW fun y=>aAw fun c=>qN fun c'=>aG.bd fun c2=>h _ _ _) aG.none
theorem aDZ {base d : DV} {te : Nat} {e : Env} {s : St} {k : DV→Env→St→Option R} {k' : Nat→DV→Env→St→Option R} (h : ∀ v e s,aG (k v e s) (fun n=>k' n v e s)) : aG (appendK X base d te e s k) (fun n=>appendK X base d te e s (k' n)):=by
  have plain : ∀ (q : Option OTy) (base : DV),aG (match q with
      | some o=>if fits X o te then appendedK o d s fun y s=>sinkAs o s base fun c s=>bd (PV.cat o.s o.e o.g c y) fun c'=>k (.ref s.nl []) e (s.addList ⟨o,c'⟩) else none
      | none=>none) (fun n=>match q with
      | some o=>if fits X o te then appendedK o d s fun y s=>sinkAs o s base fun c s=>bd (PV.cat o.s o.e o.g c y) fun c'=>k' n (.ref s.nl []) e (s.addList ⟨o,c'⟩) else none
      | none=>none):=by
    intro q base
    cases q with
    | none=>exact aG.none
    | some o=>exact aG.ite (aBQ fun y s=>oX fun c s=>aG.bd fun c'=>h _ _ _) aG.none
  cases base with
  | ref l path=>
    cases path with
    | nil=>exact plain (baseTy X te s (.ref l [])) (.ref l [])
    | cons p r=>exact aDg h
  | sref l path lo hi=>
    cases path with
    | nil=>exact plain (baseTy X te s (.sref l [] lo hi)) (.sref l [] lo hi)
    | cons p r=>exact aDg h
  | p v=>exact plain (baseTy X te s (.p v)) (.p v)
  | nils=>exact plain (baseTy X te s .nils) .nils
  | agg cs=>exact plain (baseTy X te s (.agg cs)) (.agg cs)
  | tup cs=>exact plain (baseTy X te s (.tup cs)) (.tup cs)
  | fn f cs=>exact plain (baseTy X te s (.fn f cs)) (.fn f cs)
  | ptr b off=>exact plain (baseTy X te s (.ptr b off)) (.ptr b off)
  | bsl b n=>exact plain (baseTy X te s (.bsl b n)) (.bsl b n)
  | eptr l path i off=>exact plain (baseTy X te s (.eptr l path i off)) (.eptr l path i off)
  | fptr x s' g off=>exact plain (baseTy X te s (.fptr x s' g off)) (.fptr x s' g off)
  | bptr c off=>exact plain (baseTy X te s (.bptr c off)) (.bptr c off)
  | gptr l path i off=>exact plain (baseTy X te s (.gptr l path i off)) (.gptr l path i off)
  | nilq c neg=>exact plain (baseTy X te s (.nilq c neg)) (.nilq c neg)
  | dead=>exact plain (baseTy X te s .dead) .dead
theorem aDh {d : DV} {e : Env} {s : St} {k : Env→St→Option R} {k' : Nat→Env→St→Option R} (h : ∀ e s,aG (k e s) (fun n=>k' n e s)) : aG (frz1 d e s k) (fun n=>frz1 d e s (k' n)):=by
  unfold frz1
  split
  · split
    · exact h _ _
    · exact h _ _
  · exact h _ _
theorem qO : ∀ {fs : List (Nat × Option Nat)} {e : Env} {s : St} {k : Env→St→Option R} {k' : Nat→Env→St→Option R},(∀ e s,aG (k e s) (fun n=>k' n e s))→aG (frzK fs e s k) (fun n=>frzK fs e s (k' n))
  | [],_,_,_,_,h=>h _ _
  | (t,none)::r,e,s,k,k',h=>aDh fun e s=>qO h
  | (t,some j)::r,e,s,k,k',h=>by
    unfold frzK
    generalize e.get t=d0
    cases d0<;>(try simp only)<;>first
      | exact qO h
      | skip
    rename_i b off
    cases s.box b with
    | none=>exact qO h
    | some cs=>exact aDh fun e s=>qO h
theorem aAx {te : Nat} {src : DV} {s : St} {l : Nat} {w : Own} {lo hi : PV} {k : DV→St→Option R} {k' : Nat→DV→St→Option R} (h : ∀ v s,aG (k v s) (fun n=>k' n v s)) : aG (copyK.go X te src s k l w lo hi) (fun n=>copyK.go X te src s (k' n) l w lo hi):=by
  unfold copyK.go
  exact aG.ite (tW fun y=>aG.bd fun n=>aG.bd fun c=>h _ _) aG.none
theorem aFW {te : Nat} {dst src : DV} {s : St} {k : DV→St→Option R} {k' : Nat→DV→St→Option R} (h : ∀ v s,aG (k v s) (fun n=>k' n v s)) : aG (copyK X te dst src s k) (fun n=>copyK X te dst src s (k' n)):=by
  unfold copyK
  cases dst<;>(try simp only)<;>first
    | exact aG.none
    | skip
  · rename_i l path
    cases path with
    | cons=>exact aG.none
    | nil=>
      dsimp only
      cases s.list l with
      | none=>exact aG.none
      | some w=>exact aG.bd fun n=>aAx h
  · rename_i l path lo hi
    cases path with
    | cons=>exact aG.none
    | nil=>
      dsimp only
      cases s.list l with
      | none=>exact aG.none
      | some w=>exact aAx h
end
end Go.Proofs.Ythkofpnllaapeaa
namespace Go.Proofs.Ythkofpnllaapeaa
open Go
structure EvO (O : Orc) (O' : Nat→Orc) : Prop where
  L : ∀ todo e s,aG (O.L todo e s) (fun n=>(O' n).L todo e s)
  C : ∀ g args,aG (O.C g args) (fun n=>(O' n).C g args)
  S : ∀ g args s,aG (O.S g args s) (fun n=>(O' n).S g args s)
section
variable {X : Cx} {O : Orc} {O' : Nat → Orc}
theorem rU {l : R} : ∀ {cs : List DV} {a : Option R} {a' : Nat→Option R},aG a a'→aG (guardCells l cs a) (fun n=>guardCells l cs (a' n))
  | [],_,_,h=>h
  | d::cs,a,a',h=>by
    have ih:=rU (l:=l) (cs:=cs) h
    cases d with
    | ref=>simp only [guardCells];exact ih
    | p v=>
      cases v with
      | int=>simp only [guardCells];exact aG.flat ih
      | _=>simp only [guardCells];exact aG.none
    | _=>simp only [guardCells];exact aG.none
theorem sX {l : R} : ∀ {cs : List DV} {a : Option R} {a' : Nat→Option R},aG a a'→aG (guardAggs l cs a) (fun n=>guardAggs l cs (a' n))
  | [],_,_,h=>h
  | d::cs,a,a',h=>by
    have ih:=sX (l:=l) (cs:=cs) h
    cases d<;>(try simp only [guardAggs])<;>exact rU ih
theorem aCK {l : R} {d : DV} {a : Option R} {a' : Nat→Option R} (h : aG a a') : aG (guardRes l d a) (fun n=>guardRes l d (a' n)):=by
  cases d<;>(try simp only [guardRes])<;>exact sX h
theorem sY {l : R} : ∀ {cs : List (Option Own)} {a : Option R} {a' : Nat→Option R},aG a a'→aG (guardRows l cs a) (fun n=>guardRows l cs (a' n))
  | [],_,_,h=>h
  | none::_,_,_,_=>by simp only [guardRows];exact aG.none
  | some w::cs,a,a',h=>by
    simp only [guardRows]
    cases w.c<;>(try simp only)<;>first
      | exact aG.none
      | exact aG.own (sY h)
theorem aFX (hO : EvO O O') {f : Nat} {args : List DV} {s : St} {k : DV→St→Option R} {k' : Nat→DV→St→Option R} (h : ∀ v s,aG (k v s) (fun n=>k' n v s)) : aG (pureK O f args s k) (fun n=>pureK (O' n) f args s (k' n)):=by
  unfold pureK
  exact aG.ite (nL fun vs=>aG.bd2 (hO.C _ _) fun r=>aG.flat (h _ _)) (nL fun vs=>aG.bd2 (hO.C _ _) fun r=>h _ _)
theorem aFY (hO : EvO O O') {t : Tmpl} {f : Nat} {args : List DV} {s : St} {k : DV→St→Option R} {k' : Nat→DV→St→Option R} (h : ∀ v s,aG (k v s) (fun n=>k' n v s)) : aG (lentK O t f args s k) (fun n=>lentK (O' n) t f args s (k' n)):=by
  unfold lentK
  exact nL fun vs=>aG.bd2 (hO.S _ _ _) fun l=>aCK (sY (h _ _))
theorem aFZ (hO : EvO O O') {ft : Foot} {n0 : Nat} {t : Tmpl} {f : Nat} {args : List DV} {s : St} {k : DV→St→List Nat→Option R} {k' : Nat→DV→St→List Nat→Option R} (h : ∀ v s l,aG (k v s l) (fun n=>k' n v s l)) : aG (liveK O ft n0 t f args s k) (fun n=>liveK (O' n) ft n0 t f args s (k' n)):=by
  unfold liveK
  exact aG.ite (aG.bd2 (hO.S _ _ _) fun l=>h _ _ _) aG.none
theorem aF0 (hO : EvO O O') {f : Nat} {args : List DV} {ts : List Nat} {e : Env} {s : St} {k : DV→Env→St→Option R} {k' : Nat→DV→Env→St→Option R} (h : ∀ v e s,aG (k v e s) (fun n=>k' n v e s)) : aG (callK X O f args ts e s k) (fun n=>callK X (O' n) f args ts e s (k' n)):=by
  unfold callK
  cases X.mode f with
  | none=>exact aFX hO fun _ _=>h _ _ _
  | some t=>
    refine aG.ite (aFY hO fun _ _=>h _ _ _) ?_
    simp only [vJ]
    exact gJ fun args s=>aFZ hO fun _ _ _=>h _ _ _
theorem aBR (hO : EvO O O') {v : PV} {vs : List PV} : aG (PV.apply O.C v vs) (fun n=>PV.apply (O' n).C v vs):=by
  unfold PV.apply
  cases v<;>(try simp only)<;>first
    | exact aG.none
    | exact hO.C _ _
theorem aE4 (hO : EvO O O') {d : DV} {args : List DV} {ts : List Nat} {e : Env} {s : St} {k : DV→Env→St→Option R} {k' : Nat→DV→Env→St→Option R} (h : ∀ v e s,aG (k v e s) (fun n=>k' n v e s)) : aG (applyK X O d args ts e s k) (fun n=>applyK X (O' n) d args ts e s (k' n)):=by
  cases d<;>(try simp only [applyK])<;>first
    | exact aG.none
    | exact aF0 hO h
    | exact aG.ite (nL fun vs=>aG.bd2 (aBR hO) fun r=>aG.flat (h _ _ _)) (nL fun vs=>aG.bd2 (aBR hO) fun r=>h _ _ _)
theorem aCL {b : Builtin} {ts : List Nat} {args : List DV} {e : Env} {s : St} {k : DV→Env→St→Option R} {k' : Nat→DV→Env→St→Option R} (h : ∀ v e s,aG (k v e s) (fun n=>k' n v e s)) : aG (builtinK X b ts args e s k) (fun n=>builtinK X b ts args e s (k' n)):=by
  unfold builtinK
  split
  · exact aG4 fun n=>h _ _ _
  · rename_i t u a d
    cases elemOf X t with
    | none=>exact aG.none
    | some te=>exact aG.ite (aDZ h) aG.none
  · rename_i t u a d
    cases elemOf X t with
    | none=>exact aG.none
    | some te=>exact aFW fun d s=>h _ _ _
  · exact aG.bd fun c=>h _ _ _
  · exact aG.bd fun c=>h _ _ _
  · exact aG.none
theorem zB (hO : EvO O O') {o : Oper} {e : Env} {s : St} {k : Kont} {k' : Nat→Kont} (h : ∀ e s,aG (k e s) (fun n=>k' n e s)) : aG (exec X O o e s k) (fun n=>exec X (O' n) o e s (k' n)):=by
  obtain ⟨dst,op,type,pos,after,guard⟩:=o
  cases op<;>simp only [exec]<;>try exact aG.none
  case move=>exact rE fun _ _=>h _ _
  case assign=>exact rE fun _ _=>h _ _
  case pick=>exact aFT fun _ _=>h _ _
  case alloc=>exact aEZ fun _ _=>h _ _
  case box=>exact aG3 fun _ _=>h _ _
  case build=>exact aDW fun _=>h _ _
  case buildSlice=>exact zA fun _ _=>h _ _
  case makeSlice=>exact aAI fun _ _=>h _ _
  case load=>exact aBP fun _=>aFS fun _=>h _ _
  case store=>exact aBP fun _=>aDY fun _ _=>h _ _
  case nilCheck=>exact aBP fun _=>aBO fun _=>h _ _
  case binOp=>exact aG6 fun _=>h _ _
  case unOp=>exact aFU fun _=>h _ _
  case convert=>exact aFV fun _=>h _ _
  case makeFunc fn first caps=>
    cases fn<;>(try simp only)<;>first
      | exact aG.none
      | exact aG.ite (h _ _) aG.none
  case slice t x lo hi mx=>
    cases mx with
    | none=>exact aE2 fun _=>h _ _
    | some _=>exact aDX fun _ _=>h _ _
  case fieldAddr=>exact aAJ fun _=>h _ _
  case field=>exact aE1 fun _=>h _ _
  case indexAddr=>exact aAK fun _=>h _ _
  case index=>exact aE0 fun _=>h _ _
  case extract=>exact aCJ fun _=>h _ _
  case call c=>
    cases c.callee with
    | value f=>exact aE4 hO fun _ _ _=>h _ _
    | builtin b=>exact aCL fun _ _ _=>h _ _
    | invoke _ _=>exact aG.none
theorem eW (hO : EvO O O') {ops : Array Oper} {draw : Bool} : ∀ {r : List Oper} {i : Nat} {acc : List (Nat × Foot)} {e : Env} {s : St} {k : Kont} {k' : Nat→Kont},(∀ e s,aG (k e s) (fun n=>k' n e s))→aG (execOps X O ops draw i acc r e s k) (fun n=>execOps X (O' n) ops draw i acc r e s (k' n))
  | [],i,acc,e,s,k,k',h=>by
    unfold execOps
    exact aG.ite aG.none (h _ _)
  | o::r,i,acc,e,s,k,k',h=>by
    unfold execOps
    simp only [stf,stp]
    cases o.guard with
    | none=>exact zB hO fun e s'=>aG.ite (eW hO h) aG.none
    | some p=>
      obtain ⟨j,want⟩:=p
      simp only
      cases guardDst ops.toList j with
      | none=>exact aG.none
      | some t=>
        simp only
        generalize e.get t=d0
        have hskip:=eW (ops:=ops) (draw:=draw) (r:=r) (i:=i+1) (acc:=if draw then (i,Foot.none)::acc else []) (e:=put o.dst (.tup []) e) (s:={ s with nb:=s.base+16*i,nl:=s.base+16*i}) hO h
        cases d0<;>(try simp only)<;>first
          | exact aG.none
          | (rename_i cs;cases cs with
             | nil=>exact hskip
             | cons=>exact aG.none)
          | exact aG.pvite (aG.ite (zB hO fun e s'=>aG.ite (eW hO h) aG.none) (eW hO h)) (aG.ite (eW hO h) (zB hO fun e s'=>aG.ite (eW hO h) aG.none))
theorem tX (hO : EvO O O') : ∀ (m : Nat) (first : Bool) (todo : List Item) (e : Env) (s : St),aG (eval X O m first todo e s) (fun n=>eval X (O' n) m first todo e s)
  | 0,_,_,_,_=>by simp only [eval];exact aG.none
  | m+1,first,todo,e,s=>by
    have ih:=tX hO m
    cases todo with
    | nil=>simp only [eval];exact aG.rfl _
    | cons x k=>
    cases x with
    | inBlock id=>simp only [eval];exact ih _ _ _ _
    | inScope c=>simp only [eval];exact ih _ _ _ _
    | inLoop c=>simp only [eval];exact ih _ _ _ _
    | code c=>
      cases c<;>simp only [eval]<;>first
        | exact aG.none
        | exact aG.rfl _
        | exact ih _ _ _ _
        | skip
      case exit id=>
        cases exitTo id k with
        | none=>exact aG.none
        | some k'=>exact ih _ _ _ _
      case goto l=>
        cases gotoIn l k with
        | none=>exact aG.none
        | some k'=>exact ih _ _ _ _
      case cond c a b=>
        generalize ev X e c=d0
        cases d0<;>(try simp only)<;>first
          | exact aG.none
          | exact aG.nilT (ih _ _ _ _) (ih _ _ _ _)
          | skip
        cases c<;>(try simp only)<;>exact aG.pvite (ih _ _ _ _) (ih _ _ _ _)
      case region id ops draw=>
        refine qO fun e s=>?_
        cases first with
        | true=>exact eW hO fun e s=>ih _ _ _ _
        | false=>
          cases X.cut id with
          | none=>exact eW hO fun e s=>ih _ _ _ _
          | some keep=>exact hO.L _ _ _
    | _=>simp only [eval];exact aG.none
end
section
variable (P : Program) (T : Tab) (H : Hints)
noncomputable def oN (f nb nl : Nat) (out : Option Tmpl) (todo : List Item) (e : Env) (s : St) : Option R:=
  open Classical in if h : ∃ r,∃ n,runN P T H n f nb nl out todo e s=some r then some h.choose else none
end
section
variable {P : Program} {T : Tab} {H : Hints}
theorem aG.le {β : Type} {a b : Option β} (h : ∀ r,a=some r→b=some r) : aG a (fun _=>b):=fun r hr=>⟨0,fun _ _=>h r hr⟩
theorem aG.of {β : Type} {a b : Option β} (h : aG a (fun _=>b)) : ∀ r,a=some r→b=some r:=fun r hr=>let ⟨N,hN⟩:=h r hr;hN N (Nat.le_refl _)
theorem aBS {run : Nat→Nat→Nat→Option Tmpl→List Item→Env→St→Option R} {run' : Nat→Nat→Nat→Nat→Option Tmpl→List Item→Env→St→Option R}
    (h : ∀ f nb nl out todo e s,aG (run f nb nl out todo e s) (fun n=>run' n f nb nl out todo e s)) (f nb nl : Nat) (out : Option Tmpl) : EvO (orcOf P H run f nb nl out) (fun n=>orcOf P H (run' n) f nb nl out) where
  L:=fun todo e s=>h _ _ _ _ _ _ _
  C:=fun g args=>by
    simp only [orcOf]
    cases H.prim g with
    | none=>exact h _ _ _ _ _ _ _
    | some p=>exact aG.rfl _
  S:=fun g args s=>by
    simp only [orcOf]
    cases H.mode g with
    | none=>exact aG.none
    | some t=>cases H.primS g with
      | none=>exact h _ _ _ _ _ _ _
      | some p=>exact aG.rfl _
theorem aDi : ∀ (n f nb nl : Nat) (out : Option Tmpl) (todo : List Item) (e : Env) (s : St) (r : R),runN P T H n f nb nl out todo e s=some r→runN P T H (n+1) f nb nl out todo e s=some r
  | 0,_,_,_,_,_,_,_,_,h=>by simp [runN] at h
  | n+1,f,nb,nl,out,todo,e,s,r,h=>by
    have ih:=aDi n
    unfold runN at h ⊢
    exact (tX (aBS (run':=fun _=>runN P T H (n+1)) (fun f nb nl out todo e s=>aG.le (ih f nb nl out todo e s)) f nb nl out) evalFuel true todo e s).of r h
theorem aD0 {n n' f nb nl : Nat} {out : Option Tmpl} {todo : List Item} {e : Env} {s : St} {r : R} (h : runN P T H n f nb nl out todo e s=some r) (hn : n≤n') : runN P T H n' f nb nl out todo e s=some r:=by
  induction hn with
  | refl=>exact h
  | step _ ih=>exact aDi _ _ _ _ _ _ _ _ _ ih
theorem aGs {n f nb nl : Nat} {out : Option Tmpl} {todo : List Item} {e : Env} {s : St} {r : R} (h : runN P T H n f nb nl out todo e s=some r) : oN P T H f nb nl out todo e s=some r:=by
  unfold oN
  have hex : ∃ r,∃ n,runN P T H n f nb nl out todo e s=some r:=⟨r,n,h⟩
  rw [dif_pos hex]
  obtain ⟨n',h'⟩:=hex.choose_spec
  have h1:=aD0 h (Nat.le_max_left n n')
  have h2:=aD0 h' (Nat.le_max_right n n')
  rw [h1] at h2
  exact h2.symm
theorem tY {f nb nl : Nat} {out : Option Tmpl} {todo : List Item} {e : Env} {s : St} {r : R} (h : oN P T H f nb nl out todo e s=some r) : ∃ n,runN P T H n f nb nl out todo e s=some r:=by
  unfold oN at h
  split at h
  · rename_i hex
    cases h
    exact hex.choose_spec
  · cases h
theorem aG7 (f nb nl : Nat) (out : Option Tmpl) (todo : List Item) (e : Env) (s : St) : aG (oN P T H f nb nl out todo e s) (fun n=>runN P T H n f nb nl out todo e s):=by
  intro r hr
  obtain ⟨n,hn⟩:=tY hr
  exact ⟨n,fun n' h'=>aD0 hn h'⟩
theorem aGt (f nb nl : Nat) (out : Option Tmpl) (todo : List Item) (e : Env) (s : St) :
    oN P T H f nb nl out todo e s=eval (cxOf P T H f nb nl out) (orcOf P H (oN P T H) f nb nl out) evalFuel true todo e s:=by
  cases h : eval (cxOf P T H f nb nl out) (orcOf P H (oN P T H) f nb nl out) evalFuel true todo e s with
  | some r=>
    obtain ⟨N,hN⟩:=tX (aBS (run':=fun n=>runN P T H n) aG7 f nb nl out) evalFuel true todo e s r h
    refine aGs (n:=N+1) ?_
    unfold runN
    exact hN N (Nat.le_refl _)
  | none=>
    cases h' : oN P T H f nb nl out todo e s with
    | none=>rfl
    | some r=>
      exfalso
      obtain ⟨n,hn⟩:=tY h'
      cases n with
      | zero=>simp [runN] at hn
      | succ n=>
        unfold runN at hn
        have:=(tX (aBS (run':=fun _=>oN P T H) (fun f nb nl out todo e s=>aG.le (fun r h=>aGs h)) f nb nl out) evalFuel true todo e s).of r hn
        rw [h] at this
        cases this
noncomputable def aHU (P : Program) (T : Tab) (H : Hints) (f : Nat) (args : List PV) : Option R:=(orcOf P H (oN P T H) 0 0 0 none).C f args
noncomputable def aI7 (P : Program) (T : Tab) (H : Hints) (f : Nat) (args : List DV) (s : St) : Option R:=(orcOf P H (oN P T H) 0 0 0 none).S f args s
theorem aIB (hy : Hyp P T H) : aGr P (oN P T H):=by
  intro f nb nl out todo e s r fn h hfn hok
  obtain ⟨n,hn⟩:=tY h
  exact aDf hy n f nb nl out todo e s r fn hn hfn hok
theorem aIC : aHS P (oN P T H):=by
  intro f nb nl out e s r h
  obtain ⟨n,hn⟩:=tY h
  exact vK hn
theorem aE5 (hy : Hyp P T H) {f : Nat} {args : List PV} {r : R} (h : aHU P T H f args=some r) {w : World} {bD : Array Value} {Z : Nat→Prop} (hz : ZOk w Z) (hl : args.length=bD.size)
    (hr : ∀ (i : Nat) x v,args[i]? = some x→bD[i]? = some v→dM w Z x v) : Calls P f bD w (fun e w'=>∃ v,e = .returned v∧∃ Z',aA1 w w' Z Z'∧dM w' Z' (hd r) v):=
  (aEW hy (aIB hy) aIC 0 0 0 none f args r h).2 w Z bD hz hl hr
theorem aGu (f nb nl : Nat) (out : Option Tmpl) (todo : List Item) (e : Env) (s : St) (r : Option R) (h : eval (cxOf P T H f nb nl out) (orcOf P H (oN P T H) f nb nl out) evalFuel true todo e s=r) : oN P T H f nb nl out todo e s=r:=
  (aGt f nb nl out todo e s).trans h
theorem aHV (f : Nat) (hp : H.prim f=none) (args : List PV) (r : Option R) (h : eval (cxOf P T H f 0 0 none) (orcOf P H (oN P T H) f 0 0 none) evalFuel true (startOf P f) (argEnv 0 (args.map .p)) ⟨[],[],0,0,0⟩=r) : aHU P T H f args=r:=by
  show (match H.prim f with | some h=>h args | none=>oN P T H f 0 0 none (startOf P f) (argEnv 0 (args.map .p)) ⟨[],[],0,0,0⟩)=r
  rw [hp]
  exact aGu _ _ _ _ _ _ _ _ h
theorem aHW (f : Nat) (hp : H.primS f=none) (args : List DV) (s : St) (r : Option R) (h : (match H.mode f with | some t=>eval (cxOf P T H f s.boxes.length (if t.keep then s.lists.length else 0) (some (t.fit s))) (orcOf P H (oN P T H) f s.boxes.length (if t.keep then s.lists.length else 0) (some (t.fit s))) evalFuel true (startOf P f) (argEnv 0 args) s | none=>none)=r) : aI7 P T H f args s=r:=by
  show (match H.mode f with | some t=>(match H.primS f with | some h=>h args s | none=>oN P T H f s.boxes.length (if t.keep then s.lists.length else 0) (some (t.fit s)) (startOf P f) (argEnv 0 args) s) | none=>none)=r
  rw [← h,hp]
  cases H.mode f with
  | none=>rfl
  | some t=>exact aGt _ _ _ _ _ _ _
end
end Go.Proofs.Ythkofpnllaapeaa
namespace Go.Proofs.Ythkofpnllaapeaa
open Go
noncomputable def cD (f nb nl : Nat) (out : Option Tmpl) (todo : List Item) (e : Env) (s : St) : Option R:=oN Try.prog T aT f nb nl out todo e s
noncomputable def aP (f : Nat) (args : List PV) : Option R:=aHU Try.prog T aT f args
noncomputable def fD (f : Nat) (args : List DV) (s : St) : Option R:=aI7 Try.prog T aT f args s
noncomputable def orc (f nb nl : Nat) (out : Option Tmpl) : Orc:=orcOf Try.prog aT (oN Try.prog T aT) f nb nl out
theorem aS (f nb nl : Nat) (out : Option Tmpl) (todo : List Item) (e : Env) (s : St) (r : Option R) (h : eval (cxOf Try.prog T aT f nb nl out) (orc f nb nl out) evalFuel true todo e s=r) : cD f nb nl out todo e s=r:=aGu f nb nl out todo e s r h
theorem aO (f : Nat) (args : List PV) (r : Option R) (h : (match aT.prim f with | some p=>p args | none=>eval (cxOf Try.prog T aT f 0 0 none) (orc f 0 0 none) evalFuel true (startOf Try.prog f) (argEnv 0 (args.map .p)) ⟨[],[],0,0,0⟩)=r) : aP f args=r:=by
  cases hp : aT.prim f with
  | none=>rw [hp] at h;exact aHV f hp args r h
  | some p=>rw [hp] at h;rw [← h];show (match aT.prim f with | some h=>h args | none=>_)=_;rw [hp]
theorem dT (f : Nat) (args : List DV) (s : St) (r : Option R) (h : (match aT.mode f with | some t=>(match aT.primS f with | some p=>p args s | none=>eval (cxOf Try.prog T aT f s.boxes.length (if t.keep then s.lists.length else 0) (some (t.fit s))) (orc f s.boxes.length (if t.keep then s.lists.length else 0) (some (t.fit s))) evalFuel true (startOf Try.prog f) (argEnv 0 args) s) | none=>none)=r) : fD f args s=r:=by
  cases hp : aT.primS f with
  | none=>simp only [hp] at h;exact aHW f hp args s r h
  | some p=>
    simp only [hp] at h
    rw [← h]
    show (match aT.mode f with | some t=>(match aT.primS f with | some h=>h args s | none=>_) | none=>none)=_
    rw [hp]
set_option maxRecDepth 100000 in
theorem aGv : (Try.prog.funcs.toList.all fun f=>match f.body with | some c=>codeOk f.ntmps c&&(f.name != "runtime.NumGoroutine") | none=>true)=true:=by kernel_rfl
theorem aID : Try.prog.follows .mixedOrders=true:=by kernel_rfl
theorem aJM : (aGj.all fun p=>p.2.wf)=true:=by kernel_rfl
end Go.Proofs.Ythkofpnllaapeaa
namespace Go.Proofs.Ythkofpnllaapeaa
open Go
theorem aHX {m m' : aM} {s s' : St} {l : Nat} {scr : DV→DV} {w : Own} {v : Value} {t : Tmpl} (hf : dX m s s.base)
    (G : aZ m m' (s.at s.base) s' (fun _=>True) (fun _=>True) (fun b=>b∈([] : List Nat)∨true=true) (fun l=>l∈([] : List Nat)∨true=true) s.base scr) (hl : s'.list l=some w) (hv : m'.rd (.ref l []) v)
    (ht : t.res = .ref 0 []∧t.boxes = []∧t.lists = [some ⟨w.o,.int .i64 0⟩]) : nJ m 0 0 (some t) [w.c] v m'.w:=by
  have hf':=(aZ.full (f:=⟨[],[],[],[],true,true⟩) hf G).1
  have hb : ∀ b∈([] : List Nat),m'.s.box b=s'.box b:=fun b _=>hf'.box b
  have hl' : ∀ x∈[l],m'.s.list x=s'.list x:=fun x _=>hf'.list x
  have pf:=tU (a:=⟨[],[l]⟩) hf'.inv hb hl' List.nodup_nil (by simp)
  have fw:=aBA (a:=⟨[],[l]⟩) hf' 0 0 (fun b h=>by omega) (fun b h=>by omega)
  refine ⟨m'.pick [] [l] (s'.pick ⟨[],[l]⟩),rfl,pf.inv,(G.step.fwd hf.inv 0 0).trans fw,?_⟩
  refine ⟨.ref 0 [],s',⟨[],[l]⟩,?_,?_,pf,fun x hx=>hx.1,fun x hx=>hx.1⟩
  · unfold Tmpl.read
    rw [ht.1,ht.2.1,ht.2.2]
    have e1 : (s'.pick ⟨[],[l]⟩).boxes = []:=rfl
    have e2 : (s'.pick ⟨[],[l]⟩).lists = [(0,some w)]:=by
      show [(0,s'.list l)]=_
      rw [hl]
    rw [e1,e2]
    simp [readD,readB,readO,OTy.same_refl]
  · have:=aBz (a:=⟨[],[l]⟩) hl' deep hv
    have e : ren (idx · [] 0) (idx · [l] 0) deep (.ref l []) = .ref 0 []:=by
      simp [deep,ren,ren1,idx]
    rw [e] at this
    exact this
theorem aE6 {P : Program} {ρ : Go.Shelf.Ren} (L : Lays8.n4 P ρ) {i0 : TypeInfo} {z : Value} (hi0 : P.info? (ρ.t 25)=some i0) (hz0 : i0.zero=some z) (hzs : z.cells.size=i0.size) (hs0 : 0<i0.size) {e : Nat} (hby : i0.bytes=e)
    {args : List DV} {s : St} {r : R} (h : nE e args s=some r) {m : aM} {bD : Array Value} (hf : dX m s s.base) (hl : args.length=bD.size) (hr : ∀ (i : Nat) d v,args[i]? = some d→bD[i]? = some v→m.rd d v)
    {t : Tmpl} {eb : Nat} {g : Bool} (ht : t.res = .ref 0 []∧t.boxes = []∧t.lists = [some ⟨.own i0.size eb g [],.int .i64 0⟩]) :
    Calls P (ρ.f 4) bD m.w (fun e w'=>∃ v,e = .returned v∧nJ m 0 0 (some t) r v w'):=by
  unfold nE at h
  split at h
  rotate_left
  · cases h
  rename_i n _
  split at h
  rotate_left
  · cases h
  rename_i hc
  obtain ⟨hn,hbound,hlen⟩:=hc
  cases h
  obtain ⟨v0,v1,rfl⟩ : ∃ v0 v1,bD = #[v0,v1]:=by
    match bD,hl with
    | ⟨[a,b]⟩,_=>exact ⟨a,b,rfl⟩
    | ⟨[]⟩,h=>simp at h
    | ⟨[_]⟩,h=>simp at h
    | ⟨_::_::_::_⟩,h=>simp at h
  have h0:=hr 0 _ _ rfl rfl
  have h1:=hr 1 _ _ rfl rfl
  obtain rfl : v1 = .int .i64 n:=by
    cases h1 with
    | p _ _ h1=>cases h1;rfl
  obtain rfl : v0 = .slice none 0 0:=by cases h0;rfl
  obtain ⟨k,rfl⟩:=Int.eq_ofNat_of_zero_le hn
  simp only [Int.toNat_natCast] at hbound
  have sit:=hf.sit (Nat.le_refl s.base)
  have hlf : (OTy.own i0.size eb g []).isLeaf=false:=rfl
  have hmw : m.w.heap.size=m.w.heap.size:=rfl
  have fin : ∀ {w' : World} {v : Value} {F' : Nat→Prop},bH w' m.Z (.own i0.size eb g []) (.lst []) v F'→bM v→(∀ r,F' r→m.w.heap.size≤r)→(∀ r,r<m.w.heap.size→w'.heap[r]? = m.w.heap[r]?)→
      m.w.heap.size≤w'.heap.size→w'.os=m.w.os→w'.tape=m.w.tape→w'.output=m.w.output→nJ m 0 0 (some t) [.lst []] v w':=by
    intro w' v F' hro' hcv hF' hw hsize hos htape hout
    have G2:=aZ.addRow (B:=fun _=>True) (L:=fun _=>True) (fun b=>b∈([] : List Nat)∨true=true) (fun l=>l∈([] : List Nat)∨true=true) sit (show s.base<s.base+16 by omega) (own:=⟨.own i0.size eb g [],.lst []⟩) hlf hro' (fun r hr=>.inr (hF' r hr)) (fun r hr _=>hw r hr) hsize hos htape hout
    exact aHX (l:=s.base) hf G2 (w:=⟨.own i0.size eb g [],.lst []⟩) (by simp [St.list,St.addList,St.at,look]) (aM.addRow_rd hcv) ht
  by_cases hroom : 0+k≤0
  · refine (Any8.slices_Grow_room L none 0 0 k m.w (Nat.le_refl _) (by omega) (by omega) hroom).mono ?_
    rintro e w' ⟨rfl,rfl⟩
    exact ⟨_,rfl,fin (F':=fun _=>False) (.nil _ _ _ _ _ _ (fun _ h=>h)) trivial (fun _ h=>h.elim) (fun _ _=>rfl) (Nat.le_refl _) rfl rfl rfl⟩
  · refine (Any8.slices_Grow_grow L i0 z hi0 hz0 hs0 none 0 0 k [] m.w (Nat.le_refl _) (by omega) (by rw [hby,Nat.zero_add];exact hbound) (by omega) (by simp) (fun _=>rfl) (fun a h=>by cases h)).mono ?_
    rintro e w' ⟨rfl,rfl⟩
    refine ⟨_,rfl,?_⟩
    generalize hcp : grownCap m.w (0+k) 0 (ρ.t 25)=cp
    have hge : 0+k≤cp:=by rw [← hcp];exact grownCap_ge _ _ _ _
    generalize hcells : (([] : List Value).toArray++Builtin.zeroCells z.cells (0+k - 0)++Builtin.zeroCells z.cells (cp - (0+k)) : Array Value)=cells
    have hcsz : cp*i0.size≤cells.size:=by
      rw [← hcells]
      simp only [Array.size_append,List.size_toArray,List.length_nil,rS,hzs,← Nat.add_mul]
      rw [Nat.zero_add,← Nat.add_mul]
      exact Nat.mul_le_mul_right _ (by omega)
    have hnew : (m.w.drew.alloc (.cells cells (ρ.t 25))).heap[m.w.heap.size]? = some (.cells cells (ρ.t 25) (0,0)):=heap_alloc_new m.w.drew _
    have hro':=(uQ.nil (w:=m.w.drew.alloc (.cells cells (ρ.t 25))) (Z:=m.Z) (.own i0.size eb g []) (fun _ _=>.nilFunc) (fun _ _ _=>False)).repO hlf hs0 (b:=m.w.heap.size) (off:=0) (cap:=cp) hnew (by rw [Nat.zero_add];exact hcsz) (by simp) (fun hzr=>by have:=hf.inv.zlt _ hzr;omega)
      (fun i j hi=>by simp at hi) (fun i j hi=>by simp at hi)
    refine fin hro' trivial (fun r hr=>?_) (fun r hr=>heap_alloc_old m.w.drew _ hr) (by simp) rfl rfl rfl
    rcases hr with rfl | ⟨i,j,hi,_⟩
    · exact Nat.le_refl _
    · simp at hi
end Go.Proofs.Ythkofpnllaapeaa
namespace Go.Proofs.Ythkofpnllaapeaa
open Go Go.Shelf
def Try.lays8n4_ren : Go.Shelf.Ren:=⟨fun | 4=>51 | n=>n,fun | 22=>39 | 25=>43 | 3=>3 | 4=>4 | 9=>9 | 20=>20 | 0=>0 | 2=>3 | n=>n,fun | n=>n⟩
theorem Try.lays8n4 : Go.Proofs.Lays8.n4 Try.prog Try.lays8n4_ren:={
  mixed:=by kernel_rfl
  f4:=⟨Try.f51.name,by decide,Try.func51.trans (congrArg some (by kernel_rfl))⟩
  t0:=Try.underlying0
  a0:=Try.isAgg0
  z0:=Try.sizeOf0
  v0:=Try.zeroValue0
  t3:=Try.underlying3
  a3:=Try.isAgg3
  z3:=Try.sizeOf3
  v3:=Try.zeroValue3
  t4:=Try.underlying4
  a4:=Try.isAgg4
  z4:=Try.sizeOf4
  v4:=Try.zeroValue4
  t9:=Try.underlying9
  a9:=Try.isAgg9
  z9:=Try.sizeOf9
  v9:=Try.zeroValue9
  t20:=Try.underlying20
  a20:=Try.isAgg20
  z20:=Try.sizeOf20
  v20:=Try.zeroValue20
  t22:=Try.underlying39
  a22:=Try.isAgg39
  z22:=Try.sizeOf39
  v22:=Try.zeroValue39}
end Go.Proofs.Ythkofpnllaapeaa
namespace Go.Proofs.Ythkofpnllaapeaa
open Go
theorem aHY {α : Type} {n : Nat} : ∀ {l : List (Nat × α)} {a : α},lk n l=some a→∃ p∈l,p.2=a
  | [],a,h=>by simp [lk] at h
  | (m,b)::r,a,h=>by
    unfold lk at h
    split at h
    · cases h;exact ⟨_,List.mem_cons_self,rfl⟩
    · obtain ⟨p,h1,h2⟩:=aHY h
      exact ⟨p,List.mem_cons_of_mem _ h1,h2⟩
theorem aHZ {α : Type} {n : Nat} : ∀ {l : List (Nat × α)} {a : α},lk n l=some a→(n,a)∈l
  | [],a,h=>by simp [lk] at h
  | (m,b)::r,a,h=>by
    unfold lk at h
    split at h
    · rename_i hb
      cases h
      rw [aV hb]
      exact List.mem_cons_self
    · exact List.mem_cons_of_mem _ (aHZ h)
theorem aE7 {g : Nat} (h : ((Try.prog.funcs[g]?).bind (·.body)).isSome=true) : gA Try.prog g:=by
  cases hf : Try.prog.funcs[g]? with
  | none=>rw [hf] at h;cases h
  | some fn=>
    rw [hf] at h
    cases hb : fn.body with
    | none=>simp [hb] at h
    | some c=>
      have hc:=aGv
      rw [List.all_eq_true] at hc
      have:=hc fn (by rw [← Array.getElem?_toList] at hf;exact List.mem_of_getElem? hf)
      rw [hb] at this
      simp only [Bool.and_eq_true,bne_iff_ne,ne_eq] at this
      exact ⟨fn,c,hf,hb,this.2⟩
theorem aJj : yX Try.prog fun g args=>(aT.prim g).bind fun p=>p args:=by
  intro g args r h
  cases h
set_option maxRecDepth 100000 in
theorem aJN : (Try.prog.info? (Try.lays8n4_ren.t 25)).map (fun i=>(i.size,i.bytes,i.zero.map (·.cells.size)))=some (2,16,some 2):=by kernel_rfl
set_option maxRecDepth 100000 in
theorem aIE : ∀ g h,aT.primS g=some h→∀ t args s l,aT.mode g=some t→h args s=some l→gA Try.prog g∧∀ (m : aM) (bD : Array Value),dX m s s.base→args.length=bD.size→
    (∀ (i : Nat) d v,args[i]? = some d→bD[i]? = some v→m.rd d v)→Calls Try.prog g bD m.w (fun e w'=>∃ v,e = .returned v∧nJ m s.boxes.length (if t.keep then s.lists.length else 0) (some (t.fit s)) l v w'):=by
  intro g h hp t args s l ht h
  have hm:=aHZ (show lk g aBc=some _ from hp)
  simp only [aBc,List.mem_cons,List.not_mem_nil,or_false,Prod.mk.injEq] at hm
  obtain ⟨rfl,rfl⟩:=hm
  refine ⟨aE7 (by kernel_rfl),fun m bD hf hl hr=>?_⟩
  have htt : aT.mode 51=some ⟨false,false,.ref 0 [],[],[some ⟨.own 2 16 true [],.int .i64 0⟩],true⟩:=by kernel_rfl
  rw [htt] at ht
  cases ht
  have tg:=aJN
  cases hi : Try.prog.info? (Try.lays8n4_ren.t 25) with
  | none=>rw [hi] at tg;cases tg
  | some i0=>
    rw [hi] at tg
    simp only [Option.map_some,Option.some.injEq,Prod.mk.injEq] at tg
    cases hz : i0.zero with
    | none=>rw [hz] at tg;cases tg.2.2
    | some z=>
      rw [hz] at tg
      simp only [Option.map_some,Option.some.injEq] at tg
      have hb : s.boxes.length=0:=by
        have : ∀ a,nE 16 args s=some a→s.boxes = []:=fun a h=>by
          unfold nE at h
          split at h
          · assumption
          · cases h
        rw [this _ h];rfl
      rw [hb]
      exact aE6 Try.lays8n4 hi hz (by omega) (by omega) tg.2.1 h hf hl hr (g:=true) (eb:=16) (t:=⟨false,false,.ref 0 [],[],[some ⟨.own 2 16 true [],.int .i64 0⟩],true⟩) ⟨rfl,rfl,by rw [tg.1]⟩
end Go.Proofs.Ythkofpnllaapeaa
namespace Go.Proofs.Ythkofpnllaapeaa
open Go
theorem aGw : ∀ (l : List Nat),(l.map fun t=>(Try.prog.info? t).bind (·.zero))=(l.map fun t=>some (zeroVal T t))→∀ t,mem t l=true→(Try.prog.info? t).bind (·.zero)=some (zeroVal T t)
  | [],_,t,h=>by simp [mem] at h
  | x::r,h,t,hm=>by
    simp only [List.map_cons,List.cons.injEq] at h
    unfold mem at hm
    split at hm
    · rename_i hx
      rw [aV hx];exact h.1
    · exact aGw r h.2 t hm
theorem hyp : Hyp Try.prog T aT where
  tab:=aI5.symm
  zero:=fun t h=>by
    rw [aI5]
    exact aGw aIw aJI t h
  mixed:=aID
  code:=fun f fn c hf hc=>by
    have h:=aGv
    rw [List.all_eq_true] at h
    have:=h fn (by rw [← Array.getElem?_toList] at hf;exact List.mem_of_getElem? hf)
    rw [hc] at this
    simp only [Bool.and_eq_true,bne_iff_ne,ne_eq] at this
    exact this
  prim:=aJj
  primS:=aIE
  glob:=fun _=>rfl
  wf:=fun g t h=>by
    obtain ⟨p,hp,rfl⟩:=aHY h
    have:=aJM
    rw [List.all_eq_true] at this
    exact this p hp
end Go.Proofs.Ythkofpnllaapeaa
namespace Go.Proofs.Ythkofpnllaapeaa
open Go Go.IntWalk
def Ok (P : R→Prop) (o : Option R) : Prop:=∃ r,o=some r∧P r
section
variable {P Q : R → Prop}
theorem Ok.eq {r : R} {o : Option R} (h : Ok (fun x=>x=r) o) : o=some r:=by
  obtain ⟨x,h1,rfl⟩:=h
  exact h1
theorem Ok.of {r : R} {o : Option R} (h : o=some r) : Ok (fun x=>x=r) o:=⟨r,h,rfl⟩
theorem Ok.mono {o : Option R} (h : Ok Q o) (hq : ∀ r,Q r→P r) : Ok P o:=by
  obtain ⟨x,h1,h2⟩:=h
  exact ⟨x,h1,hq x h2⟩
theorem aB {r : R} (h : P r) : Ok P (some r):=⟨r,rfl,h⟩
theorem cW {α : Type} {o : Option α} {k : α→Option R} (a : α) (h : o=some a) (hk : Ok P (k a)) : Ok P (bd o k):=by rw [h];exact hk
theorem aK {o : Option R} {k : R→Option R} (h : Ok Q o) (hk : ∀ r,Q r→Ok P (k r)) : Ok P (bd o k):=by
  obtain ⟨r,h1,h2⟩:=h
  rw [h1]
  exact hk r h2
theorem aC {p : Prop} [Decidable p] {x y : Option R} (h1 : p→Ok P x) (h2 : ¬ p→Ok P y) : Ok P (PV.ite (.bool (decide p)) x y):=by
  by_cases h : p
  · rw [decide_eq_true h];exact h1 h
  · rw [decide_eq_false h];exact h2 h
theorem bA {p : Prop} [Decidable p] {x y : Option R} (h1 : ¬ p→Ok P x) (h2 : p→Ok P y) : Ok P (PV.ite (.bool (!decide p)) x y):=by
  by_cases h : p
  · rw [decide_eq_true h];exact h2 h
  · rw [decide_eq_false h];exact h1 h
theorem bC {b : Bool} {x y : Option R} (h1 : b=true→Ok P x) (h2 : b=false→Ok P y) : Ok P (PV.ite (.bool b) x y):=by
  cases b
  · exact h2 rfl
  · exact h1 rfl
theorem gB {x y : Option R} (h1 : Ok P x) : Ok P (PV.ite (.bool true) x y):=h1
theorem dN {x y : Option R} (h1 : Ok P y) : Ok P (PV.ite (.bool false) x y):=h1
variable {k : PV → Option R} {kk : IntKind} {a b : Int}
theorem iF {op : BinOp} (h1 : op≠.shl) (h2 : op≠.shr) : PV.bin op (.int kk a) (.int kk b)=PV.intBin op kk a b:=by
  cases op<;>simp [PV.bin]<;>first | exact absurd rfl h1 | exact absurd rfl h2
theorem aF (h : Ok P (k (.bool (decide (a<b))))) : Ok P (bd (PV.bin .lss (.int kk a) (.int kk b)) k):=cW _ (by rw [iF (by simp) (by simp)];rfl) h
theorem gL (h : Ok P (k (.bool (decide (a≤b))))) : Ok P (bd (PV.bin .leq (.int kk a) (.int kk b)) k):=cW _ (by rw [iF (by simp) (by simp)];rfl) h
theorem kU (h : Ok P (k (.bool (decide (b<a))))) : Ok P (bd (PV.bin .gtr (.int kk a) (.int kk b)) k):=cW _ (by rw [iF (by simp) (by simp)];rfl) h
theorem jX (h : Ok P (k (.bool (decide (b≤a))))) : Ok P (bd (PV.bin .geq (.int kk a) (.int kk b)) k):=cW _ (by rw [iF (by simp) (by simp)];rfl) h
theorem aX (h : Ok P (k (.bool (decide (a=b))))) : Ok P (bd (PV.bin .eql (.int kk a) (.int kk b)) k):=cW _ (by rw [iF (by simp) (by simp)];rfl) h
theorem dC (h : Ok P (k (.bool (!decide (a=b))))) : Ok P (bd (PV.bin .neq (.int kk a) (.int kk b)) k):=cW _ (by rw [iF (by simp) (by simp)];rfl) h
theorem aH (hr : -9223372036854775808≤a+b∧a+b≤9223372036854775807) (h : Ok P (k (.int .i64 (a+b)))) : Ok P (bd (PV.bin .add (.int .i64 a) (.int .i64 b)) k):=
  cW _ (by rw [iF (by simp) (by simp)];simp only [PV.intBin];rw [i64_in _ hr]) h
theorem dY (hr : -9223372036854775808≤a - b∧a - b≤9223372036854775807) (h : Ok P (k (.int .i64 (a - b)))) : Ok P (bd (PV.bin .sub (.int .i64 a) (.int .i64 b)) k):=
  cW _ (by rw [iF (by simp) (by simp)];simp only [PV.intBin];rw [i64_in _ hr]) h
theorem aJk (h0 : 0≤a) (hb : 0<b) (h : Ok P (k (.int kk (a % b)))) : Ok P (bd (PV.bin .rem (.int kk a) (.int kk b)) k):=
  cW _ (by rw [iF (by simp) (by simp)];simp only [PV.intBin];rw [if_neg (by omega),Int.tmod_eq_emod_of_nonneg h0]) h
theorem aJl (h0 : 0≤a) (hb : 0<b) (hr : a≤9223372036854775807) (h : Ok P (k (.int .i64 (a / b)))) : Ok P (bd (PV.bin .quo (.int .i64 a) (.int .i64 b)) k):=
  cW _ (by rw [iF (by simp) (by simp)];simp only [PV.intBin];rw [if_neg (by omega),i64_quo _ _ ⟨h0,hr,by omega⟩]) h
theorem cE {x : Bool} (h : Ok P (k (.bool (!x)))) : Ok P (bd (PV.not (.bool x)) k):=h
theorem cG {xs : List PV} (h : Ok P (k (.int .i64 xs.length))) : Ok P (bd (PV.len (.lst xs)) k):=h
theorem tZ {s : ByteArray} (h : Ok P (k (.int .i64 s.size))) : Ok P (bd (PV.slen (.str s)) k):=h
theorem aJm (hr : -9223372036854775808≤a∧a≤9223372036854775807) (h : Ok P (k (.int .i64 a))) : Ok P (bd (PV.conv .i64 (.int kk a)) k):=cW _ (by simp only [PV.conv];rw [i64_in _ hr]) h
theorem aJO (hr : 0≤a∧a≤255) (h : Ok P (k (.int .u8 a))) : Ok P (bd (PV.conv .u8 (.int kk a)) k):=cW _ (by simp only [PV.conv];rw [u8_in _ hr]) h
theorem aIF {s : Nat} {g : Bool} {xs : List PV} {i : Int} (h0 : 0≤i) (h1 : i<xs.length) (he : ∀ x∈xs,x.isEl s g=true) : ∃ x,x∈xs∧xs[i.toNat]? = some x∧PV.at_ s g (.lst xs) (.int kk i)=some x:=by
  have hlt : i.toNat<xs.length:=by omega
  refine ⟨xs[i.toNat],List.getElem_mem _,List.getElem?_eq_getElem hlt,?_⟩
  simp only [PV.at_]
  rw [if_pos h0,List.getElem?_eq_getElem hlt]
  simp only
  rw [if_pos (he _ (List.getElem_mem _))]
theorem aI8 {s : Nat} {g : Bool} {xs : List PV} {i : Int} (h0 : 0≤i) (h1 : i<xs.length) (he : ∀ x∈xs,x.isEl s g=true) (h : ∀ x,x∈xs→xs[i.toNat]? = some x→Ok P (k x)) :
    Ok P (bd (PV.at_ s g (.lst xs) (.int kk i)) k):=by
  obtain ⟨x,h2,h3,h4⟩:=aIF (kk:=kk) h0 h1 he
  exact cW x h4 (h x h2 h3)
theorem vN {xs : List PV} {i : Int} (h0 : 0≤i) (h1 : i<xs.length) (h : Ok P (k (.lst xs))) : Ok P (bd (PV.inb (.lst xs) (.int kk i)) k):=
  cW _ (by simp only [PV.inb];rw [if_pos ⟨h0,h1⟩]) h
theorem aD1 {s e : Nat} {g : Bool} {xs ys : List PV} (hb : (xs.length+ys.length)*e≤140737488355328) (he : ∀ x∈ys,x.isEl s g=true) (h : Ok P (k (.lst (xs++ys)))) : Ok P (bd (PV.cat s e g (.lst xs) (.lst ys)) k):=
  cW _ (by
    simp only [PV.cat,PV.elems]
    rw [if_pos ⟨hb,List.all_eq_true.2 he⟩]) h
theorem aD2 {s : Nat} {g : Bool} {xs : List PV} {m n : Int} {k1 k2 : IntKind} (h0 : 0≤m) (h1 : m≤n) (h2 : n≤xs.length) (he : ∀ x∈xs,x.isEl s g=true) (h : Ok P (k (.lst ((xs.take n.toNat).drop m.toNat)))) :
    Ok P (bd (PV.cut s g (.lst xs) (.int k1 m) (.int k2 n)) k):=
  cW _ (by
    have hh : PV.headIs s g xs=true:=by
      cases xs with
      | nil=>rfl
      | cons x r=>exact he x List.mem_cons_self
    simp only [PV.cut,hh,if_true,PV.bound]
    rw [if_pos ⟨by omega,h2⟩,Option.bind_some,if_pos ⟨h0,by omega⟩,Option.bind_some]) h
theorem vO {s : Nat} {xs cs : List PV} {i : Int} {off : Nat} {v : PV} (h0 : 0≤i) (hx : xs[i.toNat]? = some (.agg cs)) (hc : cs.length=s) (ho : off<s) (hv : v.isEl 1 false=true) (h : Ok P (k (.lst (xs.set i.toNat (.agg (cs.set off v)))))) :
    Ok P (bd (PV.setCell s (.lst xs) (.int kk i) off v) k):=
  cW _ (by
    simp only [PV.setCell]
    rw [if_pos h0,hx]
    simp only
    rw [if_pos ⟨hc,ho,hv⟩]) h
theorem xK {s : Nat} {g : Bool} {xs : List PV} {i : Int} {v : PV} (h0 : 0≤i) (h1 : i<xs.length) (hv : v.isEl s g=true) (h : Ok P (k (.lst (xs.set i.toNat v)))) :
    Ok P (bd (PV.setAt s g (.lst xs) (.int kk i) v) k):=
  cW _ (by simp only [PV.setAt];rw [if_pos ⟨h0,h1,hv⟩]) h
theorem bV {x : PV} (hx : x.isEl 1 false=true) (h : Ok P (k x)) : Ok P (bd (PV.one x) k):=cW x (by simp only [PV.one];rw [if_pos hx]) h
theorem aA {cs : List PV} {j : Nat} {y : PV} (hy : cs[j]? = some y) (h : Ok P (k y)) : Ok P (bd (PV.cell (.agg cs) j) k):=cW y hy h
theorem eQ {cs : List PV} {j : Nat} {y : PV} (hy : cs[j]? = some y) (h : Ok P (k y)) : Ok P (bd (PV.comp (.tup cs) j) k):=cW y hy h
theorem aL {cs : List PV} {n : Nat} (hy : cs.length=n) (h : Ok P (k (.agg cs))) : Ok P (bd (PV.whole n (.agg cs)) k):=cW _ (by simp only [PV.whole];rw [if_pos (by rw [hy];exact Nat.beq_refl n)]) h
theorem mL {r : PV} {o : Option R} (hf : r.flat=true) (h : Ok P o) : Ok P (PV.guardFlat r o):=by
  unfold PV.guardFlat;rw [if_pos hf];exact h
theorem gX {t : OTy} {r : PV} {o : Option R} (hf : PV.flatO t r=true) (h : Ok P o) : Ok P (PV.guardOwn t r o):=by
  unfold PV.guardOwn;rw [if_pos hf];exact h
theorem xL {C : Nat→List PV→Option R} {kr : R→Option R} {f : Nat} {caps args : List PV} {o : Option R} (e : C f (args++caps)=o) (h : Ok Q o) (hk : ∀ r,Q r→Ok P (kr r)) : Ok P (bd (PV.apply C (.fn f caps) args) kr):=by
  refine aK (Q:=Q) ?_ hk
  show Ok Q (C f (args++caps))
  rw [e]
  exact h
theorem nN {cs : List PV} {j : Nat} {y : PV} (hy : cs[j]? = some y) (h : Ok P (k y)) : Ok P (bd (PV.deref (.bx cs) j) k):=cW y hy h
theorem aBT : ∀ l : List Int,(l.map (PV.int .u8)).mapM PV.byteOf=some (l.map fun x=>UInt8.ofNat x.toNat)
  | []=>rfl
  | x::r=>by
    rw [List.map_cons,List.mapM_cons,aBT r]
    rfl
def rF (l : List Int) : PV:=.lst (l.map (PV.int .u8))
theorem aDj {s : ByteArray} (h : Ok P (k (.bool false))) : Ok P (bd (PV.bin .neq (.str s) (.str s)) k):=cW _ (by simp [PV.bin,PV.strBin]) h
theorem aH0 {l : List Int} (h : Ok P (k (.str ⟨(l.map fun x=>UInt8.ofNat x.toNat).toArray⟩))) : Ok P (bd (PV.toStr (rF l)) k):=
  cW _ (by
    show PV.toStr (.lst (l.map (PV.int .u8)))=_
    simp only [PV.toStr]
    rw [aBT]
    rfl) h
theorem xM {s e : Nat} {g : Bool} {ys : List PV} (hb : ys.length*e≤140737488355328) (he : ∀ x∈ys,x.isEl s g=true) (h : Ok P (k (.lst ys))) : Ok P (bd (PV.cat s e g (.lst []) (.lst ys)) k):=
  aD1 (by simpa using hb) he h
theorem aE8 {xs : List PV} (h : Ok P (k (.lst xs))) : Ok P (bd (PV.isLst (.lst xs)) k):=h
theorem aD3 {s : Nat} {g : Bool} {xs : List PV} {i : Int} {x : PV} (h0 : 0≤i) (hx : xs[i.toNat]? = some x) (he : x.isEl s g=true) (h : Ok P (k x)) : Ok P (bd (PV.at_ s g (.lst xs) (.int kk i)) k):=
  cW x (by simp only [PV.at_];rw [if_pos h0,hx];simp only;rw [if_pos he]) h
end
theorem aGx {xs : List PV} {r : R} {x y : Option R} (hx : xs = []→Ok (fun q=>q=r) x) (hy : Ok (fun q=>q=r) y) : Ok (fun q=>q=r) (PV.nilT (.lst xs) x y):=by
  cases xs with
  | nil=>
    have h1:=(hx rfl).eq
    have h2:=hy.eq
    refine ⟨r,?_,rfl⟩
    show @_root_.ite _ (x=y) (Classical.propDecidable _) x none=some r
    rw [h1,h2,if_pos rfl]
  | cons a l=>exact hy
end Go.Proofs.Ythkofpnllaapeaa
namespace Go.Proofs.Ythkofpnllaapeaa
open Go Go.ChangeShapes Go.WideShapes Go.ChangeAt Go.RowKit
def aA4 (w : World) (a : Option Addr) (len cap : Nat) (zs : List Int) : Prop:=
  (a=none∧len=0∧cap=0∧zs = [])∨
  ∃ x,a=some x∧len≤cap∧cap≤maxLen∧zs.length=cap∧(∀ i,i<zs.length→w.cell? (x.add i)=some (.int .u8 (zs.getD i 0)))∧∀ n∈zs,(Lit.int .u8 n).wf=true
theorem cell_inv {w : World} {a : Addr} {v : Value} (h : w.cell? a=some v) : a.spot=none∧∃ c e fz,w.heap[a.block]? = some (.cells c e fz)∧c[a.off]? = some v:=by
  unfold World.cell? at h
  split at h
  · rename_i c e fz hc
    split at h
    · cases h
    · rename_i hs
      exact ⟨by simpa using hs,c,e,fz,hc,h⟩
  · cases h
theorem aA4.rep {w : World} {a : Option Addr} {len cap : Nat} {zs : List Int} (h : aA4 w a len cap zs) : dM w (fun r=>r<w.heap.size) (rF (zs.take len)) (.slice a len cap):=by
  rcases h with ⟨rfl,rfl,rfl,rfl⟩ | ⟨x,rfl,hl,_,hz,hc,_⟩
  · exact .empty none 0
  · by_cases h0 : len=0
    · subst h0;exact .empty _ cap
    · have hlen : ((zs.take len).map (PV.int .u8)).length=len:=by simp;omega
      obtain ⟨hsp,c,e,fz,hh,hc0⟩:=cell_inv (hc 0 (by omega))
      have hx : x=⟨x.block,x.off,none⟩:=by
        have : x.spot=none:=by
          have h1 : (x.add 0).spot=none:=hsp
          unfold Addr.add at h1
          split at h1<;>simp_all
        cases x;simp_all
      rw [hx] at hc ⊢
      have hb : (x.add 0).block=x.block:=by unfold Addr.add;split<;>rfl
      rw [hb] at hh
      have:=dM.lst (w:=w) (Z:=fun r=>r<w.heap.size) ((zs.take len).map (PV.int .u8)) x.block x.off 1 cap false c e fz (fun i _=>.int .u8 (zs.getD i 0)) (Array.getElem?_eq_some_iff.1 hh).1 hh (by omega) (by omega)
        (fun i y hy=>by
          rw [List.getElem?_map] at hy
          cases hi : (zs.take len)[i]? with
          | none=>rw [hi] at hy;cases hy
          | some q=>rw [hi] at hy;cases hy;rfl)
        (fun i j hi hj=>by
          have hj0 : j=0:=by omega
          subst hj0
          have h1:=hc i (by omega)
          rw [fN] at h1
          obtain ⟨_,c',e',fz',hh',hc'⟩:=cell_inv h1
          have hh' : w.heap[x.block]? = some (.cells c' e' fz'):=hh'
          rw [hh] at hh'
          cases hh'
          simpa using hc')
        (fun _ _ _ _=>trivial)
        (fun i j y hy hj=>by
          rw [List.getElem?_map] at hy
          cases hi : (zs.take len)[i]? with
          | none=>rw [hi] at hy;cases hy
          | some q=>
            rw [hi] at hy
            cases hy
            have hlt : i<(zs.take len).length:=(List.getElem?_eq_some_iff.1 hi).1
            have : zs.getD i 0=q:=by
              rw [List.getElem?_take] at hi
              split at hi
              · rw [List.getD,hi];rfl
              · cases hi
            rw [this]
            exact .int _ _)
      rw [hlen] at this
      exact this
theorem aA4.wf {w : World} {a : Option Addr} {len cap : Nat} {zs : List Int} (h : aA4 w a len cap zs) : ∀ x∈zs.take len,(Lit.int .u8 x).wf=true:=by
  intro x hx
  rcases h with ⟨_,_,_,rfl⟩ | ⟨_,_,_,_,_,_,hw⟩
  · simp at hx
  · exact hw x (List.mem_of_mem_take hx)
theorem aF1 (n : Nat) (args : List PV) (bD : Array Value) (h : aP n args=some [.bool true]) {w : World} (gz : aBd w fun r=>r<w.heap.size) (hl : args.length=bD.size) (hr : ∀ (i : Nat) x v,args[i]? = some x→bD[i]? = some v→dM w (fun r=>r<w.heap.size) x v) :
    Calls Try.prog n bD w fun e w'=>e = .returned (.bool true)∧Below w.heap.size w w':=by
  refine (aE5 hyp h (Z:=fun r=>r<w.heap.size) ⟨fun _ h=>h,gz⟩ hl hr).mono ?_
  rintro e w' ⟨v,rfl,Z',pe,hrep⟩
  have hrep : dM w' Z' (.bool true) v:=hrep
  rw [hrep.bool_inv]
  exact ⟨rfl,pe.os,pe.tape,pe.output,pe.size,pe.old⟩
theorem own : ownKnob Try.prog.godebug=none:=by kernel_rfl
theorem aD4 : laidOutB Try.prog=true:=by kernel_rfl
end Go.Proofs.Ythkofpnllaapeaa
namespace Go.Proofs.Ythkofpnllaapeaa
open Go
noncomputable def jY (x0 x1 x2 : PV) : Option R:=aP 3 [x0,x1,x2]
noncomputable def pW (x0 x1 : PV) : Option R:=aP 4 [x0,x1]
noncomputable def fE (x0 x1 : PV) : Option R:=aP 8 [x0,x1]
noncomputable def jB (x0 x1 : PV) : Option R:=aP 10 [x0,x1]
noncomputable def nO (x0 x1 : PV) : Option R:=aP 11 [x0,x1]
noncomputable def eX (x0 x1 x2 : PV) : Option R:=cD 11 0 0 (aT.mode 11) (todoOf Try.prog 11 5) [(0,.p x0),(1,.p x1),(5,.p x2)] ⟨[],[],0,0,0⟩
noncomputable def rG (x0 x1 : PV) : Option R:=aP 12 [x0,x1]
noncomputable def gC (x0 x1 x2 : PV) : Option R:=cD 12 0 0 (aT.mode 12) (todoOf Try.prog 12 5) [(0,.p x0),(1,.p x1),(5,.p x2)] ⟨[],[],0,0,0⟩
noncomputable def nP (x0 x1 : PV) : Option R:=aP 32 [x0,x1]
noncomputable def gO (x0 x1 x2 : PV) : Option R:=cD 32 0 0 (aT.mode 32) (todoOf Try.prog 32 4) [(0,.p x0),(1,.p x1),(5,.p x2)] ⟨[],[],0,0,0⟩
noncomputable def rH (x0 x1 : PV) : Option R:=aP 33 [x0,x1]
noncomputable def jC (x0 x1 x2 : PV) : Option R:=cD 33 0 0 (aT.mode 33) (todoOf Try.prog 33 4) [(0,.p x0),(1,.p x1),(5,.p x2)] ⟨[],[],0,0,0⟩
noncomputable def kV (x0 x1 : PV) : Option R:=aP 36 [x0,x1]
noncomputable def fL (x0 x1 x2 : PV) : Option R:=cD 36 0 0 (aT.mode 36) (todoOf Try.prog 36 2) [(0,.p x0),(1,.p x1),(5,.p x2)] ⟨[],[],0,0,0⟩
noncomputable def nQ (x0 x1 : PV) : Option R:=aP 37 [x0,x1]
noncomputable def gP (x0 x1 x2 : PV) : Option R:=cD 37 0 0 (aT.mode 37) (todoOf Try.prog 37 2) [(0,.p x0),(1,.p x1),(5,.p x2)] ⟨[],[],0,0,0⟩
noncomputable def sZ (x0 x1 : PV) : Option R:=aP 38 [x0,x1]
noncomputable def tA (x0 x1 : PV) : Option R:=aP 54 [x0,x1]
noncomputable def lE (x0 : PV) : Option R:=aP 55 [x0]
noncomputable def iG (x0 x1 : PV) : Option R:=cD 55 0 0 (aT.mode 55) (todoOf Try.prog 55 4) [(0,.p x0),(3,.p x1)] ⟨[],[],0,0,0⟩
noncomputable def pX (x0 x1 : PV) : Option R:=aP 57 [x0,x1]
noncomputable def iH (x0 x1 x2 : PV) : Option R:=cD 57 0 0 (aT.mode 57) (todoOf Try.prog 57 2) [(0,.p x0),(1,.p x1),(5,.p x2)] ⟨[],[],0,0,0⟩
noncomputable def tB (x0 x1 : PV) : Option R:=aP 58 [x0,x1]
noncomputable def tC (x0 x1 : PV) : Option R:=aP 68 [x0,x1]
noncomputable def jZ (x0 x1 x2 : PV) : Option R:=cD 68 0 0 (aT.mode 68) (todoOf Try.prog 68 4) [(0,.p x0),(1,.p x1),(5,.p x2)] ⟨[],[],0,0,0⟩
noncomputable def vP (x0 x1 : PV) : Option R:=aP 82 [x0,x1]
noncomputable def fF (x0 : PV) : Option R:=fD 6 [.p x0] ⟨[],[],0,0,0⟩
noncomputable def rI (x0 x1 x2 : PV) : Option R:=fD 5 [.p x0,.p x1,.p x2] ⟨[],[],0,0,0⟩
noncomputable def eH (x0 x1 x2 x3 x4 x5 x6 x7 x8 x9 x10 x11 : PV) : Option R:=cD 5 0 0 (aT.mode 5) (todoOf Try.prog 5 8) [(1,.p x0),(2,.p x1),(3,.ptr 0 0),(6,.ptr 1 0),(7,.ptr 2 0),(8,.ptr 3 0),(9,.p x2)] ⟨[(0,some [.p x3,.p x4]),(1,some [.ref 0 [],.ref 1 []]),(2,some [.p x5,.p x6]),(3,some [.p x7,.p x8,.p x9])],[(0,some ⟨(.own 1 16 false []),x10⟩),(1,some ⟨(.own 3 40 true [.leaf,.leaf,(.own 2 16 true [])]),x11⟩)],0,0,6⟩
noncomputable def kA (x0 x1 x2 x3 x4 x5 x6 x7 x8 x9 x10 x11 x12 : PV) : Option R:=cD 5 0 0 (aT.mode 5) (todoOf Try.prog 5 15) [(1,.p x0),(2,.p x1),(3,.ptr 0 0),(6,.ptr 1 0),(8,.ptr 2 0),(9,.p x2),(10,.p x3),(11,.ref 2 []),(12,.p x4)] ⟨[(0,some [.p x5,.p x6]),(1,some [.ref 0 [],.ref 1 []]),(2,some [.p x7,.p x8,.p x9])],[(0,some ⟨(.own 1 16 false []),x10⟩),(1,some ⟨(.own 3 40 true [.leaf,.leaf,(.own 2 16 true [])]),x11⟩),(2,some ⟨(.own 2 16 true []),x12⟩)],0,0,6⟩
noncomputable def gY (x0 x1 x2 x3 x4 x5 x6 x7 x8 x9 x10 x11 x12 : PV) : Option R:=cD 5 0 0 (aT.mode 5) (todoOf Try.prog 5 19) [(1,.p x0),(2,.p x1),(3,.ptr 0 0),(6,.ptr 1 0),(8,.ptr 2 0),(9,.p x2),(10,.p x3),(11,.ref 2 []),(13,.p x4)] ⟨[(0,some [.p x5,.p x6]),(1,some [.ref 0 [],.ref 1 []]),(2,some [.p x7,.p x8,.p x9])],[(0,some ⟨(.own 1 16 false []),x10⟩),(1,some ⟨(.own 3 40 true [.leaf,.leaf,(.own 2 16 true [])]),x11⟩),(2,some ⟨(.own 2 16 true []),x12⟩)],0,0,6⟩
noncomputable def eJ (x0 x1 x2 x3 x4 x5 x6 x7 x8 x9 x10 x11 x12 : PV) : Option R:=cD 5 0 0 (aT.mode 5) (todoOf Try.prog 5 23) [(1,.p x0),(2,.p x1),(3,.ptr 0 0),(6,.ptr 1 0),(8,.ptr 2 0),(9,.p x2),(10,.p x3),(11,.ref 2 []),(14,.p x4)] ⟨[(0,some [.p x5,.p x6]),(1,some [.ref 0 [],.ref 1 []]),(2,some [.p x7,.p x8,.p x9])],[(0,some ⟨(.own 1 16 false []),x10⟩),(1,some ⟨(.own 3 40 true [.leaf,.leaf,(.own 2 16 true [])]),x11⟩),(2,some ⟨(.own 2 16 true []),x12⟩)],0,0,6⟩
noncomputable def nR (x0 x1 x2 x3 x4 x5 x6 x7 x8 x9 x10 x11 x12 x13 x14 : PV) : Option R:=cD 5 0 0 (aT.mode 5) (todoOf Try.prog 5 27) [(1,.p x0),(2,.p x1),(3,.ptr 0 0),(6,.ptr 1 0),(8,.ptr 2 0),(9,.p x2),(10,.p x3),(11,.ref 2 []),(14,.p x4),(15,.ptr 3 0)] ⟨[(0,some [.p x5,.p x6]),(1,some [.ref 0 [],.ref 1 []]),(2,some [.p x7,.p x8,.p x9]),(3,some [.p x10,.p x11])],[(0,some ⟨(.own 1 16 false []),x12⟩),(1,some ⟨(.own 3 40 true [.leaf,.leaf,(.own 2 16 true [])]),x13⟩),(2,some ⟨(.own 2 16 true []),x14⟩)],0,0,7⟩
noncomputable def dO (x0 x1 x2 x3 x4 x5 x6 x7 x8 x9 x10 x11 x12 x13 x14 : PV) : Option R:=cD 5 0 0 (aT.mode 5) (todoOf Try.prog 5 34) [(1,.p x0),(2,.p x1),(6,.ptr 0 0),(8,.ptr 1 0),(10,.p x2),(11,.ref 2 []),(16,.ptr 2 0),(17,.p x3),(18,.ref 5 []),(19,.ref 6 []),(20,.p x4)] ⟨[(0,some [.ref 0 [],.ref 1 []]),(1,some [.p x5,.p x6,.p x7]),(2,some [.ref 3 [],.ref 4 []])],[(0,some ⟨(.own 1 16 false []),x8⟩),(1,some ⟨(.own 3 40 true [.leaf,.leaf,(.own 2 16 true [])]),x9⟩),(2,some ⟨(.own 2 16 true []),x10⟩),(3,some ⟨(.own 1 16 false []),x11⟩),(4,some ⟨(.own 3 40 true [.leaf,.leaf,(.own 2 16 true [])]),x12⟩),(5,some ⟨(.own 2 16 true []),x13⟩),(6,some ⟨(.own 1 8 false []),x14⟩)],0,0,10⟩
noncomputable def cY (x0 x1 x2 x3 x4 x5 x6 x7 x8 x9 x10 x11 x12 x13 : PV) : Option R:=cD 5 0 0 (aT.mode 5) (todoOf Try.prog 5 41) [(1,.p x0),(2,.p x1),(6,.ptr 0 0),(8,.ptr 1 0),(10,.p x2),(11,.ref 2 []),(16,.ptr 2 0),(18,.ref 5 []),(19,.ref 6 []),(21,.p x3)] ⟨[(0,some [.ref 0 [],.ref 1 []]),(1,some [.p x4,.p x5,.p x6]),(2,some [.ref 3 [],.ref 4 []])],[(0,some ⟨(.own 1 16 false []),x7⟩),(1,some ⟨(.own 3 40 true [.leaf,.leaf,(.own 2 16 true [])]),x8⟩),(2,some ⟨(.own 2 16 true []),x9⟩),(3,some ⟨(.own 1 16 false []),x10⟩),(4,some ⟨(.own 3 40 true [.leaf,.leaf,(.own 2 16 true [])]),x11⟩),(5,some ⟨(.own 2 16 true []),x12⟩),(6,some ⟨(.own 1 8 false []),x13⟩)],0,0,10⟩
noncomputable def dP (x0 x1 x2 x3 x4 x5 x6 x7 x8 x9 x10 x11 x12 x13 : PV) : Option R:=cD 5 0 0 (aT.mode 5) (todoOf Try.prog 5 45) [(1,.p x0),(2,.p x1),(6,.ptr 0 0),(8,.ptr 1 0),(10,.p x2),(11,.ref 2 []),(16,.ptr 2 0),(18,.ref 5 []),(19,.ref 6 []),(21,.p x3)] ⟨[(0,some [.ref 0 [],.ref 1 []]),(1,some [.p x4,.p x5,.p x6]),(2,some [.ref 3 [],.ref 4 []])],[(0,some ⟨(.own 1 16 false []),x7⟩),(1,some ⟨(.own 3 40 true [.leaf,.leaf,(.own 2 16 true [])]),x8⟩),(2,some ⟨(.own 2 16 true []),x9⟩),(3,some ⟨(.own 1 16 false []),x10⟩),(4,some ⟨(.own 3 40 true [.leaf,.leaf,(.own 2 16 true [])]),x11⟩),(5,some ⟨(.own 2 16 true []),x12⟩),(6,some ⟨(.own 1 8 false []),x13⟩)],0,0,10⟩
noncomputable def aBU (x0 x1 : PV) : Option R:=aP 13 [x0,x1]
noncomputable def aN (x0 x1 x2 : PV) : Option R:=aP 14 [x0,x1,x2]
noncomputable def eK (x0 x1 : PV) : Option R:=aP 15 [x0,x1]
noncomputable def gQ (x0 x1 x2 x3 x4 : PV) : Option R:=cD 15 0 0 (aT.mode 15) (todoOf Try.prog 15 4) [(2,.ptr 0 0),(5,.p x0),(6,.ref 0 []),(7,.p x1)] ⟨[(0,some [.p x2,.p x3])],[(0,some ⟨(.own 1 8 false []),x4⟩)],0,0,2⟩
noncomputable def eY (x0 x1 x2 x3 x4 : PV) : Option R:=cD 15 0 0 (aT.mode 15) (todoOf Try.prog 15 9) [(2,.ptr 0 0),(5,.p x0),(6,.ref 0 []),(8,.p x1)] ⟨[(0,some [.p x2,.p x3])],[(0,some ⟨(.own 1 8 false []),x4⟩)],0,0,2⟩
noncomputable def cH (x0 x1 x2 x3 x4 x5 : PV) : Option R:=cD 15 0 0 (aT.mode 15) (todoOf Try.prog 15 12) [(2,.ptr 0 0),(5,.p x0),(6,.ref 0 []),(8,.p x1),(9,.p x2)] ⟨[(0,some [.p x3,.p x4])],[(0,some ⟨(.own 1 8 false []),x5⟩)],0,0,2⟩
noncomputable def cT (x0 x1 x2 x3 x4 x5 x6 x7 x8 : PV) : Option R:=cD 15 0 0 (aT.mode 15) (todoOf Try.prog 15 19) [(2,.ptr 0 0),(5,.p x0),(6,.ref 0 []),(8,.p x1),(9,.p x2),(12,.p x3),(13,.p x4),(14,.p x5)] ⟨[(0,some [.p x6,.p x7])],[(0,some ⟨(.own 1 8 false []),x8⟩)],0,0,2⟩
noncomputable def nS (x0 x1 x2 x3 x4 x5 x6 x7 : PV) : Option R:=cD 15 0 0 (aT.mode 15) (todoOf Try.prog 15 22) [(2,.ptr 0 0),(5,.p x0),(6,.ref 0 []),(9,.p x1),(12,.p x2),(13,.p x3),(14,.p x4)] ⟨[(0,some [.p x5,.p x6])],[(0,some ⟨(.own 1 8 false []),x7⟩)],0,0,2⟩
noncomputable def kW (x0 x1 : PV) : Option R:=aP 16 [x0,x1]
noncomputable def mN (x0 : PV) : Option R:=aP 18 [x0]
noncomputable def oY (x0 x1 : PV) : Option R:=aP 39 [x0,x1]
noncomputable def mO (x0 x1 : PV) : Option R:=aP 40 [x0,x1]
noncomputable def rV (x0 x1 x2 x3 : PV) : Option R:=cD 40 0 0 (aT.mode 40) (todoOf Try.prog 40 3) [(1,.p x0),(2,.ptr 0 0),(5,.ref 0 [])] ⟨[(0,some [.p x1,.p x2])],[(0,some ⟨(.own 1 8 false []),x3⟩)],0,0,2⟩
noncomputable def jD (x0 x1 x2 : PV) : Option R:=cD 40 0 0 (aT.mode 40) (todoOf Try.prog 40 4) [(2,.ptr 0 0),(5,.ref 0 [])] ⟨[(0,some [.p x0,.p x1])],[(0,some ⟨(.own 1 8 false []),x2⟩)],0,0,2⟩
noncomputable def jE (x0 x1 x2 : PV) : Option R:=cD 40 0 0 (aT.mode 40) (todoOf Try.prog 40 5) [(2,.ptr 0 0),(5,.ref 0 [])] ⟨[(0,some [.p x0,.p x1])],[(0,some ⟨(.own 1 8 false []),x2⟩)],0,0,2⟩
noncomputable def lV (x0 x1 : PV) : Option R:=aP 41 [x0,x1]
noncomputable def bB (x0 x1 x2 x3 : PV) : Option R:=cD 41 0 0 (aT.mode 41) (todoOf Try.prog 41 6) [(5,.p x0),(6,.p x1),(7,.ref 0 []),(8,.p x2)] ⟨[],[(0,some ⟨(.own 1 1 false []),x3⟩)],0,0,1⟩
noncomputable def pY (x0 x1 : PV) : Option R:=aP 42 [x0,x1]
noncomputable def bY (x0 x1 x2 x3 : PV) : Option R:=cD 42 0 0 (aT.mode 42) (todoOf Try.prog 42 5) [(5,.p x0),(6,.p x1),(7,.ref 0 []),(8,.p x2)] ⟨[],[(0,some ⟨(.own 1 1 false []),x3⟩)],0,0,1⟩
noncomputable def fO (x0 x1 x2 x3 : PV) : Option R:=cD 42 0 0 (aT.mode 42) (todoOf Try.prog 42 9) [(5,.p x0),(6,.p x1),(7,.ref 0 []),(8,.p x2)] ⟨[],[(0,some ⟨(.own 1 1 false []),x3⟩)],0,0,1⟩
noncomputable def tD (x0 : PV) : Option R:=aP 43 [x0]
noncomputable def gZ (x0 x1 x2 x3 x4 x5 : PV) : Option R:=cD 43 0 0 (aT.mode 43) (todoOf Try.prog 43 4) [(1,.ptr 0 0),(2,.ptr 1 0),(3,.p x0)] ⟨[(0,some [.p x1,.p x2]),(1,some [.p x3,.p x4,.p x5])],[],0,0,2⟩
noncomputable def fP (x0 x1 x2 x3 x4 x5 x6 x7 x8 : PV) : Option R:=cD 43 0 0 (aT.mode 43) (todoOf Try.prog 43 9) [(1,.ptr 0 0),(2,.ptr 1 0),(3,.p x0),(4,.p x1),(5,.p x2),(6,.p x3)] ⟨[(0,some [.p x4,.p x5]),(1,some [.p x6,.p x7,.p x8])],[],0,0,2⟩
noncomputable def gD (x0 x1 x2 x3 x4 x5 x6 x7 x8 x9 x10 x11 : PV) : Option R:=cD 43 0 0 (aT.mode 43) (todoOf Try.prog 43 18) [(1,.ptr 0 0),(2,.ptr 1 0),(3,.p x0),(4,.p x1),(5,.p x2),(6,.p x3),(9,.p x4),(10,.p x5),(11,.p x6)] ⟨[(0,some [.p x7,.p x8]),(1,some [.p x9,.p x10,.p x11])],[],0,0,2⟩
noncomputable def eT (x0 x1 x2 x3 x4 x5 x6 x7 x8 x9 x10 x11 : PV) : Option R:=cD 43 0 0 (aT.mode 43) (todoOf Try.prog 43 23) [(1,.ptr 0 0),(2,.ptr 1 0),(3,.p x0),(4,.p x1),(5,.p x2),(6,.p x3),(9,.p x4),(10,.p x5),(12,.p x6)] ⟨[(0,some [.p x7,.p x8]),(1,some [.p x9,.p x10,.p x11])],[],0,0,2⟩
noncomputable def pZ (x0 : PV) : Option R:=aP 60 [x0]
noncomputable def iI (x0 x1 x2 : PV) : Option R:=cD 60 0 0 (aT.mode 60) (todoOf Try.prog 60 4) [(1,.ptr 0 0),(3,.p x0)] ⟨[(0,some [.p x1,.p x2])],[],0,0,1⟩
noncomputable def fQ (x0 x1 x2 : PV) : Option R:=cD 60 0 0 (aT.mode 60) (todoOf Try.prog 60 9) [(1,.ptr 0 0),(4,.p x0)] ⟨[(0,some [.p x1,.p x2])],[],0,0,1⟩
noncomputable def gR (x0 x1 x2 x3 x4 x5 x6 : PV) : Option R:=cD 60 0 0 (aT.mode 60) (todoOf Try.prog 60 15) [(1,.ptr 0 0),(4,.p x0),(5,.ptr 1 0),(6,.p x1)] ⟨[(0,some [.p x2,.p x3]),(1,some [.p x4,.p x5,.p x6])],[],0,0,2⟩
noncomputable def rJ (x0 : PV) : Option R:=aP 69 [x0]
noncomputable def jF (x0 x1 : PV) : Option R:=cD 69 0 0 (aT.mode 69) (todoOf Try.prog 69 4) [(0,.p x0),(3,.p x1)] ⟨[],[],0,0,0⟩
noncomputable def vQ (x0 x1 x2 : PV) : Option R:=aP 70 [x0,x1,x2]
noncomputable def nT (x0 x1 x2 : PV) : Option R:=fD 7 [.p x0,.p x1,.p x2] ⟨[],[],0,0,0⟩
noncomputable def bW (x0 x1 x2 x3 x4 x5 x6 x7 x8 : PV) : Option R:=cD 7 0 0 (aT.mode 7) (todoOf Try.prog 7 15) [(2,.p x0),(6,.ptr 0 0),(11,.ptr 1 0),(12,.ref 4 []),(13,.eptr 3 [] x1 0),(127,.p x2),(128,.p x3)] ⟨[(0,some [.ref 0 [],.ref 1 []]),(1,some [.ref 2 [],.ref 3 []])],[(0,some ⟨(.own 1 16 false []),x4⟩),(1,some ⟨(.own 3 40 true [.leaf,.leaf,(.own 2 16 true [])]),x5⟩),(2,some ⟨(.own 1 16 false []),x6⟩),(3,some ⟨(.own 3 40 true [.leaf,.leaf,(.own 2 16 true [])]),x7⟩),(4,some ⟨(.own 2 16 true []),x8⟩)],0,0,7⟩
noncomputable def kB (x0 x1 x2 x3 x4 x5 x6 x7 x8 x9 x10 : PV) : Option R:=cD 7 0 0 (aT.mode 7) (todoOf Try.prog 7 20) [(2,.p x0),(6,.ptr 0 0),(11,.ptr 1 0),(12,.ref 4 []),(13,.eptr 3 [] x1 0),(16,.eptr 3 [(x2,2)] x3 0),(127,.p x4),(128,.p x5)] ⟨[(0,some [.ref 0 [],.ref 1 []]),(1,some [.ref 2 [],.ref 3 []])],[(0,some ⟨(.own 1 16 false []),x6⟩),(1,some ⟨(.own 3 40 true [.leaf,.leaf,(.own 2 16 true [])]),x7⟩),(2,some ⟨(.own 1 16 false []),x8⟩),(3,some ⟨(.own 3 40 true [.leaf,.leaf,(.own 2 16 true [])]),x9⟩),(4,some ⟨(.own 2 16 true []),x10⟩)],0,0,7⟩
noncomputable def aAy (x0 x1 : PV) : Option R:=aP 21 [x0,x1]
noncomputable def aBV (x0 x1 x2 : PV) : Option R:=aP 22 [x0,x1,x2]
noncomputable def jO (x0 x1 : PV) : Option R:=aP 23 [x0,x1]
noncomputable def hH (x0 x1 x2 x3 x4 : PV) : Option R:=cD 23 0 0 (aT.mode 23) (todoOf Try.prog 23 5) [(2,.ptr 0 0),(5,.p x0),(6,.ref 0 []),(7,.p x1)] ⟨[(0,some [.p x2,.p x3])],[(0,some ⟨(.own 1 8 false []),x4⟩)],0,0,2⟩
noncomputable def eL (x0 x1 x2 x3 x4 x5 x6 x7 : PV) : Option R:=cD 23 0 0 (aT.mode 23) (todoOf Try.prog 23 8) [(2,.ptr 0 0),(5,.p x0),(6,.ref 0 []),(7,.p x1),(27,.p x2),(28,.p x3),(29,.p x4)] ⟨[(0,some [.p x5,.p x6])],[(0,some ⟨(.own 1 8 false []),x7⟩)],0,0,2⟩
noncomputable def dA (x0 x1 x2 x3 x4 x5 x6 x7 x8 x9 x10 x11 x12 : PV) : Option R:=cD 23 0 0 (aT.mode 23) (todoOf Try.prog 23 13) [(2,.ptr 0 0),(5,.p x0),(6,.ref 0 []),(7,.p x1),(10,.p x2),(11,.p x3),(27,.p x4),(28,.p x5),(29,.p x6),(51,.p x7),(52,.p x8),(53,.p x9)] ⟨[(0,some [.p x10,.p x11])],[(0,some ⟨(.own 1 8 false []),x12⟩)],0,0,2⟩
noncomputable def rW (x0 x1 x2 x3 x4 x5 x6 x7 x8 x9 x10 x11 x12 : PV) : Option R:=cD 23 0 0 (aT.mode 23) (todoOf Try.prog 23 16) [(2,.ptr 0 0),(5,.p x0),(6,.ref 0 []),(10,.p x1),(11,.p x2),(13,.p x3),(27,.p x4),(28,.p x5),(29,.p x6),(51,.p x7),(52,.p x8),(53,.p x9)] ⟨[(0,some [.p x10,.p x11])],[(0,some ⟨(.own 1 8 false []),x12⟩)],0,0,2⟩
noncomputable def qA (x0 x1 : PV) : Option R:=aP 24 [x0,x1]
noncomputable def dI (x0 x1 x2 x3 : PV) : Option R:=cD 24 0 0 (aT.mode 24) (todoOf Try.prog 24 3) [(5,.p x0),(16,.p x1),(17,.p x2),(18,.p x3)] ⟨[],[],0,0,0⟩
noncomputable def bT (x0 x1 : PV) : Option R:=aP 25 [x0,x1]
noncomputable def aY (x0 x1 x2 x3 : PV) : Option R:=cD 25 0 0 (aT.mode 25) (todoOf Try.prog 25 2) [(0,.p x0),(1,.p x1),(7,.p x2),(8,.p x3)] ⟨[],[],0,0,0⟩
noncomputable def xN (x0 : PV) : Option R:=aP 26 [x0]
noncomputable def lG (x0 : PV) : Option R:=aP 30 [x0]
noncomputable def oZ (x0 : PV) : Option R:=aP 31 [x0]
noncomputable def bP (x0 x1 : PV) : Option R:=aP 45 [x0,x1]
noncomputable def pA (x0 x1 x2 : PV) : Option R:=aP 47 [x0,x1,x2]
noncomputable def mP (x0 x1 : PV) : Option R:=aP 48 [x0,x1]
noncomputable def bQ (x0 x1 x2 : PV) : Option R:=aP 52 [x0,x1,x2]
noncomputable def tE (x0 : PV) : Option R:=aP 53 [x0]
noncomputable def hU (x0 x1 x2 x3 x4 x5 x6 : PV) : Option R:=cD 53 0 0 (aT.mode 53) (todoOf Try.prog 53 4) [(1,.ptr 0 0),(2,.ptr 1 0),(16,.p x0),(17,.p x1)] ⟨[(0,some [.p x2,.p x3]),(1,some [.p x4,.p x5,.p x6])],[],0,0,2⟩
noncomputable def hX (x0 x1 x2 x3 x4 x5 x6 x7 x8 x9 x10 x11 : PV) : Option R:=cD 53 0 0 (aT.mode 53) (todoOf Try.prog 53 8) [(1,.ptr 0 0),(2,.ptr 1 0),(3,.p x0),(4,.ptr 2 0),(16,.p x1),(17,.p x2),(28,.p x3),(29,.p x4),(30,.p x5)] ⟨[(0,some [.p x6,.p x7]),(1,some [.p x8,.p x9,.p x10]),(2,some [.p x11])],[],0,0,3⟩
noncomputable def tF (x0 x1 : PV) : Option R:=aP 63 [x0,x1]
noncomputable def jG (x0 x1 x2 x3 : PV) : Option R:=cD 63 0 0 (aT.mode 63) (todoOf Try.prog 63 24) [(2,.ptr 0 0),(3,.ptr 1 0)] ⟨[(0,some [.p x0,.p x1]),(1,some [.p x2,.p x3])],[],0,0,2⟩
noncomputable def rX (x0 x1 x2 x3 : PV) : Option R:=cD 63 0 0 (aT.mode 63) (todoOf Try.prog 63 25) [(2,.ptr 0 0),(3,.ptr 1 0)] ⟨[(0,some [.p x0,.p x1]),(1,some [.p x2,.p x3])],[],0,0,2⟩
noncomputable def qB (x0 : PV) : Option R:=aP 64 [x0]
noncomputable def iJ (x0 x1 x2 x3 x4 : PV) : Option R:=cD 64 0 0 (aT.mode 64) (todoOf Try.prog 64 4) [(1,.ptr 0 0),(22,.p x0),(23,.p x1),(24,.p x2)] ⟨[(0,some [.p x3,.p x4])],[],0,0,1⟩
noncomputable def fR (x0 x1 : PV) : Option R:=aP 65 [x0,x1]
noncomputable def eE (x0 x1 : PV) : Option R:=aP 66 [x0,x1]
noncomputable def uW (x0 x1 x2 : PV) : Option R:=aP 67 [x0,x1,x2]
noncomputable def cV (x0 x1 : PV) : Option R:=aP 74 [x0,x1]
noncomputable def rY (x0 : PV) : Option R:=aP 75 [x0]
noncomputable def cK (x0 x1 : PV) : Option R:=aP 77 [x0,x1]
noncomputable def rZ (x0 x1 x2 : PV) : Option R:=aP 78 [x0,x1,x2]
noncomputable def hY (x0 x1 : PV) : Option R:=aP 80 [x0,x1]
noncomputable def dU (x0 x1 x2 x3 : PV) : Option R:=cD 80 0 0 (aT.mode 80) (todoOf Try.prog 80 2) [(0,.p x0),(1,.p x1),(7,.p x2),(8,.p x3)] ⟨[],[],0,0,0⟩
noncomputable def iV (x0 x1 : PV) : Option R:=aP 81 [x0,x1]
noncomputable def cU (x0 x1 x2 x3 : PV) : Option R:=cD 81 0 0 (aT.mode 81) (todoOf Try.prog 81 2) [(0,.p x0),(1,.p x1),(7,.p x2),(8,.p x3)] ⟨[],[],0,0,0⟩
noncomputable def fS (x0 x1 : PV) : Option R:=aP 83 [x0,x1]
noncomputable def bX (x0 x1 x2 x3 : PV) : Option R:=cD 83 0 0 (aT.mode 83) (todoOf Try.prog 83 2) [(0,.p x0),(1,.p x1),(7,.p x2),(8,.p x3)] ⟨[],[],0,0,0⟩
noncomputable def tG (x0 : PV) : Option R:=aP 76 [x0]
noncomputable def kC (x0 x1 x2 : PV) : Option R:=cD 76 0 0 (aT.mode 76) (todoOf Try.prog 76 2) [(0,.p x0),(5,.p x1),(6,.p x2)] ⟨[],[],0,0,0⟩
noncomputable def vR (x0 x1 x2 : PV) : Option R:=aP 79 [x0,x1,x2]
noncomputable def vS (x0 : PV) : Option R:=aP 84 [x0]
noncomputable def jH (x0 x1 x2 : PV) : Option R:=fD 9 [.agg [.ref 0 [],.ref 1 []],.p x0] ⟨[],[(0,some ⟨(.own 1 16 false []),x1⟩),(1,some ⟨(.own 3 40 true [.leaf,.leaf,(.own 2 16 true [])]),x2⟩)],0,0,2⟩
noncomputable def nU (x0 : PV) : Option R:=fD 19 [.p x0] ⟨[],[],0,0,0⟩
noncomputable def gS (x0 x1 x2 : PV) : Option R:=cD 19 0 0 (aT.mode 19) (todoOf Try.prog 19 3) [(0,.p x0),(3,.ref 0 []),(4,.p x1)] ⟨[],[(0,some ⟨(.own 1 16 false []),x2⟩)],0,0,1⟩
noncomputable def rK (x0 : PV) : Option R:=fD 20 [.p x0] ⟨[],[],0,0,0⟩
noncomputable def gE (x0 x1 x2 : PV) : Option R:=cD 20 0 0 (aT.mode 20) (todoOf Try.prog 20 3) [(0,.p x0),(3,.ref 0 []),(4,.p x1)] ⟨[],[(0,some ⟨(.own 3 40 true [.leaf,.leaf,(.own 2 16 true [])]),x2⟩)],0,0,1⟩
noncomputable def jJ (x0 : PV) : Option R:=fD 17 [.p x0] ⟨[],[],0,0,0⟩
noncomputable def eR (x0 x1 x2 x3 x4 x5 x6 : PV) : Option R:=cD 17 0 0 (aT.mode 17) (todoOf Try.prog 17 3) [(1,.ptr 0 0),(2,.ptr 1 0),(3,.ptr 2 0),(4,.p x0)] ⟨[(0,some [.p x1,.p x2]),(1,some [.ref 0 [],.ref 1 []]),(2,some [.ref 2 [],.ref 3 []])],[(0,some ⟨(.own 1 16 false []),x3⟩),(1,some ⟨(.own 3 40 true [.leaf,.leaf,(.own 2 16 true [])]),x4⟩),(2,some ⟨(.own 1 16 false []),x5⟩),(3,some ⟨(.own 3 40 true [.leaf,.leaf,(.own 2 16 true [])]),x6⟩)],0,0,7⟩
noncomputable def mQ (x0 : PV) : Option R:=fD 59 [.p x0] ⟨[],[],0,0,0⟩
noncomputable def gF (x0 x1 x2 : PV) : Option R:=cD 59 0 0 (aT.mode 59) (todoOf Try.prog 59 3) [(0,.p x0),(3,.ref 0 []),(4,.p x1)] ⟨[],[(0,some ⟨(.own 1 8 false []),x2⟩)],0,0,1⟩
noncomputable def lW (x0 : PV) : Option R:=fD 27 [.p x0] ⟨[],[],0,0,0⟩
noncomputable def fY (x0 x1 x2 x3 x4 x5 x6 : PV) : Option R:=cD 27 0 0 (aT.mode 27) (todoOf Try.prog 27 3) [(2,.ptr 0 0),(3,.ptr 1 0),(11,.p x0),(12,.p x1),(13,.p x2)] ⟨[(0,some [.ref 0 [],.ref 1 []]),(1,some [.ref 2 [],.ref 3 []])],[(0,some ⟨(.own 1 16 false []),x3⟩),(1,some ⟨(.own 3 40 true [.leaf,.leaf,(.own 2 16 true [])]),x4⟩),(2,some ⟨(.own 1 16 false []),x5⟩),(3,some ⟨(.own 3 40 true [.leaf,.leaf,(.own 2 16 true [])]),x6⟩)],0,0,6⟩
noncomputable def rL (x0 x1 : PV) : Option R:=fD 28 [.p x0,.p x1] ⟨[],[],0,0,0⟩
noncomputable def jI (x0 x1 x2 x3 x4 x5 : PV) : Option R:=cD 28 0 0 (aT.mode 28) (todoOf Try.prog 28 3) [(1,.p x0),(2,.ptr 0 0),(5,.ref 0 []),(6,.p x1)] ⟨[(0,some [.p x2,.p x3,.p x4])],[(0,some ⟨(.own 2 16 true []),x5⟩)],0,0,2⟩
noncomputable def gG (x0 x1 x2 x3 x4 x5 : PV) : Option R:=cD 28 0 0 (aT.mode 28) (todoOf Try.prog 28 7) [(1,.p x0),(2,.ptr 0 0),(5,.ref 0 []),(7,.p x1)] ⟨[(0,some [.p x2,.p x3,.p x4])],[(0,some ⟨(.own 2 16 true []),x5⟩)],0,0,2⟩
noncomputable def dJ (x0 x1 x2 x3 x4 : PV) : Option R:=cD 28 0 0 (aT.mode 28) (todoOf Try.prog 28 11) [(1,.p x0),(5,.ref 0 []),(42,.p x1),(43,.p x2),(44,.p x3)] ⟨[],[(0,some ⟨(.own 2 16 true []),x4⟩)],0,0,1⟩
noncomputable def dD (x0 : PV) : Option R:=fD 29 [.p x0] ⟨[],[],0,0,0⟩
noncomputable def aW (x0 x1 x2 x3 x4 : PV) : Option R:=cD 29 0 0 (aT.mode 29) (todoOf Try.prog 29 3) [(0,.p x0),(3,.p x1),(9,.p x2),(10,.p x3),(11,.p x4)] ⟨[],[],0,0,0⟩
noncomputable def aU (x0 x1 x2 x3 : PV) : Option R:=cD 29 0 0 (aT.mode 29) (todoOf Try.prog 29 11) [(6,.ref 0 []),(25,.p x0),(26,.p x1),(27,.p x2)] ⟨[],[(0,some ⟨(.own 2 16 true []),x3⟩)],0,0,1⟩
noncomputable def gM (x0 x1 : PV) : Option R:=fD 46 [.p x0,.p x1] ⟨[],[],0,0,0⟩
noncomputable def iW (x0 x1 : PV) : Option R:=cD 46 0 0 (aT.mode 46) (todoOf Try.prog 46 3) [(0,.p x0),(1,.p x1)] ⟨[],[],0,0,0⟩
noncomputable def iX (x0 x1 : PV) : Option R:=cD 46 0 0 (aT.mode 46) (todoOf Try.prog 46 6) [(0,.p x0),(6,.p x1)] ⟨[],[],0,0,0⟩
noncomputable def dL (x0 x1 : PV) : Option R:=cD 46 0 0 (aT.mode 46) (todoOf Try.prog 46 8) [(7,.ref 0 []),(8,.p x0)] ⟨[],[(0,some ⟨(.own 1 8 false []),x1⟩)],0,0,1⟩
noncomputable def uX (x0 x1 : PV) : Option R:=aP 62 [x0,x1]
noncomputable def sA (x0 x1 : PV) : Option R:=aP 73 [x0,x1]
noncomputable def kX (x0 x1 : PV) : Option R:=fD 34 [.ref 0 [],.p x0] ⟨[],[(0,some ⟨(.own 1 16 false []),x1⟩)],0,0,1⟩
noncomputable def fM (x0 x1 x2 : PV) : Option R:=cD 34 0 1 ((aT.mode 34).map (Tmpl.fitK · [some (.own 1 16 false [])])) (todoOf Try.prog 34 2) [(0,.ref 0 []),(1,.p x0),(5,.p x1)] ⟨[],[(0,some ⟨(.own 1 16 false []),x2⟩)],0,0,1⟩
noncomputable def nV (x0 x1 : PV) : Option R:=fD 35 [.ref 0 [],.p x0] ⟨[],[(0,some ⟨(.own 3 40 true [.leaf,.leaf,(.own 2 16 true [])]),x1⟩)],0,0,1⟩
noncomputable def gT (x0 x1 x2 : PV) : Option R:=cD 35 0 1 ((aT.mode 35).map (Tmpl.fitK · [some (.own 3 40 true [.leaf,.leaf,(.own 2 16 true [])])])) (todoOf Try.prog 35 2) [(0,.ref 0 []),(1,.p x0),(5,.p x1)] ⟨[],[(0,some ⟨(.own 3 40 true [.leaf,.leaf,(.own 2 16 true [])]),x2⟩)],0,0,1⟩
noncomputable def tH (x0 : PV) : Option R:=fD 44 [.p x0] ⟨[],[],0,0,0⟩
noncomputable def eM (x0 : PV) : Option R:=fD 49 [.p x0] ⟨[],[],0,0,0⟩
noncomputable def dK (x0 : PV) : Option R:=fD 50 [.p x0] ⟨[],[],0,0,0⟩
noncomputable def fW (x0 : PV) : Option R:=fD 51 [.nils,.p x0] ⟨[],[],0,0,0⟩
noncomputable def qC (x0 x1 x2 : PV) : Option R:=fD 56 [.ref 0 [(x0,2)],.p x1] ⟨[],[(0,some ⟨(.own 3 40 true [.leaf,.leaf,(.own 2 16 true [])]),x2⟩)],0,0,1⟩
noncomputable def iK (x0 x1 x2 x3 : PV) : Option R:=cD 56 0 1 ((aT.mode 56).map (Tmpl.fitK · [some (.own 3 40 true [.leaf,.leaf,(.own 2 16 true [])])])) (todoOf Try.prog 56 2) [(0,.ref 0 [(x0,2)]),(1,.p x1),(5,.p x2)] ⟨[],[(0,some ⟨(.own 3 40 true [.leaf,.leaf,(.own 2 16 true [])]),x3⟩)],0,0,1⟩
noncomputable def tI (x0 : PV) : Option R:=fD 61 [.p x0] ⟨[],[],0,0,0⟩
noncomputable def kD (x0 x1 x2 : PV) : Option R:=cD 61 0 0 (aT.mode 61) (todoOf Try.prog 61 3) [(0,.p x0),(3,.ref 0 []),(4,.p x1)] ⟨[],[(0,some ⟨(.own 2 16 true []),x2⟩)],0,0,1⟩
noncomputable def vT (x0 : PV) : Option R:=aP 71 [x0]
end Go.Proofs.Ythkofpnllaapeaa
namespace Go.Proofs.Ythkofpnllaapeaa
open Go
theorem tJ (x0 x1 x2 : PV) : jY x0 x1 x2 =
 bd (PV.whole 2 x0) fun v0=>
 bd (PV.cell v0 0) fun v1=>
 bd (PV.cell v0 1) fun v2=>
 bd (pW (.agg [v1,v2]) (.int .i64 1048576)) fun r3=>
 bd (PV.bin .lss (hd r3) (.int .i64 0)) fun v4=>
 PV.ite v4
 (some [.bool true])
 (bd (fF (.agg [v1,v2])) fun r5=>
 PV.guardOwn (.own 1 16 false []) (gd r5 0) (
 PV.guardOwn (.own 3 40 true [.leaf,.leaf,(.own 2 16 true [])]) (gd r5 1) (
 bd (rI (.agg [(gd r5 0),(gd r5 1)]) x1 x2) fun r6=>
 PV.guardOwn (.own 1 16 false []) (gd r6 0) (
 PV.guardOwn (.own 3 40 true [.leaf,.leaf,(.own 2 16 true [])]) (gd r6 1) (
 bd (fF (.agg [v1,v2])) fun r7=>
 PV.guardOwn (.own 1 16 false []) (gd r7 0) (
 PV.guardOwn (.own 3 40 true [.leaf,.leaf,(.own 2 16 true [])]) (gd r7 1) (
 bd (nT (.agg [(gd r7 0),(gd r7 1)]) x1 x2) fun r8=>
 PV.guardOwn (.own 1 16 false []) (gd r8 0) (
 PV.guardOwn (.own 3 40 true [.leaf,.leaf,(.own 2 16 true [])]) (gd r8 1) (
 bd (fE (.agg [(gd r8 0),(gd r8 1)]) (.agg [(gd r6 0),(gd r6 1)])) fun r9=>
 PV.guardFlat (hd r9) (
 bd (PV.not (hd r9)) fun v10=>
 PV.ite v10
 (some [.bool false])
 (bd (fF (.agg [v1,v2])) fun r11=>
 PV.guardOwn (.own 1 16 false []) (gd r11 0) (
 PV.guardOwn (.own 3 40 true [.leaf,.leaf,(.own 2 16 true [])]) (gd r11 1) (
 bd (fE (.agg [(gd r7 0),(gd r7 1)]) (.agg [(gd r11 0),(gd r11 1)])) fun r12=>
 PV.guardFlat (hd r12) (
 bd (PV.not (hd r12)) fun v13=>
 PV.ite v13
 (some [.bool false])
 (bd (jH (.int .i64 1) (gd r7 0) (gd r7 1)) fun r14=>
 bd (PV.bin .lss (gd r14 0) (.int .i64 0)) fun v15=>
 PV.ite v15
 (some [.bool false])
 (bd (fE (.agg [(gd r8 0),(gd r8 1)]) (.agg [(gd r6 0),(gd r6 1)])) fun r16=>
 PV.guardFlat (hd r16) (
 bd (PV.not (hd r16)) fun v17=>
 PV.ite v17
 (some [.bool false])
 (bd (jH (.int .i64 1) (gd r8 0) (gd r8 1)) fun r18=>
 bd (jB (.agg [(gd r18 1),(gd r18 2)]) (.int .i64 1)) fun r19=>
 PV.guardFlat (hd r19) (
 bd (PV.bin .lss (hd r19) (.int .i64 0)) fun v20=>
 PV.ite v20
 (some [.bool false])
 (bd (PV.bin .neq (hd r19) (gd r18 0)) fun v21=>
 PV.ite v21
 (some [.bool false])
 (bd (fF (.agg [v1,v2])) fun r22=>
 PV.guardOwn (.own 1 16 false []) (gd r22 0) (
 PV.guardOwn (.own 3 40 true [.leaf,.leaf,(.own 2 16 true [])]) (gd r22 1) (
 bd (nT (.agg [(gd r22 0),(gd r22 1)]) x1 x2) fun r23=>
 PV.guardOwn (.own 1 16 false []) (gd r23 0) (
 PV.guardOwn (.own 3 40 true [.leaf,.leaf,(.own 2 16 true [])]) (gd r23 1) (
 bd (fE (.agg [(gd r23 0),(gd r23 1)]) (.agg [(gd r6 0),(gd r6 1)])) fun r24=>
 PV.guardFlat (hd r24) (
 bd (PV.not (hd r24)) fun v25=>
 PV.ite v25
 (some [.bool false])
 (bd (jB (.agg [(gd r18 1),(gd r18 2)]) (.int .i64 1)) fun r26=>
 PV.guardFlat (hd r26) (
 bd (PV.bin .lss (hd r26) (.int .i64 0)) fun v27=>
 PV.ite v27
 (some [.bool false])
 (bd (PV.bin .neq (hd r26) (gd r18 0)) fun v28=>
 PV.ite v28
 (some [.bool false])
 (some [.bool true])))))))))))))))))))))))))))))):=aO _ _ _ (by kernel_rfl)
theorem zC (x0 x1 : PV) : pW x0 x1 =
 bd (PV.whole 2 x0) fun v0=>
 bd (PV.cell v0 0) fun v1=>
 bd (PV.cell v0 1) fun v2=>
 bd (nO v1 x1) fun r3=>
 bd (PV.bin .lss (hd r3) (.int .i64 0)) fun v4=>
 PV.ite v4
 (some [(.int .i64 (-1))])
 (bd (rG v2 (hd r3)) fun r5=>
 bd (PV.bin .lss (hd r5) (.int .i64 0)) fun v6=>
 PV.ite v6
 (some [(.int .i64 (-1))])
 (some [(hd r5)])):=aO _ _ _ (by kernel_rfl)
theorem zD (x0 x1 : PV) : fE x0 x1 =
 bd (PV.whole 2 x0) fun v0=>
 bd (PV.cell v0 0) fun v1=>
 bd (PV.cell v0 1) fun v2=>
 bd (PV.whole 2 x1) fun v3=>
 bd (PV.cell v3 0) fun v4=>
 bd (PV.cell v3 1) fun v5=>
 bd (nP v1 v4) fun r6=>
 bd (PV.not (hd r6)) fun v7=>
 PV.ite v7
 (some [.bool false])
 (bd (rH v2 v5) fun r8=>
 bd (PV.not (hd r8)) fun v9=>
 PV.ite v9
 (some [.bool false])
 (some [.bool true])):=aO _ _ _ (by kernel_rfl)
theorem vU (x0 x1 : PV) : jB x0 x1 =
 bd (PV.whole 2 x0) fun v0=>
 bd (PV.cell v0 0) fun v1=>
 bd (PV.cell v0 1) fun v2=>
 bd (kV v1 x1) fun r3=>
 bd (PV.bin .lss (hd r3) (.int .i64 0)) fun v4=>
 PV.ite v4
 (some [(.int .i64 (-1))])
 (bd (nQ v2 (hd r3)) fun r5=>
 bd (PV.bin .lss (hd r5) (.int .i64 0)) fun v6=>
 PV.ite v6
 (some [(.int .i64 (-1))])
 (some [(hd r5)])):=aO _ _ _ (by kernel_rfl)
theorem xO (x0 x1 : PV) : nO x0 x1 =
 bd (PV.len x0) fun v0=>
 bd (PV.bin .sub x1 v0) fun v1=>
 bd (PV.bin .lss v1 (.int .i64 0)) fun v2=>
 PV.ite v2
 (some [(.int .i64 (-1))])
 (eX x0 v1 (.int .i64 0)):=aO _ _ _ (by kernel_rfl)
theorem lH (x0 x1 x2 : PV) : eX x0 x1 x2 =
 bd (PV.len x0) fun v0=>
 bd (PV.bin .lss x2 v0) fun v1=>
 PV.ite v1
 (bd (PV.at_ 1 false x0 x2) fun v2=>
 bd (PV.slen v2) fun v3=>
 bd (PV.bin .sub x1 v3) fun v4=>
 bd (PV.bin .lss v4 (.int .i64 0)) fun v5=>
 PV.ite v5
 (some [(.int .i64 (-1))])
 (bd (PV.bin .add x2 (.int .i64 1)) fun v6=>
 eX x0 v4 v6))
 (some [x1]):=aS _ _ _ _ _ _ _ _ (by kernel_rfl)
theorem aAL (x0 x1 : PV) : rG x0 x1 =
 bd (PV.len x0) fun v0=>
 bd (PV.bin .sub x1 v0) fun v1=>
 bd (PV.bin .lss v1 (.int .i64 0)) fun v2=>
 PV.ite v2
 (some [(.int .i64 (-1))])
 (gC x0 v1 (.int .i64 0)):=aO _ _ _ (by kernel_rfl)
theorem nW (x0 x1 x2 : PV) : gC x0 x1 x2 =
 bd (PV.len x0) fun v0=>
 bd (PV.bin .lss x2 v0) fun v1=>
 PV.ite v1
 (bd (PV.at_ 3 true x0 x2) fun v2=>
 bd (sZ v2 x1) fun r3=>
 bd (PV.bin .lss (hd r3) (.int .i64 0)) fun v4=>
 PV.ite v4
 (some [(.int .i64 (-1))])
 (bd (PV.bin .add x2 (.int .i64 1)) fun v5=>
 gC x0 (hd r3) v5))
 (some [x1]):=aS _ _ _ _ _ _ _ _ (by kernel_rfl)
theorem xP (x0 x1 : PV) : nP x0 x1 =
 bd (PV.len x0) fun v0=>
 bd (PV.len x1) fun v1=>
 bd (PV.bin .neq v0 v1) fun v2=>
 PV.ite v2
 (some [.bool false])
 (gO x0 x1 (.int .i64 0)):=aO _ _ _ (by kernel_rfl)
theorem lI (x0 x1 x2 : PV) : gO x0 x1 x2 =
 bd (PV.len x0) fun v0=>
 bd (PV.bin .lss x2 v0) fun v1=>
 PV.ite v1
 (bd (PV.at_ 1 false x0 x2) fun v2=>
 bd (PV.at_ 1 false x1 x2) fun v3=>
 bd (PV.bin .neq v2 v3) fun v4=>
 PV.ite v4
 (some [.bool false])
 (bd (PV.bin .add x2 (.int .i64 1)) fun v5=>
 gO x0 x1 v5))
 (some [.bool true]):=aS _ _ _ _ _ _ _ _ (by kernel_rfl)
theorem aAM (x0 x1 : PV) : rH x0 x1 =
 bd (PV.len x0) fun v0=>
 bd (PV.len x1) fun v1=>
 bd (PV.bin .neq v0 v1) fun v2=>
 PV.ite v2
 (some [.bool false])
 (jC x0 x1 (.int .i64 0)):=aO _ _ _ (by kernel_rfl)
theorem nX (x0 x1 x2 : PV) : jC x0 x1 x2 =
 bd (PV.len x0) fun v0=>
 bd (PV.bin .lss x2 v0) fun v1=>
 PV.ite v1
 (bd (PV.at_ 3 true x0 x2) fun v2=>
 bd (PV.at_ 3 true x1 x2) fun v3=>
 bd (tA v2 v3) fun r4=>
 bd (PV.not (hd r4)) fun v5=>
 PV.ite v5
 (some [.bool false])
 (bd (PV.bin .add x2 (.int .i64 1)) fun v6=>
 jC x0 x1 v6))
 (some [.bool true]):=aS _ _ _ _ _ _ _ _ (by kernel_rfl)
theorem uJ (x0 x1 : PV) : kV x0 x1=fL x0 x1 (.int .i64 0):=aO _ _ _ (by kernel_rfl)
theorem kE (x0 x1 x2 : PV) : fL x0 x1 x2 =
 bd (PV.len x0) fun v0=>
 bd (PV.bin .lss x2 v0) fun v1=>
 PV.ite v1
 (bd (PV.at_ 1 false x0 x2) fun v2=>
 bd (lE x1) fun r3=>
 bd (PV.bin .neq v2 (hd r3)) fun v4=>
 PV.ite v4
 (some [(.int .i64 (-1))])
 (bd (PV.bin .add x1 (.int .i64 1)) fun v5=>
 bd (PV.bin .add x2 (.int .i64 1)) fun v6=>
 fL x0 v5 v6))
 (some [x1]):=aS _ _ _ _ _ _ _ _ (by kernel_rfl)
theorem xQ (x0 x1 : PV) : nQ x0 x1=gP x0 x1 (.int .i64 0):=aO _ _ _ (by kernel_rfl)
theorem lJ (x0 x1 x2 : PV) : gP x0 x1 x2 =
 bd (PV.len x0) fun v0=>
 bd (PV.bin .lss x2 v0) fun v1=>
 PV.ite v1
 (bd (PV.at_ 3 true x0 x2) fun v2=>
 bd (PV.cell v2 0) fun v3=>
 bd (PV.bin .neq v3 x1) fun v4=>
 PV.ite v4
 (some [(.int .i64 (-1))])
 (bd (PV.bin .add x1 (.int .i64 1)) fun v5=>
 bd (PV.at_ 3 true x0 x2) fun v6=>
 bd (PV.cell v6 1) fun v7=>
 bd (PV.bin .neq v7 v5) fun v8=>
 PV.ite v8
 (some [(.int .i64 (-1))])
 (bd (PV.bin .add v5 (.int .i64 1)) fun v9=>
 bd (PV.at_ 3 true x0 x2) fun v10=>
 bd (PV.cell v10 2) fun v11=>
 bd (pX v11 v9) fun r12=>
 bd (PV.bin .lss (hd r12) (.int .i64 0)) fun v13=>
 PV.ite v13
 (some [(.int .i64 (-1))])
 (bd (PV.bin .add x2 (.int .i64 1)) fun v14=>
 gP x0 (hd r12) v14))))
 (some [x1]):=aS _ _ _ _ _ _ _ _ (by kernel_rfl)
theorem aBW (x0 x1 : PV) : sZ x0 x1 =
 bd (PV.whole 3 x0) fun v0=>
 bd (PV.cell v0 0) fun v1=>
 bd (PV.cell v0 1) fun v2=>
 bd (PV.cell v0 2) fun v3=>
 bd (tB v3 x1) fun r4=>
 bd (PV.bin .lss (hd r4) (.int .i64 0)) fun v5=>
 PV.ite v5
 (some [(.int .i64 (-1))])
 (some [(hd r4)]):=aO _ _ _ (by kernel_rfl)
theorem aBX (x0 x1 : PV) : tA x0 x1 =
 bd (PV.whole 3 x0) fun v0=>
 bd (PV.cell v0 0) fun v1=>
 bd (PV.cell v0 1) fun v2=>
 bd (PV.cell v0 2) fun v3=>
 bd (PV.whole 3 x1) fun v4=>
 bd (PV.cell v4 0) fun v5=>
 bd (PV.cell v4 1) fun v6=>
 bd (PV.cell v4 2) fun v7=>
 bd (PV.bin .neq v1 v5) fun v8=>
 PV.ite v8
 (some [.bool false])
 (bd (PV.bin .neq v2 v6) fun v9=>
 PV.ite v9
 (some [.bool false])
 (bd (tC v3 v7) fun r10=>
 bd (PV.not (hd r10)) fun v11=>
 PV.ite v11
 (some [.bool false])
 (some [.bool true]))):=aO _ _ _ (by kernel_rfl)
theorem zE (x0 : PV) : lE x0 =
 bd (PV.bin .leq x0 (.int .i64 0)) fun v0=>
 PV.ite v0
 (some [(.str (bs [109,48]))])
 (iG x0 (.str (bs []))):=aO _ _ _ (by kernel_rfl)
theorem lY (x0 x1 : PV) : iG x0 x1 =
 bd (PV.bin .gtr x0 (.int .i64 0)) fun v0=>
 PV.ite v0
 (bd (PV.bin .rem x0 (.int .i64 10)) fun v1=>
 bd (PV.bin .add (.int .i64 48) v1) fun v2=>
 bd (PV.conv .u8 v2) fun v3=>
 bd (PV.cat 1 1 false (.lst []) (.lst [v3])) fun v4=>
 bd (PV.toStr v4) fun v5=>
 bd (PV.bin .add v5 x1) fun v6=>
 bd (PV.bin .quo x0 (.int .i64 10)) fun v7=>
 iG v7 v6)
 (bd (PV.bin .add (.str (bs [109])) x1) fun v8=>
 some [v8]):=aS _ _ _ _ _ _ _ _ (by kernel_rfl)
theorem zF (x0 x1 : PV) : pX x0 x1=iH x0 x1 (.int .i64 0):=aO _ _ _ (by kernel_rfl)
theorem lZ (x0 x1 x2 : PV) : iH x0 x1 x2 =
 bd (PV.len x0) fun v0=>
 bd (PV.bin .lss x2 v0) fun v1=>
 PV.ite v1
 (bd (PV.at_ 2 true x0 x2) fun v2=>
 bd (PV.cell v2 0) fun v3=>
 bd (PV.bin .neq v3 x1) fun v4=>
 PV.ite v4
 (some [(.int .i64 (-1))])
 (bd (PV.bin .add x1 (.int .i64 1)) fun v5=>
 bd (PV.at_ 2 true x0 x2) fun v6=>
 bd (PV.cell v6 1) fun v7=>
 bd (PV.bin .neq v7 v5) fun v8=>
 PV.ite v8
 (some [(.int .i64 (-1))])
 (bd (PV.bin .add v5 (.int .i64 1)) fun v9=>
 bd (PV.bin .add x2 (.int .i64 1)) fun v10=>
 iH x0 v9 v10)))
 (some [x1]):=aS _ _ _ _ _ _ _ _ (by kernel_rfl)
theorem aBY (x0 x1 : PV) : tB x0 x1 =
 bd (PV.len x0) fun v0=>
 bd (PV.bin .sub x1 v0) fun v1=>
 bd (PV.bin .lss v1 (.int .i64 0)) fun v2=>
 PV.ite v2
 (some [(.int .i64 (-1))])
 (some [v1]):=aO _ _ _ (by kernel_rfl)
theorem aBZ (x0 x1 : PV) : tC x0 x1 =
 bd (PV.len x0) fun v0=>
 bd (PV.len x1) fun v1=>
 bd (PV.bin .neq v0 v1) fun v2=>
 PV.ite v2
 (some [.bool false])
 (jZ x0 x1 (.int .i64 0)):=aO _ _ _ (by kernel_rfl)
theorem pB (x0 x1 x2 : PV) : jZ x0 x1 x2 =
 bd (PV.len x0) fun v0=>
 bd (PV.bin .lss x2 v0) fun v1=>
 PV.ite v1
 (bd (PV.at_ 2 true x0 x2) fun v2=>
 bd (PV.at_ 2 true x1 x2) fun v3=>
 bd (vP v2 v3) fun r4=>
 bd (PV.not (hd r4)) fun v5=>
 PV.ite v5
 (some [.bool false])
 (bd (PV.bin .add x2 (.int .i64 1)) fun v6=>
 jZ x0 x1 v6))
 (some [.bool true]):=aS _ _ _ _ _ _ _ _ (by kernel_rfl)
theorem aCM (x0 x1 : PV) : vP x0 x1 =
 bd (PV.whole 2 x0) fun v0=>
 bd (PV.cell v0 0) fun v1=>
 bd (PV.cell v0 1) fun v2=>
 bd (PV.whole 2 x1) fun v3=>
 bd (PV.cell v3 0) fun v4=>
 bd (PV.cell v3 1) fun v5=>
 bd (PV.bin .neq v1 v4) fun v6=>
 PV.ite v6
 (some [.bool false])
 (bd (PV.bin .neq v2 v5) fun v7=>
 PV.ite v7
 (some [.bool false])
 (some [.bool true])):=aO _ _ _ (by kernel_rfl)
theorem zG (x0 : PV) : fF x0 =
 bd (PV.whole 2 x0) fun v0=>
 bd (PV.cell v0 0) fun v1=>
 bd (PV.cell v0 1) fun v2=>
 bd (nU v1) fun r3=>
 PV.guardOwn (.own 1 16 false []) (gd r3 0) (
 bd (rK v2) fun r4=>
 PV.guardOwn (.own 3 40 true [.leaf,.leaf,(.own 2 16 true [])]) (gd r4 0) (
 some [(gd r3 0),(gd r4 0)])):=dT _ _ _ _ (by kernel_rfl)
theorem aCN (x0 x1 x2 : PV) : rI x0 x1 x2 =
 bd (PV.whole 2 x0) fun v0=>
 bd (PV.cell v0 0) fun v1=>
 bd (PV.cell v0 1) fun v2=>
 bd (aBU (.agg [v1,v2]) x1) fun r3=>
 bd (PV.not (hd r3)) fun v4=>
 PV.ite v4
 (some [(.lst []),(.lst [])])
 (bd (PV.at_ 3 true v2 x1) fun v5=>
 bd (PV.cell v5 2) fun v6=>
 bd (PV.len v6) fun v7=>
 bd (PV.bin .sub v7 (.int .i64 1)) fun v8=>
 bd (aN x2 (.int .i64 0) v8) fun r9=>
 bd (PV.not (hd r9)) fun v10=>
 PV.ite v10
 (some [(.lst []),(.lst [])])
 (bd (PV.at_ 3 true v2 x1) fun v11=>
 bd (PV.cell v11 2) fun v12=>
 bd (PV.at_ 2 true v12 x2) fun v13=>
 bd (PV.whole 2 v13) fun v14=>
 bd (PV.cell v14 0) fun v15=>
 bd (PV.cell v14 1) fun v16=>
 bd (PV.bin .neq v15 (.int .i64 24)) fun v17=>
 PV.ite v17
 (some [(.lst []),(.lst [])])
 (bd (eK (.agg [v1,v2]) x1) fun r18=>
 bd (PV.at_ 1 false (hd r18) x2) fun v19=>
 bd (PV.bin .lss v19 (.int .i64 0)) fun v20=>
 PV.ite v20
 (some [(.lst []),(.lst [])])
 (bd (PV.bin .eql v16 x1) fun v21=>
 PV.ite v21
 (some [(.lst []),(.lst [])])
 (bd (kW (.agg [v1,v2]) v16) fun r22=>
 bd (PV.not (hd r22)) fun v23=>
 PV.ite v23
 (some [(.lst []),(.lst [])])
 (bd (PV.at_ 3 true v2 v16) fun v24=>
 bd (PV.whole 3 v24) fun v25=>
 bd (PV.cell v25 0) fun v26=>
 bd (PV.cell v25 1) fun v27=>
 bd (PV.cell v25 2) fun v28=>
 eH x1 x2 (.int .i64 0) v1 v2 v15 v16 v26 v27 v28 (.lst []) (.lst []))))))):=dT _ _ _ _ (by kernel_rfl)
theorem qP (x0 x1 x2 x3 x4 x5 x6 x7 x8 x9 x10 x11 : PV) : eH x0 x1 x2 x3 x4 x5 x6 x7 x8 x9 x10 x11 =
 bd (PV.at_ 2 true x9 x2) fun v0=>
 bd (PV.cell v0 0) fun v1=>
 bd (PV.bin .neq v1 (.int .i64 25)) fun v2=>
 PV.ite v2
 (bd (PV.bin .add x2 (.int .i64 1)) fun v3=>
 eH x0 x1 v3 x3 x4 x5 x6 x7 x8 x9 x10 x11)
 (bd (eK (.agg [x3,x4]) x6) fun r4=>
 bd (PV.at_ 1 false (hd r4) x2) fun v5=>
 bd (PV.bin .neq v5 (.int .i64 1)) fun v6=>
 PV.ite v6
 (some [(.lst []),(.lst [])])
 (bd (PV.at_ 3 true x4 x0) fun v7=>
 bd (PV.cell v7 1) fun v8=>
 bd (PV.bin .sub x7 (.int .i64 1)) fun v9=>
 kA x0 x1 x2 v8 v9 x3 x4 x7 x8 x9 x10 x11 (.lst []))):=aS _ _ _ _ _ _ _ _ (by kernel_rfl)
theorem pC (x0 x1 x2 x3 x4 x5 x6 x7 x8 x9 x10 x11 x12 : PV) : kA x0 x1 x2 x3 x4 x5 x6 x7 x8 x9 x10 x11 x12 =
 bd (PV.bin .geq x4 (.int .i64 0)) fun v0=>
 PV.ite v0
 (bd (PV.bin .add x3 x4) fun v1=>
 bd (PV.one v1) fun v2=>
 bd (PV.cat 2 16 true x12 (.lst [(.agg [(.int .i64 7),v2])])) fun v3=>
 bd (PV.bin .sub x4 (.int .i64 1)) fun v4=>
 kA x0 x1 x2 x3 v4 x5 x6 x7 x8 x9 x10 x11 v3)
 (gY x0 x1 x2 x3 x7 x5 x6 x7 x8 x9 x10 x11 x12):=aS _ _ _ _ _ _ _ _ (by kernel_rfl)
theorem pD (x0 x1 x2 x3 x4 x5 x6 x7 x8 x9 x10 x11 x12 : PV) : gY x0 x1 x2 x3 x4 x5 x6 x7 x8 x9 x10 x11 x12 =
 bd (PV.bin .lss x4 x8) fun v0=>
 PV.ite v0
 (bd (PV.bin .add x3 x4) fun v1=>
 bd (PV.one v1) fun v2=>
 bd (PV.cat 2 16 true x12 (.lst [(.agg [(.int .i64 4),(.int .i64 0)]),(.agg [(.int .i64 7),v2])])) fun v3=>
 bd (PV.bin .add x4 (.int .i64 1)) fun v4=>
 gY x0 x1 x2 x3 v4 x5 x6 x7 x8 x9 x10 x11 v3)
 (eJ x0 x1 x2 x3 (.int .i64 0) x5 x6 x7 x8 x9 x10 x11 x12):=aS _ _ _ _ _ _ _ _ (by kernel_rfl)
end Go.Proofs.Ythkofpnllaapeaa
namespace Go.Proofs.Ythkofpnllaapeaa
open Go
theorem pE (x0 x1 x2 x3 x4 x5 x6 x7 x8 x9 x10 x11 x12 : PV) : eJ x0 x1 x2 x3 x4 x5 x6 x7 x8 x9 x10 x11 x12 =
 bd (PV.bin .lss x4 x2) fun v0=>
 PV.ite v0
 (bd (PV.at_ 2 true x9 x4) fun v1=>
 bd (PV.whole 2 v1) fun v2=>
 bd (PV.cell v2 0) fun v3=>
 bd (PV.cell v2 1) fun v4=>
 bd (PV.bin .eql v3 (.int .i64 6)) fun v5=>
 PV.ite v5
 (nR x0 x1 x2 x3 x4 x5 x6 x7 x8 x9 v3 v4 x10 x11 x12)
 (bd (PV.bin .eql v3 (.int .i64 7)) fun v6=>
 PV.ite v6
 (nR x0 x1 x2 x3 x4 x5 x6 x7 x8 x9 v3 v4 x10 x11 x12)
 (bd (PV.cat 2 16 true x12 (.lst [(.agg [v3,v4])])) fun v7=>
 bd (PV.bin .add x4 (.int .i64 1)) fun v8=>
 eJ x0 x1 x2 x3 v8 x5 x6 x7 x8 x9 x10 x11 v7)))
 (bd (jJ (.agg [x5,x6])) fun r9=>
 PV.guardOwn (.own 1 16 false []) (gd r9 0) (
 PV.guardOwn (.own 3 40 true [.leaf,.leaf,(.own 2 16 true [])]) (gd r9 1) (
 bd (PV.at_ 3 true x6 x0) fun v10=>
 bd (PV.cell v10 2) fun v11=>
 dO x0 x1 x3 v11 (.int .i64 0) x7 x8 x9 x10 x11 x12 (gd r9 0) (gd r9 1) (.lst []) (.lst [])))):=aS _ _ _ _ _ _ _ _ (by kernel_rfl)
theorem pF (x0 x1 x2 x3 x4 x5 x6 x7 x8 x9 x10 x11 x12 x13 x14 : PV) : nR x0 x1 x2 x3 x4 x5 x6 x7 x8 x9 x10 x11 x12 x13 x14 =
 bd (PV.bin .add x11 x3) fun v0=>
 bd (PV.one v0) fun v1=>
 bd (PV.cat 2 16 true x14 (.lst [(.agg [x10,v1])])) fun v2=>
 bd (PV.bin .add x4 (.int .i64 1)) fun v3=>
 eJ x0 x1 x2 x3 v3 x5 x6 x7 x8 x9 x12 x13 v2:=aS _ _ _ _ _ _ _ _ (by kernel_rfl)
theorem pG (x0 x1 x2 x3 x4 x5 x6 x7 x8 x9 x10 x11 x12 x13 x14 : PV) : dO x0 x1 x2 x3 x4 x5 x6 x7 x8 x9 x10 x11 x12 x13 x14 =
 bd (PV.len x3) fun v0=>
 bd (PV.bin .lss x4 v0) fun v1=>
 PV.ite v1
 (bd (PV.len x13) fun v2=>
 bd (PV.cat 1 8 false (.lst []) (.lst [v2])) fun v3=>
 bd (PV.cat 1 8 false x14 v3) fun v4=>
 bd (PV.bin .eql x4 x1) fun v5=>
 PV.ite v5
 (bd (PV.cat 2 16 true x13 x10) fun v6=>
 bd (PV.bin .add x4 (.int .i64 1)) fun v7=>
 dO x0 x1 x2 x3 v7 x5 x6 x7 x8 x9 x10 x11 x12 v6 v4)
 (bd (PV.at_ 2 true x3 x4) fun v8=>
 bd (PV.cat 2 16 true (.lst []) (.lst [v8])) fun v9=>
 bd (PV.cat 2 16 true x13 v9) fun v10=>
 bd (PV.bin .add x4 (.int .i64 1)) fun v11=>
 dO x0 x1 x2 x3 v11 x5 x6 x7 x8 x9 x10 x11 x12 v10 v4))
 (cY x0 x1 x2 (.int .i64 0) x5 x6 x7 x8 x9 x10 x11 x12 x13 x14):=aS _ _ _ _ _ _ _ _ (by kernel_rfl)
theorem pH (x0 x1 x2 x3 x4 x5 x6 x7 x8 x9 x10 x11 x12 x13 : PV) : cY x0 x1 x2 x3 x4 x5 x6 x7 x8 x9 x10 x11 x12 x13 =
 bd (PV.len x12) fun v0=>
 bd (PV.bin .lss x3 v0) fun v1=>
 PV.ite v1
 (bd (PV.bin .geq x3 x1) fun v2=>
 PV.ite v2
 (bd (PV.len x9) fun v3=>
 bd (PV.bin .add x1 v3) fun v4=>
 bd (PV.bin .lss x3 v4) fun v5=>
 bd (PV.not v5) fun v6=>
 PV.ite v6
 (bd (PV.inb x12 x3) fun v7=>
 bd (PV.at_ 2 true x12 x3) fun v8=>
 bd (PV.cell v8 0) fun v9=>
 bd (PV.bin .eql v9 (.int .i64 17)) fun v10=>
 PV.ite v10
 (dP x0 x1 x2 x3 x4 x5 x6 x7 x8 x9 x10 x11 x12 x13)
 (bd (PV.inb x12 x3) fun v11=>
 bd (PV.at_ 2 true x12 x3) fun v12=>
 bd (PV.cell v12 0) fun v13=>
 bd (PV.bin .eql v13 (.int .i64 18)) fun v14=>
 PV.ite v14
 (dP x0 x1 x2 x3 x4 x5 x6 x7 x8 x9 x10 x11 x12 x13)
 (bd (PV.inb x12 x3) fun v15=>
 bd (PV.at_ 2 true x12 x3) fun v16=>
 bd (PV.cell v16 0) fun v17=>
 bd (PV.bin .eql v17 (.int .i64 19)) fun v18=>
 PV.ite v18
 (dP x0 x1 x2 x3 x4 x5 x6 x7 x8 x9 x10 x11 x12 x13)
 (bd (PV.bin .add x3 (.int .i64 1)) fun v19=>
 cY x0 x1 x2 v19 x4 x5 x6 x7 x8 x9 x10 x11 x12 x13))))
 (bd (PV.bin .add x3 (.int .i64 1)) fun v20=>
 cY x0 x1 x2 v20 x4 x5 x6 x7 x8 x9 x10 x11 x12 x13))
 (bd (PV.inb x12 x3) fun v21=>
 bd (PV.at_ 2 true x12 x3) fun v22=>
 bd (PV.cell v22 0) fun v23=>
 bd (PV.bin .eql v23 (.int .i64 17)) fun v24=>
 PV.ite v24
 (dP x0 x1 x2 x3 x4 x5 x6 x7 x8 x9 x10 x11 x12 x13)
 (bd (PV.inb x12 x3) fun v25=>
 bd (PV.at_ 2 true x12 x3) fun v26=>
 bd (PV.cell v26 0) fun v27=>
 bd (PV.bin .eql v27 (.int .i64 18)) fun v28=>
 PV.ite v28
 (dP x0 x1 x2 x3 x4 x5 x6 x7 x8 x9 x10 x11 x12 x13)
 (bd (PV.inb x12 x3) fun v29=>
 bd (PV.at_ 2 true x12 x3) fun v30=>
 bd (PV.cell v30 0) fun v31=>
 bd (PV.bin .eql v31 (.int .i64 19)) fun v32=>
 PV.ite v32
 (dP x0 x1 x2 x3 x4 x5 x6 x7 x8 x9 x10 x11 x12 x13)
 (bd (PV.bin .add x3 (.int .i64 1)) fun v33=>
 cY x0 x1 x2 v33 x4 x5 x6 x7 x8 x9 x10 x11 x12 x13)))))
 (bd (PV.inb x11 x0) fun v34=>
 bd (PV.setCell 3 x11 x0 2 x12) fun v35=>
 bd (PV.bin .add x2 x5) fun v36=>
 bd (PV.inb v35 x0) fun v37=>
 bd (PV.one v36) fun v38=>
 bd (PV.setCell 3 v35 x0 1 v38) fun v39=>
 bd (mN (.agg [x10,v39])) fun r40=>
 PV.guardFlat (hd r40) (
 bd (PV.not (hd r40)) fun v41=>
 PV.ite v41
 (some [(.lst []),(.lst [])])
 (some [x10,v39]))):=aS _ _ _ _ _ _ _ _ (by kernel_rfl)
theorem xR (x0 x1 x2 x3 x4 x5 x6 x7 x8 x9 x10 x11 x12 x13 : PV) : dP x0 x1 x2 x3 x4 x5 x6 x7 x8 x9 x10 x11 x12 x13 =
 bd (PV.inb x12 x3) fun v0=>
 bd (PV.at_ 2 true x12 x3) fun v1=>
 bd (PV.cell v1 1) fun v2=>
 bd (PV.inb x13 v2) fun v3=>
 bd (PV.at_ 1 false x13 v2) fun v4=>
 bd (PV.inb x12 x3) fun v5=>
 bd (PV.one v4) fun v6=>
 bd (PV.setCell 2 x12 x3 1 v6) fun v7=>
 bd (PV.bin .add x3 (.int .i64 1)) fun v8=>
 cY x0 x1 x2 v8 x4 x5 x6 x7 x8 x9 x10 x11 v7 x13:=aS _ _ _ _ _ _ _ _ (by kernel_rfl)
theorem aCO (x0 x1 : PV) : aBU x0 x1 =
 bd (PV.whole 2 x0) fun v0=>
 bd (PV.cell v0 0) fun v1=>
 bd (PV.cell v0 1) fun v2=>
 bd (mN (.agg [v1,v2])) fun r3=>
 PV.ite (hd r3)
 (bd (PV.len v2) fun v4=>
 bd (PV.bin .sub v4 (.int .i64 1)) fun v5=>
 bd (aN x1 (.int .i64 0) v5) fun r6=>
 some [(hd r6)])
 (some [.bool false]):=aO _ _ _ (by kernel_rfl)
theorem vV (x0 x1 x2 : PV) : aN x0 x1 x2 =
 bd (PV.bin .geq x0 x1) fun v0=>
 PV.ite v0
 (bd (PV.bin .leq x0 x2) fun v1=>
 some [v1])
 (some [.bool false]):=aO _ _ _ (by kernel_rfl)
theorem xS (x0 x1 : PV) : eK x0 x1 =
 bd (PV.whole 2 x0) fun v0=>
 bd (PV.cell v0 0) fun v1=>
 bd (PV.cell v0 1) fun v2=>
 bd (PV.at_ 3 true v2 x1) fun v3=>
 bd (PV.cell v3 2) fun v4=>
 gQ v4 (.int .i64 0) v1 v2 (.lst []):=aO _ _ _ (by kernel_rfl)
theorem lK (x0 x1 x2 x3 x4 : PV) : gQ x0 x1 x2 x3 x4 =
 bd (PV.len x0) fun v0=>
 bd (PV.bin .lss x1 v0) fun v1=>
 PV.ite v1
 (bd (PV.cat 1 8 false x4 (.lst [(.int .i64 (-1))])) fun v2=>
 bd (PV.bin .add x1 (.int .i64 1)) fun v3=>
 gQ x0 v3 x2 x3 v2)
 (bd (PV.inb x4 (.int .i64 0)) fun v4=>
 bd (PV.setAt 1 false x4 (.int .i64 0) (.int .i64 0)) fun v5=>
 eY x0 (.bool true) x2 x3 v5):=aS _ _ _ _ _ _ _ _ (by kernel_rfl)
theorem eZ (x0 x1 x2 x3 x4 : PV) : eY x0 x1 x2 x3 x4 =
 PV.ite x1
 (cH x0 (.bool false) (.int .i64 0) x2 x3 x4)
 (some [x4]):=aS _ _ _ _ _ _ _ _ (by kernel_rfl)
theorem kL (x0 x1 x2 x3 x4 x5 : PV) : cH x0 x1 x2 x3 x4 x5 =
 bd (PV.len x0) fun v0=>
 bd (PV.bin .lss x2 v0) fun v1=>
 PV.ite v1
 (bd (PV.at_ 2 true x0 x2) fun v2=>
 bd (oY (.agg [x3,x4]) v2) fun r3=>
 bd (PV.comp (hd r3) 0) fun v4=>
 bd (PV.comp (hd r3) 1) fun v5=>
 bd (PV.inb x5 x2) fun v6=>
 bd (PV.at_ 1 false x5 x2) fun v7=>
 bd (PV.bin .sub v7 v4) fun v8=>
 bd (PV.bin .add v8 v5) fun v9=>
 bd (PV.inb x5 x2) fun v10=>
 bd (PV.at_ 1 false x5 x2) fun v11=>
 bd (PV.bin .lss v11 v4) fun v12=>
 PV.ite v12
 (bd (PV.bin .add x2 (.int .i64 1)) fun v13=>
 cH x0 x1 v13 x3 x4 x5)
 (bd (PV.bin .gtr v9 (.int .i64 16)) fun v14=>
 PV.ite v14
 (bd (PV.bin .add x2 (.int .i64 1)) fun v15=>
 cH x0 x1 v15 x3 x4 x5)
 (bd (PV.at_ 2 true x0 x2) fun v16=>
 bd (mO v16 x2) fun r17=>
 cT x0 x1 x2 v9 (hd r17) (.int .i64 0) x3 x4 x5)))
 (eY x0 x1 x3 x4 x5):=aS _ _ _ _ _ _ _ _ (by kernel_rfl)
theorem kM (x0 x1 x2 x3 x4 x5 x6 x7 x8 : PV) : cT x0 x1 x2 x3 x4 x5 x6 x7 x8 =
 bd (PV.len x4) fun v0=>
 bd (PV.bin .lss x5 v0) fun v1=>
 PV.ite v1
 (bd (PV.at_ 1 false x4 x5) fun v2=>
 bd (PV.len x0) fun v3=>
 bd (PV.bin .lss v2 v3) fun v4=>
 PV.ite v4
 (bd (PV.at_ 1 false x4 x5) fun v5=>
 bd (PV.inb x8 v5) fun v6=>
 bd (PV.at_ 1 false x8 v5) fun v7=>
 bd (PV.bin .lss v7 (.int .i64 0)) fun v8=>
 PV.ite v8
 (nS x0 x2 x3 x4 x5 x6 x7 x8)
 (bd (PV.bin .add x5 (.int .i64 1)) fun v9=>
 cT x0 x1 x2 x3 x4 v9 x6 x7 x8))
 (bd (PV.bin .add x5 (.int .i64 1)) fun v10=>
 cT x0 x1 x2 x3 x4 v10 x6 x7 x8))
 (bd (PV.bin .add x2 (.int .i64 1)) fun v11=>
 cH x0 x1 v11 x6 x7 x8):=aS _ _ _ _ _ _ _ _ (by kernel_rfl)
theorem sB (x0 x1 x2 x3 x4 x5 x6 x7 : PV) : nS x0 x1 x2 x3 x4 x5 x6 x7 =
 bd (PV.at_ 1 false x3 x4) fun v0=>
 bd (PV.inb x7 v0) fun v1=>
 bd (PV.setAt 1 false x7 v0 x2) fun v2=>
 bd (PV.bin .add x4 (.int .i64 1)) fun v3=>
 cT x0 (.bool true) x1 x2 x3 v3 x5 x6 v2:=aS _ _ _ _ _ _ _ _ (by kernel_rfl)
theorem uK (x0 x1 : PV) : kW x0 x1 =
 bd (PV.whole 2 x0) fun v0=>
 bd (PV.cell v0 0) fun v1=>
 bd (PV.cell v0 1) fun v2=>
 bd (lV (.agg [v1,v2]) x1) fun r3=>
 bd (PV.len (hd r3)) fun v4=>
 bd (PV.bin .eql v4 (.int .i64 1)) fun v5=>
 PV.ite v5
 (bd (pY (.agg [v1,v2]) x1) fun r6=>
 bd (PV.len (hd r6)) fun v7=>
 bd (PV.bin .eql v7 (.int .i64 0)) fun v8=>
 PV.ite v8
 (bd (PV.at_ 3 true v2 x1) fun v9=>
 bd (PV.cell v9 2) fun v10=>
 bd (PV.len v10) fun v11=>
 bd (PV.bin .leq v11 (.int .i64 24)) fun v12=>
 some [v12])
 (some [.bool false]))
 (some [.bool false]):=aO _ _ _ (by kernel_rfl)
theorem aAN (x0 : PV) : mN x0 =
 bd (PV.whole 2 x0) fun v0=>
 bd (PV.cell v0 0) fun v1=>
 bd (PV.cell v0 1) fun v2=>
 bd (tD (.agg [v1,v2])) fun r3=>
 bd (PV.cell (hd r3) 0) fun v4=>
 bd (PV.bin .eql v4 (.int .i64 0)) fun v5=>
 some [v5]:=aO _ _ _ (by kernel_rfl)
theorem aB0 (x0 x1 : PV) : oY x0 x1 =
 bd (PV.whole 2 x0) fun v0=>
 bd (PV.cell v0 0) fun v1=>
 bd (PV.cell v0 1) fun v2=>
 bd (PV.whole 2 x1) fun v3=>
 bd (PV.cell v3 0) fun v4=>
 bd (PV.cell v3 1) fun v5=>
 bd (PV.bin .eql v4 (.int .i64 1)) fun v6=>
 PV.ite v6
 (some [(.tup [(.int .i64 0),(.int .i64 1)])])
 (bd (PV.bin .eql v4 (.int .i64 2)) fun v7=>
 PV.ite v7
 (some [(.tup [(.int .i64 0),(.int .i64 1)])])
 (bd (PV.bin .eql v4 (.int .i64 3)) fun v8=>
 PV.ite v8
 (some [(.tup [(.int .i64 0),(.int .i64 1)])])
 (bd (PV.bin .eql v4 (.int .i64 4)) fun v9=>
 PV.ite v9
 (some [(.tup [(.int .i64 0),(.int .i64 1)])])
 (bd (PV.bin .eql v4 (.int .i64 5)) fun v10=>
 PV.ite v10
 (some [(.tup [(.int .i64 0),(.int .i64 1)])])
 (bd (PV.bin .eql v4 (.int .i64 6)) fun v11=>
 PV.ite v11
 (some [(.tup [(.int .i64 0),(.int .i64 1)])])
 (bd (PV.bin .eql v4 (.int .i64 20)) fun v12=>
 PV.ite v12
 (some [(.tup [(.int .i64 0),(.int .i64 1)])])
 (bd (PV.bin .eql v4 (.int .i64 7)) fun v13=>
 PV.ite v13
 (some [(.tup [(.int .i64 1),(.int .i64 0)])])
 (bd (PV.bin .eql v4 (.int .i64 9)) fun v14=>
 PV.ite v14
 (some [(.tup [(.int .i64 1),(.int .i64 0)])])
 (bd (PV.bin .eql v4 (.int .i64 18)) fun v15=>
 PV.ite v15
 (some [(.tup [(.int .i64 1),(.int .i64 0)])])
 (bd (PV.bin .eql v4 (.int .i64 19)) fun v16=>
 PV.ite v16
 (some [(.tup [(.int .i64 1),(.int .i64 0)])])
 (bd (PV.bin .eql v4 (.int .i64 25)) fun v17=>
 PV.ite v17
 (some [(.tup [(.int .i64 1),(.int .i64 0)])])
 (bd (PV.bin .eql v4 (.int .i64 26)) fun v18=>
 PV.ite v18
 (some [(.tup [(.int .i64 1),(.int .i64 0)])])
 (bd (PV.bin .eql v4 (.int .i64 8)) fun v19=>
 PV.ite v19
 (some [(.tup [(.int .i64 1),(.int .i64 2)])])
 (bd (PV.bin .eql v4 (.int .i64 10)) fun v20=>
 PV.ite v20
 (some [(.tup [(.int .i64 2),(.int .i64 2)])])
 (bd (PV.bin .eql v4 (.int .i64 11)) fun v21=>
 PV.ite v21
 (some [(.tup [(.int .i64 2),(.int .i64 1)])])
 (bd (PV.bin .eql v4 (.int .i64 12)) fun v22=>
 PV.ite v22
 (some [(.tup [(.int .i64 2),(.int .i64 1)])])
 (bd (PV.bin .eql v4 (.int .i64 13)) fun v23=>
 PV.ite v23
 (some [(.tup [(.int .i64 2),(.int .i64 1)])])
 (bd (PV.bin .eql v4 (.int .i64 14)) fun v24=>
 PV.ite v24
 (some [(.tup [(.int .i64 2),(.int .i64 1)])])
 (bd (PV.bin .eql v4 (.int .i64 15)) fun v25=>
 PV.ite v25
 (some [(.tup [(.int .i64 2),(.int .i64 1)])])
 (bd (PV.bin .eql v4 (.int .i64 16)) fun v26=>
 PV.ite v26
 (some [(.tup [(.int .i64 1),(.int .i64 1)])])
 (bd (PV.bin .eql v4 (.int .i64 21)) fun v27=>
 PV.ite v27
 (some [(.tup [(.int .i64 1),(.int .i64 1)])])
 (bd (PV.bin .eql v4 (.int .i64 22)) fun v28=>
 PV.ite v28
 (some [(.tup [(.int .i64 2),(.int .i64 0)])])
 (bd (PV.bin .eql v4 (.int .i64 23)) fun v29=>
 PV.ite v29
 (bd (aN v5 (.int .i64 0) (.int .i64 6)) fun r30=>
 PV.ite (hd r30)
 (bd (PV.bin .add v5 (.int .i64 1)) fun v31=>
 some [(.tup [v31,(.int .i64 1)])])
 (some [(.tup [(.int .i64 0),(.int .i64 0)])]))
 (bd (PV.bin .eql v4 (.int .i64 24)) fun v32=>
 PV.ite v32
 (bd (PV.len v2) fun v33=>
 bd (PV.bin .sub v33 (.int .i64 1)) fun v34=>
 bd (aN v5 (.int .i64 0) v34) fun r35=>
 PV.ite (hd r35)
 (bd (PV.at_ 3 true v2 v5) fun v36=>
 bd (PV.cell v36 0) fun v37=>
 some [(.tup [v37,(.int .i64 1)])])
 (some [(.tup [(.int .i64 0),(.int .i64 0)])]))
 (some [(.tup [(.int .i64 0),(.int .i64 0)])]))))))))))))))))))))))))):=aO _ _ _ (by kernel_rfl)
end Go.Proofs.Ythkofpnllaapeaa
namespace Go.Proofs.Ythkofpnllaapeaa
open Go
theorem aAO (x0 x1 : PV) : mO x0 x1 =
 bd (PV.whole 2 x0) fun v0=>
 bd (PV.cell v0 0) fun v1=>
 bd (PV.cell v0 1) fun v2=>
 bd (PV.bin .neq v1 (.int .i64 17)) fun v3=>
 PV.ite v3
 (bd (PV.bin .neq v1 (.int .i64 25)) fun v4=>
 PV.ite v4
 (rV x1 v1 v2 (.lst []))
 (jD v1 v2 (.lst [])))
 (jD v1 v2 (.lst [])):=aO _ _ _ (by kernel_rfl)
theorem vW (x0 x1 x2 x3 : PV) : rV x0 x1 x2 x3 =
 bd (PV.bin .add x0 (.int .i64 1)) fun v0=>
 bd (PV.cat 1 8 false (.lst []) (.lst [v0])) fun v1=>
 bd (PV.cat 1 8 false x3 v1) fun v2=>
 jD x1 x2 v2:=aS _ _ _ _ _ _ _ _ (by kernel_rfl)
theorem vX (x0 x1 x2 : PV) : jD x0 x1 x2 =
 bd (PV.bin .eql x0 (.int .i64 17)) fun v0=>
 PV.ite v0
 (jE x0 x1 x2)
 (bd (PV.bin .eql x0 (.int .i64 18)) fun v1=>
 PV.ite v1
 (jE x0 x1 x2)
 (bd (PV.bin .eql x0 (.int .i64 19)) fun v2=>
 PV.ite v2
 (jE x0 x1 x2)
 (some [x2]))):=aS _ _ _ _ _ _ _ _ (by kernel_rfl)
theorem vY (x0 x1 x2 : PV) : jE x0 x1 x2 =
 bd (PV.cat 1 8 false (.lst []) (.lst [x1])) fun v0=>
 bd (PV.cat 1 8 false x2 v0) fun v1=>
 some [v1]:=aS _ _ _ _ _ _ _ _ (by kernel_rfl)
theorem vZ (x0 x1 : PV) : lV x0 x1 =
 bd (PV.whole 2 x0) fun v0=>
 bd (PV.cell v0 0) fun v1=>
 bd (PV.cell v0 1) fun v2=>
 bd (PV.at_ 3 true v2 x1) fun v3=>
 bd (PV.cell v3 2) fun v4=>
 bd (eK (.agg [v1,v2]) x1) fun r5=>
 bd (PV.len v4) fun v6=>
 bd (PV.zeros 1 (.bool false) v6) fun v7=>
 bd (PV.bin .leq v6 v6) fun v8=>
 PV.ite v8
 (bd (PV.zeros 1 (.bool false) v6) fun v9=>
 bd (PV.inb v9 (.int .i64 0)) fun v10=>
 bd (PV.setAt 1 false v9 (.int .i64 0) (.bool true)) fun v11=>
 bB v4 (hd r5) (.int .i64 0) v11)
 (none):=aO _ _ _ (by kernel_rfl)
theorem kN (x0 x1 x2 x3 : PV) : bB x0 x1 x2 x3 =
 bd (PV.len x0) fun v0=>
 bd (PV.bin .lss x2 v0) fun v1=>
 PV.ite v1
 (bd (PV.at_ 2 true x0 x2) fun v2=>
 bd (PV.cell v2 0) fun v3=>
 bd (PV.at_ 1 false x1 x2) fun v4=>
 bd (PV.bin .lss v4 (.int .i64 0)) fun v5=>
 PV.ite v5
 (bd (PV.bin .add x2 (.int .i64 1)) fun v6=>
 bB x0 x1 v6 x3)
 (bd (PV.bin .neq v3 (.int .i64 17)) fun v7=>
 PV.ite v7
 (bd (PV.bin .neq v3 (.int .i64 18)) fun v8=>
 PV.ite v8
 (bd (PV.bin .neq v3 (.int .i64 19)) fun v9=>
 PV.ite v9
 (bd (PV.bin .add x2 (.int .i64 1)) fun v10=>
 bB x0 x1 v10 x3)
 (bd (PV.at_ 2 true x0 x2) fun v11=>
 bd (PV.cell v11 1) fun v12=>
 bd (PV.inb x3 v12) fun v13=>
 bd (PV.setAt 1 false x3 v12 (.bool true)) fun v14=>
 bd (PV.bin .neq v3 (.int .i64 17)) fun v15=>
 PV.ite v15
 (bd (PV.bin .add x2 (.int .i64 1)) fun v16=>
 bd (PV.inb v14 v16) fun v17=>
 bd (PV.setAt 1 false v14 v16 (.bool true)) fun v18=>
 bd (PV.bin .add x2 (.int .i64 1)) fun v19=>
 bB x0 x1 v19 v18)
 (bd (PV.bin .add x2 (.int .i64 1)) fun v20=>
 bB x0 x1 v20 v14)))
 (bd (PV.at_ 2 true x0 x2) fun v21=>
 bd (PV.cell v21 1) fun v22=>
 bd (PV.inb x3 v22) fun v23=>
 bd (PV.setAt 1 false x3 v22 (.bool true)) fun v24=>
 bd (PV.bin .neq v3 (.int .i64 17)) fun v25=>
 PV.ite v25
 (bd (PV.bin .add x2 (.int .i64 1)) fun v26=>
 bd (PV.inb v24 v26) fun v27=>
 bd (PV.setAt 1 false v24 v26 (.bool true)) fun v28=>
 bd (PV.bin .add x2 (.int .i64 1)) fun v29=>
 bB x0 x1 v29 v28)
 (bd (PV.bin .add x2 (.int .i64 1)) fun v30=>
 bB x0 x1 v30 v24)))
 (bd (PV.at_ 2 true x0 x2) fun v31=>
 bd (PV.cell v31 1) fun v32=>
 bd (PV.inb x3 v32) fun v33=>
 bd (PV.setAt 1 false x3 v32 (.bool true)) fun v34=>
 bd (PV.bin .neq v3 (.int .i64 17)) fun v35=>
 PV.ite v35
 (bd (PV.bin .add x2 (.int .i64 1)) fun v36=>
 bd (PV.inb v34 v36) fun v37=>
 bd (PV.setAt 1 false v34 v36 (.bool true)) fun v38=>
 bd (PV.bin .add x2 (.int .i64 1)) fun v39=>
 bB x0 x1 v39 v38)
 (bd (PV.bin .add x2 (.int .i64 1)) fun v40=>
 bB x0 x1 v40 v34))))
 (bd (mQ x3) fun r41=>
 PV.guardOwn (.own 1 8 false []) (gd r41 0) (
 some [(gd r41 0)])):=aS _ _ _ _ _ _ _ _ (by kernel_rfl)
theorem zH (x0 x1 : PV) : pY x0 x1 =
 bd (PV.whole 2 x0) fun v0=>
 bd (PV.cell v0 0) fun v1=>
 bd (PV.cell v0 1) fun v2=>
 bd (PV.at_ 3 true v2 x1) fun v3=>
 bd (PV.cell v3 2) fun v4=>
 bd (eK (.agg [v1,v2]) x1) fun r5=>
 bd (PV.len v4) fun v6=>
 bd (PV.zeros 1 (.bool false) v6) fun v7=>
 bd (PV.bin .leq v6 v6) fun v8=>
 PV.ite v8
 (bd (PV.zeros 1 (.bool false) v6) fun v9=>
 bY v4 (hd r5) (.int .i64 0) v9)
 (none):=aO _ _ _ (by kernel_rfl)
theorem mA (x0 x1 x2 x3 : PV) : bY x0 x1 x2 x3 =
 bd (PV.len x0) fun v0=>
 bd (PV.bin .lss x2 v0) fun v1=>
 PV.ite v1
 (bd (PV.at_ 2 true x0 x2) fun v2=>
 bd (PV.cell v2 0) fun v3=>
 bd (PV.at_ 1 false x1 x2) fun v4=>
 bd (PV.bin .geq v4 (.int .i64 0)) fun v5=>
 PV.ite v5
 (bd (PV.bin .eql v3 (.int .i64 17)) fun v6=>
 PV.ite v6
 (bd (PV.at_ 2 true x0 x2) fun v7=>
 bd (PV.cell v7 1) fun v8=>
 bd (PV.bin .leq v8 x2) fun v9=>
 PV.ite v9
 (fO x0 x1 x2 x3)
 (bd (PV.bin .add x2 (.int .i64 1)) fun v10=>
 bY x0 x1 v10 x3))
 (bd (PV.bin .eql v3 (.int .i64 18)) fun v11=>
 PV.ite v11
 (bd (PV.at_ 2 true x0 x2) fun v12=>
 bd (PV.cell v12 1) fun v13=>
 bd (PV.bin .leq v13 x2) fun v14=>
 PV.ite v14
 (fO x0 x1 x2 x3)
 (bd (PV.bin .add x2 (.int .i64 1)) fun v15=>
 bY x0 x1 v15 x3))
 (bd (PV.bin .eql v3 (.int .i64 19)) fun v16=>
 PV.ite v16
 (bd (PV.at_ 2 true x0 x2) fun v17=>
 bd (PV.cell v17 1) fun v18=>
 bd (PV.bin .leq v18 x2) fun v19=>
 PV.ite v19
 (fO x0 x1 x2 x3)
 (bd (PV.bin .add x2 (.int .i64 1)) fun v20=>
 bY x0 x1 v20 x3))
 (bd (PV.bin .add x2 (.int .i64 1)) fun v21=>
 bY x0 x1 v21 x3))))
 (bd (PV.bin .add x2 (.int .i64 1)) fun v22=>
 bY x0 x1 v22 x3))
 (bd (mQ x3) fun r23=>
 PV.guardOwn (.own 1 8 false []) (gd r23 0) (
 some [(gd r23 0)])):=aS _ _ _ _ _ _ _ _ (by kernel_rfl)
theorem uL (x0 x1 x2 x3 : PV) : fO x0 x1 x2 x3 =
 bd (PV.at_ 2 true x0 x2) fun v0=>
 bd (PV.cell v0 1) fun v1=>
 bd (PV.inb x3 v1) fun v2=>
 bd (PV.setAt 1 false x3 v1 (.bool true)) fun v3=>
 bd (PV.bin .add x2 (.int .i64 1)) fun v4=>
 bY x0 x1 v4 v3:=aS _ _ _ _ _ _ _ _ (by kernel_rfl)
theorem aB1 (x0 : PV) : tD x0 =
 bd (PV.whole 2 x0) fun v0=>
 bd (PV.cell v0 0) fun v1=>
 bd (PV.cell v0 1) fun v2=>
 bd (pZ (.agg [v1,v2])) fun r3=>
 bd (PV.not (hd r3)) fun v4=>
 PV.ite v4
 (some [(.agg [(.int .i64 1),(.int .i64 0),(.int .i64 0)])])
 (gZ (.int .i64 0) v1 v2 (.int .i64 0) (.int .i64 0) (.int .i64 0)):=aO _ _ _ (by kernel_rfl)
theorem pI (x0 x1 x2 x3 x4 x5 : PV) : gZ x0 x1 x2 x3 x4 x5 =
 bd (PV.len x2) fun v0=>
 bd (PV.bin .lss x0 v0) fun v1=>
 PV.ite v1
 (bd (PV.at_ 3 true x2 x0) fun v2=>
 bd (PV.cell v2 2) fun v3=>
 bd (eK (.agg [x1,x2]) x0) fun r4=>
 fP x0 v3 (hd r4) (.int .i64 0) x1 x2 x3 x4 x5)
 (some [(.agg [(.int .i64 0),(.int .i64 0),(.int .i64 0)])]):=aS _ _ _ _ _ _ _ _ (by kernel_rfl)
theorem pJ (x0 x1 x2 x3 x4 x5 x6 x7 x8 : PV) : fP x0 x1 x2 x3 x4 x5 x6 x7 x8 =
 bd (PV.len x1) fun v0=>
 bd (PV.bin .lss x3 v0) fun v1=>
 PV.ite v1
 (bd (PV.at_ 1 false x2 x3) fun v2=>
 bd (PV.bin .lss v2 (.int .i64 0)) fun v3=>
 PV.ite v3
 (bd (PV.bin .add x3 (.int .i64 1)) fun v4=>
 fP x0 x1 x2 v4 x4 x5 x6 x7 x8)
 (bd (PV.at_ 2 true x1 x3) fun v5=>
 bd (oY (.agg [x4,x5]) v5) fun r6=>
 bd (PV.comp (hd r6) 0) fun v7=>
 bd (PV.comp (hd r6) 1) fun v8=>
 bd (PV.at_ 1 false x2 x3) fun v9=>
 bd (PV.bin .sub v9 v7) fun v10=>
 bd (PV.bin .add v10 v8) fun v11=>
 bd (PV.at_ 1 false x2 x3) fun v12=>
 bd (PV.bin .lss v12 v7) fun v13=>
 PV.ite v13
 (bd (PV.one x0) fun v14=>
 bd (PV.one x3) fun v15=>
 some [(.agg [(.int .i64 2),v14,v15])])
 (bd (PV.bin .gtr v11 (.int .i64 16)) fun v16=>
 PV.ite v16
 (bd (PV.one x0) fun v17=>
 bd (PV.one x3) fun v18=>
 some [(.agg [(.int .i64 2),v17,v18])])
 (bd (PV.at_ 2 true x1 x3) fun v19=>
 bd (mO v19 x3) fun r20=>
 gD x0 x1 x2 x3 v11 (hd r20) (.int .i64 0) x4 x5 x6 x7 x8))))
 (bd (PV.bin .add x0 (.int .i64 1)) fun v21=>
 gZ v21 x4 x5 x6 x7 x8):=aS _ _ _ _ _ _ _ _ (by kernel_rfl)
theorem nY (x0 x1 x2 x3 x4 x5 x6 x7 x8 x9 x10 x11 : PV) : gD x0 x1 x2 x3 x4 x5 x6 x7 x8 x9 x10 x11 =
 bd (PV.len x5) fun v0=>
 bd (PV.bin .lss x6 v0) fun v1=>
 PV.ite v1
 (bd (PV.at_ 1 false x5 x6) fun v2=>
 bd (PV.len x1) fun v3=>
 bd (PV.bin .geq v2 v3) fun v4=>
 PV.ite v4
 (bd (PV.one x0) fun v5=>
 bd (PV.one x3) fun v6=>
 some [(.agg [(.int .i64 3),v5,v6])])
 (bd (PV.bin .add x6 (.int .i64 1)) fun v7=>
 gD x0 x1 x2 x3 x4 x5 v7 x7 x8 x9 x10 x11))
 (eT x0 x1 x2 x3 x4 x5 (.int .i64 0) x7 x8 x9 x10 x11):=aS _ _ _ _ _ _ _ _ (by kernel_rfl)
theorem nZ (x0 x1 x2 x3 x4 x5 x6 x7 x8 x9 x10 x11 : PV) : eT x0 x1 x2 x3 x4 x5 x6 x7 x8 x9 x10 x11 =
 bd (PV.len x5) fun v0=>
 bd (PV.bin .lss x6 v0) fun v1=>
 PV.ite v1
 (bd (PV.at_ 1 false x5 x6) fun v2=>
 bd (PV.at_ 1 false x2 v2) fun v3=>
 bd (PV.bin .neq v3 x4) fun v4=>
 PV.ite v4
 (bd (PV.one x0) fun v5=>
 bd (PV.one x3) fun v6=>
 some [(.agg [(.int .i64 4),v5,v6])])
 (bd (PV.bin .add x6 (.int .i64 1)) fun v7=>
 eT x0 x1 x2 x3 x4 x5 v7 x7 x8 x9 x10 x11))
 (bd (PV.bin .add x3 (.int .i64 1)) fun v8=>
 fP x0 x1 x2 v8 x7 x8 x9 x10 x11):=aS _ _ _ _ _ _ _ _ (by kernel_rfl)
theorem zI (x0 : PV) : pZ x0 =
 bd (PV.whole 2 x0) fun v0=>
 bd (PV.cell v0 0) fun v1=>
 bd (PV.cell v0 1) fun v2=>
 bd (PV.len v2) fun v3=>
 bd (aN v3 (.int .i64 1) (.int .i64 12)) fun r4=>
 bd (PV.not (hd r4)) fun v5=>
 PV.ite v5
 (some [.bool false])
 (bd (PV.len v1) fun v6=>
 bd (PV.bin .gtr v6 (.int .i64 20)) fun v7=>
 PV.ite v7
 (some [.bool false])
 (iI (.int .i64 0) v1 v2)):=aO _ _ _ (by kernel_rfl)
theorem mB (x0 x1 x2 : PV) : iI x0 x1 x2 =
 bd (PV.len x1) fun v0=>
 bd (PV.bin .lss x0 v0) fun v1=>
 PV.ite v1
 (bd (PV.at_ 1 false x1 x0) fun v2=>
 bd (rJ v2) fun r3=>
 bd (PV.not (hd r3)) fun v4=>
 PV.ite v4
 (some [.bool false])
 (bd (PV.bin .add x0 (.int .i64 1)) fun v5=>
 iI v5 x1 x2))
 (fQ (.int .i64 0) x1 x2):=aS _ _ _ _ _ _ _ _ (by kernel_rfl)
theorem mC (x0 x1 x2 : PV) : fQ x0 x1 x2 =
 bd (PV.len x2) fun v0=>
 bd (PV.bin .lss x0 v0) fun v1=>
 PV.ite v1
 (bd (PV.at_ 3 true x2 x0) fun v2=>
 bd (PV.whole 3 v2) fun v3=>
 bd (PV.cell v3 0) fun v4=>
 bd (PV.cell v3 1) fun v5=>
 bd (PV.cell v3 2) fun v6=>
 bd (aN v4 (.int .i64 0) (.int .i64 6)) fun r7=>
 bd (PV.not (hd r7)) fun v8=>
 PV.ite v8
 (some [.bool false])
 (bd (aN v5 v4 (.int .i64 12)) fun r9=>
 bd (PV.not (hd r9)) fun v10=>
 PV.ite v10
 (some [.bool false])
 (bd (PV.len v6) fun v11=>
 bd (aN v11 (.int .i64 1) (.int .i64 120)) fun r12=>
 bd (PV.not (hd r12)) fun v13=>
 PV.ite v13
 (some [.bool false])
 (gR x0 (.int .i64 0) x1 x2 v4 v5 v6))))
 (some [.bool true]):=aS _ _ _ _ _ _ _ _ (by kernel_rfl)
theorem lL (x0 x1 x2 x3 x4 x5 x6 : PV) : gR x0 x1 x2 x3 x4 x5 x6 =
 bd (PV.len x6) fun v0=>
 bd (PV.bin .lss x1 v0) fun v1=>
 PV.ite v1
 (bd (PV.at_ 2 true x6 x1) fun v2=>
 bd (vQ (.agg [x2,x3]) x0 v2) fun r3=>
 bd (PV.not (hd r3)) fun v4=>
 PV.ite v4
 (some [.bool false])
 (bd (PV.bin .add x1 (.int .i64 1)) fun v5=>
 gR x0 v5 x2 x3 x4 x5 x6))
 (bd (PV.bin .add x0 (.int .i64 1)) fun v6=>
 fQ v6 x2 x3):=aS _ _ _ _ _ _ _ _ (by kernel_rfl)
theorem aAP (x0 : PV) : rJ x0 =
 bd (PV.slen x0) fun v0=>
 bd (PV.bin .gtr v0 (.int .i64 60)) fun v1=>
 PV.ite v1
 (some [.bool false])
 (jF x0 (.int .i64 0)):=aO _ _ _ (by kernel_rfl)
theorem oA (x0 x1 : PV) : jF x0 x1 =
 bd (PV.slen x0) fun v0=>
 bd (PV.bin .lss x1 v0) fun v1=>
 PV.ite v1
 (bd (PV.chr x0 x1) fun v2=>
 bd (PV.bin .lss v2 (.int .u8 32)) fun v3=>
 PV.ite v3
 (some [.bool false])
 (bd (PV.chr x0 x1) fun v4=>
 bd (PV.bin .gtr v4 (.int .u8 126)) fun v5=>
 PV.ite v5
 (some [.bool false])
 (bd (PV.chr x0 x1) fun v6=>
 bd (PV.bin .eql v6 (.int .u8 34)) fun v7=>
 PV.ite v7
 (some [.bool false])
 (bd (PV.bin .add x1 (.int .i64 1)) fun v8=>
 jF x0 v8))))
 (some [.bool true]):=aS _ _ _ _ _ _ _ _ (by kernel_rfl)
theorem aCP (x0 x1 x2 : PV) : vQ x0 x1 x2 =
 bd (PV.whole 2 x0) fun v0=>
 bd (PV.cell v0 0) fun v1=>
 bd (PV.cell v0 1) fun v2=>
 bd (PV.whole 2 x2) fun v3=>
 bd (PV.cell v3 0) fun v4=>
 bd (PV.cell v3 1) fun v5=>
 bd (PV.len v2) fun v6=>
 bd (PV.bin .sub v6 (.int .i64 1)) fun v7=>
 bd (aN x1 (.int .i64 0) v7) fun r8=>
 bd (PV.not (hd r8)) fun v9=>
 PV.ite v9
 (some [.bool false])
 (bd (PV.bin .eql v4 (.int .i64 1)) fun v10=>
 PV.ite v10
 (bd (aN v5 (.int .i64 (-1000000000)) (.int .i64 1000000000)) fun r11=>
 some [(hd r11)])
 (bd (PV.bin .eql v4 (.int .i64 2)) fun v12=>
 PV.ite v12
 (bd (aN v5 (.int .i64 0) (.int .i64 1)) fun r13=>
 some [(hd r13)])
 (bd (PV.bin .eql v4 (.int .i64 3)) fun v14=>
 PV.ite v14
 (bd (PV.len v1) fun v15=>
 bd (PV.bin .sub v15 (.int .i64 1)) fun v16=>
 bd (aN v5 (.int .i64 0) v16) fun r17=>
 some [(hd r17)])
 (bd (PV.bin .eql v4 (.int .i64 5)) fun v18=>
 PV.ite v18
 (bd (PV.len v2) fun v19=>
 bd (PV.bin .sub v19 (.int .i64 1)) fun v20=>
 bd (aN v5 (.int .i64 0) v20) fun r21=>
 some [(hd r21)])
 (bd (PV.bin .eql v4 (.int .i64 24)) fun v22=>
 PV.ite v22
 (bd (PV.len v2) fun v23=>
 bd (PV.bin .sub v23 (.int .i64 1)) fun v24=>
 bd (aN v5 (.int .i64 0) v24) fun r25=>
 some [(hd r25)])
 (bd (PV.bin .eql v4 (.int .i64 6)) fun v26=>
 PV.ite v26
 (bd (PV.at_ 3 true v2 x1) fun v27=>
 bd (PV.cell v27 1) fun v28=>
 bd (PV.bin .sub v28 (.int .i64 1)) fun v29=>
 bd (aN v5 (.int .i64 0) v29) fun r30=>
 some [(hd r30)])
 (bd (PV.bin .eql v4 (.int .i64 7)) fun v31=>
 PV.ite v31
 (bd (PV.at_ 3 true v2 x1) fun v32=>
 bd (PV.cell v32 1) fun v33=>
 bd (PV.bin .sub v33 (.int .i64 1)) fun v34=>
 bd (aN v5 (.int .i64 0) v34) fun r35=>
 some [(hd r35)])
 (bd (PV.bin .eql v4 (.int .i64 17)) fun v36=>
 PV.ite v36
 (bd (PV.at_ 3 true v2 x1) fun v37=>
 bd (PV.cell v37 2) fun v38=>
 bd (PV.len v38) fun v39=>
 bd (PV.bin .sub v39 (.int .i64 1)) fun v40=>
 bd (aN v5 (.int .i64 0) v40) fun r41=>
 some [(hd r41)])
 (bd (PV.bin .eql v4 (.int .i64 18)) fun v42=>
 PV.ite v42
 (bd (PV.at_ 3 true v2 x1) fun v43=>
 bd (PV.cell v43 2) fun v44=>
 bd (PV.len v44) fun v45=>
 bd (PV.bin .sub v45 (.int .i64 1)) fun v46=>
 bd (aN v5 (.int .i64 0) v46) fun r47=>
 some [(hd r47)])
 (bd (PV.bin .eql v4 (.int .i64 19)) fun v48=>
 PV.ite v48
 (bd (PV.at_ 3 true v2 x1) fun v49=>
 bd (PV.cell v49 2) fun v50=>
 bd (PV.len v50) fun v51=>
 bd (PV.bin .sub v51 (.int .i64 1)) fun v52=>
 bd (aN v5 (.int .i64 0) v52) fun r53=>
 some [(hd r53)])
 (bd (PV.bin .eql v4 (.int .i64 20)) fun v54=>
 PV.ite v54
 (bd (aN v5 (.int .i64 0) (.int .i64 6)) fun r55=>
 some [(hd r55)])
 (bd (PV.bin .eql v4 (.int .i64 21)) fun v56=>
 PV.ite v56
 (bd (aN v5 (.int .i64 0) (.int .i64 5)) fun r57=>
 some [(hd r57)])
 (bd (PV.bin .eql v4 (.int .i64 22)) fun v58=>
 PV.ite v58
 (bd (aN v5 (.int .i64 0) (.int .i64 5)) fun r59=>
 some [(hd r59)])
 (bd (PV.bin .eql v4 (.int .i64 23)) fun v60=>
 PV.ite v60
 (bd (aN v5 (.int .i64 0) (.int .i64 6)) fun r61=>
 some [(hd r61)])
 (bd (aN v4 (.int .i64 1) (.int .i64 26)) fun r62=>
 PV.ite (hd r62)
 (bd (PV.bin .eql v5 (.int .i64 0)) fun v63=>
 some [v63])
 (some [.bool false])))))))))))))))):=aO _ _ _ (by kernel_rfl)
end Go.Proofs.Ythkofpnllaapeaa
namespace Go.Proofs.Ythkofpnllaapeaa
open Go
theorem aCQ (x0 x1 x2 : PV) : nT x0 x1 x2 =
 bd (PV.whole 2 x0) fun v0=>
 bd (PV.cell v0 0) fun v1=>
 bd (PV.cell v0 1) fun v2=>
 bd (aAy (.agg [v1,v2]) x1) fun r3=>
 bd (PV.not (hd r3)) fun v4=>
 PV.ite v4
 (some [(.lst []),(.lst [])])
 (bd (aBV (.agg [v1,v2]) x1 x2) fun r5=>
 bd (PV.comp (hd r5) 0) fun v6=>
 bd (PV.comp (hd r5) 1) fun v7=>
 bd (PV.whole 2 v6) fun v8=>
 bd (PV.cell v8 0) fun v9=>
 bd (PV.cell v8 1) fun v10=>
 bd (PV.not v7) fun v11=>
 PV.ite v11
 (some [(.lst []),(.lst [])])
 (bd (PV.bin .neq v9 (.int .i64 24)) fun v12=>
 PV.ite v12
 (some [(.lst []),(.lst [])])
 (bd (jO (.agg [v1,v2]) x1) fun r13=>
 bd (PV.at_ 1 false (hd r13) x2) fun v14=>
 bd (PV.bin .lss v14 (.int .i64 0)) fun v15=>
 PV.ite v15
 (some [(.lst []),(.lst [])])
 (bd (PV.bin .eql v10 x1) fun v16=>
 PV.ite v16
 (some [(.lst []),(.lst [])])
 (bd (qA (.agg [v1,v2]) v10) fun r17=>
 bd (PV.not (hd r17)) fun v18=>
 PV.ite v18
 (some [(.lst []),(.lst [])])
 (bd (PV.at_ 3 true v2 v10) fun v19=>
 bd (PV.whole 3 v19) fun v20=>
 bd (PV.cell v20 0) fun v21=>
 bd (PV.cell v20 1) fun v22=>
 bd (PV.cell v20 2) fun v23=>
 bd (bT v23 (.fn 26 [])) fun r24=>
 bd (PV.bin .lss (hd r24) (.int .i64 0)) fun v25=>
 PV.ite v25
 (some [(.lst []),(.lst [])])
 (bd (jO (.agg [v1,v2]) v10) fun r26=>
 bd (PV.at_ 1 false (hd r26) (hd r24)) fun v27=>
 bd (PV.bin .neq v27 (.int .i64 1)) fun v28=>
 PV.ite v28
 (some [(.lst []),(.lst [])])
 (bd (lW (.agg [v1,v2])) fun r29=>
 PV.guardOwn (.own 1 16 false []) (gd r29 0) (
 PV.guardOwn (.own 3 40 true [.leaf,.leaf,(.own 2 16 true [])]) (gd r29 1) (
 bd (PV.at_ 3 true v2 x1) fun v30=>
 bd (PV.cell v30 1) fun v31=>
 bd (rL (.agg [v21,v22,v23]) v31) fun r32=>
 PV.guardOwn (.own 2 16 true []) (gd r32 0) (
 bd (PV.inb (gd r29 1) x1) fun v33=>
 bd (PV.at_ 3 true (gd r29 1) x1) fun v34=>
 bd (PV.cell v34 1) fun v35=>
 bd (PV.bin .add v35 v22) fun v36=>
 bd (PV.one v36) fun v37=>
 bd (PV.setCell 3 (gd r29 1) x1 1 v37) fun v38=>
 bd (PV.at_ 3 true v38 x1) fun v39=>
 bd (PV.at_ 3 true v38 x1) fun v40=>
 bd (PV.cell v40 2) fun v41=>
 bd (PV.cut 2 true v41 (.int .i64 0) x2) fun v42=>
 bd (PV.at_ 3 true v38 x1) fun v43=>
 bd (PV.bin .add x2 (.int .i64 1)) fun v44=>
 bd (PV.at_ 3 true v38 x1) fun v45=>
 bd (PV.cell v45 2) fun v46=>
 bd (PV.len v46) fun v47=>
 bd (PV.cut 2 true v46 v44 v47) fun v48=>
 bd (PV.at_ 3 true v38 x1) fun v49=>
 bd (PV.cell v49 2) fun v50=>
 bd (PV.cut 2 true v50 (.int .i64 0) x2) fun v51=>
 bd (PV.at_ 3 true v38 x1) fun v52=>
 bd (PV.cell v52 2) fun v53=>
 bd (PV.cut 2 true v53 v44 v47) fun v54=>
 bd (PV.cat 1 1 false (.lst []) (.lst [v51,(gd r32 0),v54])) fun v55=>
 bd (dD v55) fun r56=>
 PV.guardOwn (.own 2 16 true []) (gd r56 0) (
 bd (PV.setCell 3 v38 x1 2 (gd r56 0)) fun v57=>
 bd (PV.at_ 3 true v57 x1) fun v58=>
 bd (PV.at_ 3 true v57 x1) fun v59=>
 bd (PV.cell v59 2) fun v60=>
 bd (PV.len v60) fun v61=>
 bW x2 x1 v61 (.int .i64 0) (.lst []) (.lst []) (gd r29 0) v57 (gd r32 0))))))))))))):=dT _ _ _ _ (by kernel_rfl)
theorem pK (x0 x1 x2 x3 x4 x5 x6 x7 x8 : PV) : bW x0 x1 x2 x3 x4 x5 x6 x7 x8 =
 bd (PV.bin .lss x3 x2) fun v0=>
 PV.ite v0
 (bd (PV.bin .geq x3 x0) fun v1=>
 PV.ite v1
 (bd (PV.len x8) fun v2=>
 bd (PV.bin .add x0 v2) fun v3=>
 bd (PV.bin .lss x3 v3) fun v4=>
 bd (PV.at_ 3 true x7 x1) fun v5=>
 bd (PV.at_ 3 true x7 x1) fun v6=>
 bd (PV.cell v6 2) fun v7=>
 bd (PV.inb v7 x3) fun v8=>
 bd (PV.at_ 3 true x7 x1) fun v9=>
 bd (PV.cell v9 2) fun v10=>
 bd (PV.at_ 2 true v10 x3) fun v11=>
 bd (lG v11) fun r12=>
 PV.ite (hd r12)
 (bd (PV.not v4) fun v13=>
 PV.ite v13
 (bd (PV.at_ 3 true x7 x1) fun v14=>
 bd (PV.cell v14 2) fun v15=>
 bd (PV.at_ 2 true v15 x3) fun v16=>
 bd (PV.cell v16 1) fun v17=>
 bd (PV.bin .gtr v17 x0) fun v18=>
 PV.ite v18
 (kB x0 x1 x1 x3 x2 x3 x4 x5 x6 x7 x8)
 (bd (PV.bin .add x3 (.int .i64 1)) fun v19=>
 bW x0 x1 x2 v19 x4 x5 x6 x7 x8))
 (bd (PV.bin .add x3 (.int .i64 1)) fun v20=>
 bW x0 x1 x2 v20 x4 x5 x6 x7 x8))
 (bd (PV.bin .add x3 (.int .i64 1)) fun v21=>
 bW x0 x1 x2 v21 x4 x5 x6 x7 x8))
 (bd (PV.at_ 3 true x7 x1) fun v22=>
 bd (PV.at_ 3 true x7 x1) fun v23=>
 bd (PV.cell v23 2) fun v24=>
 bd (PV.inb v24 x3) fun v25=>
 bd (PV.at_ 3 true x7 x1) fun v26=>
 bd (PV.cell v26 2) fun v27=>
 bd (PV.at_ 2 true v27 x3) fun v28=>
 bd (lG v28) fun r29=>
 PV.ite (hd r29)
 (bd (PV.at_ 3 true x7 x1) fun v30=>
 bd (PV.cell v30 2) fun v31=>
 bd (PV.at_ 2 true v31 x3) fun v32=>
 bd (PV.cell v32 1) fun v33=>
 bd (PV.bin .gtr v33 x0) fun v34=>
 PV.ite v34
 (kB x0 x1 x1 x3 x2 x3 x4 x5 x6 x7 x8)
 (bd (PV.bin .add x3 (.int .i64 1)) fun v35=>
 bW x0 x1 x2 v35 x4 x5 x6 x7 x8))
 (bd (PV.bin .add x3 (.int .i64 1)) fun v36=>
 bW x0 x1 x2 v36 x4 x5 x6 x7 x8)))
 (bd (oZ (.agg [x6,x7])) fun r37=>
 PV.guardFlat (hd r37) (
 bd (PV.not (hd r37)) fun v38=>
 PV.ite v38
 (some [(.lst []),(.lst [])])
 (some [x6,x7]))):=aS _ _ _ _ _ _ _ _ (by kernel_rfl)
theorem xT (x0 x1 x2 x3 x4 x5 x6 x7 x8 x9 x10 : PV) : kB x0 x1 x2 x3 x4 x5 x6 x7 x8 x9 x10 =
 bd (PV.at_ 3 true x9 x2) fun v0=>
 bd (PV.cell v0 2) fun v1=>
 bd (PV.at_ 2 true v1 x3) fun v2=>
 bd (PV.cell v2 1) fun v3=>
 bd (PV.len x10) fun v4=>
 bd (PV.bin .sub v4 (.int .i64 1)) fun v5=>
 bd (PV.bin .add v3 v5) fun v6=>
 bd (PV.at_ 3 true x9 x2) fun v7=>
 bd (PV.cell v7 2) fun v8=>
 bd (PV.one v6) fun v9=>
 bd (PV.at_ 3 true x9 x2) fun v10=>
 bd (PV.cell v10 2) fun v11=>
 bd (PV.setCell 2 v11 x3 1 v9) fun v12=>
 bd (PV.at_ 3 true x9 x2) fun v13=>
 bd (PV.cell v13 2) fun v14=>
 bd (PV.setCell 3 x9 x2 2 v12) fun v15=>
 bd (PV.bin .add x5 (.int .i64 1)) fun v16=>
 bW x0 x1 x4 v16 x6 x7 x8 v15 x10:=aS _ _ _ _ _ _ _ _ (by kernel_rfl)
theorem aB2 (x0 x1 : PV) : aAy x0 x1 =
 bd (PV.whole 2 x0) fun v0=>
 bd (PV.cell v0 0) fun v1=>
 bd (PV.cell v0 1) fun v2=>
 bd (PV.len v2) fun v3=>
 bd (bP x1 v3) fun r4=>
 PV.ite (hd r4)
 (bd (oZ (.agg [v1,v2])) fun r5=>
 some [(hd r5)])
 (some [.bool false]):=aO _ _ _ (by kernel_rfl)
theorem aCR (x0 x1 x2 : PV) : aBV x0 x1 x2 =
 bd (PV.whole 2 x0) fun v0=>
 bd (PV.cell v0 0) fun v1=>
 bd (PV.cell v0 1) fun v2=>
 bd (PV.len v2) fun v3=>
 bd (bP x1 v3) fun r4=>
 bd (PV.not (hd r4)) fun v5=>
 PV.ite v5
 (some [(.tup [(.agg [(.int .i64 0),(.int .i64 0)]),(.bool false)])])
 (bd (PV.at_ 3 true v2 x1) fun v6=>
 bd (PV.cell v6 2) fun v7=>
 bd (PV.len v7) fun v8=>
 bd (bP x2 v8) fun r9=>
 bd (PV.not (hd r9)) fun v10=>
 PV.ite v10
 (some [(.tup [(.agg [(.int .i64 0),(.int .i64 0)]),(.bool false)])])
 (bd (PV.at_ 3 true v2 x1) fun v11=>
 bd (PV.cell v11 2) fun v12=>
 bd (PV.at_ 2 true v12 x2) fun v13=>
 bd (PV.whole 2 v13) fun v14=>
 bd (PV.cell v14 0) fun v15=>
 bd (PV.cell v14 1) fun v16=>
 some [(.tup [(.agg [v15,v16]),(.bool true)])])):=aO _ _ _ (by kernel_rfl)
theorem aB3 (x0 x1 : PV) : jO x0 x1 =
 bd (PV.whole 2 x0) fun v0=>
 bd (PV.cell v0 0) fun v1=>
 bd (PV.cell v0 1) fun v2=>
 bd (PV.at_ 3 true v2 x1) fun v3=>
 bd (PV.cell v3 2) fun v4=>
 bd (PV.len v4) fun v5=>
 bd (gM (.lst [(.int .i64 (-1))]) v5) fun r6=>
 PV.guardOwn (.own 1 8 false []) (gd r6 0) (
 bd (PV.inb (gd r6 0) (.int .i64 0)) fun v7=>
 bd (PV.setAt 1 false (gd r6 0) (.int .i64 0) (.int .i64 0)) fun v8=>
 hH v4 (.bool true) v1 v2 v8):=aO _ _ _ (by kernel_rfl)
theorem gU (x0 x1 x2 x3 x4 : PV) : hH x0 x1 x2 x3 x4 =
 PV.ite x1
 (bd (PV.len x0) fun v0=>
 eL x0 (.bool false) x0 v0 (.int .i64 0) x2 x3 x4)
 (some [x4]):=aS _ _ _ _ _ _ _ _ (by kernel_rfl)
theorem pL (x0 x1 x2 x3 x4 x5 x6 x7 : PV) : eL x0 x1 x2 x3 x4 x5 x6 x7 =
 bd (PV.bin .lss x4 x3) fun v0=>
 PV.ite v0
 (bd (PV.at_ 2 true x2 x4) fun v1=>
 bd (PV.whole 2 v1) fun v2=>
 bd (PV.cell v2 0) fun v3=>
 bd (PV.cell v2 1) fun v4=>
 bd (PV.inb x7 x4) fun v5=>
 bd (PV.at_ 1 false x7 x4) fun v6=>
 bd (PV.bin .lss v6 (.int .i64 0)) fun v7=>
 PV.ite v7
 (bd (PV.bin .add x4 (.int .i64 1)) fun v8=>
 eL x0 x1 x2 x3 v8 x5 x6 x7)
 (bd (PV.inb x7 x4) fun v9=>
 bd (PV.at_ 1 false x7 x4) fun v10=>
 bd (pA (.agg [x5,x6]) (.agg [v3,v4]) v10) fun r11=>
 bd (PV.comp (hd r11) 0) fun v12=>
 bd (PV.comp (hd r11) 1) fun v13=>
 bd (mP (.agg [v3,v4]) x4) fun r14=>
 bd (PV.len (hd r14)) fun v15=>
 dA x0 x1 v12 v13 x2 x3 x4 (hd r14) v15 (.int .i64 0) x5 x6 x7))
 (hH x0 x1 x5 x6 x7):=aS _ _ _ _ _ _ _ _ (by kernel_rfl)
theorem oB (x0 x1 x2 x3 x4 x5 x6 x7 x8 x9 x10 x11 x12 : PV) : dA x0 x1 x2 x3 x4 x5 x6 x7 x8 x9 x10 x11 x12 =
 bd (PV.bin .lss x9 x8) fun v0=>
 PV.ite v0
 (bd (PV.at_ 1 false x7 x9) fun v1=>
 PV.ite x3
 (bd (PV.len x0) fun v2=>
 bd (PV.bin .lss v1 v2) fun v3=>
 PV.ite v3
 (bd (PV.inb x12 v1) fun v4=>
 bd (PV.at_ 1 false x12 v1) fun v5=>
 bd (PV.bin .lss v5 (.int .i64 0)) fun v6=>
 PV.ite v6
 (rW x0 x2 x3 v1 x4 x5 x6 x7 x8 x9 x10 x11 x12)
 (bd (PV.bin .add x9 (.int .i64 1)) fun v7=>
 dA x0 x1 x2 x3 x4 x5 x6 x7 x8 v7 x10 x11 x12))
 (bd (PV.bin .add x9 (.int .i64 1)) fun v8=>
 dA x0 x1 x2 x3 x4 x5 x6 x7 x8 v8 x10 x11 x12))
 (bd (PV.bin .add x9 (.int .i64 1)) fun v9=>
 dA x0 x1 x2 x3 x4 x5 x6 x7 x8 v9 x10 x11 x12))
 (bd (PV.bin .add x6 (.int .i64 1)) fun v10=>
 eL x0 x1 x4 x5 v10 x10 x11 x12):=aS _ _ _ _ _ _ _ _ (by kernel_rfl)
theorem wA (x0 x1 x2 x3 x4 x5 x6 x7 x8 x9 x10 x11 x12 : PV) : rW x0 x1 x2 x3 x4 x5 x6 x7 x8 x9 x10 x11 x12 =
 bd (PV.inb x12 x3) fun v0=>
 bd (PV.setAt 1 false x12 x3 x1) fun v1=>
 bd (PV.bin .add x9 (.int .i64 1)) fun v2=>
 dA x0 (.bool true) x1 x2 x4 x5 x6 x7 x8 v2 x10 x11 v1:=aS _ _ _ _ _ _ _ _ (by kernel_rfl)
theorem zJ (x0 x1 : PV) : qA x0 x1 =
 bd (PV.whole 2 x0) fun v0=>
 bd (PV.cell v0 0) fun v1=>
 bd (PV.cell v0 1) fun v2=>
 bd (jO (.agg [v1,v2]) x1) fun r3=>
 bd (PV.at_ 3 true v2 x1) fun v4=>
 bd (PV.cell v4 2) fun v5=>
 bd (PV.len v5) fun v6=>
 dI (hd r3) v5 v6 (.int .i64 0):=aO _ _ _ (by kernel_rfl)
theorem mD (x0 x1 x2 x3 : PV) : dI x0 x1 x2 x3 =
 bd (PV.bin .lss x3 x2) fun v0=>
 PV.ite v0
 (bd (PV.at_ 2 true x1 x3) fun v1=>
 bd (PV.whole 2 v1) fun v2=>
 bd (PV.cell v2 0) fun v3=>
 bd (PV.cell v2 1) fun v4=>
 bd (PV.at_ 1 false x0 x3) fun v5=>
 bd (PV.bin .geq v5 (.int .i64 0)) fun v6=>
 PV.ite v6
 (bd (lG (.agg [v3,v4])) fun r7=>
 PV.ite (hd r7)
 (some [.bool false])
 (bd (PV.bin .add x3 (.int .i64 1)) fun v8=>
 dI x0 x1 x2 v8))
 (bd (PV.bin .add x3 (.int .i64 1)) fun v9=>
 dI x0 x1 x2 v9))
 (bd (PV.len x0) fun v10=>
 bd (PV.bin .leq v10 (.int .i64 24)) fun v11=>
 some [v11]):=aS _ _ _ _ _ _ _ _ (by kernel_rfl)
theorem dV (x0 x1 : PV) : bT x0 x1 =
 bd (PV.len x0) fun v0=>
 aY x0 x1 v0 (.int .i64 0):=aO _ _ _ (by kernel_rfl)
theorem bI (x0 x1 x2 x3 : PV) : aY x0 x1 x2 x3 =
 bd (PV.bin .lss x3 x2) fun v0=>
 PV.ite v0
 (bd (PV.at_ 2 true x0 x3) fun v1=>
 bd (PV.apply aP x1 [v1]) fun r2=>
 PV.ite (hd r2)
 (some [x3])
 (bd (PV.bin .add x3 (.int .i64 1)) fun v3=>
 aY x0 x1 x2 v3))
 (some [(.int .i64 (-1))]):=aS _ _ _ _ _ _ _ _ (by kernel_rfl)
theorem aAQ (x0 : PV) : xN x0 =
 bd (PV.whole 2 x0) fun v0=>
 bd (PV.cell v0 0) fun v1=>
 bd (PV.cell v0 1) fun v2=>
 bd (PV.bin .eql v1 (.int .i64 25)) fun v3=>
 some [v3]:=aO _ _ _ (by kernel_rfl)
theorem aB4 (x0 : PV) : lG x0 =
 bd (PV.whole 2 x0) fun v0=>
 bd (PV.cell v0 0) fun v1=>
 bd (PV.cell v0 1) fun v2=>
 bd (bQ v1 (.int .i64 17) (.int .i64 19)) fun r3=>
 some [(hd r3)]:=aO _ _ _ (by kernel_rfl)
theorem aB5 (x0 : PV) : oZ x0 =
 bd (PV.whole 2 x0) fun v0=>
 bd (PV.cell v0 0) fun v1=>
 bd (PV.cell v0 1) fun v2=>
 bd (tE (.agg [v1,v2])) fun r3=>
 bd (PV.whole 3 (hd r3)) fun v4=>
 bd (PV.cell v4 0) fun v5=>
 bd (PV.cell v4 1) fun v6=>
 bd (PV.cell v4 2) fun v7=>
 bd (PV.ceq [1,1,1] .eql (.agg [v5,v6,v7]) (.agg [(.int .i64 0),(.int .i64 0),(.int .i64 0)])) fun v8=>
 some [v8]:=aO _ _ _ (by kernel_rfl)
theorem aAR (x0 x1 : PV) : bP x0 x1 =
 bd (PV.bin .sub x1 (.int .i64 1)) fun v0=>
 bd (bQ x0 (.int .i64 0) v0) fun r1=>
 some [(hd r1)]:=aO _ _ _ (by kernel_rfl)
theorem aB6 (x0 x1 x2 : PV) : pA x0 x1 x2 =
 bd (PV.whole 2 x0) fun v0=>
 bd (PV.cell v0 0) fun v1=>
 bd (PV.cell v0 1) fun v2=>
 bd (PV.whole 2 x1) fun v3=>
 bd (PV.cell v3 0) fun v4=>
 bd (PV.cell v3 1) fun v5=>
 bd (tF (.agg [v1,v2]) (.agg [v4,v5])) fun r6=>
 bd (PV.comp (hd r6) 0) fun v7=>
 bd (PV.comp (hd r6) 1) fun v8=>
 bd (PV.bin .sub x2 v7) fun v9=>
 bd (PV.bin .add v9 v8) fun v10=>
 bd (PV.bin .leq v7 x2) fun v11=>
 PV.ite v11
 (bd (PV.bin .leq v10 (.int .i64 16)) fun v12=>
 some [(.tup [v10,v12])])
 (some [(.tup [v10,(.bool false)])]):=aO _ _ _ (by kernel_rfl)
end Go.Proofs.Ythkofpnllaapeaa
namespace Go.Proofs.Ythkofpnllaapeaa
open Go
theorem aAS (x0 x1 : PV) : mP x0 x1 =
 bd (PV.whole 2 x0) fun v0=>
 bd (PV.cell v0 0) fun v1=>
 bd (PV.cell v0 1) fun v2=>
 bd (PV.bin .eql v1 (.int .i64 25)) fun v3=>
 PV.ite v3
 (some [(.lst [])])
 (bd (PV.bin .eql v1 (.int .i64 17)) fun v4=>
 PV.ite v4
 (bd (PV.cat 1 8 false (.lst []) (.lst [v2])) fun v5=>
 some [v5])
 (bd (PV.bin .eql v1 (.int .i64 18)) fun v6=>
 PV.ite v6
 (bd (PV.bin .add x1 (.int .i64 1)) fun v7=>
 bd (PV.cat 1 8 false (.lst []) (.lst [v7,v2])) fun v8=>
 some [v8])
 (bd (PV.bin .eql v1 (.int .i64 19)) fun v9=>
 PV.ite v9
 (bd (PV.bin .add x1 (.int .i64 1)) fun v10=>
 bd (PV.cat 1 8 false (.lst []) (.lst [v10,v2])) fun v11=>
 some [v11])
 (bd (PV.bin .add x1 (.int .i64 1)) fun v12=>
 bd (PV.cat 1 8 false (.lst []) (.lst [v12])) fun v13=>
 some [v13])))):=aO _ _ _ (by kernel_rfl)
theorem aAT (x0 x1 x2 : PV) : bQ x0 x1 x2 =
 bd (PV.bin .leq x1 x0) fun v0=>
 PV.ite v0
 (bd (PV.bin .leq x0 x2) fun v1=>
 some [v1])
 (some [.bool false]):=aO _ _ _ (by kernel_rfl)
theorem aB7 (x0 : PV) : tE x0 =
 bd (PV.whole 2 x0) fun v0=>
 bd (PV.cell v0 0) fun v1=>
 bd (PV.cell v0 1) fun v2=>
 bd (qB (.agg [v1,v2])) fun r3=>
 bd (PV.not (hd r3)) fun v4=>
 PV.ite v4
 (some [(.agg [(.int .i64 1),(.int .i64 0),(.int .i64 0)])])
 (bd (PV.len v2) fun v5=>
 hU v5 (.int .i64 0) v1 v2 (.int .i64 0) (.int .i64 0) (.int .i64 0)):=aO _ _ _ (by kernel_rfl)
theorem pM (x0 x1 x2 x3 x4 x5 x6 : PV) : hU x0 x1 x2 x3 x4 x5 x6 =
 bd (PV.bin .lss x1 x0) fun v0=>
 PV.ite v0
 (bd (jO (.agg [x2,x3]) x1) fun r1=>
 bd (PV.one (hd r1)) fun v2=>
 bd (PV.at_ 3 true x3 x1) fun v3=>
 bd (PV.cell v3 2) fun v4=>
 bd (PV.len v4) fun v5=>
 hX x1 x0 x1 v4 v5 (.int .i64 0) x2 x3 x4 x5 x6 v2)
 (some [(.agg [(.int .i64 0),(.int .i64 0),(.int .i64 0)])]):=aS _ _ _ _ _ _ _ _ (by kernel_rfl)
theorem pN (x0 x1 x2 x3 x4 x5 x6 x7 x8 x9 x10 x11 : PV) : hX x0 x1 x2 x3 x4 x5 x6 x7 x8 x9 x10 x11 =
 bd (PV.bin .lss x5 x4) fun v0=>
 PV.ite v0
 (bd (PV.at_ 2 true x3 x5) fun v1=>
 bd (PV.whole 2 v1) fun v2=>
 bd (PV.cell v2 0) fun v3=>
 bd (PV.cell v2 1) fun v4=>
 bd (PV.at_ 1 false x11 x5) fun v5=>
 bd (PV.bin .lss v5 (.int .i64 0)) fun v6=>
 PV.ite v6
 (bd (PV.bin .add x5 (.int .i64 1)) fun v7=>
 hX x0 x1 x2 x3 x4 v7 x6 x7 x8 x9 x10 x11)
 (bd (PV.at_ 1 false x11 x5) fun v8=>
 bd (pA (.agg [x6,x7]) (.agg [v3,v4]) v8) fun r9=>
 bd (PV.comp (hd r9) 0) fun v10=>
 bd (PV.comp (hd r9) 1) fun v11=>
 bd (PV.one v10) fun v12=>
 bd (PV.not v11) fun v13=>
 PV.ite v13
 (bd (PV.one x0) fun v14=>
 bd (PV.one x5) fun v15=>
 some [(.agg [(.int .i64 2),v14,v15])])
 (bd (mP (.agg [v3,v4]) x5) fun r16=>
 bd (PV.len x11) fun v17=>
 bd (fR (hd r16) v17) fun r18=>
 PV.ite (hd r18)
 (bd (PV.one x0) fun v19=>
 bd (PV.one x5) fun v20=>
 some [(.agg [(.int .i64 3),v19,v20])])
 (bd (eE (hd r16) (.fn 67 [(.bx [x11]),(.bx [v12])])) fun r21=>
 PV.guardFlat (hd r21) (
 PV.ite (hd r21)
 (bd (PV.one x0) fun v22=>
 bd (PV.one x5) fun v23=>
 some [(.agg [(.int .i64 4),v22,v23])])
 (bd (PV.bin .add x5 (.int .i64 1)) fun v24=>
 hX x0 x1 x2 x3 x4 v24 x6 x7 x8 x9 x10 x11))))))
 (bd (PV.bin .add x2 (.int .i64 1)) fun v25=>
 hU x1 v25 x6 x7 x8 x9 x10):=aS _ _ _ _ _ _ _ _ (by kernel_rfl)
theorem aB8 (x0 x1 : PV) : tF x0 x1 =
 bd (PV.whole 2 x0) fun v0=>
 bd (PV.cell v0 0) fun v1=>
 bd (PV.cell v0 1) fun v2=>
 bd (PV.whole 2 x1) fun v3=>
 bd (PV.cell v3 0) fun v4=>
 bd (PV.cell v3 1) fun v5=>
 bd (bQ v4 (.int .i64 1) (.int .i64 6)) fun r6=>
 PV.ite (hd r6)
 (some [(.tup [(.int .i64 0),(.int .i64 1)])])
 (bd (PV.bin .eql v4 (.int .i64 20)) fun v7=>
 PV.ite v7
 (some [(.tup [(.int .i64 0),(.int .i64 1)])])
 (bd (PV.bin .eql v4 (.int .i64 7)) fun v8=>
 PV.ite v8
 (some [(.tup [(.int .i64 1),(.int .i64 0)])])
 (bd (PV.bin .eql v4 (.int .i64 9)) fun v9=>
 PV.ite v9
 (some [(.tup [(.int .i64 1),(.int .i64 0)])])
 (bd (PV.bin .eql v4 (.int .i64 18)) fun v10=>
 PV.ite v10
 (some [(.tup [(.int .i64 1),(.int .i64 0)])])
 (bd (PV.bin .eql v4 (.int .i64 19)) fun v11=>
 PV.ite v11
 (some [(.tup [(.int .i64 1),(.int .i64 0)])])
 (bd (PV.bin .eql v4 (.int .i64 25)) fun v12=>
 PV.ite v12
 (some [(.tup [(.int .i64 1),(.int .i64 0)])])
 (bd (PV.bin .eql v4 (.int .i64 26)) fun v13=>
 PV.ite v13
 (some [(.tup [(.int .i64 1),(.int .i64 0)])])
 (bd (PV.bin .eql v4 (.int .i64 8)) fun v14=>
 PV.ite v14
 (some [(.tup [(.int .i64 1),(.int .i64 2)])])
 (bd (PV.bin .eql v4 (.int .i64 10)) fun v15=>
 PV.ite v15
 (some [(.tup [(.int .i64 2),(.int .i64 2)])])
 (bd (bQ v4 (.int .i64 11) (.int .i64 15)) fun r16=>
 PV.ite (hd r16)
 (some [(.tup [(.int .i64 2),(.int .i64 1)])])
 (bd (PV.bin .eql v4 (.int .i64 16)) fun v17=>
 PV.ite v17
 (some [(.tup [(.int .i64 1),(.int .i64 1)])])
 (bd (PV.bin .eql v4 (.int .i64 21)) fun v18=>
 PV.ite v18
 (some [(.tup [(.int .i64 1),(.int .i64 1)])])
 (bd (PV.bin .eql v4 (.int .i64 22)) fun v19=>
 PV.ite v19
 (some [(.tup [(.int .i64 2),(.int .i64 0)])])
 (bd (PV.bin .eql v4 (.int .i64 23)) fun v20=>
 PV.ite v20
 (bd (bQ v5 (.int .i64 0) (.int .i64 6)) fun r21=>
 PV.ite (hd r21)
 (bd (PV.bin .add v5 (.int .i64 1)) fun v22=>
 some [(.tup [v22,(.int .i64 1)])])
 (jG v1 v2 v4 v5))
 (jG v1 v2 v4 v5))))))))))))))):=aO _ _ _ (by kernel_rfl)
theorem wC (x0 x1 x2 x3 : PV) : jG x0 x1 x2 x3 =
 bd (PV.bin .eql x2 (.int .i64 24)) fun v0=>
 PV.ite v0
 (bd (PV.len x1) fun v1=>
 bd (bP x3 v1) fun r2=>
 PV.ite (hd r2)
 (rX x0 x1 x2 x3)
 (some [(.tup [(.int .i64 0),(.int .i64 0)])]))
 (some [(.tup [(.int .i64 0),(.int .i64 0)])]):=aS _ _ _ _ _ _ _ _ (by kernel_rfl)
theorem wD (x0 x1 x2 x3 : PV) : rX x0 x1 x2 x3 =
 bd (PV.at_ 3 true x1 x3) fun v0=>
 bd (PV.cell v0 0) fun v1=>
 some [(.tup [v1,(.int .i64 1)])]:=aS _ _ _ _ _ _ _ _ (by kernel_rfl)
theorem zK (x0 : PV) : qB x0 =
 bd (PV.whole 2 x0) fun v0=>
 bd (PV.cell v0 0) fun v1=>
 bd (PV.cell v0 1) fun v2=>
 bd (PV.len v2) fun v3=>
 bd (bQ v3 (.int .i64 1) (.int .i64 12)) fun r4=>
 bd (PV.not (hd r4)) fun v5=>
 PV.ite v5
 (some [.bool false])
 (bd (PV.len v1) fun v6=>
 bd (PV.bin .gtr v6 (.int .i64 20)) fun v7=>
 PV.ite v7
 (some [.bool false])
 (bd (cV v1 (.fn 75 [])) fun r8=>
 PV.ite (hd r8)
 (some [.bool false])
 (bd (PV.len v2) fun v9=>
 iJ v2 v9 (.int .i64 0) v1 v2))):=aO _ _ _ (by kernel_rfl)
theorem mE (x0 x1 x2 x3 x4 : PV) : iJ x0 x1 x2 x3 x4 =
 bd (PV.bin .lss x2 x1) fun v0=>
 PV.ite v0
 (bd (PV.at_ 3 true x0 x2) fun v1=>
 bd (PV.whole 3 v1) fun v2=>
 bd (PV.cell v2 0) fun v3=>
 bd (PV.cell v2 1) fun v4=>
 bd (PV.cell v2 2) fun v5=>
 bd (bQ v3 (.int .i64 0) (.int .i64 6)) fun r6=>
 bd (PV.not (hd r6)) fun v7=>
 PV.ite v7
 (some [.bool false])
 (bd (bQ v4 v3 (.int .i64 12)) fun r8=>
 bd (PV.not (hd r8)) fun v9=>
 PV.ite v9
 (some [.bool false])
 (bd (PV.len v5) fun v10=>
 bd (bQ v10 (.int .i64 1) (.int .i64 120)) fun r11=>
 bd (PV.not (hd r11)) fun v12=>
 PV.ite v12
 (some [.bool false])
 (bd (cK v5 (.fn 78 [(.bx [x3,x4]),(.bx [v3,v4,v5])])) fun r13=>
 PV.guardFlat (hd r13) (
 PV.ite (hd r13)
 (some [.bool false])
 (bd (PV.bin .add x2 (.int .i64 1)) fun v14=>
 iJ x0 x1 v14 x3 x4))))))
 (some [.bool true]):=aS _ _ _ _ _ _ _ _ (by kernel_rfl)
theorem oC (x0 x1 : PV) : fR x0 x1 =
 bd (hY x0 x1) fun r0=>
 bd (PV.bin .geq (hd r0) (.int .i64 0)) fun v1=>
 some [v1]:=aO _ _ _ (by kernel_rfl)
theorem kY (x0 x1 : PV) : eE x0 x1 =
 bd (iV x0 x1) fun r0=>
 bd (PV.bin .geq (hd r0) (.int .i64 0)) fun v1=>
 some [v1]:=aO _ _ _ (by kernel_rfl)
theorem zL (x0 x1 x2 : PV) : uW x0 x1 x2 =
 bd (PV.deref x1 0) fun v0=>
 bd (PV.at_ 1 false v0 x0) fun v1=>
 bd (PV.deref x2 0) fun v2=>
 bd (PV.bin .neq v1 v2) fun v3=>
 some [v3]:=aO _ _ _ (by kernel_rfl)
theorem iO (x0 x1 : PV) : cV x0 x1 =
 bd (fS x0 x1) fun r0=>
 bd (PV.bin .geq (hd r0) (.int .i64 0)) fun v1=>
 some [v1]:=aO _ _ _ (by kernel_rfl)
theorem wE (x0 : PV) : rY x0=bd (tG x0) fun r0=>bd (PV.not (hd r0)) fun v1=>some [v1]:=aO _ _ _ (by kernel_rfl)
theorem gN (x0 x1 : PV) : cK x0 x1 =
 bd (bT x0 x1) fun r0=>
 bd (PV.bin .geq (hd r0) (.int .i64 0)) fun v1=>
 some [v1]:=aO _ _ _ (by kernel_rfl)
theorem wF (x0 x1 x2 : PV) : rZ x0 x1 x2 =
 bd (PV.whole 2 x0) fun v0=>
 bd (PV.cell v0 0) fun v1=>
 bd (PV.cell v0 1) fun v2=>
 bd (PV.deref x1 0) fun v3=>
 bd (PV.deref x1 1) fun v4=>
 bd (PV.deref x2 0) fun v5=>
 bd (PV.deref x2 1) fun v6=>
 bd (PV.deref x2 2) fun v7=>
 bd (vR (.agg [v3,v4]) (.agg [v5,v6,v7]) (.agg [v1,v2])) fun r8=>
 bd (PV.not (hd r8)) fun v9=>
 some [v9]:=aO _ _ _ (by kernel_rfl)
theorem qQ (x0 x1 : PV) : hY x0 x1=bd (PV.len x0) fun v0=>dU x0 x1 v0 (.int .i64 0):=aO _ _ _ (by kernel_rfl)
theorem iA (x0 x1 x2 x3 : PV) : dU x0 x1 x2 x3 =
 bd (PV.bin .lss x3 x2) fun v0=>
 PV.ite v0
 (bd (PV.at_ 1 false x0 x3) fun v1=>
 bd (PV.bin .eql x1 v1) fun v2=>
 PV.ite v2
 (some [x3])
 (bd (PV.bin .add x3 (.int .i64 1)) fun v3=>
 dU x0 x1 x2 v3))
 (some [(.int .i64 (-1))]):=aS _ _ _ _ _ _ _ _ (by kernel_rfl)
theorem mR (x0 x1 : PV) : iV x0 x1=bd (PV.len x0) fun v0=>cU x0 x1 v0 (.int .i64 0):=aO _ _ _ (by kernel_rfl)
theorem fT (x0 x1 x2 x3 : PV) : cU x0 x1 x2 x3 =
 bd (PV.bin .lss x3 x2) fun v0=>
 PV.ite v0
 (bd (PV.at_ 1 false x0 x3) fun v1=>
 bd (PV.apply aP x1 [v1]) fun r2=>
 PV.ite (hd r2)
 (some [x3])
 (bd (PV.bin .add x3 (.int .i64 1)) fun v3=>
 cU x0 x1 x2 v3))
 (some [(.int .i64 (-1))]):=aS _ _ _ _ _ _ _ _ (by kernel_rfl)
theorem jP (x0 x1 : PV) : fS x0 x1 =
 bd (PV.len x0) fun v0=>
 bX x0 x1 v0 (.int .i64 0):=aO _ _ _ (by kernel_rfl)
theorem eC (x0 x1 x2 x3 : PV) : bX x0 x1 x2 x3 =
 bd (PV.bin .lss x3 x2) fun v0=>
 PV.ite v0
 (bd (PV.at_ 1 false x0 x3) fun v1=>
 bd (PV.apply aP x1 [v1]) fun r2=>
 PV.ite (hd r2)
 (some [x3])
 (bd (PV.bin .add x3 (.int .i64 1)) fun v3=>
 bX x0 x1 x2 v3))
 (some [(.int .i64 (-1))]):=aS _ _ _ _ _ _ _ _ (by kernel_rfl)
theorem aB9 (x0 : PV) : tG x0=bd (PV.slen x0) fun v0=>kC x0 v0 (.int .i64 0):=aO _ _ _ (by kernel_rfl)
theorem pO (x0 x1 x2 : PV) : kC x0 x1 x2 =
 bd (PV.bin .lss x2 x1) fun v0=>
 PV.ite v0
 (bd (PV.chr x0 x2) fun v1=>
 bd (PV.bin .lss v1 (.int .u8 32)) fun v2=>
 PV.ite v2
 (some [.bool false])
 (bd (PV.chr x0 x2) fun v3=>
 bd (PV.bin .gtr v3 (.int .u8 126)) fun v4=>
 PV.ite v4
 (some [.bool false])
 (bd (PV.chr x0 x2) fun v5=>
 bd (PV.bin .eql v5 (.int .u8 34)) fun v6=>
 PV.ite v6
 (some [.bool false])
 (bd (PV.bin .add x2 (.int .i64 1)) fun v7=>
 kC x0 x1 v7))))
 (bd (PV.slen x0) fun v8=>
 bd (PV.bin .leq v8 (.int .i64 60)) fun v9=>
 some [v9]):=aS _ _ _ _ _ _ _ _ (by kernel_rfl)
theorem aCS (x0 x1 x2 : PV) : vR x0 x1 x2 =
 bd (PV.whole 2 x0) fun v0=>
 bd (PV.cell v0 0) fun v1=>
 bd (PV.cell v0 1) fun v2=>
 bd (PV.whole 3 x1) fun v3=>
 bd (PV.cell v3 0) fun v4=>
 bd (PV.cell v3 1) fun v5=>
 bd (PV.cell v3 2) fun v6=>
 bd (PV.whole 2 x2) fun v7=>
 bd (PV.cell v7 0) fun v8=>
 bd (PV.cell v7 1) fun v9=>
 bd (PV.bin .eql v8 (.int .i64 1)) fun v10=>
 PV.ite v10
 (bd (vS v9) fun r11=>
 some [(hd r11)])
 (bd (PV.bin .eql v8 (.int .i64 2)) fun v12=>
 PV.ite v12
 (bd (bQ v9 (.int .i64 0) (.int .i64 1)) fun r13=>
 some [(hd r13)])
 (bd (PV.bin .eql v8 (.int .i64 3)) fun v14=>
 PV.ite v14
 (bd (PV.len v1) fun v15=>
 bd (bP v9 v15) fun r16=>
 some [(hd r16)])
 (bd (PV.bin .eql v8 (.int .i64 5)) fun v17=>
 PV.ite v17
 (bd (PV.len v2) fun v18=>
 bd (bP v9 v18) fun r19=>
 some [(hd r19)])
 (bd (PV.bin .eql v8 (.int .i64 24)) fun v20=>
 PV.ite v20
 (bd (PV.len v2) fun v21=>
 bd (bP v9 v21) fun r22=>
 some [(hd r22)])
 (bd (PV.bin .eql v8 (.int .i64 6)) fun v23=>
 PV.ite v23
 (bd (bP v9 v5) fun r24=>
 some [(hd r24)])
 (bd (PV.bin .eql v8 (.int .i64 7)) fun v25=>
 PV.ite v25
 (bd (bP v9 v5) fun r26=>
 some [(hd r26)])
 (bd (PV.bin .eql v8 (.int .i64 17)) fun v27=>
 PV.ite v27
 (bd (PV.len v6) fun v28=>
 bd (bP v9 v28) fun r29=>
 some [(hd r29)])
 (bd (PV.bin .eql v8 (.int .i64 18)) fun v30=>
 PV.ite v30
 (bd (PV.len v6) fun v31=>
 bd (bP v9 v31) fun r32=>
 some [(hd r32)])
 (bd (PV.bin .eql v8 (.int .i64 19)) fun v33=>
 PV.ite v33
 (bd (PV.len v6) fun v34=>
 bd (bP v9 v34) fun r35=>
 some [(hd r35)])
 (bd (PV.bin .eql v8 (.int .i64 20)) fun v36=>
 PV.ite v36
 (bd (bQ v9 (.int .i64 0) (.int .i64 6)) fun r37=>
 some [(hd r37)])
 (bd (PV.bin .eql v8 (.int .i64 21)) fun v38=>
 PV.ite v38
 (bd (bP v9 (.int .i64 6)) fun r39=>
 some [(hd r39)])
 (bd (PV.bin .eql v8 (.int .i64 22)) fun v40=>
 PV.ite v40
 (bd (bP v9 (.int .i64 6)) fun r41=>
 some [(hd r41)])
 (bd (PV.bin .eql v8 (.int .i64 23)) fun v42=>
 PV.ite v42
 (bd (bQ v9 (.int .i64 0) (.int .i64 6)) fun r43=>
 some [(hd r43)])
 (bd (bQ v8 (.int .i64 1) (.int .i64 26)) fun r44=>
 PV.ite (hd r44)
 (bd (PV.bin .eql v9 (.int .i64 0)) fun v45=>
 some [v45])
 (some [.bool false]))))))))))))))):=aO _ _ _ (by kernel_rfl)
end Go.Proofs.Ythkofpnllaapeaa
