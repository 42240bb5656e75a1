/-
  Texts of the proof, part 4: a value-level evaluator and its soundness, what the functions compute, laws about it.
  Conditions: none.
-/
import Derived.Test.YtjgleeamiclokaaDoorC
import Derived.Calls
import Derived.KernelRfl
import Derived.Orders
import Derived.Test.YtjgleeamiclokaaDoorProg
import Derived.Lib.AppendIntMem
import Derived.Lib.ItoaNum
import Derived.Laws.IdiomCopy
import Derived.Laws.Cells
import Derived.Below
import Derived.Laws.StructEq
import Derived.Laws.BytesString
import Derived.Laws.NewFold
import Derived.Laws.Tables
import Derived.Great.FillDense
import Derived.Shelf.Spec.SlicesGrow
import Derived.Shelf.Strconv.Itoa3
import Derived.Shelf.SlGeneric
import Derived.Ground.NamesProg
import Derived.Ground.Names8Prog
import Derived.IntWalk
import Derived.WalkKit
import Derived.ProofKit
import Derived.OpenShut
import Derived.ShutString
import Derived.ChangeOld
set_option linter.all false
namespace Go.Proofs.YtjgleeamiclokaaDoor
open Go
def zN (P : Program) (mode : Nat→Option Tmpl) (S : Nat→List DV→St→Option R) : Prop:=∀ g t args s l,mode g=some t→S g args s=some l→eO P g∧∀ (m : aK) (aJ : Array Value),dN m s s.base→args.length=aJ.size→
  (∀ (i : Nat) d v,args[i]? = some d→aJ[i]? = some v→m.rd d v)→Calls P g aJ m.w (fun e w'=>∃ v,e = .returned v∧kI m s.boxes.length (if t.keep then s.lists.length else 0) (some t) l v w')
theorem vK (l : R) : ∀ (bs : List (Option (List DV))),(fillB l bs).length=bs.length
  | []=>rfl
  | some _::r=>by simp [fillB,vK l r]
  | none::r=>by simp [fillB,vK l r]
theorem lD (l : R) : ∀ (bs : List (Option Own)),(fillO l bs).length=bs.length
  | []=>rfl
  | some _::r=>by simp [fillO,lD l r]
  | none::r=>by simp [fillO,lD l r]
theorem sL (l : R) : ∀ {bs : List (Option (List DV))} {i : Nat} {fs : List DV},(fillB l bs)[i]? = some (some fs)→∃ ts,bs[i]? = some (some ts)
  | [],i,fs,h=>by simp [fillB] at h
  | some t::r,i,fs,h=>by
    cases i with
    | zero=>exact ⟨t,rfl⟩
    | succ i=>simpa using sL l (bs:=r) (i:=i) (by simpa [fillB] using h)
  | none::r,i,fs,h=>by
    cases i with
    | zero=>simp [fillB] at h
    | succ i=>simpa using sL l (bs:=r) (i:=i) (by simpa [fillB] using h)
theorem lK (l : R) : ∀ {bs : List (Option Own)} {i : Nat} {w : Own},(fillO l bs)[i]? = some (some w)→∃ ts,bs[i]? = some (some ts)
  | [],i,fs,h=>by simp [fillO] at h
  | some t::r,i,fs,h=>by
    cases i with
    | zero=>exact ⟨t,rfl⟩
    | succ i=>simpa using lK l (bs:=r) (i:=i) (by simpa [fillO] using h)
  | none::r,i,fs,h=>by
    cases i with
    | zero=>simp [fillO] at h
    | succ i=>simpa using lK l (bs:=r) (i:=i) (by simpa [fillO] using h)
theorem wZ {α : Type} : ∀ {l : List (Option α)},allSome l=true→∀ (i : Nat) o,l[i]? = some o→∃ a,o=some a
  | [],_,i,o,h=>by simp at h
  | some a::r,h,i,o,hi=>by
    cases i with
    | zero=>simp at hi;exact ⟨a,hi.symm⟩
    | succ i=>exact wZ (l:=r) h i o (by simpa using hi)
  | none::r,h,_,_,_=>by simp [allSome] at h
theorem getD_some {α : Type} {l : List (Option α)} {i : Nat} {x : α} (h : l.getD i none=some x) : l[i]? = some (some x):=by
  rw [List.getD] at h
  cases hi : l[i]? with
  | none=>rw [hi] at h;cases h
  | some o=>rw [hi] at h;simp at h;rw [h]
theorem qA {m : aK} {s : St} {a : Seen} {r : Nat} (h : (m.pick a.bs a.ls (s.pick a)).owned r) : zM m a.bs a.ls r:=by
  rcases h with ⟨i,cs,h,rfl⟩ | ⟨l,o,h,hr⟩ | h
  · have h : (s.pick a).box i=some cs:=h
    rw [pV] at h
    cases hbi : a.bs[i]? with
    | none=>rw [hbi] at h;cases h
    | some b=>
      refine .inl ⟨b,List.mem_of_getElem? hbi,?_⟩
      show m.ρ.box (a.bs.getD i 0)=_
      rw [cK hbi]
  · have h : (s.pick a).list l=some o:=h
    rw [nN] at h
    cases hbi : a.ls[l]? with
    | none=>rw [hbi] at h;cases h
    | some l0=>
      refine .inr ⟨l0,List.mem_of_getElem? hbi,?_⟩
      have hr : m.ρ.fp (a.ls.getD l 0) r:=hr
      rw [cK hbi] at hr
      exact hr
  · exact h.elim
section
variable {P : Program} {X : Cx} {O : Orc}
theorem aCW (hS : zN P X.mode O.S) {ft : Foot} {n0 : Nat} {t : Tmpl} {f : Nat} (hm : X.mode f=some t) (hwf : t.wf=true) {args : List DV} {s : St} {k : DV→St→List Nat→Option R} {r : R} (h : liveK O ft n0 t f args s k=some r) :
    eO P f∧∃ d' s' kl,k d' s' kl=some r∧s.nl≤s'.nl∧∀ (n : Nat) (m : aK) (B L WB WL : Nat→Prop),jG m s B L n→s'.nb≤n+16→s'.nl≤n+16→n≤n0→(∀ b∈ft.rb,B b∧WB b)→(∀ l∈ft.rl,L l∧WL l)→(t.keep=true→∀ x,(B x∧WB x)∧(L x∧WL x))→
      ∀ vs : Array Value,args.length=vs.size→(∀ (i : Nat) d v,args[i]? = some d→vs[i]? = some v→m.rd d v)→
        Calls P f vs m.w (fun e w'=>∃ v,e = .returned v∧∃ m',m'.w=w'∧bA m m' s s' B L WB WL n (scrubKeptD t.keep kl)∧m'.rd d' v):=by
  unfold liveK at h
  generalize ha : reach s fuelR args ⟨[],[]⟩=a at h
  simp only at h
  generalize hkd : (if t.keep=true then a.ls else [])=kl at h
  split at h
  rotate_left
  · cases h
  rename_i hc
  simp only [Bool.and_eq_true,List.all_eq_true,Bool.or_eq_true,Nat.blt_eq] at hc
  obtain ⟨⟨⟨⟨hlen,hsome⟩,hbs⟩,hls⟩,hkl⟩:=hc
  have hkl:=jL hkl
  have hlen:=jL hlen
  obtain ⟨l,hl,hk⟩:=aF h
  obtain ⟨hcb,HS⟩:=hS f t _ _ l hm hl
  have nod:=fQ (s:=s) fuelR args ⟨[],[]⟩ List.nodup_nil List.nodup_nil
  have liv:=eE (s:=s) fuelR args ⟨[],[]⟩ (by simp) (by simp)
  rw [ha] at nod liv
  refine ⟨hcb,_,_,_,hk,Nat.le_add_right _ _,fun n m B L WB WL sit hnb hnl hn0 hB hL hall vs hvl hrd=>?_⟩
  have hnl : s.nl+(t.lists.length - kl.length)≤n+16:=hnl
  have hks : ∀ l∈kl,l∈a.ls:=fun l hl=>by rw [← hkd] at hl;split at hl;exact hl;cases hl
  have hkn : kl.Nodup:=by rw [← hkd];split;exact nod.2.1;exact List.nodup_nil
  have hkk : t.keep=false→kl = []:=fun hf=>by rw [← hkd,hf];rfl
  have hlists : (s.pick a).lists.length=a.ls.length:=jU
  have hnb : s.nb+(t.boxes.length - a.bs.length)≤n+16:=hnb
  have sn1:=sit.nb
  have sn2:=sit.nl
  have lin : ∀ l∈a.ls,l∈ft.rl∨(n≤l∧l<n+16):=fun l hl=>by
    rcases hls l hl with h | ⟨h1,h2⟩
    · exact .inl (jS.1 h)
    · have:=jL h1;exact .inr (by omega)
  have hb : ∀ b∈a.bs,m.s.box b=s.box b:=fun b hb=>sit.ab b (.inl (hB b (jS.1 (hbs b hb))).1)
  have hl' : ∀ l∈a.ls,m.s.list l=s.list l:=fun l hl=>sit.al l ((lin l hl).imp (fun h=>(hL l h).1) id)
  have pf:=rA (a:=a) sit.inv hb hl' nod.1 nod.2.1
  have hboxes : (s.pick a).boxes.length=a.bs.length:=nA
  refine (HS (m.pick a.bs a.ls (s.pick a)) vs pf (by simpa using hvl) (fun i d v hd hv=>?_)).mono ?_
  · rw [List.getElem?_map] at hd
    cases hdi : args[i]? with
    | none=>rw [hdi] at hd;cases hd
    | some d0=>rw [hdi] at hd;cases hd;exact zF hl' deep (hrd i d0 v hdi hv)
  · rintro e w' ⟨v,rfl,c,hw,cinv,fw,d,s0,a0,hread,hdv,hfull,hub,hul⟩
    rw [hboxes,hlists] at fw
    obtain ⟨hless,lenB,lenL,HB,HO⟩:=Tmpl.read_sound hread hwf
    have lenB : t.boxes.length=a0.bs.length:=lenB.trans nA
    have lenL : t.lists.length=a0.ls.length:=lenL.trans jU
    refine ⟨v,rfl,?_⟩
    generalize hcsB : ((fillB l t.boxes).map fun o=>o.map fun cs=>cs.map (ren (backFb a.bs s.nb) (backFb kl s.nl) deep))=csB
    have hcsBl : csB.length=t.boxes.length:=by rw [← hcsB,List.length_map,vK]
    have hab : ∀ b∈a.bs,∃ cs,m.s.box b=some cs:=fun b hbm=>by
      rw [hb b hbm]
      exact Option.ne_none_iff_exists'.1 (liv.1 b hbm)
    have hal : ∀ l∈a.ls,∃ o,m.s.list l=some o:=fun l hlm=>by
      rw [hl' l hlm]
      exact Option.ne_none_iff_exists'.1 (liv.2 l hlm)
    have freshB : ∀ x,s.nb≤x→x<s.nb+(t.boxes.length - a.bs.length)→¬ m.ρ.ub x:=fun x h1 h2=>sit.fb x h1 (by omega)
    have freshL : ∀ x,s.nl≤x→x<s.nl+(t.lists.length - kl.length)→¬ m.ρ.ul x:=fun x h1 h2=>sit.fl x h1 (by omega)
    have hout : ∀ b∈a.bs,¬ (s.nb≤b∧b<s.nb+(csB.length - a.bs.length)):=fun b hbm hr=>by
      obtain ⟨cs,hcs⟩:=hab b hbm
      rw [hcsBl] at hr
      exact freshB b hr.1 hr.2 (sit.inv.ub b cs hcs)
    have scrL : ∀ x,look x (scrubKept t.keep kl s.boxes)=(s.box x).map (·.map (scrubKeptD t.keep kl)):=fun x=>by
      unfold scrubKept scrubKeptD
      cases t.keep with
      | true=>exact qY kl x s.boxes
      | false=>
        rw [if_neg (by simp),if_neg (by simp)]
        exact gB _
    have boxL : ∀ x,look x (backB a.bs s.nb csB (scrubKept t.keep kl s.boxes))=match cI a.bs s.nb (t.boxes.length - a.bs.length) x with | some i=>csB.getD i none | none=>(s.box x).map (·.map (scrubKeptD t.keep kl)):=fun x=>by
      have:=sK (x:=x) (cs:=csB) (bs:=a.bs) (n:=s.nb) (old:=scrubKept t.keep kl s.boxes) nod.1 (by rw [hcsBl];exact hlen) hout
      rw [hcsBl,scrL] at this
      exact this
    have houtL : ∀ l0∈kl,¬ (s.nl≤l0∧l0<s.nl+((fillO l t.lists).length - kl.length)):=fun l0 hlm hr=>by
      obtain ⟨o,ho⟩:=hal l0 (hks l0 hlm)
      rw [lD] at hr
      exact freshL l0 hr.1 hr.2 (sit.inv.ul l0 o ho)
    have listL : ∀ x,look x (backB kl s.nl (fillO l t.lists) (s.killL a.ls).lists)=match cI kl s.nl (t.lists.length - kl.length) x with | some i=>(fillO l t.lists).getD i none | none=>(s.killL a.ls).list x:=fun x=>by
      have:=sK (x:=x) (cs:=fillO l t.lists) (bs:=kl) (n:=s.nl) (old:=(s.killL a.ls).lists) hkn (by rw [lD];exact hkl) houtL
      rw [lD] at this
      exact this
    let S : Sx:={ box:=fun x=>match cI a.bs s.nb (t.boxes.length - a.bs.length) x with | some i=>csB.getD i none | none=>(m.s.box x).map (·.map (scrubKeptD t.keep kl))
                  list:=fun x=>match cI kl s.nl (t.lists.length - kl.length) x with | some i=>(fillO l t.lists).getD i none | none=>if x∈a.ls then none else m.s.list x}
    have hbn : ∀ x,(∃ cs,m.s.box x=some cs)→¬ (s.nb≤x∧x<s.nb+(t.boxes.length - a.bs.length)):=fun x ⟨cs,hcs⟩ hr=>freshB x hr.1 hr.2 (sit.inv.ub x cs hcs)
    have cb_fb : ∀ b b',b<t.boxes.length→backFb a.bs s.nb b=some b'→cI a.bs s.nb (t.boxes.length - a.bs.length) b'=some b∧(m.ρ.ub b'∨(s.nb≤b'∧b'<s.nb+(t.boxes.length - a.bs.length))):=by
      intro b b' hlt hbb
      unfold backFb at hbb
      split at hbb
      · rename_i x hx
        cases hbb
        obtain ⟨cs,hcs⟩:=hab b' (List.mem_of_getElem? hx)
        refine ⟨?_,.inl (sit.inv.ub b' cs hcs)⟩
        unfold cI
        rw [aB0 (n:=0) nod.1 hx,Nat.zero_add]
      · rename_i hx
        cases hbb
        have hge : a.bs.length≤b:=by
          rcases Nat.lt_or_ge b a.bs.length with h | h
          · rw [List.getElem?_eq_getElem h] at hx;cases hx
          · exact h
        have hnot : s.nb+(b - a.bs.length)∉a.bs:=fun hm'=>hbn _ (hab _ hm') ⟨by omega,by omega⟩
        refine ⟨?_,.inr ⟨by omega,by omega⟩⟩
        unfold cI
        rw [uC hnot]
        simp only
        rw [if_pos ⟨by omega,by omega⟩]
        congr 1
        omega
    have cl_fl : ∀ b b',b<t.lists.length→backFb kl s.nl b=some b'→cI kl s.nl (t.lists.length - kl.length) b'=some b∧(m.ρ.ul b'∨(s.nl≤b'∧b'<s.nl+(t.lists.length - kl.length))):=by
      intro b b' hlt hbb
      unfold backFb at hbb
      split at hbb
      · rename_i x hx
        cases hbb
        obtain ⟨o,ho⟩:=hal b' (hks b' (List.mem_of_getElem? hx))
        refine ⟨?_,.inl (sit.inv.ul b' o ho)⟩
        unfold cI
        rw [aB0 (n:=0) hkn hx,Nat.zero_add]
      · rename_i hx
        cases hbb
        have hge : kl.length≤b:=by
          rcases Nat.lt_or_ge b kl.length with h | h
          · rw [List.getElem?_eq_getElem h] at hx;cases hx
          · exact h
        have hnot : s.nl+(b - kl.length)∉kl:=fun hm'=>by
          obtain ⟨o,ho⟩:=hal _ (hks _ hm')
          exact freshL _ (by omega) (by omega) (sit.inv.ul _ o ho)
        refine ⟨?_,.inr ⟨by omega,by omega⟩⟩
        unfold cI
        rw [uC hnot]
        simp only
        rw [if_pos ⟨by omega,by omega⟩]
        congr 1
        omega
    have ren_ok : ∀ {d : DV} {v : Value},c.rd d v→(m.back c a.bs kl s.nb (t.boxes.length - a.bs.length) s.nl (t.lists.length - kl.length) S).rd (ren (backFb a.bs s.nb) (backFb kl s.nl) deep d) v:=by
      intro d v hd
      refine bQ.renum (fun b b' hu hbb=>?_) (fun l0 l' hu hll=>?_) deep hd
      · obtain ⟨h1,h2⟩:=cb_fb b b' (by rw [lenB];exact hub b hu) hbb
        refine ⟨h2,?_⟩
        show (match cI a.bs s.nb (t.boxes.length - a.bs.length) b' with | some i=>c.ρ.box i | none=>m.ρ.box b')=_
        rw [h1]
      · have hlt:=hul l0 hu
        rw [← lenL] at hlt
        obtain ⟨hcl,hcu⟩:=cl_fl l0 l' hlt hll
        refine ⟨hcu,fun hv=>⟨?_,?_,?_,?_⟩⟩
        · have hv : (match cI kl s.nl (t.lists.length - kl.length) l' with | some i=>(fillO l t.lists).getD i none | none=>if l'∈a.ls then none else m.s.list l')≠none:=hv
          rw [hcl] at hv
          obtain ⟨w1,hw1⟩:=Option.ne_none_iff_exists'.1 hv
          have hg:=getD_some hw1
          obtain ⟨ts,hts⟩:=lK l hg
          obtain ⟨x,w2,g1,_⟩:=HO l0 ts hts
          have g1 : (s0.pick a0).list l0=some w2:=by
            have:=iC (n:=0) g1
            rw [Nat.zero_add] at this
            exact this
          rw [← hfull.list l0] at g1
          exact aK.live_of g1
        · show (match cI kl s.nl (t.lists.length - kl.length) l' with | some i=>c.ρ.hdr i | none=>_)=_
          rw [hcl]
        · show (match cI kl s.nl (t.lists.length - kl.length) l' with | some i=>c.ρ.ty i | none=>_)=_
          rw [hcl]
        · show (match cI kl s.nl (t.lists.length - kl.length) l' with | some i=>c.ρ.fp i | none=>_)=_
          rw [hcl]
    have came : mB m c t.keep a.bs a.ls kl s.nb (t.boxes.length - a.bs.length) s.nl (t.lists.length - kl.length) S:={
      kk:=hkk
      kn:=hkn
      ks:=hks
      row:=fun i l0 hi hlv=>by
        have hkt : t.keep=true:=by
          cases hk2 : t.keep with
          | true=>rfl
          | false=>rw [hkk hk2] at hi;simp at hi
        have hkl2 : kl=a.ls:=by rw [← hkd,hkt];rfl
        rw [hkl2] at hi
        obtain ⟨o,ho⟩:=hal l0 (List.mem_of_getElem? hi)
        have hlt : i<a.ls.length:=(List.getElem?_eq_some_iff.1 hi).1
        rw [hkt] at fw
        have hu : (m.pick a.bs a.ls (s.pick a)).ρ.ul i:=⟨hlt,by rw [cK hi];exact sit.inv.ul l0 o ho⟩
        obtain ⟨_,q⟩:=fw.row i (by simpa using hlt) hu
        obtain ⟨_,q1,q2⟩:=q hlv
        rw [q1,q2]
        show m.ρ.hdr (a.ls.getD i 0)=_∧m.ρ.ty (a.ls.getD i 0)=_
        rw [cK hi]
        exact ⟨rfl,rfl⟩
      inv:=sit.inv
      cinv:=cinv
      nb:=nod.1
      ab:=hab
      al:=hal
      size:=fw.size
      os:=fw.os
      tape:=fw.tape
      output:=fw.output
      keep:=fun r hr hn=>fw.keep r hr (fun ho=>hn (qA ho))
      own:=fun r hr=>(fw.own r hr).imp (fun h=>qA h) id
      z:=fun r hr=>(fw.z r hr).imp id (fun h=>h.imp (fun h=>qA h) id)
      zz:=fw.zz
      box:=fun i b hbi=>by
        obtain ⟨cs,hcs⟩:=hab b (List.mem_of_getElem? hbi)
        have:=fw.box i (List.getElem?_eq_some_iff.1 hbi).1 (cs.map (ren (idx · a.bs 0) (idx · a.ls 0) deep)) (by
          show (s.pick a).box i=_
          rw [pV,hbi,Option.bind_some,← hb b (List.mem_of_getElem? hbi),hcs];rfl)
        rw [this.1]
        show m.ρ.box (a.bs.getD i 0)=_
        rw [cK hbi]
      freshB:=freshB
      freshL:=freshL
      sb:=fun x cs hx=>by
        have hx : (match cI a.bs s.nb (t.boxes.length - a.bs.length) x with | some i=>csB.getD i none | none=>(m.s.box x).map (·.map (scrubKeptD t.keep kl)))=some cs:=hx
        cases hcb : cI a.bs s.nb (t.boxes.length - a.bs.length) x with
        | none=>
          rw [hcb] at hx
          simp only at hx
          cases hmx : m.s.box x with
          | none=>rw [hmx] at hx;cases hx
          | some cs0=>rw [hmx] at hx;cases hx;exact .inr ⟨rfl,cs0,rfl,rfl⟩
        | some i=>
          rw [hcb] at hx
          have hg:=getD_some hx
          rw [← hcsB,List.getElem?_map] at hg
          cases hfi : (fillB l t.boxes)[i]? with
          | none=>rw [hfi] at hg;cases hg
          | some o=>
            rw [hfi] at hg
            simp only [Option.map_some,Option.some.injEq] at hg
            cases o with
            | none=>cases hg
            | some fs=>
              simp only [Option.map_some,Option.some.injEq] at hg
              obtain ⟨ts,hts⟩:=sL l hfi
              obtain ⟨g1,x',cs0,g2,g3⟩:=HB i ts hts
              rw [hfi] at g1
              cases g1
              have g2 : (s0.pick a0).box i=some cs0:=by
                have:=rV (n:=0) g2
                rw [Nat.zero_add] at this
                exact this
              rw [← hfull.box i] at g2
              refine .inl ⟨i,cs0,rfl,g2,by rw [← hg,List.length_map];exact g3.1,fun j d0 d1 v0 h1 h2 h3=>?_⟩
              rw [← hg,List.getElem?_map] at h2
              cases hj : (fillDs l ts)[j]? with
              | none=>rw [hj] at h2;cases h2
              | some d2=>
                rw [hj] at h2
                cases h2
                exact ren_ok (g3.2 j d0 d2 h1 hj c v0 h3)
      sbx:=fun x hx=>by
        show ∃ cs,(match cI a.bs s.nb (t.boxes.length - a.bs.length) x with | some i=>csB.getD i none | none=>(m.s.box x).map (·.map (scrubKeptD t.keep kl)))=some cs
        rcases cR a.bs s.nb (t.boxes.length - a.bs.length) x with ⟨i,h1,h2⟩ | ⟨i,h1,h2,h3,h4⟩ | ⟨h1,_⟩
        · rw [h1]
          have hlt : i<a.bs.length:=(List.getElem?_eq_some_iff.1 h2).1
          have hti : (t.boxes.take a.bs.length)[i]? = some (t.boxes[i]'(by omega)):=by rw [List.getElem?_take,if_pos hlt,List.getElem?_eq_getElem]
          obtain ⟨ts,hts⟩:=wZ hsome i _ hti
          obtain ⟨g1,_⟩:=HB i ts (by rw [List.getElem?_eq_getElem (by omega),hts])
          refine ⟨(fillDs l ts).map (ren (backFb a.bs s.nb) (backFb kl s.nl) deep),?_⟩
          simp only
          rw [List.getD,← hcsB,List.getElem?_map,g1]
          rfl
        · exact absurd ⟨by omega,by omega⟩ (hbn x hx)
        · rw [h1]
          obtain ⟨cs,hcs⟩:=hx
          exact ⟨_,by simp only [hcs,Option.map_some];rfl⟩
      sl:=fun x o hx=>by
        have hx : (match cI kl s.nl (t.lists.length - kl.length) x with | some i=>(fillO l t.lists).getD i none | none=>if x∈a.ls then none else m.s.list x)=some o:=hx
        cases hcl : cI kl s.nl (t.lists.length - kl.length) x with
        | none=>
          rw [hcl] at hx
          simp only at hx
          split at hx
          · cases hx
          · rename_i hn;exact .inr ⟨rfl,hn,hx⟩
        | some i=>
          rw [hcl] at hx
          have hg:=getD_some hx
          obtain ⟨ts,hts⟩:=lK l hg
          obtain ⟨x',w2,g1,g2,_⟩:=HO i ts hts
          rw [hg] at g2
          cases g2
          have g1 : (s0.pick a0).list i=some o:=by
            have:=iC (n:=0) g1
            rw [Nat.zero_add] at this
            exact this
          rw [← hfull.list i] at g1
          exact .inl ⟨i,rfl,g1⟩}
    have wbs : ∀ b∈a.bs,B b∧WB b:=fun b hbm=>hB b (jS.1 (hbs b hbm))
    refine ⟨m.back c a.bs kl s.nb (t.boxes.length - a.bs.length) s.nl (t.lists.length - kl.length) S,hw,?_,ren_ok (hless c v hdv)⟩
    refine {
      step:=came.step sn1 hnb sn2 hnl
      after:=⟨fun x hx=>?_,fun x hx=>?_,fun x h1 h2=>?_,fun x h1 h2=>?_,fun x h1 h2=>?_,fun x h1 h2=>?_⟩
      nb:=Nat.le_add_right _ _
      nl:=Nat.le_add_right _ _
      ub:=fun x hx hu=>hu.elim id (fun h=>by have hx : s.nb+(t.boxes.length - a.bs.length)≤x:=hx;omega)
      ul:=fun x hx hu=>hu.elim id (fun h=>by have hx : s.nl+(t.lists.length - kl.length)≤x:=hx;omega)}
    · show (match cI a.bs s.nb (t.boxes.length - a.bs.length) x with | some i=>csB.getD i none | none=>(m.s.box x).map (·.map (scrubKeptD t.keep kl)))=look x (backB a.bs s.nb _ (scrubKept t.keep kl s.boxes))
      rw [boxL x]
      cases cI a.bs s.nb (t.boxes.length - a.bs.length) x with
      | some i=>rfl
      | none=>simp only;rw [sit.ab x hx]
    · show (match cI kl s.nl (t.lists.length - kl.length) x with | some i=>(fillO l t.lists).getD i none | none=>if x∈a.ls then none else m.s.list x)=look x (backB kl s.nl (fillO l t.lists) (s.killL a.ls).lists)
      rw [listL x]
      cases cI kl s.nl (t.lists.length - kl.length) x with
      | some i=>rfl
      | none=>
        simp only
        rw [dH,sit.al x hx]
    · by_cases hkt : t.keep=true
      · exact absurd ((hall hkt x).1.1) h1
      · have hkt : t.keep=false:=by simpa using hkt
        show (match cI a.bs s.nb (t.boxes.length - a.bs.length) x with | some i=>csB.getD i none | none=>(m.s.box x).map (fun cs : List DV=>cs.map (scrubKeptD t.keep kl)))=_
        rcases cR a.bs s.nb (t.boxes.length - a.bs.length) x with ⟨i,g1,g2⟩ | ⟨i,g1,g2,g3,g4⟩ | ⟨g1,_⟩
        · exact absurd (wbs x (List.mem_of_getElem? g2)).1 h1
        · exact absurd ⟨by omega,by omega⟩ h2
        · rw [g1,hkt]
          exact (gB _).symm
    · by_cases hkt : t.keep=true
      · exact absurd ((hall hkt x).2.1) h1
      · have hkt : t.keep=false:=by simpa using hkt
        show (match cI kl s.nl (t.lists.length - kl.length) x with | some i=>(fillO l t.lists).getD i none | none=>if x∈a.ls then none else m.s.list x)=_
        rw [hkk hkt]
        rcases cR [] s.nl (t.lists.length - ([] : List Nat).length) x with ⟨i,g1,g2⟩ | ⟨i,g1,g2,g3,_⟩ | ⟨g1,_⟩
        · simp at g2
        · exact absurd ⟨by omega,by rw [hkk hkt] at hnl;omega⟩ h2
        · rw [g1]
          simp only
          rw [if_neg]
          intro hxm
          rcases lin x hxm with h | h
          · exact h1 (hL x h).1
          · exact h2 h
    · by_cases hkt : t.keep=true
      · exact absurd ((hall hkt x).1.2) h1
      · have hkt : t.keep=false:=by simpa using hkt
        show look x (backB a.bs s.nb _ (scrubKept t.keep kl s.boxes))=_
        rw [boxL x]
        rcases cR a.bs s.nb (t.boxes.length - a.bs.length) x with ⟨i,g1,g2⟩ | ⟨i,g1,g2,g3,g4⟩ | ⟨g1,_⟩
        · exact absurd (wbs x (List.mem_of_getElem? g2)).2 h1
        · exact absurd ⟨by omega,by omega⟩ h2
        · rw [g1,hkt]
          exact (gB _).symm
    · by_cases hkt : t.keep=true
      · exact absurd ((hall hkt x).2.2) h1
      · have hkt : t.keep=false:=by simpa using hkt
        show look x (backB kl s.nl (fillO l t.lists) (s.killL a.ls).lists)=_
        rw [listL x,hkk hkt]
        rcases cR [] s.nl (t.lists.length - ([] : List Nat).length) x with ⟨i,g1,g2⟩ | ⟨i,g1,g2,g3,_⟩ | ⟨g1,_⟩
        · simp at g2
        · exact absurd ⟨by omega,by rw [hkk hkt] at hnl;omega⟩ h2
        · rw [g1]
          simp only
          rw [dH,if_neg]
          intro hxm
          rcases lin x hxm with h | h
          · exact h1 (hL x h).2
          · exact h2 h
end
end Go.Proofs.YtjgleeamiclokaaDoor
namespace Go.Proofs.YtjgleeamiclokaaDoor
open Go
theorem zO : ∀ {cs : List PV} {cts : List OTy},PV.flatCs cts cs=true→∀ (j : Nat) c,cs[j]? = some c→PV.flatO (cts.getD j .leaf) c=true∨c.flat=true
  | [],_,_,j,c,h=>by simp at h
  | x::r,cts,h,j,c,hj=>by
    have tail : ∀ {b : Bool},(b&&PV.flatCs cts.tail r)=true→j≠0→PV.flatO (cts.getD j .leaf) c=true∨c.flat=true:=by
      intro b hb hj0
      simp only [Bool.and_eq_true] at hb
      obtain ⟨q,rfl⟩ : ∃ q,j=q+1:=⟨j - 1,by omega⟩
      have:=zO hb.2 q c (by simpa using hj)
      cases cts with
      | nil=>simpa [List.getD] using this
      | cons o os=>simpa [List.getD] using this
    by_cases hj0 : j=0
    · subst hj0
      simp at hj
      subst hj
      cases x with
      | lst xs=>
        unfold PV.flatCs at h
        simp only [Bool.and_eq_true] at h
        cases cts with
        | nil=>simp at h
        | cons o os=>
          cases o with
          | leaf=>simp at h
          | own s e g cts'=>exact .inl (by simpa [List.getD,PV.flatO] using h.1)
      | _=>unfold PV.flatCs at h;simp only [Bool.and_eq_true] at h;exact .inr h.1
    · cases x<;>(unfold PV.flatCs at h;exact tail h hj0)
theorem zP : ∀ {xs : List PV} {g : Bool} {cts : List OTy},PV.flatEs g cts xs=true→∀ (i : Nat) x,xs[i]? = some x→PV.flatE g cts x=true
  | [],_,_,_,i,x,h=>by simp at h
  | y::r,g,cts,h,i,x,hi=>by
    unfold PV.flatEs at h
    simp only [Bool.and_eq_true] at h
    cases i with
    | zero=>simp at hi;subst hi;exact h.1
    | succ i=>exact zP h.2 i x (by simpa using hi)
theorem bL.flat {w : World} {Z Z' : Nat→Prop} {o : OTy} {x : PV} {v : Value} {F : Nat→Prop} (h : bL w Z o x v F) (hf : PV.flatO o x=true∨x.flat=true) (hn : ∀ r,F r→¬ Z' r) : bL w Z' o x v F:=by
  induction h with
  | leaf x v F h hF=>
    rcases hf with hf | hf
    · simp [PV.flatO] at hf
    · exact .leaf x v F (h.flat hf) hF
  | hole s e g cts v F h hF=>exact .hole s e g cts v F h hF
  | nil s e g cts F a hF=>exact .nil s e g cts F a hF
  | own s e g cts xs b o cap cells ety cv fp F hh hs ho hl hz he hc hv hr hF hb hd ih=>
    have hf : PV.flatEs g cts xs=true:=by
      rcases hf with hf | hf
      · simpa [PV.flatO] using hf
      · simp [PV.flat] at hf
    refine .own s e g cts xs b o cap cells ety cv fp F hh hs ho hl (hn b ((hF b).2 (.inl rfl))) he hc hv (fun i j x hx hj=>?_) hF hb hd
    have hi : i<xs.length:=(List.getElem?_eq_some_iff.1 hx).1
    refine ih i j x hx hj ?_ (fun r hr=>hn r ((hF r).2 (.inr ⟨i,j,hi,hj,hr⟩)))
    have hfe:=zP hf i x hx
    have hel:=he i x hx
    cases g with
    | true=>
      obtain ⟨cs,rfl,hlen⟩:=pO hel
      rw [dF]
      unfold PV.flatE at hfe
      simp only [Bool.true_and] at hfe
      have hj' : cs[j]? = some (cs[j]'(by omega)):=List.getElem?_eq_getElem (by omega)
      have hg : cs.getD j .hole=cs[j]'(by omega):=by rw [List.getD,hj'];rfl
      rw [hg]
      exact zO hfe j _ hj'
    | false=>
      have hs1:=tJ hel
      have hj0 : j=0:=by omega
      subst hj0
      show PV.flatO (cts.getD 0 .leaf) x=true∨x.flat=true
      cases x with
      | lst ys=>
        unfold PV.flatE at hfe
        cases cts with
        | nil=>simp at hfe
        | cons o os=>
          cases o with
          | leaf=>simp at hfe
          | own s' e' g' cts'=>exact .inl (by simpa [List.getD,PV.flatO] using hfe)
      | agg cs=>unfold PV.flatE at hfe;simp at hfe
      | _=>unfold PV.flatE at hfe;simp only [Bool.not_false,Bool.true_and] at hfe;exact .inr hfe
inductive pE (l : R) : DV→Prop
  | p (k : IntKind) (i : Int) : (gd l i.toNat).flat=true→pE l (.p (.int k i))
  | ref (n : Nat) (path : dE) : pE l (.ref n path)
  | agg (cs : List DV) : (∀ c∈cs,pE l c)→pE l (.agg cs)
  | tup (cs : List DV) : (∀ c∈cs,pE l c)→pE l (.tup cs)
theorem iY {l : R} : ∀ {cs : List DV} {k : Option R} {r : R},guardCells l cs k=some r→(∀ c∈cs,pE l c)∧k=some r
  | [],k,r,h=>⟨by simp,h⟩
  | .p (.int kk i)::cs,k,r,h=>by
    unfold guardCells at h
    obtain ⟨hf,h'⟩:=pZ h
    obtain ⟨h1,h2⟩:=iY h'
    refine ⟨fun c hc=>?_,h2⟩
    rcases List.mem_cons.1 hc with rfl | hc
    · exact .p _ _ hf
    · exact h1 c hc
  | .ref n path::cs,k,r,h=>by
    unfold guardCells at h
    obtain ⟨h1,h2⟩:=iY h
    refine ⟨fun c hc=>?_,h2⟩
    rcases List.mem_cons.1 hc with rfl | hc
    · exact .ref _ _
    · exact h1 c hc
  | .p (.bool _)::_,_,_,h=>by simp [guardCells] at h
  | .p (.str _)::_,_,_,h=>by simp [guardCells] at h
  | .p .nil::_,_,_,h=>by simp [guardCells] at h
  | .p .nilf::_,_,_,h=>by simp [guardCells] at h
  | .p (.agg _)::_,_,_,h=>by simp [guardCells] at h
  | .p (.lst _)::_,_,_,h=>by simp [guardCells] at h
  | .p (.bx _)::_,_,_,h=>by simp [guardCells] at h
  | .p (.fn _ _)::_,_,_,h=>by simp [guardCells] at h
  | .p (.tup _)::_,_,_,h=>by simp [guardCells] at h
  | .p .hole::_,_,_,h=>by simp [guardCells] at h
  | .nils::_,_,_,h=>by simp [guardCells] at h
  | .agg _::_,_,_,h=>by simp [guardCells] at h
  | .tup _::_,_,_,h=>by simp [guardCells] at h
  | .fn _ _::_,_,_,h=>by simp [guardCells] at h
  | .ptr _ _::_,_,_,h=>by simp [guardCells] at h
  | .sref _ _ _ _::_,_,_,h=>by simp [guardCells] at h
  | .eptr _ _ _ _::_,_,_,h=>by simp [guardCells] at h
  | .fptr _ _ _ _::_,_,_,h=>by simp [guardCells] at h
  | .bptr _ _::_,_,_,h=>by simp [guardCells] at h
  | .gptr _ _ _ _::_,_,_,h=>by simp [guardCells] at h
  | .nilq _ _::_,_,_,h=>by simp [guardCells] at h
  | .dead::_,_,_,h=>by simp [guardCells] at h
theorem jV {l : R} : ∀ {cs : List DV} {k : Option R} {r : R},guardAggs l cs k=some r→(∀ c∈cs,pE l c)∧k=some r
  | [],k,r,h=>⟨by simp,h⟩
  | d::cs,k,r,h=>by
    have one : ∀ {d : DV},guardCells l [d] (guardAggs l cs k)=some r→(∀ c∈d::cs,pE l c)∧k=some r:=by
      intro d h
      obtain ⟨h1,h2⟩:=iY h
      obtain ⟨h3,h4⟩:=jV h2
      refine ⟨fun c hc=>?_,h4⟩
      rcases List.mem_cons.1 hc with rfl | hc
      · exact h1 _ List.mem_cons_self
      · exact h3 c hc
    cases d with
    | agg ds=>
      unfold guardAggs at h
      obtain ⟨h1,h2⟩:=iY h
      obtain ⟨h3,h4⟩:=jV h2
      refine ⟨fun c hc=>?_,h4⟩
      rcases List.mem_cons.1 hc with rfl | hc
      · exact .agg _ h1
      · exact h3 c hc
    | _=>exact one (by simpa only [guardAggs] using h)
theorem aB1 {l : R} {d : DV} {k : Option R} {r : R} (h : guardRes l d k=some r) : pE l d∧k=some r:=by
  unfold guardRes at h
  split at h
  · obtain ⟨h1,h2⟩:=jV h
    exact ⟨.tup _ h1,h2⟩
  · obtain ⟨h1,h2⟩:=jV h
    exact ⟨h1 _ List.mem_cons_self,h2⟩
theorem rW {l : R} : ∀ {cs : List (Option Own)} {k : Option R} {r : R},guardRows l cs k=some r→(∀ (i : Nat) w kk j,cs[i]? = some (some w)→w.c = .int kk j→PV.flatO w.o (gd l j.toNat)=true)∧k=some r
  | [],k,r,h=>⟨fun i w kk j hi=>by simp at hi,h⟩
  | none::_,_,_,h=>by simp [guardRows] at h
  | some w::cs,k,r,h=>by
    unfold guardRows at h
    split at h
    · rename_i kk j hc
      unfold PV.guardOwn at h
      split at h
      · rename_i hf
        obtain ⟨h1,h2⟩:=rW h
        refine ⟨fun i w' kk' j' hi hc'=>?_,h2⟩
        cases i with
        | zero=>
          simp at hi
          subst hi
          rw [hc] at hc'
          cases hc'
          exact hf
        | succ i=>exact h1 i w' kk' j' (by simpa using hi) hc'
      · cases h
    · cases h
mutual
theorem sM (l : R) : ∀ (ds : List DV),fillDs l ds=ds.map (fillD l)
  | []=>rfl
  | d::r=>by simp only [fillDs,List.map_cons,sM l r]
end
theorem pE.rd {l : R} {w : World} {Z Z' : Nat→Prop} {ρ : Loc} {live live' : Nat→Prop} (hl : ∀ x,live' x→live x) {d : DV} (hf : pE l d) : ∀ {v : Value},bQ w Z ρ live (fillD l d) v→bQ w Z' ρ live' (fillD l d) v:=by
  induction hf with
  | p k i hfl=>
    intro v h
    simp only [fillD] at h ⊢
    cases h with
    | p _ _ h=>exact .p _ _ (h.flat hfl)
  | ref n path=>
    intro v h
    simp only [fillD] at h ⊢
    cases h with
    | ref _ _ _ h1 h2 h3=>exact .ref _ _ _ h1 h2 (fun hv=>h3 (hl _ hv))
  | agg cs _ ih=>
    intro v h
    simp only [fillD,sM] at h ⊢
    cases h with
    | agg _ vs h1 h2 h3=>
      refine .agg _ vs h1 h2 (fun i d v hd hv=>?_)
      rw [List.getElem?_map] at hd
      cases hc : cs[i]? with
      | none=>rw [hc] at hd;cases hd
      | some c=>
        rw [hc] at hd
        cases hd
        exact ih c (List.mem_of_getElem? hc) (h3 i _ v (by rw [List.getElem?_map,hc];rfl) hv)
  | tup cs _ ih=>
    intro v h
    simp only [fillD,sM] at h ⊢
    cases h with
    | tup _ vs h1 h3=>
      refine .tup _ vs h1 (fun i d v hd hv=>?_)
      rw [List.getElem?_map] at hd
      cases hc : cs[i]? with
      | none=>rw [hc] at hd;cases hd
      | some c=>
        rw [hc] at hd
        cases hd
        exact ih c (List.mem_of_getElem? hc) (h3 i _ v (by rw [List.getElem?_map,hc];rfl) hv)
section
variable {P : Program} {X : Cx} {O : Orc}
theorem lentK_sound (hS : zN P X.mode O.S) {t : Tmpl} {f : Nat} (hm : X.mode f=some t) (hwf : t.wf=true) {args : List DV} {s : St} {k : DV→St→Option R} {r : R} (h : lentK O t f args s k=some r) :
    eO P f∧∃ d' s',k d' s'=some r∧∀ (n : Nat) (m : aK) (B L WB WL : Nat→Prop),jG m s B L n→s'.nb≤n+16→s'.nl≤n+16→yG m s args→
      ∀ vs : Array Value,args.length=vs.size→(∀ (i : Nat) d v,args[i]? = some d→vs[i]? = some v→m.rd d v)→
        Calls P f vs m.w (fun e w'=>∃ v,e = .returned v∧∃ m',m'.w=w'∧bA m m' s s' B L WB WL n id∧m'.rd d' v):=by
  unfold lentK at h
  obtain ⟨ps,h1,hpl,H⟩:=mJ h
  obtain ⟨l,hl,h2⟩:=aF h1
  obtain ⟨hflat,h3⟩:=aB1 h2
  obtain ⟨hrows,hk⟩:=rW h3
  obtain ⟨hcb,HS⟩:=hS f t _ _ l hm hl
  refine ⟨hcb,_,_,hk,fun n m B L WB WL sit hnb hnl hM vs hvl hrd=>?_⟩
  have hnl : s.nl+t.lists.length≤n+16:=hnl
  have sn1:=sit.nb
  have sn2:=sit.nl
  let m0 : aK:={ w:=m.w,Z:=fun x=>m.Z x∨m.owned x,s:={ box:=fun _=>none,list:=fun _=>none},L:=fun _=>False,
                 ρ:={ box:=fun _=>0,hdr:=fun _=>.nilFunc,fp:=fun _ _=>False,ty:=fun _=>.leaf,ub:=fun _=>False,ul:=fun _=>False}}
  have full0 : dN m0 ⟨[],[],0,0,0⟩ 0:={
    inv:={
      ub:=fun _ _ h=>by cases h
      ul:=fun _ _ h=>by cases h
      zlt:=sit.inv.zlt.next (fun _ h=>.inl h) (fun _ _=>rfl) fun r hr=>hr.elim (sit.inv.zlt r) (fun h=>sit.inv.owned_lt h)
      box:=fun _ _ h=>by cases h
      row:=fun _ _ h=>by cases h
      bz:=fun _ _ h=>by cases h
      bb:=fun _ _ _ _ h=>by cases h
      bl:=fun _ _ _ _ h=>by cases h
      ll:=fun _ _ _ _ _ h=>by cases h
      Lz:=fun _ h=>h.elim
      Lb:=fun _ _ _ h=>h
      Ll:=fun _ _ _ _ _ h=>h}
    box:=fun _=>rfl
    list:=fun _=>rfl
    ub:=fun _ h=>h.elim
    ul:=fun _ h=>h.elim}
  have own0 : ∀ r,¬ m0.owned r:=by
    rintro r (⟨_,_,h,_⟩ | ⟨_,_,h,_⟩ | h)
    · cases h
    · cases h
    · exact h
  have hreps:=H m (fun x=>m.Z x∨m.owned x) sit.inv hM (.inl fun r hr=>.inr hr) (fun r hr=>.inl hr) vs hvl hrd
  refine (HS m0 vs full0 (by rw [List.length_map];omega) (fun i d v hd hv=>?_)).mono ?_
  · rw [List.getElem?_map] at hd
    cases hp : ps[i]? with
    | none=>rw [hp] at hd;cases hd
    | some p=>rw [hp] at hd;cases hd;exact .p _ _ (hreps i p v hp hv)
  · rintro e w' ⟨v,rfl,c,hw,cinv,fw,d,s0,a0,hread,hdv,hfull,hub,hul⟩
    obtain ⟨hless,lenB,lenL,HB,HO⟩:=Tmpl.read_sound hread hwf
    have lenL : t.lists.length=a0.ls.length:=lenL.trans jU
    refine ⟨v,rfl,?_⟩
    have rowC : ∀ i w,c.s.list i=some w→∃ w0,t.lists[i]? = some (some w0)∧(fillO l t.lists)[i]? = some (some w)∧PV.flatO w.o w.c=true:=by
      intro i w hi
      have hlt : i<t.lists.length:=by rw [lenL];exact hul i (cinv.ul i w hi)
      have hi':=hi
      rw [hfull.list i] at hi'
      cases hti : t.lists[i]'hlt with
      | none=>
        exfalso
        have : ∀ {cs : List (Option Own)} {k : Option R} {r : R},guardRows l cs k=some r→∀ (j : Nat),cs[j]?≠some none:=by
          intro cs
          induction cs with
          | nil=>intro k r _ j;simp
          | cons x xs ih=>
            intro k r h j
            cases x with
            | none=>simp [guardRows] at h
            | some w=>
              unfold guardRows at h
              split at h
              · unfold PV.guardOwn at h
                split at h
                · cases j with
                  | zero=>simp
                  | succ j=>simpa using ih h j
                · cases h
              · cases h
        exact this h3 i (by rw [List.getElem?_eq_getElem hlt,hti])
      | some w0=>
        have ht : t.lists[i]? = some (some w0):=by rw [List.getElem?_eq_getElem hlt,hti]
        obtain ⟨x,w1,g1,g2,⟨kk,j,g3,g4⟩,g5⟩:=HO i w0 ht
        have g1 : (s0.pick a0).list i=some w1:=by
          have:=iC (n:=0) g1
          rw [Nat.zero_add] at this
          exact this
        rw [g1] at hi'
        cases hi'
        refine ⟨w0,ht,g2,?_⟩
        have:=hrows i w0 kk j ht g3
        rw [g4,g5] at this
        exact this
    let c1 : aK:={ w:=c.w,Z:=fun x=>c.Z x∧(m.Z x∨m.w.heap.size≤x),s:={ box:=fun _=>none,list:=c.s.list},L:=fun _=>False,ρ:=c.ρ}
    have c1inv : iK c1:={
      ub:=fun _ _ h=>by cases h
      ul:=fun l o h=>cinv.ul l o h
      zlt:=⟨fun r hr=>cinv.zlt r hr.1,sit.inv.zlt.glob.mono (fun r h=>⟨fw.zz r (.inl h),.inl h⟩) (fun r h=>fw.keep r (Nat.lt_of_lt_of_le (sit.inv.zlt r h) (Nat.le_refl _)) (own0 r))⟩
      box:=fun _ _ h=>by cases h
      row:=fun i o hi=>by
        have hi : c.s.list i=some o:=hi
        obtain ⟨g1,g2,g3⟩:=cinv.row i o hi
        obtain ⟨w0,_,_,hf⟩:=rowC i o hi
        exact ⟨g1,g2,g3.flat (.inl hf) (fun r hr hz=>g3.notZ r hr hz.1)⟩
      bz:=fun _ _ h=>by cases h
      bb:=fun _ _ _ _ h=>by cases h
      bl:=fun _ _ _ _ h=>by cases h
      ll:=fun l o l' o' r h h'=>cinv.ll l o l' o' r h h'
      Lz:=fun _ h=>h.elim
      Lb:=fun _ _ _ h=>h
      Ll:=fun _ _ _ _ _ h=>h}
    have c1own : ∀ r,c1.owned r→c.owned r:=by
      rintro r (⟨_,_,h,_⟩ | ⟨l,o,h,hr⟩ | h)
      · cases h
      · exact .inr (.inl ⟨l,o,h,hr⟩)
      · exact h.elim
    let S : Sx:={ box:=m.s.box
                  list:=fun x=>match oI s.nl t.lists.length x with | some i=>(fillO l t.lists).getD i none | none=>m.s.list x}
    have freshL : ∀ x,s.nl≤x→x<s.nl+t.lists.length→¬ m.ρ.ul x:=fun x h1 h2=>sit.fl x h1 (by omega)
    have cb0 : ∀ x,cI [] s.nb 0 x=none:=fun x=>by
      unfold cI
      simp only [idx]
      rw [if_neg (by omega)]
    have listC : ∀ i w,(fillO l t.lists)[i]? = some (some w)→c.s.list i=some w:=by
      intro i w hi
      obtain ⟨ts,hts⟩:=lK l hi
      obtain ⟨x',w2,g1,g2,_⟩:=HO i ts hts
      rw [hi] at g2
      cases g2
      have g1 : (s0.pick a0).list i=some w:=by
        have:=iC (n:=0) g1
        rw [Nat.zero_add] at this
        exact this
      rw [← hfull.list i] at g1
      exact g1
    have came : mB m c1 false [] [] [] s.nb 0 s.nl t.lists.length S:={
      kk:=fun _=>rfl
      kn:=List.nodup_nil
      ks:=by simp
      row:=fun i l0 h=>by simp at h
      inv:=sit.inv
      cinv:=c1inv
      nb:=List.nodup_nil
      ab:=by simp
      al:=by simp
      size:=fw.size
      os:=fw.os
      tape:=fw.tape
      output:=fw.output
      keep:=fun r hr _=>fw.keep r hr (own0 r)
      own:=fun r hr=>.inr ((fw.own r (c1own r hr)).resolve_left (own0 r))
      z:=fun r hr=>hr.2.imp id (fun h=>.inr h)
      zz:=fun r hr=>⟨fw.zz r (.inl hr),.inl hr⟩
      box:=fun i b h=>by simp at h
      freshB:=fun x h1 h2=>by omega
      freshL:=freshL
      sb:=fun x cs hx=>.inr ⟨cb0 x,cs,hx,(List.map_id _).symm⟩
      sbx:=fun x hx=>hx
      sl:=fun x o hx=>by
        have hx : (match oI s.nl t.lists.length x with | some i=>(fillO l t.lists).getD i none | none=>m.s.list x)=some o:=hx
        rw [uD]
        cases hcl : oI s.nl t.lists.length x with
        | none=>rw [hcl] at hx;exact .inr ⟨rfl,by simp,hx⟩
        | some i=>
          rw [hcl] at hx
          exact .inl ⟨i,rfl,listC i o (getD_some hx)⟩}
    have listL : ∀ x,look x (backO s.nl (fillO l t.lists) s.lists)=match oI s.nl t.lists.length x with | some i=>(fillO l t.lists).getD i none | none=>s.list x:=fun x=>by
      have:=zK (x:=x) (cs:=fillO l t.lists) (n:=s.nl) (old:=s.lists)
      rw [lD] at this
      exact this
    have hres : c1.rd (fillD l t.res) v:=hflat.rd (fun _ h=>h) (hless c v hdv)
    refine ⟨m.back c1 [] [] s.nb 0 s.nl t.lists.length S,hw,?_,?_⟩
    · refine {
        step:=by have:=came.step sn1 (by omega) sn2 hnl;exact this
        after:=⟨fun x hx=>sit.ab x hx,fun x hx=>?_,fun _ _ _=>rfl,fun x h1 h2=>?_,fun _ _ _=>rfl,fun x h1 h2=>?_⟩
        nb:=Nat.le_refl _
        nl:=Nat.le_add_right _ _
        ub:=fun x hx hu=>hu.elim id (fun h=>by omega)
        ul:=fun x hx hu=>hu.elim id (fun h=>by have hx : s.nl+t.lists.length≤x:=hx;omega)}
      · show (match oI s.nl t.lists.length x with | some i=>(fillO l t.lists).getD i none | none=>m.s.list x)=look x (backO s.nl (fillO l t.lists) s.lists)
        rw [listL x]
        cases oI s.nl t.lists.length x with
        | some i=>rfl
        | none=>exact sit.al x hx
      · show (match oI s.nl t.lists.length x with | some i=>(fillO l t.lists).getD i none | none=>m.s.list x)=_
        rcases zL s.nl t.lists.length x with ⟨i,g1,g2,g3⟩ | ⟨g1,_⟩
        · exact absurd ⟨by omega,by omega⟩ h2
        · rw [g1]
      · show look x (backO s.nl (fillO l t.lists) s.lists)=_
        rw [listL x]
        rcases zL s.nl t.lists.length x with ⟨i,g1,g2,g3⟩ | ⟨g1,_⟩
        · exact absurd ⟨by omega,by omega⟩ h2
        · rw [g1]
    · refine bQ.renum (ρ:=c1.ρ) (live:=c1.s.live) (fun b b' hu hbb=>by cases hbb) (fun l0 l' hu hll=>?_) deep hres
      unfold backFl at hll
      cases hll
      have hlt:=hul l0 hu
      rw [← lenL] at hlt
      have hcl : oI s.nl t.lists.length (s.nl+l0)=some l0:=by
        unfold oI
        rw [if_pos ⟨by omega,by omega⟩]
        congr 1
        omega
      refine ⟨.inr ⟨by omega,by omega⟩,fun hv=>⟨?_,?_,?_,?_⟩⟩
      · have hv : (match oI s.nl t.lists.length (s.nl+l0) with | some i=>(fillO l t.lists).getD i none | none=>m.s.list (s.nl+l0))≠none:=hv
        rw [hcl] at hv
        obtain ⟨w1,hw1⟩:=Option.ne_none_iff_exists'.1 hv
        have:=listC l0 w1 (getD_some hw1)
        show c.s.list l0≠none
        rw [this];simp
      · show (match cI [] s.nl t.lists.length (s.nl+l0) with | some i=>c.ρ.hdr i | none=>_)=_
        rw [uD,hcl]
      · show (match cI [] s.nl t.lists.length (s.nl+l0) with | some i=>c.ρ.ty i | none=>_)=_
        rw [uD,hcl]
      · show (match cI [] s.nl t.lists.length (s.nl+l0) with | some i=>c.ρ.fp i | none=>_)=_
        rw [uD,hcl]
end
end Go.Proofs.YtjgleeamiclokaaDoor
namespace Go.Proofs.YtjgleeamiclokaaDoor
open Go
section
variable {P : Program} {X : Cx} {O : Orc}
theorem sN : ∀ (ds : List DV) (ts : List Nat) (s : St) (k : List DV→St→Option R),ownArgs X ds ts s k=ownCells X ds (ts.map (elemOf X)) s k
  | [],ts,s,k=>by cases ts<;>rfl
  | d::ds,[],s,k=>rfl
  | d::ds,t::ts,s,k=>by
    unfold ownArgs ownCells
    simp only [List.map_cons]
    cases d<;>cases elemOf X t<;>simp only [sN ds ts]
theorem aAS {f : Nat} (hP : sJ P O.C) : ∀ ps r,O.C f ps=some r→eO P f∧∀ (w : World) (Z : Nat→Prop) (aJ us : Array Value),ZOk w Z→ps.length=aJ.size→
      (∀ (i : Nat) x v,ps[i]? = some x→aJ[i]? = some v→dZ w Z x v)→([] : List PV).length=us.size→(∀ (i : Nat) x v,([] : List PV)[i]? = some x→us[i]? = some v→dZ w Z x v)→
      Calls P f (aJ++us) w (fun e w'=>∃ v,e = .returned v∧∃ Z',uB w w' Z Z'∧dZ w' Z' (hd r) v):=by
  intro ps r h
  obtain ⟨h1,h2⟩:=hP f ps r h
  refine ⟨h1,fun w Z aJ us hz hl hr hu _=>?_⟩
  have : us = #[]:=Array.eq_empty_of_size_eq_zero hu.symm
  subst this
  rw [Array.append_empty]
  exact h2 w Z aJ hz hl hr
theorem zQ (kp : Bool) (kl : List Nat) (t : Nat) (e : Env) : (scrubKeptE kp kl e).get t=scrubKeptD kp kl (e.get t):=by
  unfold scrubKeptE scrubKeptD
  cases kp with
  | true=>exact oB kl t e
  | false=>rfl
theorem aCX (hP : sJ P O.C) (hS : zN P X.mode O.S) (hwf : ∀ g t,X.mode g=some t→t.wf=true) {f : Nat} {args : List DV} {ts : List Nat} {e : Env} {s : St} {k : DV→Env→St→Option R} {r : R} (h : callK X O f args ts e s k=some r) :
    eO P f∧∃ d' e' s' scr,k d' e' s'=some r∧(∀ t,e'.get t=scr (e.get t))∧((match X.mode f with | some t=>{ deepFoot s args (!t.lent) with last:=!t.lent&&t.keep} | none=>deepFoot s args false).last=false→scr=_root_.id)∧∀ (n : Nat) (m : aK) (B L WB WL : Nat→Prop),jG m s B L n→s'.nb≤n+16→s'.nl≤n+16→
      (∀ ft,ft=(match X.mode f with | some t=>{ deepFoot s args (!t.lent) with last:=!t.lent&&t.keep} | none=>deepFoot s args false)→ft.Cov B L WB WL∧(ft.ok=true∨∀ x,B x∧L x))→
      ∀ vs : Array Value,args.length=vs.size→(∀ (i : Nat) d v,args[i]? = some d→vs[i]? = some v→m.rd d v)→
        Calls P f vs m.w (fun e w'=>∃ v,e = .returned v∧∃ m',m'.w=w'∧bA m m' s s' B L WB WL n scr∧m'.rd d' v):=by
  unfold callK at h
  split at h
  · rename_i hmode
    unfold pureK at h
    obtain ⟨hcb,d',hk,H⟩:=aCT (caps:=[]) (k:=fun d s=>k d e s) (aAS hP) h
    refine ⟨hcb,d',e,s,_root_.id,hk,fun _=>rfl,fun _=>rfl,fun n m B L WB WL sit _ _ hft vs hl hr=>?_⟩
    obtain ⟨C,hok⟩:=hft _ rfl
    rw [hmode] at C hok
    have:=H n m B L WB WL sit (aBZ sit C hok) vs #[] hl hr rfl (fun i x v h=>by simp at h)
    rwa [Array.append_empty] at this
  · rename_i t hmode
    split at h
    · rename_i hlent
      obtain ⟨hcb,d',s',hk,H⟩:=lentK_sound hS hmode (hwf f t hmode) h
      refine ⟨hcb,d',e,s',_root_.id,hk,fun _=>rfl,fun _=>rfl,fun n m B L WB WL sit hnb hnl hft vs hl hr=>?_⟩
      obtain ⟨C,hok⟩:=hft _ rfl
      rw [hmode] at C hok
      simp only [hlent,Bool.not_true,Bool.false_and] at C hok
      exact H n m B L WB WL sit hnb hnl (aBZ sit C hok) vs hl hr
    · rename_i hlent
      have hlent : t.lent=false:=by simpa using hlent
      rw [sN] at h
      obtain ⟨ds',s1,h1,hlen,hms,HM⟩:=gC h
      obtain ⟨hcb,d',s',kl,hk,hs1,H⟩:=aCW hS hmode (hwf f t hmode) h1
      refine ⟨hcb,d',scrubKeptE t.keep kl e,s',scrubKeptD t.keep kl,hk,fun t'=>zQ t.keep kl t' e,fun hla=>?_,fun n m B L WB WL sit hnb hnl hft vs hl hr=>?_⟩
      · rw [hmode] at hla
        simp only [hlent,Bool.not_false,Bool.true_and] at hla
        unfold scrubKeptD
        rw [hla];rfl
      obtain ⟨C,hok⟩:=hft _ rfl
      rw [hmode] at C hok
      simp only [hlent,Bool.not_false,Bool.true_and] at C hok
      obtain ⟨m1,M1,hr1⟩:=HM n m sit.inv sit.nl (by omega) sit.fl vs.toList (fun i d u h1 h2=>hr i d u h1 (by simpa using h2))
      have G1:=M1.goes WB WL sit hms (by omega)
      have sit1:=G1.sit sit
      have hwb : (deepFoot s args true).wb=(deepFoot s args true).rb:=rfl
      have hwl : (deepFoot s args true).wl=(deepFoot s args true).rl:=rfl
      have:=H n m1 B L WB WL sit1 hnb hnl sit.nl (fun b hb=>⟨C.rb b hb,C.wb b (by show b∈(deepFoot s args true).wb;rw [hwb];exact hb)⟩) (fun l hl=>⟨C.rl l hl,C.wl l (by show l∈(deepFoot s args true).wl;rw [hwl];exact hl)⟩) (fun hkp x=>⟨⟨(C.all hkp x).1,(C.all hkp x).2.2.1⟩,⟨(C.all hkp x).2.1,(C.all hkp x).2.2.2⟩⟩) vs (by omega) (fun i d v h1 h2=>hr1 i d v h1 (by simpa using h2))
      rw [M1.w] at this
      refine this.mono ?_
      rintro e w' ⟨v,rfl,m',hw,G,hd⟩
      exact ⟨v,rfl,m',hw,G1.trans G,hd⟩
theorem aDZ (hP : sJ P O.C) (hS : zN P X.mode O.S) (hwf : ∀ g t,X.mode g=some t→t.wf=true) : tX P X O:=by
  intro d args ts e s k r h
  unfold applyK at h
  split at h
  · rename_i f caps
    obtain ⟨hcb,d',e',s',scr,hk,he,hid,H⟩:=aCX hP hS hwf h
    have hfeq : callFoot X (.fn f caps) args s=(match X.mode f with | some t=>{ deepFoot s (args++caps) (!t.lent) with last:=!t.lent&&t.keep} | none=>deepFoot s (args++caps) false):=by
      unfold callFoot
      simp only
      cases X.mode f<;>rfl
    refine ⟨d',e',s',scr,hk,he,fun hla=>hid (by rw [← hfeq];exact hla),fun n m B L WB WL sit hnb hnl C hok vf vs hvf hl hr=>?_⟩
    cases hvf with
    | fn _ _ us hul hur=>
      have e1 : (do let df ← Deferred.ofValue (.func (.func f) #[] us.toArray) vs;invoke df.target df.args : Sem Next).run P m.w = .ok (.enter f (vs++us.toArray)) m.w:=by
        simp [Deferred.ofValue,invoke,uA hcb]
      rw [e1]
      refine (H n m B L WB WL sit hnb hnl (fun ft hft=>?_) (vs++us.toArray) (by simp;omega) (fun i d v hd hv=>?_))
      · rw [hfeq,← hft] at C hok
        exact ⟨C,hok⟩
      · rw [Array.getElem?_append] at hv
        split at hv
        · rename_i hi
          rw [List.getElem?_append_left (by omega)] at hd
          exact hr i d v hd hv
        · rename_i hi
          rw [List.getElem?_append_right (by omega)] at hd
          refine hur (i - args.length) d v hd ?_
          rw [hl]
          simpa using hv
  · rename_i v
    cases v with
    | fn f caps=>
      obtain ⟨hcb,d',hk,H⟩:=aCT (P:=P) (f:=f) (C:=fun vs=>PV.apply O.C (.fn f caps) vs) (caps:=caps) (k:=fun d s=>k d e s) (fun ps r0 h0=>by
        have h0 : O.C f (ps++caps)=some r0:=h0
        obtain ⟨h1,h2⟩:=hP f _ _ h0
        refine ⟨h1,fun w Z aJ us hz hl hr hul hur=>h2 w Z (aJ++us) hz (by simp;omega) (fun i x v hx hv=>?_)⟩
        rw [Array.getElem?_append] at hv
        split at hv
        · rw [List.getElem?_append_left (by omega)] at hx
          exact hr i x v hx hv
        · rw [List.getElem?_append_right (by omega)] at hx
          exact hur (i - ps.length) x v hx (by rw [hl];exact hv)) h
      refine ⟨d',e,s,id,hk,fun _=>rfl,fun _=>rfl,fun n m B L WB WL sit hnb hnl C hok vf vs hvf hl hr=>?_⟩
      cases hvf with
      | p _ _ hvf=>cases hvf with
        | fn _ _ us hul hur=>
          have e1 : (do let df ← Deferred.ofValue (.func (.func f) #[] us.toArray) vs;invoke df.target df.args : Sem Next).run P m.w = .ok (.enter f (vs++us.toArray)) m.w:=by
            simp [Deferred.ofValue,invoke,uA hcb]
          rw [e1]
          exact H n m B L WB WL sit (aBZ (ds:=args) (wr:=false) sit C hok) vs us.toArray hl hr (by simpa using hul) (fun i x v hx hv=>hur i x v hx (by simpa using hv))
    | _=>
      exfalso
      split at h<;>
      · obtain ⟨ps,h1,_⟩:=mJ (s:=s) h
        obtain ⟨r0,hr0,_⟩:=aF h1
        simp [PV.apply] at hr0
  · cases h
end
structure Hyp (P : Program) (T : Tab) (H : Hints) : Prop where
  tab : T=tabOf P
  zero : gD P H.zok
  mixed : P.follows .mixedOrders=true
  code : ∀ (f : Nat) (fn : Func) (c : Code),P.funcs[f]? = some fn→fn.body=some c→codeOk fn.ntmps c=true∧fn.name≠ "runtime.NumGoroutine"
  prim : sJ P fun g args=>(H.prim g).bind fun p=>p args
  primS : ∀ g h,H.primS g=some h→∀ t args s l,H.mode g=some t→h args s=some l→eO P g∧∀ (m : aK) (aJ : Array Value),dN m s s.base→args.length=aJ.size→
    (∀ (i : Nat) d v,args[i]? = some d→aJ[i]? = some v→m.rd d v)→Calls P g aJ m.w (fun e w'=>∃ v,e = .returned v∧kI m s.boxes.length (if t.keep then s.lists.length else 0) (some t) l v w')
  glob : ∀ g,H.glob g=none
  wf : ∀ g t,H.mode g=some t→t.wf=true
section
variable {P : Program} {T : Tab} {H : Hints}
theorem zR : ∀ (ds : List DV) (n t : Nat),(argEnv n ds).get t=if n≤t then ds.getD (t - n) .dead else .dead
  | [],n,t=>by simp [argEnv,Env.get]
  | d::r,n,t=>by
    unfold argEnv
    simp only [Env.get]
    by_cases h : t=n
    · subst h;simp
    · have hb : Nat.beq t n=false:=by
        cases hb : Nat.beq t n with
        | false=>rfl
        | true=>exact absurd (aY hb) h
      rw [hb]
      simp only [Bool.false_eq_true,if_false]
      rw [zR]
      by_cases h2 : n≤t
      · rw [if_pos h2,if_pos (by omega),show t - n=t - (n+1)+1 by omega]
        simp [List.getD]
      · rw [if_neg h2,if_neg (by omega)]
theorem aCY {m : aK} {args : List DV} {vs : Array Value} {n : Nat} (hl : args.length=vs.size) (hr : ∀ (i : Nat) d v,args[i]? = some d→vs[i]? = some v→m.rd d v) :
    eD m (argEnv 0 args).get ⟨vs++Array.replicate n undef,[]⟩:=by
  intro t
  rw [zR,if_pos (Nat.zero_le _),Nat.sub_zero]
  by_cases h : t<args.length
  · have hd : args[t]? = some args[t]:=List.getElem?_eq_getElem h
    have hv : vs[t]? = some (vs[t]'(by omega)):=Array.getElem?_eq_getElem (by omega)
    have e1 : args.getD t .dead=args[t]:=by rw [List.getD,hd];rfl
    have e2 : Act.eval ⟨vs++Array.replicate n undef,[]⟩ (.tmp t)=vs[t]'(by omega):=by
      show (vs++Array.replicate n undef).getD t undef=_
      rw [Array.getD_eq_getD_getElem?,Array.getElem?_append_left (by omega),hv];rfl
    rw [e1,e2]
    exact hr t _ _ hd hv
  · have e1 : args.getD t .dead = .dead:=by rw [List.getD,List.getElem?_eq_none (by omega)];rfl
    rw [e1]
    exact .dead _
theorem rX {f : Nat} {fn : Func} {c : Code} (hfn : P.funcs[f]? = some fn) (hc : fn.body=some c) {nb nl : Nat} {out : Option Tmpl} {args : List DV} {s : St} {r : R} (hg : aGr P f nb nl out [.code c] (argEnv 0 args) s r)
    {m : aK} {vs : Array Value} (hf : dN m s s.base) (hl : args.length=vs.size) (hr : ∀ (i : Nat) d v,args[i]? = some d→vs[i]? = some v→m.rd d v) :
    Calls P f vs m.w (fun e w'=>∃ v,e = .returned v∧kI m nb nl out r v w'):=by
  intro cs
  let b : Frame:={ (default : Frame) with fn:=f,kind:=.normal}
  have henter : Frame.enter P f vs .normal=b.at ⟨vs++Array.replicate (fn.ntmps - vs.size) undef,[]⟩ [.code c]:=by
    simp [Frame.enter,Frame.at,hfn,hc,b]
  obtain ⟨v,w',fr,h1,h2,h3,h4⟩:=hg m ⟨vs++Array.replicate (fn.ntmps - vs.size) undef,[]⟩ fn hfn hf (aCY hl hr) (by simp;omega) rfl b cs rfl rfl
  rw [← henter] at h2
  exact ⟨.returned v,w',fr,⟨v,rfl,h1⟩,h2,h3,h4⟩
theorem sO {f : Nat} {n nb nl : Nat} {out : Option Tmpl} {e : Env} {s : St} {r : R} (h : runN P T H n f nb nl out (startOf P f) e s=some r) : ∃ fn c,P.funcs[f]? = some fn∧fn.body=some c∧startOf P f = [.code c]:=by
  cases hb : bodyOf P f with
  | none=>
    exfalso
    cases n with
    | zero=>simp [runN] at h
    | succ n=>
      unfold runN at h
      have hs : startOf P f = [.code (.refuse "")]:=by unfold startOf;rw [hb]
      rw [hs] at h
      unfold evalFuel eval at h
      simp at h
  | some c=>
    have hs : startOf P f = [.code c]:=by unfold startOf;rw [hb]
    unfold bodyOf at hb
    cases hf : P.funcs[f]? with
    | none=>rw [hf] at hb;cases hb
    | some fn=>rw [hf] at hb;exact ⟨fn,c,rfl,hb,hs⟩
theorem aGS (hy : Hyp P T H) {g : Nat} {fn : Func} {c : Code} (hg : P.funcs[g]? = some fn) (hc : fn.body=some c) : hJ fn.ntmps [.code c]:=fun x hx=>by
  simp at hx;subst hx;exact (hy.code _ _ _ hg hc).1
def aEC (P : Program) (run : Nat→Nat→Nat→Option Tmpl→List Item→Env→St→Option R) : Prop:=∀ (f nb nl : Nat) (out : Option Tmpl) (todo : List Item) (e : Env) (s : St) (r : R) (fn : Func),run f nb nl out todo e s=some r→P.funcs[f]? = some fn→hJ fn.ntmps todo→aGr P f nb nl out todo e s r
def aFK (P : Program) (run : Nat→Nat→Nat→Option Tmpl→List Item→Env→St→Option R) : Prop:=∀ {f nb nl : Nat} {out : Option Tmpl} {e : Env} {s : St} {r : R},run f nb nl out (startOf P f) e s=some r→∃ fn c,P.funcs[f]? = some fn∧fn.body=some c∧startOf P f = [.code c]
variable {run : Nat → Nat → Nat → Option Tmpl → List Item → Env → St → Option R}
theorem aCZ (hy : Hyp P T H) (hrun : aEC P run) (hst : aFK P run) (f nb nl : Nat) (out : Option Tmpl) : sJ P (orcOf P H run f nb nl out).C:=by
  intro g args r h
  have h : (match H.prim g with | some h=>h args | none=>run g 0 0 none (startOf P g) (argEnv 0 (args.map .p)) ⟨[],[],0,0,0⟩)=some r:=h
  cases hpr : H.prim g with
  | some p=>
    rw [hpr] at h
    exact hy.prim g args r (by simp only [hpr,Option.bind_some];exact h)
  | none=>
  rw [hpr] at h
  simp only at h
  obtain ⟨fg,c,hfg,hc,hst'⟩:=hst h
  rw [hst'] at h
  have good:=hrun g 0 0 none _ _ _ r fg h hfg (aGS hy hfg hc)
  refine ⟨⟨fg,c,hfg,hc,(hy.code _ _ _ hfg hc).2⟩,fun w Z aJ hz hl hr=>?_⟩
  let m0 : aK:={ w:=w,Z:=Z,s:={ box:=fun _=>none,list:=fun _=>none},L:=fun _=>False,
                 ρ:={ box:=fun _=>0,hdr:=fun _=>.nilFunc,fp:=fun _ _=>False,ty:=fun _=>.leaf,ub:=fun _=>False,ul:=fun _=>False}}
  have full0 : dN m0 ⟨[],[],0,0,0⟩ 0:={
    inv:={
      ub:=fun _ _ h=>by cases h
      ul:=fun _ _ h=>by cases h
      zlt:=hz
      box:=fun _ _ h=>by cases h
      row:=fun _ _ h=>by cases h
      bz:=fun _ _ h=>by cases h
      bb:=fun _ _ _ _ h=>by cases h
      bl:=fun _ _ _ _ h=>by cases h
      ll:=fun _ _ _ _ _ h=>by cases h
      Lz:=fun _ h=>h.elim
      Lb:=fun _ _ _ h=>h
      Ll:=fun _ _ _ _ _ h=>h}
    box:=fun _=>rfl
    list:=fun _=>rfl
    ub:=fun _ h=>h.elim
    ul:=fun _ h=>h.elim}
  have own0 : ∀ r,¬ m0.owned r:=by
    rintro r (⟨_,_,h,_⟩ | ⟨_,_,h,_⟩ | h)
    · cases h
    · cases h
    · exact h
  refine (rX hfg hc good (m:=m0) (vs:=aJ) full0 (by simpa using hl) (fun i d v hd hv=>?_)).mono ?_
  · rw [List.getElem?_map] at hd
    cases hp : args[i]? with
    | none=>rw [hp] at hd;cases hd
    | some p=>rw [hp] at hd;cases hd;exact .p _ _ (hr i p v hp hv)
  · rintro e w' ⟨v,rfl,m',rfl,inv',fw,pv,rfl,hrep⟩
    refine ⟨v,rfl,fun x=>m'.Z x∨m'.owned x,⟨fw.size,fw.os,fw.tape,fw.output,fun r hr=>fw.keep r hr (own0 r),fun r hr=>.inl (fw.zz r hr),fun r hr=>?_⟩,hrep⟩
    rcases hr with hr | hr
    · rcases fw.z r hr with h | h | h
      · exact .inl h
      · exact (own0 r h).elim
      · exact .inr ⟨h,inv'.zlt r hr⟩
    · exact .inr ⟨(fw.own r hr).resolve_left (own0 r),inv'.owned_lt hr⟩
theorem aFL (hy : Hyp P T H) (hrun : aEC P run) (hst : aFK P run) (f nb nl : Nat) (out : Option Tmpl) : zN P H.mode (orcOf P H run f nb nl out).S:=by
  intro g t args s l hmode h
  have h : (match H.mode g with | some t=>(match H.primS g with | some h=>h args s | none=>run g s.boxes.length (if t.keep then s.lists.length else 0) (some t) (startOf P g) (argEnv 0 args) s) | none=>none)=some l:=h
  rw [hmode] at h
  simp only at h
  cases hps : H.primS g with
  | some p=>
    rw [hps] at h
    exact hy.primS g p hps t args s l hmode h
  | none=>
  rw [hps] at h
  simp only at h
  obtain ⟨fg,c,hfg,hc,hst'⟩:=hst h
  rw [hst'] at h
  have good:=hrun g s.boxes.length (if t.keep then s.lists.length else 0) (some t) _ _ _ l fg h hfg (aGS hy hfg hc)
  exact ⟨⟨fg,c,hfg,hc,(hy.code _ _ _ hfg hc).2⟩,fun m aJ hf hl hr=>rX hfg hc good hf hl hr⟩
theorem aBq (hy : Hyp P T H) : ∀ (n : Nat),aEC P (runN P T H n)
  | 0,_,_,_,_,_,_,_,_,_,h,_,_=>by simp [runN] at h
  | n+1,f,nb,nl,out,todo,e,s,r,fn,h,hfn,hok=>by
    unfold runN at h
    have ih:=aBq hy n
    have hP:=aCZ hy ih sO f nb nl out
    have hS:=aFL hy ih sO f nb nl out
    refine zI (X:=cxOf P T H f nb nl out) (O:=orcOf P H (runN P T H n) f nb nl out) hy.tab hy.zero hy.glob (aDZ hP hS hy.wf) hy.mixed hfn ?_ (fun todo e s r h hk=>ih f nb nl out todo e s r fn h hfn hk) evalFuel true todo e s r h hok
    show ((P.funcs[f]?).map (·.results.toList)).getD []=_
    rw [hfn];rfl
end
end Go.Proofs.YtjgleeamiclokaaDoor
namespace Go.Proofs.YtjgleeamiclokaaDoor
open Go
def aD {β : Type} (a : Option β) (b : Nat→Option β) : Prop:=∀ r,a=some r→∃ N,∀ n,N≤n→b n=some r
section
variable {α β : Type}
theorem aD.none {b : Nat→Option β} : aD (Option.none : Option β) b:=fun r h=>by cases h
theorem aD.rfl (a : Option β) : aD a (fun _=>a):=fun r h=>⟨0,fun _ _=>h⟩
theorem aD.bd {o : Option α} {k : α→Option β} {k' : Nat→α→Option β} (h : ∀ a,aD (k a) (fun n=>k' n a)) : aD (bd o k) (fun n=>bd o (k' n)):=by
  cases o with
  | none=>exact aD.none
  | some a=>exact h a
theorem aD.bd2 {o : Option α} {o' : Nat→Option α} {k : α→Option β} {k' : Nat→α→Option β} (ho : aD o o') (h : ∀ a,aD (k a) (fun n=>k' n a)) : aD (Go.Proofs.YtjgleeamiclokaaDoor.bd o k) (fun n=>Go.Proofs.YtjgleeamiclokaaDoor.bd (o' n) (k' n)):=by
  intro r hr
  obtain ⟨a,ha,hk⟩:=aF hr
  obtain ⟨N,hN⟩:=ho a ha
  obtain ⟨M,hM⟩:=h a r hk
  refine ⟨max N M,fun n hn=>?_⟩
  show Go.Proofs.YtjgleeamiclokaaDoor.bd (o' n) (k' n)=some r
  rw [hN n (by omega)]
  exact hM n (by omega)
theorem aD.pvite {c : PV} {a b : Option β} {a' b' : Nat→Option β} (ha : aD a a') (hb : aD b b') : aD (PV.ite c a b) (fun n=>PV.ite c (a' n) (b' n)):=by
  intro r hr
  rcases nK hr with ⟨rfl,h⟩ | ⟨rfl,h⟩
  · obtain ⟨N,hN⟩:=ha r h
    exact ⟨N,fun n hn=>hN n hn⟩
  · obtain ⟨N,hN⟩:=hb r h
    exact ⟨N,fun n hn=>hN n hn⟩
theorem aD.nilT {c : PV} {a b : Option β} {a' b' : Nat→Option β} (ha : aD a a') (hb : aD b b') : aD (PV.nilT c a b) (fun n=>PV.nilT c (a' n) (b' n)):=by
  intro r hr
  obtain ⟨h1,h2⟩:=aBn hr
  obtain ⟨M,hM⟩:=hb r h2
  cases c with
  | lst xs=>
    cases xs with
    | nil=>
      obtain ⟨N,hN⟩:=ha r (h1 (Eq.refl _))
      refine ⟨max N M,fun n hn=>?_⟩
      show @_root_.ite _ (a' n=b' n) (Classical.propDecidable _) (a' n) Option.none=some r
      rw [hN n (by omega),hM n (by omega),if_pos (Eq.refl _)]
    | cons x xs=>exact ⟨M,fun n hn=>hM n hn⟩
  | _=>cases hr
theorem aD.ite {c : Prop} [Decidable c] {a b : Option β} {a' b' : Nat→Option β} (ha : aD a a') (hb : aD b b') : aD (if c then a else b) (fun n=>if c then a' n else b' n):=by
  by_cases h : c
  · simp only [h,if_true];exact ha
  · simp only [h,if_false];exact hb
theorem aD.flat {r : PV} {a : Option β} {a' : Nat→Option β} (ha : aD a a') : aD (PV.guardFlat r a) (fun n=>PV.guardFlat r (a' n)):=by
  unfold PV.guardFlat;exact aD.ite ha aD.none
theorem aD.own {o : OTy} {r : PV} {a : Option β} {a' : Nat→Option β} (ha : aD a a') : aD (PV.guardOwn o r a) (fun n=>PV.guardOwn o r (a' n)):=by
  unfold PV.guardOwn;exact aD.ite ha aD.none
end
section
variable {X : Cx}
theorem uE {v : PV} : ∀ {m : Nat} {k : List PV→Option R} {k' : Nat→List PV→Option R},(∀ l,aD (k l) (fun n=>k' n l))→aD (cellsK.go v m k) (fun n=>cellsK.go v m (k' n))
  | 0,_,_,h=>h []
  | _+1,_,_,h=>by
    unfold cellsK.go
    exact uE fun l=>aD.bd fun c=>h _
theorem iT {m : Nat} {d : DV} {k : List DV→Option R} {k' : Nat→List DV→Option R} (h : ∀ l,aD (k l) (fun n=>k' n l)) : aD (cellsK m d k) (fun n=>cellsK m d (k' n)):=by
  cases d<;>simp only [cellsK]<;>first
    | exact aD.none
    | exact aD.ite (h _) aD.none
    | exact aD.bd fun v=>uE fun l=>h _
theorem fW : ∀ {path : dE} {o : OTy} {c : PV} {k : OTy→PV→Option R} {k' : Nat→OTy→PV→Option R},(∀ o c,aD (k o c) (fun n=>k' n o c))→aD (getK o c path k) (fun n=>getK o c path (k' n))
  | [],_,_,_,_,h=>h _ _
  | (i,j)::r,o,c,k,k',h=>by
    unfold getK
    exact aD.bd fun x=>aD.ite (aD.bd fun y=>fW h) (aD.ite (fW h) aD.none)
theorem nO : ∀ {path : dE} {o : OTy} {c y : PV} {k : PV→Option R} {k' : Nat→PV→Option R},(∀ c,aD (k c) (fun n=>k' n c))→aD (setK o c path y k) (fun n=>setK o c path y (k' n))
  | [],_,_,_,_,_,h=>h _
  | (i,j)::r,o,c,y,k,k',h=>by
    unfold setK
    exact aD.bd fun x=>aD.ite (aD.bd fun z=>nO fun z'=>aD.bd h) (aD.ite (nO fun z'=>aD.bd h) aD.none)
theorem lE {s : St} {d : DV} {k : OTy→PV→Option R} {k' : Nat→OTy→PV→Option R} (h : ∀ o c,aD (k o c) (fun n=>k' n o c)) : aD (rowK s d k) (fun n=>rowK s d (k' n)):=by
  cases d<;>simp only [rowK]<;>try exact aD.none
  · rename_i l path
    cases s.list l with
    | none=>exact aD.none
    | some w=>exact fW h
  · rename_i l path lo hi
    cases s.list l with
    | none=>exact aD.none
    | some w=>exact fW fun o c=>aD.bd fun c=>h _ _
theorem vL {α β : Type} {f : α→(β→Option R)→Option R} (hf : ∀ a k (k' : Nat→β→Option R),(∀ b,aD (k b) (fun n=>k' n b))→aD (f a k) (fun n=>f a (k' n))) :
    ∀ {l : List α} {k : List β→Option R} {k' : Nat→List β→Option R},(∀ b,aD (k b) (fun n=>k' n b))→aD (mapK f l k) (fun n=>mapK f l (k' n))
  | [],_,_,h=>h _
  | d::r,k,k',h=>by
    unfold mapK
    exact hf _ _ _ fun v=>vL hf fun vs=>h _
theorem sP {s : St} : ∀ {m : Nat} {d : DV} {k : PV→Option R} {k' : Nat→PV→Option R},(∀ v,aD (k v) (fun n=>k' n v))→aD (snapK s m d k) (fun n=>snapK s m d (k' n))
  | 0,_,_,_,_=>by simp only [snapK];exact aD.none
  | m+1,d,k,k',h=>by
    have mp:=fun {ds : List DV} {k : List PV→Option R} {k' : Nat→List PV→Option R} (h : ∀ v,aD (k v) (fun n=>k' n v))=>vL (f:=snapK s m) (fun a k k' h=>sP h) (l:=ds) h
    cases d<;>simp only [snapK]<;>first
      | exact aD.none
      | exact h _
      | exact mp fun vs=>h _
      | exact lE fun _ c=>h _
      | skip
    rename_i b off
    cases off with
    | zero=>
      cases s.box b with
      | none=>exact aD.none
      | some cs=>exact mp fun vs=>h _
    | succ n=>exact aD.none
theorem lL {s : St} {m : Nat} {ds : List DV} {k : List PV→Option R} {k' : Nat→List PV→Option R} (h : ∀ v,aD (k v) (fun n=>k' n v)) : aD (snapL s m ds k) (fun n=>snapL s m ds (k' n)):=by
  unfold snapL
  exact vL (f:=snapK s m) (fun a k k' h=>sP h) h
theorem aD0 {s : St} {d : DV} {k : PV→St→Option R} {k' : Nat→PV→St→Option R} (h : ∀ v s,aD (k v s) (fun n=>k' n v s)) : aD (sinkK s d k) (fun n=>sinkK s d (k' n)):=by
  unfold sinkK
  cases bsOf deep d with
  | nil=>exact sP fun v=>h _ _
  | cons=>exact aD.none
theorem mK {ct : OTy} {s : St} {d : DV} {k : PV→St→Option R} {k' : Nat→PV→St→Option R} (h : ∀ v s,aD (k v s) (fun n=>k' n v s)) : aD (sinkAs ct s d k) (fun n=>sinkAs ct s d (k' n)):=by
  cases ct with
  | leaf=>exact aD0 h
  | own a b c e=>
    cases d<;>simp only [sinkAs]<;>first
      | exact aD.none
      | exact h _ _
      | skip
    · rename_i l path
      cases path with
      | nil=>
        dsimp only
        cases s.list l with
        | none=>exact aD.none
        | some w=>exact aD.ite (h _ _) aD.none
      | cons=>exact aD.none
    · rename_i l path lo hi
      cases path with
      | nil=>
        dsimp only
        cases s.list l with
        | none=>exact aD.none
        | some w=>exact aD.ite (aD.bd fun c=>h _ _) aD.none
      | cons=>exact aD.none
theorem lM {o : OTy} : ∀ {ds : List DV} {s : St} {j : Nat} {k : List PV→St→Option R} {k' : Nat→List PV→St→Option R},(∀ v s,aD (k v s) (fun n=>k' n v s))→aD (sinkCells o s j ds k) (fun n=>sinkCells o s j ds (k' n))
  | [],_,_,_,_,h=>h _ _
  | d::r,s,j,k,k',h=>by
    unfold sinkCells
    exact mK fun v s=>lM fun vs s=>h _ _
theorem zS {o : OTy} {s : St} {d : DV} {k : PV→St→Option R} {k' : Nat→PV→St→Option R} (h : ∀ v s,aD (k v s) (fun n=>k' n v s)) : aD (elemK o s d k) (fun n=>elemK o s d (k' n)):=by
  unfold elemK
  cases o.g with
  | true=>
    cases d<;>simp only [if_true]<;>first
      | exact aD.none
      | exact aD.ite (h _ _) aD.none
      | exact aD.ite (lM fun vs s=>h _ _) aD.none
  | false=>
    cases d<;>simp only [Bool.false_eq_true,if_false]<;>first
      | exact aD.none
      | exact mK h
theorem fX : ∀ {ds : List DV} {ts : List (Option Nat)} {s : St} {k : List DV→St→Option R} {k' : Nat→List DV→St→Option R},(∀ v s,aD (k v s) (fun n=>k' n v s))→aD (ownCells X ds ts s k) (fun n=>ownCells X ds ts s (k' n))
  | [],ts,s,k,k',h=>by cases ts<;>exact h _ _
  | d::ds,[],s,k,k',h=>h _ _
  | d::ds,t::ts,s,k,k',h=>by
    unfold ownCells
    cases d<;>cases t<;>exact fX fun vs s=>h _ _
theorem qB {l : Nat} {path : dE} {i : PV} {o : OTy} {x : PV} : ∀ {m off : Nat} {k : List DV→Option R} {k' : Nat→List DV→Option R},(∀ v,aD (k v) (fun n=>k' n v))→aD (cellsE l path i o x m off k) (fun n=>cellsE l path i o x m off (k' n))
  | 0,_,_,_,h=>h _
  | m+1,off,k,k',h=>by
    unfold cellsE
    exact aD.ite (aD.bd fun y=>qB fun ds=>h _) (qB fun ds=>h _)
theorem zT {x : PV} {s : Nat} {g : Bool} {off : Nat} {r : TyR} {k : DV→Option R} {k' : Nat→DV→Option R} (h : ∀ v,aD (k v) (fun n=>k' n v)) : aD (partK x s g off r k) (fun n=>partK x s g off r (k' n)):=by
  unfold partK
  exact aD.ite (aD.ite (h _) (aD.bd fun y=>h _)) (aD.ite (aD.bd fun y=>h _) (aD.ite (h _) aD.none))
theorem xA {c : PV} : ∀ {m off : Nat} {k : List PV→Option R} {k' : Nat→List PV→Option R},(∀ v,aD (k v) (fun n=>k' n v))→aD (loadK.cellsB c m off k) (fun n=>loadK.cellsB c m off (k' n))
  | 0,_,_,_,h=>h _
  | m+1,off,k,k',h=>by
    unfold loadK.cellsB
    exact aD.bd fun v=>xA fun l=>h _
theorem aD1 {t : Nat} {a : DV} {s : St} {k : DV→Option R} {k' : Nat→DV→Option R} (h : ∀ v,aD (k v) (fun n=>k' n v)) : aD (loadK X t a s k) (fun n=>loadK X t a s (k' n)):=by
  unfold loadK
  refine aD.ite aD.none ?_
  cases a<;>(try simp only)<;>first
    | exact aD.none
    | exact aD.ite (xA fun l=>h _) (aD.bd fun y=>h _)
    | exact zT h
    | skip
  · rename_i b off
    cases s.box b with
    | none=>exact aD.none
    | some cs=>
      refine aD.ite (aD.ite (h _) aD.none) ?_
      cases cs[off]? with
      | none=>exact aD.none
      | some d=>exact h _
  · rename_i l path i off
    cases s.list l with
    | none=>exact aD.none
    | some w=>
      exact fW fun o c=>aD.bd fun x=>aD.ite (zT h) (aD.ite (aD.ite (qB fun ds=>h _) aD.none)
        (aD.ite (aD.ite (aD.bd fun y=>h _) (aD.ite (h _) aD.none)) (aD.ite (h _) aD.none)))
theorem rB {d : DV} {k : DV→Option R} {k' : Nat→DV→Option R} (h : ∀ v,aD (k v) (fun n=>k' n v)) : aD (oneK d k) (fun n=>oneK d (k' n)):=by
  cases d<;>simp only [oneK]<;>first
    | exact aD.none
    | exact h _
    | exact aD.bd fun x=>h _
theorem aC0 {t b off : Nat} {v : DV} {s : St} {k : St→Option R} {k' : Nat→St→Option R} (h : ∀ v,aD (k v) (fun n=>k' n v)) : aD (storeB X t b off v s k) (fun n=>storeB X t b off v s (k' n)):=by
  unfold storeB
  simp only
  cases s.box b with
  | none=>exact aD.none
  | some cs=>
    refine aD.ite (aD.ite (iT fun vs=>fX fun vs s=>h _) (aD.ite (rB fun v=>?_) aD.none)) aD.none
    cases v<;>(try simp only)<;>first
      | exact h _
      | skip
    · cases elemOf X t with
      | none=>exact aD.none
      | some u=>exact h _
    · rename_i l path lo hi
      cases path with
      | cons=>exact h _
      | nil=>
        cases cs[off]? with
        | none=>exact h _
        | some d=>
          cases d<;>(try simp only)<;>first
            | exact h _
            | skip
          rename_i l' path'
          cases path' with
          | cons=>exact h _
          | nil=>
            refine aD.ite ?_ (h _)
            cases s.list l with
            | none=>exact aD.none
            | some w=>exact aD.bd fun c=>h _
theorem xB {m : Nat} {c i : PV} : ∀ {ys : List PV} {c : PV} {off : Nat} {k : PV→Option R} {k' : Nat→PV→Option R},(∀ v,aD (k v) (fun n=>k' n v))→aD (storeK.setAll m c i off ys k) (fun n=>storeK.setAll m c i off ys (k' n))
  | [],_,_,_,_,h=>h _
  | y::ys,c,off,k,k',h=>by
    unfold storeK.setAll
    exact aD.bd fun c=>xB (c:=c) h
theorem aC1 {e : Env} {l : Nat} {path : dE} {w : Own} {c : PV} {s : St} {k : Env→St→Option R} {k' : Nat→Env→St→Option R} (h : ∀ e s,aD (k e s) (fun n=>k' n e s)) : aD (storeK.fin e k l path w c s) (fun n=>storeK.fin e (k' n) l path w c s):=by
  unfold storeK.fin
  refine nO fun c'=>?_
  unfold touchK
  exact aD.ite (h _ _) (h _ _)
theorem zU {e : Env} {o : OTy} {ds : List DV} {off l : Nat} {path : dE} {i : PV} {s : St} {k : Env→St→Option R} {k' : Nat→Env→St→Option R} (h : ∀ e s,aD (k e s) (fun n=>k' n e s)) : aD (storeK.setIn e k o ds off l path i s) (fun n=>storeK.setIn e (k' n) o ds off l path i s):=by
  unfold storeK.setIn
  refine lM fun ys s=>?_
  cases s.list l with
  | none=>exact aD.none
  | some w=>exact fW fun o c=>xB (c:=c) fun c=>aC1 h
theorem xC {t : Nat} {a v : DV} {e : Env} {s : St} {k : Env→St→Option R} {k' : Nat→Env→St→Option R} (h : ∀ e s,aD (k e s) (fun n=>k' n e s)) : aD (storeK X t a v e s k) (fun n=>storeK X t a v e s (k' n)):=by
  unfold storeK
  refine aD.ite aD.none ?_
  cases a<;>(try simp only)<;>first
    | exact aD.none
    | exact aC0 fun s=>h _ _
    | skip
  rename_i l path i off
  cases s.list l with
  | none=>exact aD.none
  | some w=>
    refine fW fun o c=>aD.ite (zS fun x s=>?_) (aD.ite (iT fun ds=>zU h) (aD.ite (rB fun v=>zU h) aD.none))
    cases s.list l with
    | none=>exact aD.none
    | some w=>exact fW fun o c=>aD.bd fun c=>aC1 h
theorem qC {fs : List (Nat × Nat)} : ∀ {ps : List (Nat × DV)} {cs : List DV} {k : List DV→Option R} {k' : Nat→List DV→Option R},(∀ v,aD (k v) (fun n=>k' n v))→aD (buildK X fs ps cs k) (fun n=>buildK X fs ps cs (k' n))
  | [],_,_,_,h=>h _
  | (i,v)::r,cs,k,k',h=>by
    unfold buildK
    cases fs[i]? with
    | none=>exact aD.none
    | some p=>exact aD.ite (aD.ite (iT fun vs=>qC h) (aD.ite (rB fun v=>qC h) aD.none)) aD.none
theorem xD {o : OTy} : ∀ {ds : List DV} {s : St} {k : List PV→St→Option R} {k' : Nat→List PV→St→Option R},(∀ v s,aD (k v s) (fun n=>k' n v s))→aD (elemsK o s ds k) (fun n=>elemsK o s ds (k' n))
  | [],_,_,_,h=>h _ _
  | d::r,s,k,k',h=>by
    unfold elemsK
    exact zS fun v s=>xD fun vs s=>h _ _
theorem oJ {dst : Option Nat} {t : Nat} {d : DV} {e : Env} {s : St} {k : DV→St→Option R} {k' : Nat→DV→St→Option R} (h : ∀ v s,aD (k v s) (fun n=>k' n v s)) : aD (moveK X dst t d e s k) (fun n=>moveK X dst t d e s (k' n)):=by
  cases d<;>simp only [moveK]<;>first
    | exact aD.none
    | exact h _ _
    | skip
  · cases elemOf X t with
    | none=>exact h _ _
    | some u=>exact h _ _
  · rename_i l path lo hi
    cases path with
    | cons=>exact h _ _
    | nil=>
      cases dst with
      | none=>exact h _ _
      | some t=>
        dsimp only
        generalize e.get t=d0
        cases d0<;>(try simp only)<;>first
          | exact h _ _
          | skip
        rename_i l' path'
        cases path' with
        | cons=>exact h _ _
        | nil=>
          refine aD.ite ?_ (h _ _)
          cases s.list l with
          | none=>exact aD.none
          | some w=>exact aD.bd fun c=>h _ _
theorem aD2 {c a b : DV} {e : Env} {s : St} {k : DV→St→Option R} {k' : Nat→DV→St→Option R} (h : ∀ v s,aD (k v s) (fun n=>k' n v s)) : aD (pickK X c a b e s k) (fun n=>pickK X c a b e s (k' n)):=by
  cases c<;>simp only [pickK]<;>first
    | exact aD.none
    | exact aD.pvite (oJ h) (oJ h)
theorem aC2 {t : Nat} {s : St} {k : DV→St→Option R} {k' : Nat→DV→St→Option R} (h : ∀ v s,aD (k v s) (fun n=>k' n v s)) : aD (allocK X t s k) (fun n=>allocK X t s (k' n)):=by
  unfold allocK
  exact aD.ite (fX fun cs s=>h _ _) aD.none
theorem aFc {t : Nat} {x : DV} {s : St} {k : DV→St→Option R} {k' : Nat→DV→St→Option R} (h : ∀ v s,aD (k v s) (fun n=>k' n v s)) : aD (boxK X t x s k) (fun n=>boxK X t x s (k' n)):=by
  unfold boxK
  exact aD.ite (iT fun cs=>fX fun cs s=>h _ _) (rB fun d=>fX fun cs s=>h _ _)
theorem aB2 {t : Nat} {ps : List (Nat × DV)} {k : DV→Option R} {k' : Nat→DV→Option R} (h : ∀ v,aD (k v) (fun n=>k' n v)) : aD (buildTK X t ps k) (fun n=>buildTK X t ps (k' n)):=by
  unfold buildTK
  cases (X.T.at t).d<;>(try simp only)<;>first
    | exact aD.none
    | exact aD.ite (qC fun cs=>h _) aD.none
theorem vM {t m : Nat} {ps : List (Nat × DV)} {s : St} {k : DV→St→Option R} {k' : Nat→DV→St→Option R} (h : ∀ v s,aD (k v s) (fun n=>k' n v s)) : aD (buildSliceK X t m ps s k) (fun n=>buildSliceK X t m ps s (k' n)):=by
  unfold buildSliceK
  cases elemOf X t with
  | none=>exact aD.none
  | some u=>exact aD.ite (xD fun vs s=>aD.bd fun c=>h _ _) aD.none
theorem xS {t : Nat} {l c : DV} {s : St} {k : DV→St→Option R} {k' : Nat→DV→St→Option R} (h : ∀ v s,aD (k v s) (fun n=>k' n v s)) : aD (makeSliceK X t l c s k) (fun n=>makeSliceK X t l c s (k' n)):=by
  unfold makeSliceK
  cases elemOf X t with
  | none=>exact aD.none
  | some u=>
    cases l<;>cases c<;>(try simp only)<;>first
      | exact aD.none
      | exact aD.ite (aD.bd fun _=>aD.bd fun y=>aD.pvite (aD.bd fun c=>h _ _) aD.none) aD.none
theorem zV {x : DV} {s : St} {k : DV→Option R} {k' : Nat→DV→Option R} (h : ∀ v,aD (k v) (fun n=>k' n v)) : aD (nilCheckK x s k) (fun n=>nilCheckK x s (k' n)):=by
  cases x<;>simp only [nilCheckK]<;>first
    | exact aD.none
    | exact h _
    | exact aD.bd fun v=>h _
    | skip
  rename_i l path i off
  cases s.list l with
  | none=>exact aD.none
  | some w=>exact h _
theorem aD3 {op : UnOp} {x : DV} {k : DV→Option R} {k' : Nat→DV→Option R} (h : ∀ v,aD (k v) (fun n=>k' n v)) : aD (unOpK op x k) (fun n=>unOpK op x (k' n)):=by
  cases op<;>cases x<;>simp only [unOpK]<;>first
    | exact aD.none
    | exact aD.bd fun v=>h _
theorem aC3 {t : Nat} {x i : DV} {k : DV→Option R} {k' : Nat→DV→Option R} (h : ∀ v,aD (k v) (fun n=>k' n v)) : aD (indexK X t x i k) (fun n=>indexK X t x i (k' n)):=by
  unfold indexK
  cases (X.T.at t).d<;>cases x<;>cases i<;>(try simp only)<;>first
    | exact aD.none
    | exact aD.bd fun v=>h _
    | skip
  refine aD.ite ?_ aD.none
  split
  · exact aD.bd fun v=>h _
  · exact aD.none
theorem zW {d : DV} {k : DV→Option R} {k' : Nat→DV→Option R} (h : ∀ v,aD (k v) (fun n=>k' n v)) : aD (soK d k) (fun n=>soK d (k' n)):=by
  cases d<;>simp only [soK]<;>first
    | exact aD.bd fun v=>h _
    | exact h _
theorem aAT {x : DV} {i : Nat} {k : DV→Option R} {k' : Nat→DV→Option R} (h : ∀ v,aD (k v) (fun n=>k' n v)) : aD (extractK x i k) (fun n=>extractK x i (k' n)):=by
  cases x<;>simp only [extractK]<;>first
    | exact aD.none
    | exact aD.bd fun v=>h _
    | skip
  rename_i cs
  cases cs[i]? with
  | none=>exact aD.none
  | some d=>exact h _
theorem aC4 {t f : Nat} {x : DV} {k : DV→Option R} {k' : Nat→DV→Option R} (h : ∀ v,aD (k v) (fun n=>k' n v)) : aD (fieldK X t x f k) (fun n=>fieldK X t x f (k' n)):=by
  unfold fieldK
  cases (X.T.at t).d<;>(try simp only)<;>first
    | exact aD.none
    | skip
  rename_i fs
  cases fs[f]? with
  | none=>exact aD.none
  | some p=>
    refine aD.ite aD.none ?_
    cases x<;>(try simp only)<;>first
      | exact aD.none
      | exact aD.ite (aD.bd fun y=>h _) (aD.bd fun y=>h _)
      | skip
    rename_i cs
    refine aD.ite (aD.ite (h _) aD.none) ?_
    cases cs[p.1]? with
    | none=>exact aD.none
    | some d=>exact h _
theorem xT {t f : Nat} {x : DV} {s : St} {k : DV→Option R} {k' : Nat→DV→Option R} (h : ∀ v,aD (k v) (fun n=>k' n v)) : aD (fieldAddrK X t x f s k) (fun n=>fieldAddrK X t x f s (k' n)):=by
  unfold fieldAddrK
  cases (X.T.at t).d<;>(try simp only)<;>first
    | exact aD.none
    | skip
  rename_i fs
  cases fs[f]? with
  | none=>exact aD.none
  | some p=>
    refine aD.ite aD.none ?_
    cases x<;>(try simp only)<;>first
      | exact aD.none
      | exact h _
      | exact aD.bd fun y=>h _
      | skip
    rename_i l path i off
    cases s.list l with
    | none=>exact aD.none
    | some w=>exact h _
theorem xU {t : Nat} {x i : DV} {s : St} {k : DV→Option R} {k' : Nat→DV→Option R} (h : ∀ v,aD (k v) (fun n=>k' n v)) : aD (indexAddrK X t x i s k) (fun n=>indexAddrK X t x i s (k' n)):=by
  unfold indexAddrK
  cases (X.T.at t).d<;>cases i<;>(try simp only)<;>first
    | exact aD.none
    | skip
  · refine aD.ite aD.none ?_
    cases x<;>(try simp only)<;>first
      | exact aD.none
      | exact aD.bd fun y=>h _
      | exact lE fun o c=>aD.ite (aD.bd fun _=>h _) aD.none
      | exact lE fun o c=>aD.ite (aD.bd fun _=>aD.bd fun j=>h _) aD.none
  · rename_i i
    refine aD.ite aD.none ?_
    cases x<;>cases i<;>(try simp only)<;>first
      | exact aD.none
      | exact aD.ite (h _) aD.none
      | exact aD.ite (aD.bd fun v=>h _) aD.none
theorem aB3 {t : Nat} {x : DV} {lo hi : Option DV} {mx : DV} {s : St} {k : DV→St→Option R} {k' : Nat→DV→St→Option R} (h : ∀ v s,aD (k v s) (fun n=>k' n v s)) : aD (noRoomK X t x lo hi mx s k) (fun n=>noRoomK X t x lo hi mx s (k' n)):=by
  unfold noRoomK
  cases elemOf X t with
  | none=>exact aD.none
  | some u=>
    cases x<;>cases lo<;>(try exact aD.none)
    cases hi with
    | none=>exact aD.none
    | some d=>
      cases d<;>cases mx<;>first
        | exact aD.none
        | exact aD.ite (aD.bd fun _=>h _ _) aD.none
theorem aC5 {t : Nat} {x : DV} {lo hi : Option DV} {s : St} {k : DV→Option R} {k' : Nat→DV→Option R} (h : ∀ v,aD (k v) (fun n=>k' n v)) : aD (sliceK X t x lo hi s k) (fun n=>sliceK X t x lo hi s (k' n)):=by
  unfold sliceK
  cases sliceK.lowOf lo with
  | none=>exact aD.none
  | some l=>
    cases (X.T.at t).d<;>(try simp only)<;>first
      | exact aD.none
      | skip
    · cases x<;>(try simp only)<;>first
        | exact aD.none
        | skip
      cases hi with
      | none=>exact aD.bd fun _=>aD.bd fun y=>h _
      | some d=>
        cases d<;>(try simp only)<;>first
          | exact aD.none
          | exact aD.bd fun y=>h _
    · refine aD.ite aD.none ?_
      cases x<;>(try simp only)<;>first
        | exact aD.none
        | skip
      · cases hi with
        | none=>exact aD.bd fun _=>aD.bd fun y=>h _
        | some d=>
          cases d<;>(try simp only)<;>first
            | exact aD.none
            | exact aD.bd fun y=>h _
      · refine lE fun o c=>aD.ite ?_ aD.none
        cases hi with
        | none=>exact aD.bd fun _=>aD.bd fun y=>h _
        | some d=>
          cases d<;>(try simp only)<;>first
            | exact aD.none
            | exact aD.bd fun y=>h _
theorem aFd {t : Nat} {d : DV} {s : St} {k : DV→Option R} {k' : Nat→DV→Option R} (h : ∀ v,aD (k v) (fun n=>k' n v)) : aD (lenK X t d s k) (fun n=>lenK X t d s (k' n)):=by
  unfold lenK
  cases (X.T.at t).d<;>cases d<;>(try simp only)<;>first
    | exact aD.none
    | exact h _
    | exact aD.bd fun y=>h _
    | exact lE fun _ c=>aD.bd fun y=>h _
theorem sQ : ∀ {ds : List DV} {k : List PV→Option R} {k' : Nat→List PV→Option R},(∀ v,aD (k v) (fun n=>k' n v))→aD (eqK.trees ds k) (fun n=>eqK.trees ds (k' n))
  | [],_,_,h=>h _
  | d::ds,k,k',h=>by
    cases d<;>simp only [eqK.trees]<;>first
      | exact aD.none
      | exact sQ fun vs=>h _
theorem aFe {op : BinOp} {x : DV} {k : DV→Option R} {k' : Nat→DV→Option R} (h : ∀ v,aD (k v) (fun n=>k' n v)) : aD (nilK op x k) (fun n=>nilK op x (k' n)):=by
  unfold nilK
  cases op<;>cases x<;>(try simp only)<;>first
    | exact aD.none
    | exact aD.bd fun v=>h _
theorem aFf {op : BinOp} {t : Nat} {x y : DV} {k : DV→Option R} {k' : Nat→DV→Option R} (h : ∀ v,aD (k v) (fun n=>k' n v)) : aD (binK X op t x y k) (fun n=>binK X op t x y (k' n)):=by
  unfold binK
  cases (X.T.at t).d<;>(try simp only)<;>first
    | exact aD.none
    | skip
  · cases x<;>cases y<;>(try simp only)<;>first
      | exact aD.none
      | exact aD.bd fun v=>h _
  · cases x<;>cases y<;>(try simp only)<;>first
      | exact aD.none
      | exact aD.bd fun v=>h _
  · cases x<;>cases y<;>(try simp only)<;>first
      | exact aD.none
      | exact aD.bd fun v=>h _
  · cases x<;>cases y<;>(try simp only)<;>first
      | exact aD.none
      | exact aD.bd fun v=>h _
      | skip
    rename_i v
    cases v<;>cases op<;>(try simp only)<;>first
      | exact aD.none
      | exact h _
  · cases y<;>(try simp only)<;>first
      | exact aD.none
      | exact aFe h
  · unfold eqK
    cases eqKinds X 10 t with
    | none=>exact aD.none
    | some qs=>exact iT fun as_=>iT fun bs=>sQ fun as_=>sQ fun bs=>aD.bd fun v=>h _
theorem rC {d : DV} {s : St} {k : PV→Option R} {k' : Nat→PV→Option R} (h : ∀ v,aD (k v) (fun n=>k' n v)) : aD (srcK d s k) (fun n=>srcK d s (k' n)):=by
  cases d<;>simp only [srcK]<;>first
    | exact aD.none
    | exact h _
    | exact lE fun o c=>aD.ite (h _) aD.none
theorem aD4 {a b : Nat} {x : DV} {s : St} {k : DV→Option R} {k' : Nat→DV→Option R} (h : ∀ v,aD (k v) (fun n=>k' n v)) : aD (convK X a b x s k) (fun n=>convK X a b x s (k' n)):=by
  unfold convK
  cases (X.T.at a).d<;>cases (X.T.at b).d<;>(try simp only)<;>first
    | exact aD.none
    | skip
  · cases x<;>(try simp only)<;>first
      | exact aD.none
      | exact aD.bd fun v=>h _
  · cases x<;>(try simp only)<;>first
      | exact aD.none
      | exact aD.bd fun v=>h _
  · rename_i e
    cases x<;>(try simp only)<;>first
      | exact aD.none
      | skip
    cases (X.T.at e).d<;>(try simp only)<;>first
      | exact aD.none
      | skip
    rename_i kk
    cases kk<;>(try simp only)<;>first
      | exact aD.none
      | exact aD.bd fun v=>h _
  · rename_i e
    cases (X.T.at e).d<;>(try simp only)<;>first
      | exact aD.none
      | skip
    rename_i kk
    cases kk<;>(try simp only)<;>first
      | exact aD.none
      | exact rC fun c=>aD.bd fun y=>h _
theorem zX {o : OTy} {d : DV} {s : St} {k : PV→St→Option R} {k' : Nat→PV→St→Option R} (h : ∀ v s,aD (k v s) (fun n=>k' n v s)) : aD (appendedK o d s k) (fun n=>appendedK o d s (k' n)):=by
  unfold appendedK
  exact aD.ite (rC fun y=>h _ _) (mK h)
theorem xE {o : OTy} {c : PV} {q : Option (PV × PV)} {k : PV→Option R} {k' : Nat→PV→Option R} (h : ∀ v,aD (k v) (fun n=>k' n v)) : aD (pieceK o c q k) (fun n=>pieceK o c q (k' n)):=by
  cases q with
  | none=>exact h _
  | some p=>exact aD.bd h
theorem aC6 {l : Nat} {path : dE} {q : Option (PV × PV)} {s : St} {k : DV→St→Option R} {k' : Nat→DV→St→Option R} (h : ∀ d s,aD (k d s) (fun n=>k' n d s)) : aD (leaveK l path q s k) (fun n=>leaveK l path q s (k' n)):=by
  unfold leaveK
  cases s.list l with
  | none=>exact aD.none
  | some w=>exact fW fun o c=>aD.ite (xE fun c1=>nO fun c'=>h _ _) aD.none
theorem aB4 {t : Nat} {a v : DV} {e : Env} {s : St} {k : Env→St→Option R} {k' : Nat→Env→St→Option R} (h : ∀ e s,aD (k e s) (fun n=>k' n e s)) : aD (storeLK X t a v e s k) (fun n=>storeLK X t a v e s (k' n)):=by
  unfold storeLK
  split
  · exact aC6 fun _ _=>xC fun _ _=>aD.ite (h _ _) aD.none
  · exact xC h
theorem aBr {d : DV} {te : Nat} {e : Env} {s : St} {l : Nat} {path : dE} {q : Option (PV × PV)} {k : DV→Env→St→Option R} {k' : Nat→DV→Env→St→Option R} (h : ∀ v e s,aD (k v e s) (fun n=>k' n v e s)) : aD (appendK.nest X d te e s k l path q) (fun n=>appendK.nest X d te e s (k' n) l path q):=by
  unfold appendK.nest
  cases s.list l with
  | none=>exact aD.none
  | some w=>
    exact fW fun o c=>aD.ite (rC fun y=>xE fun c=>nO fun c'=>aD.bd fun c2=>h _ _ _) aD.none
theorem aB5 {base d : DV} {te : Nat} {e : Env} {s : St} {k : DV→Env→St→Option R} {k' : Nat→DV→Env→St→Option R} (h : ∀ v e s,aD (k v e s) (fun n=>k' n v e s)) : aD (appendK X base d te e s k) (fun n=>appendK X base d te e s (k' n)):=by
  have plain : ∀ (q : Option OTy) (base : DV),aD (match q with
      | some o=>if fits X o te then appendedK o d s fun y s=>sinkAs o s base fun c s=>bd (PV.cat o.s o.e o.g c y) fun c'=>k (.ref s.nl []) e (s.addList ⟨o,c'⟩) else none
      | none=>none) (fun n=>match q with
      | some o=>if fits X o te then appendedK o d s fun y s=>sinkAs o s base fun c s=>bd (PV.cat o.s o.e o.g c y) fun c'=>k' n (.ref s.nl []) e (s.addList ⟨o,c'⟩) else none
      | none=>none):=by
    intro q base
    cases q with
    | none=>exact aD.none
    | some o=>exact aD.ite (zX fun y s=>mK fun c s=>aD.bd fun c'=>h _ _ _) aD.none
  cases base with
  | ref l path=>
    cases path with
    | nil=>exact plain (baseTy X te s (.ref l [])) (.ref l [])
    | cons p r=>exact aBr h
  | sref l path lo hi=>
    cases path with
    | nil=>exact plain (baseTy X te s (.sref l [] lo hi)) (.sref l [] lo hi)
    | cons p r=>exact aBr h
  | p v=>exact plain (baseTy X te s (.p v)) (.p v)
  | nils=>exact plain (baseTy X te s .nils) .nils
  | agg cs=>exact plain (baseTy X te s (.agg cs)) (.agg cs)
  | tup cs=>exact plain (baseTy X te s (.tup cs)) (.tup cs)
  | fn f cs=>exact plain (baseTy X te s (.fn f cs)) (.fn f cs)
  | ptr b off=>exact plain (baseTy X te s (.ptr b off)) (.ptr b off)
  | eptr l path i off=>exact plain (baseTy X te s (.eptr l path i off)) (.eptr l path i off)
  | fptr x s' g off=>exact plain (baseTy X te s (.fptr x s' g off)) (.fptr x s' g off)
  | bptr c off=>exact plain (baseTy X te s (.bptr c off)) (.bptr c off)
  | gptr l path i off=>exact plain (baseTy X te s (.gptr l path i off)) (.gptr l path i off)
  | nilq c neg=>exact plain (baseTy X te s (.nilq c neg)) (.nilq c neg)
  | dead=>exact plain (baseTy X te s .dead) .dead
theorem aBs {d : DV} {e : Env} {s : St} {k : Env→St→Option R} {k' : Nat→Env→St→Option R} (h : ∀ e s,aD (k e s) (fun n=>k' n e s)) : aD (frz1 d e s k) (fun n=>frz1 d e s (k' n)):=by
  unfold frz1
  split
  · split
    · exact h _ _
    · exact h _ _
  · exact h _ _
theorem nP : ∀ {fs : List (Nat × Option Nat)} {e : Env} {s : St} {k : Env→St→Option R} {k' : Nat→Env→St→Option R},(∀ e s,aD (k e s) (fun n=>k' n e s))→aD (frzK fs e s k) (fun n=>frzK fs e s (k' n))
  | [],_,_,_,_,h=>h _ _
  | (t,none)::r,e,s,k,k',h=>aBs fun e s=>nP h
  | (t,some j)::r,e,s,k,k',h=>by
    unfold frzK
    generalize e.get t=d0
    cases d0<;>(try simp only)<;>first
      | exact nP h
      | skip
    rename_i b off
    cases s.box b with
    | none=>exact nP h
    | some cs=>exact aBs fun e s=>nP h
theorem xF {te : Nat} {src : DV} {s : St} {l : Nat} {w : Own} {lo hi : PV} {k : DV→St→Option R} {k' : Nat→DV→St→Option R} (h : ∀ v s,aD (k v s) (fun n=>k' n v s)) : aD (copyK.go X te src s k l w lo hi) (fun n=>copyK.go X te src s (k' n) l w lo hi):=by
  unfold copyK.go
  exact aD.ite (rC fun y=>aD.bd fun n=>aD.bd fun c=>h _ _) aD.none
theorem aD5 {te : Nat} {dst src : DV} {s : St} {k : DV→St→Option R} {k' : Nat→DV→St→Option R} (h : ∀ v s,aD (k v s) (fun n=>k' n v s)) : aD (copyK X te dst src s k) (fun n=>copyK X te dst src s (k' n)):=by
  unfold copyK
  cases dst<;>(try simp only)<;>first
    | exact aD.none
    | skip
  · rename_i l path
    cases path with
    | cons=>exact aD.none
    | nil=>
      dsimp only
      cases s.list l with
      | none=>exact aD.none
      | some w=>exact aD.bd fun n=>xF h
  · rename_i l path lo hi
    cases path with
    | cons=>exact aD.none
    | nil=>
      dsimp only
      cases s.list l with
      | none=>exact aD.none
      | some w=>exact xF h
end
end Go.Proofs.YtjgleeamiclokaaDoor
namespace Go.Proofs.YtjgleeamiclokaaDoor
open Go
structure EvO (O : Orc) (O' : Nat→Orc) : Prop where
  L : ∀ todo e s,aD (O.L todo e s) (fun n=>(O' n).L todo e s)
  C : ∀ g args,aD (O.C g args) (fun n=>(O' n).C g args)
  S : ∀ g args s,aD (O.S g args s) (fun n=>(O' n).S g args s)
section
variable {X : Cx} {O : Orc} {O' : Nat → Orc}
theorem pF {l : R} : ∀ {cs : List DV} {a : Option R} {a' : Nat→Option R},aD a a'→aD (guardCells l cs a) (fun n=>guardCells l cs (a' n))
  | [],_,_,h=>h
  | d::cs,a,a',h=>by
    have ih:=pF (l:=l) (cs:=cs) h
    cases d with
    | ref=>simp only [guardCells];exact ih
    | p v=>
      cases v with
      | int=>simp only [guardCells];exact aD.flat ih
      | _=>simp only [guardCells];exact aD.none
    | _=>simp only [guardCells];exact aD.none
theorem qD {l : R} : ∀ {cs : List DV} {a : Option R} {a' : Nat→Option R},aD a a'→aD (guardAggs l cs a) (fun n=>guardAggs l cs (a' n))
  | [],_,_,h=>h
  | d::cs,a,a',h=>by
    have ih:=qD (l:=l) (cs:=cs) h
    cases d<;>(try simp only [guardAggs])<;>exact pF ih
theorem aAU {l : R} {d : DV} {a : Option R} {a' : Nat→Option R} (h : aD a a') : aD (guardRes l d a) (fun n=>guardRes l d (a' n)):=by
  cases d<;>(try simp only [guardRes])<;>exact qD h
theorem qE {l : R} : ∀ {cs : List (Option Own)} {a : Option R} {a' : Nat→Option R},aD a a'→aD (guardRows l cs a) (fun n=>guardRows l cs (a' n))
  | [],_,_,h=>h
  | none::_,_,_,_=>by simp only [guardRows];exact aD.none
  | some w::cs,a,a',h=>by
    simp only [guardRows]
    cases w.c<;>(try simp only)<;>first
      | exact aD.none
      | exact aD.own (qE h)
theorem aD6 (hO : EvO O O') {f : Nat} {args : List DV} {s : St} {k : DV→St→Option R} {k' : Nat→DV→St→Option R} (h : ∀ v s,aD (k v s) (fun n=>k' n v s)) : aD (pureK O f args s k) (fun n=>pureK (O' n) f args s (k' n)):=by
  unfold pureK
  exact aD.ite (lL fun vs=>aD.bd2 (hO.C _ _) fun r=>aD.flat (h _ _)) (lL fun vs=>aD.bd2 (hO.C _ _) fun r=>h _ _)
theorem aD7 (hO : EvO O O') {t : Tmpl} {f : Nat} {args : List DV} {s : St} {k : DV→St→Option R} {k' : Nat→DV→St→Option R} (h : ∀ v s,aD (k v s) (fun n=>k' n v s)) : aD (lentK O t f args s k) (fun n=>lentK (O' n) t f args s (k' n)):=by
  unfold lentK
  exact lL fun vs=>aD.bd2 (hO.S _ _ _) fun l=>aAU (qE (h _ _))
theorem aD8 (hO : EvO O O') {ft : Foot} {n0 : Nat} {t : Tmpl} {f : Nat} {args : List DV} {s : St} {k : DV→St→List Nat→Option R} {k' : Nat→DV→St→List Nat→Option R} (h : ∀ v s l,aD (k v s l) (fun n=>k' n v s l)) : aD (liveK O ft n0 t f args s k) (fun n=>liveK (O' n) ft n0 t f args s (k' n)):=by
  unfold liveK
  exact aD.ite (aD.bd2 (hO.S _ _ _) fun l=>h _ _ _) aD.none
theorem aD9 (hO : EvO O O') {f : Nat} {args : List DV} {ts : List Nat} {e : Env} {s : St} {k : DV→Env→St→Option R} {k' : Nat→DV→Env→St→Option R} (h : ∀ v e s,aD (k v e s) (fun n=>k' n v e s)) : aD (callK X O f args ts e s k) (fun n=>callK X (O' n) f args ts e s (k' n)):=by
  unfold callK
  cases X.mode f with
  | none=>exact aD6 hO fun _ _=>h _ _ _
  | some t=>
    refine aD.ite (aD7 hO fun _ _=>h _ _ _) ?_
    simp only [sN]
    exact fX fun args s=>aD8 hO fun _ _ _=>h _ _ _
theorem zY (hO : EvO O O') {v : PV} {vs : List PV} : aD (PV.apply O.C v vs) (fun n=>PV.apply (O' n).C v vs):=by
  unfold PV.apply
  cases v<;>(try simp only)<;>first
    | exact aD.none
    | exact hO.C _ _
theorem aC7 (hO : EvO O O') {d : DV} {args : List DV} {ts : List Nat} {e : Env} {s : St} {k : DV→Env→St→Option R} {k' : Nat→DV→Env→St→Option R} (h : ∀ v e s,aD (k v e s) (fun n=>k' n v e s)) : aD (applyK X O d args ts e s k) (fun n=>applyK X (O' n) d args ts e s (k' n)):=by
  cases d<;>(try simp only [applyK])<;>first
    | exact aD.none
    | exact aD9 hO h
    | exact aD.ite (lL fun vs=>aD.bd2 (zY hO) fun r=>aD.flat (h _ _ _)) (lL fun vs=>aD.bd2 (zY hO) fun r=>h _ _ _)
theorem aAV {b : Builtin} {ts : List Nat} {args : List DV} {e : Env} {s : St} {k : DV→Env→St→Option R} {k' : Nat→DV→Env→St→Option R} (h : ∀ v e s,aD (k v e s) (fun n=>k' n v e s)) : aD (builtinK X b ts args e s k) (fun n=>builtinK X b ts args e s (k' n)):=by
  unfold builtinK
  split
  · exact aFd fun n=>h _ _ _
  · rename_i t u a d
    cases elemOf X t with
    | none=>exact aD.none
    | some te=>exact aD.ite (aB5 h) aD.none
  · rename_i t u a d
    cases elemOf X t with
    | none=>exact aD.none
    | some te=>exact aD5 fun d s=>h _ _ _
  · exact aD.bd fun c=>h _ _ _
  · exact aD.bd fun c=>h _ _ _
  · exact aD.none
theorem vN (hO : EvO O O') {o : Oper} {e : Env} {s : St} {k : Kont} {k' : Nat→Kont} (h : ∀ e s,aD (k e s) (fun n=>k' n e s)) : aD (exec X O o e s k) (fun n=>exec X (O' n) o e s (k' n)):=by
  obtain ⟨dst,op,type,pos,after,guard⟩:=o
  cases op<;>simp only [exec]<;>try exact aD.none
  case move=>exact oJ fun _ _=>h _ _
  case assign=>exact oJ fun _ _=>h _ _
  case pick=>exact aD2 fun _ _=>h _ _
  case alloc=>exact aC2 fun _ _=>h _ _
  case box=>exact aFc fun _ _=>h _ _
  case build=>exact aB2 fun _=>h _ _
  case buildSlice=>exact vM fun _ _=>h _ _
  case makeSlice=>exact xS fun _ _=>h _ _
  case load=>exact zW fun _=>aD1 fun _=>h _ _
  case store=>exact zW fun _=>aB4 fun _ _=>h _ _
  case nilCheck=>exact zW fun _=>zV fun _=>h _ _
  case binOp=>exact aFf fun _=>h _ _
  case unOp=>exact aD3 fun _=>h _ _
  case convert=>exact aD4 fun _=>h _ _
  case makeFunc fn first caps=>
    cases fn<;>(try simp only)<;>first
      | exact aD.none
      | exact aD.ite (h _ _) aD.none
  case slice t x lo hi mx=>
    cases mx with
    | none=>exact aC5 fun _=>h _ _
    | some _=>exact aB3 fun _ _=>h _ _
  case fieldAddr=>exact xT fun _=>h _ _
  case field=>exact aC4 fun _=>h _ _
  case indexAddr=>exact xU fun _=>h _ _
  case index=>exact aC3 fun _=>h _ _
  case extract=>exact aAT fun _=>h _ _
  case call c=>
    cases c.callee with
    | value f=>exact aC7 hO fun _ _ _=>h _ _
    | builtin b=>exact aAV fun _ _ _=>h _ _
    | invoke _ _=>exact aD.none
theorem eP (hO : EvO O O') {ops : Array Oper} {draw : Bool} : ∀ {r : List Oper} {i : Nat} {acc : List (Nat × Foot)} {e : Env} {s : St} {k : Kont} {k' : Nat→Kont},(∀ e s,aD (k e s) (fun n=>k' n e s))→aD (execOps X O ops draw i acc r e s k) (fun n=>execOps X (O' n) ops draw i acc r e s (k' n))
  | [],i,acc,e,s,k,k',h=>by
    unfold execOps
    exact aD.ite aD.none (h _ _)
  | o::r,i,acc,e,s,k,k',h=>by
    unfold execOps
    simp only [stf,stp]
    cases o.guard with
    | none=>exact vN hO fun e s'=>aD.ite (eP hO h) aD.none
    | some p=>
      obtain ⟨j,want⟩:=p
      simp only
      cases guardDst ops.toList j with
      | none=>exact aD.none
      | some t=>
        simp only
        generalize e.get t=d0
        have hskip:=eP (ops:=ops) (draw:=draw) (r:=r) (i:=i+1) (acc:=if draw then (i,Foot.none)::acc else []) (e:=put o.dst (.tup []) e) (s:={ s with nb:=s.base+16*i,nl:=s.base+16*i}) hO h
        cases d0<;>(try simp only)<;>first
          | exact aD.none
          | (rename_i cs;cases cs with
             | nil=>exact hskip
             | cons=>exact aD.none)
          | exact aD.pvite (aD.ite (vN hO fun e s'=>aD.ite (eP hO h) aD.none) (eP hO h)) (aD.ite (eP hO h) (vN hO fun e s'=>aD.ite (eP hO h) aD.none))
theorem rD (hO : EvO O O') : ∀ (m : Nat) (first : Bool) (todo : List Item) (e : Env) (s : St),aD (eval X O m first todo e s) (fun n=>eval X (O' n) m first todo e s)
  | 0,_,_,_,_=>by simp only [eval];exact aD.none
  | m+1,first,todo,e,s=>by
    have ih:=rD hO m
    cases todo with
    | nil=>simp only [eval];exact aD.rfl _
    | cons x k=>
    cases x with
    | inBlock id=>simp only [eval];exact ih _ _ _ _
    | inScope c=>simp only [eval];exact ih _ _ _ _
    | inLoop c=>simp only [eval];exact ih _ _ _ _
    | code c=>
      cases c<;>simp only [eval]<;>first
        | exact aD.none
        | exact aD.rfl _
        | exact ih _ _ _ _
        | skip
      case exit id=>
        cases exitTo id k with
        | none=>exact aD.none
        | some k'=>exact ih _ _ _ _
      case goto l=>
        cases gotoIn l k with
        | none=>exact aD.none
        | some k'=>exact ih _ _ _ _
      case cond c a b=>
        generalize ev X e c=d0
        cases d0<;>(try simp only)<;>first
          | exact aD.none
          | exact aD.nilT (ih _ _ _ _) (ih _ _ _ _)
          | skip
        cases c<;>(try simp only)<;>exact aD.pvite (ih _ _ _ _) (ih _ _ _ _)
      case region id ops draw=>
        refine nP fun e s=>?_
        cases first with
        | true=>exact eP hO fun e s=>ih _ _ _ _
        | false=>
          cases X.cut id with
          | none=>exact eP hO fun e s=>ih _ _ _ _
          | some keep=>exact hO.L _ _ _
    | _=>simp only [eval];exact aD.none
end
section
variable (P : Program) (T : Tab) (H : Hints)
noncomputable def kT (f nb nl : Nat) (out : Option Tmpl) (todo : List Item) (e : Env) (s : St) : Option R:=
  open Classical in if h : ∃ r,∃ n,runN P T H n f nb nl out todo e s=some r then some h.choose else none
end
section
variable {P : Program} {T : Tab} {H : Hints}
theorem aD.le {β : Type} {a b : Option β} (h : ∀ r,a=some r→b=some r) : aD a (fun _=>b):=fun r hr=>⟨0,fun _ _=>h r hr⟩
theorem aD.of {β : Type} {a b : Option β} (h : aD a (fun _=>b)) : ∀ r,a=some r→b=some r:=fun r hr=>let ⟨N,hN⟩:=h r hr;hN N (Nat.le_refl _)
theorem zZ {run : Nat→Nat→Nat→Option Tmpl→List Item→Env→St→Option R} {run' : Nat→Nat→Nat→Nat→Option Tmpl→List Item→Env→St→Option R}
    (h : ∀ f nb nl out todo e s,aD (run f nb nl out todo e s) (fun n=>run' n f nb nl out todo e s)) (f nb nl : Nat) (out : Option Tmpl) : EvO (orcOf P H run f nb nl out) (fun n=>orcOf P H (run' n) f nb nl out) where
  L:=fun todo e s=>h _ _ _ _ _ _ _
  C:=fun g args=>by
    simp only [orcOf]
    cases H.prim g with
    | none=>exact h _ _ _ _ _ _ _
    | some p=>exact aD.rfl _
  S:=fun g args s=>by
    simp only [orcOf]
    cases H.mode g with
    | none=>exact aD.none
    | some t=>cases H.primS g with
      | none=>exact h _ _ _ _ _ _ _
      | some p=>exact aD.rfl _
theorem aBt : ∀ (n f nb nl : Nat) (out : Option Tmpl) (todo : List Item) (e : Env) (s : St) (r : R),runN P T H n f nb nl out todo e s=some r→runN P T H (n+1) f nb nl out todo e s=some r
  | 0,_,_,_,_,_,_,_,_,h=>by simp [runN] at h
  | n+1,f,nb,nl,out,todo,e,s,r,h=>by
    have ih:=aBt n
    unfold runN at h ⊢
    exact (rD (zZ (run':=fun _=>runN P T H (n+1)) (fun f nb nl out todo e s=>aD.le (ih f nb nl out todo e s)) f nb nl out) evalFuel true todo e s).of r h
theorem aB6 {n n' f nb nl : Nat} {out : Option Tmpl} {todo : List Item} {e : Env} {s : St} {r : R} (h : runN P T H n f nb nl out todo e s=some r) (hn : n≤n') : runN P T H n' f nb nl out todo e s=some r:=by
  induction hn with
  | refl=>exact h
  | step _ ih=>exact aBt _ _ _ _ _ _ _ _ _ ih
theorem aED {n f nb nl : Nat} {out : Option Tmpl} {todo : List Item} {e : Env} {s : St} {r : R} (h : runN P T H n f nb nl out todo e s=some r) : kT P T H f nb nl out todo e s=some r:=by
  unfold kT
  have hex : ∃ r,∃ n,runN P T H n f nb nl out todo e s=some r:=⟨r,n,h⟩
  rw [dif_pos hex]
  obtain ⟨n',h'⟩:=hex.choose_spec
  have h1:=aB6 h (Nat.le_max_left n n')
  have h2:=aB6 h' (Nat.le_max_right n n')
  rw [h1] at h2
  exact h2.symm
theorem rE {f nb nl : Nat} {out : Option Tmpl} {todo : List Item} {e : Env} {s : St} {r : R} (h : kT P T H f nb nl out todo e s=some r) : ∃ n,runN P T H n f nb nl out todo e s=some r:=by
  unfold kT at h
  split at h
  · rename_i hex
    cases h
    exact hex.choose_spec
  · cases h
theorem aFg (f nb nl : Nat) (out : Option Tmpl) (todo : List Item) (e : Env) (s : St) : aD (kT P T H f nb nl out todo e s) (fun n=>runN P T H n f nb nl out todo e s):=by
  intro r hr
  obtain ⟨n,hn⟩:=rE hr
  exact ⟨n,fun n' h'=>aB6 hn h'⟩
theorem aEE (f nb nl : Nat) (out : Option Tmpl) (todo : List Item) (e : Env) (s : St) :
    kT P T H f nb nl out todo e s=eval (cxOf P T H f nb nl out) (orcOf P H (kT P T H) f nb nl out) evalFuel true todo e s:=by
  cases h : eval (cxOf P T H f nb nl out) (orcOf P H (kT P T H) f nb nl out) evalFuel true todo e s with
  | some r=>
    obtain ⟨N,hN⟩:=rD (zZ (run':=fun n=>runN P T H n) aFg f nb nl out) evalFuel true todo e s r h
    refine aED (n:=N+1) ?_
    unfold runN
    exact hN N (Nat.le_refl _)
  | none=>
    cases h' : kT P T H f nb nl out todo e s with
    | none=>rfl
    | some r=>
      exfalso
      obtain ⟨n,hn⟩:=rE h'
      cases n with
      | zero=>simp [runN] at hn
      | succ n=>
        unfold runN at hn
        have:=(rD (zZ (run':=fun _=>kT P T H) (fun f nb nl out todo e s=>aD.le (fun r h=>aED h)) f nb nl out) evalFuel true todo e s).of r hn
        rw [h] at this
        cases this
noncomputable def aEF (P : Program) (T : Tab) (H : Hints) (f : Nat) (args : List PV) : Option R:=(orcOf P H (kT P T H) 0 0 0 none).C f args
noncomputable def aFM (P : Program) (T : Tab) (H : Hints) (f : Nat) (args : List DV) (s : St) : Option R:=(orcOf P H (kT P T H) 0 0 0 none).S f args s
theorem aGt (hy : Hyp P T H) : aEC P (kT P T H):=by
  intro f nb nl out todo e s r fn h hfn hok
  obtain ⟨n,hn⟩:=rE h
  exact aBq hy n f nb nl out todo e s r fn hn hfn hok
theorem aGu : aFK P (kT P T H):=by
  intro f nb nl out e s r h
  obtain ⟨n,hn⟩:=rE h
  exact sO hn
theorem xG (hy : Hyp P T H) {f : Nat} {args : List PV} {r : R} (h : aEF P T H f args=some r) {w : World} {aJ : Array Value} {Z : Nat→Prop} (hz : ZOk w Z) (hl : args.length=aJ.size)
    (hr : ∀ (i : Nat) x v,args[i]? = some x→aJ[i]? = some v→dZ w Z x v) : Calls P f aJ w (fun e w'=>∃ v,e = .returned v∧∃ Z',uB w w' Z Z'∧dZ w' Z' (hd r) v):=
  (aCZ hy (aGt hy) aGu 0 0 0 none f args r h).2 w Z aJ hz hl hr
theorem aB7 (f nb nl : Nat) (out : Option Tmpl) (todo : List Item) (e : Env) (s : St) (r : Option R) (h : eval (cxOf P T H f nb nl out) (orcOf P H (kT P T H) f nb nl out) evalFuel true todo e s=r) : kT P T H f nb nl out todo e s=r:=
  (aEE f nb nl out todo e s).trans h
theorem aC8 (f : Nat) (hp : H.prim f=none) (args : List PV) (r : Option R) (h : eval (cxOf P T H f 0 0 none) (orcOf P H (kT P T H) f 0 0 none) evalFuel true (startOf P f) (argEnv 0 (args.map .p)) ⟨[],[],0,0,0⟩=r) : aEF P T H f args=r:=by
  show (match H.prim f with | some h=>h args | none=>kT P T H f 0 0 none (startOf P f) (argEnv 0 (args.map .p)) ⟨[],[],0,0,0⟩)=r
  rw [hp]
  exact aB7 _ _ _ _ _ _ _ _ h
theorem aFN (f : Nat) (hp : H.primS f=none) (args : List DV) (s : St) (r : Option R) (h : (match H.mode f with | some t=>eval (cxOf P T H f s.boxes.length (if t.keep then s.lists.length else 0) (some t)) (orcOf P H (kT P T H) f s.boxes.length (if t.keep then s.lists.length else 0) (some t)) evalFuel true (startOf P f) (argEnv 0 args) s | none=>none)=r) : aFM P T H f args s=r:=by
  show (match H.mode f with | some t=>(match H.primS f with | some h=>h args s | none=>kT P T H f s.boxes.length (if t.keep then s.lists.length else 0) (some t) (startOf P f) (argEnv 0 args) s) | none=>none)=r
  rw [← h,hp]
  cases H.mode f with
  | none=>rfl
  | some t=>exact aEE _ _ _ _ _ _ _
end
end Go.Proofs.YtjgleeamiclokaaDoor
namespace Go.Proofs.YtjgleeamiclokaaDoor
open Go
noncomputable def fM (f nb nl : Nat) (out : Option Tmpl) (todo : List Item) (e : Env) (s : St) : Option R:=kT Tryd.prog T aZ f nb nl out todo e s
noncomputable def pcallO (f : Nat) (args : List PV) : Option R:=aEF Tryd.prog T aZ f args
noncomputable def cL (f : Nat) (args : List DV) (s : St) : Option R:=aFM Tryd.prog T aZ f args s
noncomputable def orc (f nb nl : Nat) (out : Option Tmpl) : Orc:=orcOf Tryd.prog aZ (kT Tryd.prog T aZ) f nb nl out
theorem cG (f nb nl : Nat) (out : Option Tmpl) (todo : List Item) (e : Env) (s : St) (r : Option R) (h : eval (cxOf Tryd.prog T aZ f nb nl out) (orc f nb nl out) evalFuel true todo e s=r) : fM f nb nl out todo e s=r:=aB7 f nb nl out todo e s r h
theorem aL (f : Nat) (args : List PV) (r : Option R) (h : (match aZ.prim f with | some p=>p args | none=>eval (cxOf Tryd.prog T aZ f 0 0 none) (orc f 0 0 none) evalFuel true (startOf Tryd.prog f) (argEnv 0 (args.map .p)) ⟨[],[],0,0,0⟩)=r) : pcallO f args=r:=by
  cases hp : aZ.prim f with
  | none=>rw [hp] at h;exact aC8 f hp args r h
  | some p=>rw [hp] at h;rw [← h];show (match aZ.prim f with | some h=>h args | none=>_)=_;rw [hp]
theorem eQ (f : Nat) (args : List DV) (s : St) (r : Option R) (h : (match aZ.mode f with | some t=>(match aZ.primS f with | some p=>p args s | none=>eval (cxOf Tryd.prog T aZ f s.boxes.length (if t.keep then s.lists.length else 0) (some t)) (orc f s.boxes.length (if t.keep then s.lists.length else 0) (some t)) evalFuel true (startOf Tryd.prog f) (argEnv 0 args) s) | none=>none)=r) : cL f args s=r:=by
  cases hp : aZ.primS f with
  | none=>simp only [hp] at h;exact aFN f hp args s r h
  | some p=>
    simp only [hp] at h
    rw [← h]
    show (match aZ.mode f with | some t=>(match aZ.primS f with | some h=>h args s | none=>_) | none=>none)=_
    rw [hp]
set_option maxRecDepth 100000 in
theorem uF : (Tryd.prog.funcs.toList.all fun f=>match f.body with | some c=>codeOk f.ntmps c&&(f.name != "runtime.NumGoroutine") | none=>true)=true:=by kernel_rfl
theorem aB8 : Tryd.prog.follows .mixedOrders=true:=by kernel_rfl
theorem aFO : (tI.all fun p=>p.2.wf)=true:=by kernel_rfl
end Go.Proofs.YtjgleeamiclokaaDoor
namespace Go.Proofs.YtjgleeamiclokaaDoor
open Go
theorem aFP {m m' : aK} {s s' : St} {l : Nat} {scr : DV→DV} {w : Own} {v : Value} {t : Tmpl} (hf : dN m s s.base)
    (G : bA m m' (s.at s.base) s' (fun _=>True) (fun _=>True) (fun b=>b∈([] : List Nat)∨true=true) (fun l=>l∈([] : List Nat)∨true=true) s.base scr) (hl : s'.list l=some w) (hv : m'.rd (.ref l []) v)
    (ht : t.res = .ref 0 []∧t.boxes = []∧t.lists = [some ⟨w.o,.int .i64 0⟩]) : kI m 0 0 (some t) [w.c] v m'.w:=by
  have hf':=(bA.full (f:=⟨[],[],[],[],true,true⟩) hf G).1
  have hb : ∀ b∈([] : List Nat),m'.s.box b=s'.box b:=fun b _=>hf'.box b
  have hl' : ∀ x∈[l],m'.s.list x=s'.list x:=fun x _=>hf'.list x
  have pf:=rA (a:=⟨[],[l]⟩) hf'.inv hb hl' List.nodup_nil (by simp)
  have fw:=zH (a:=⟨[],[l]⟩) hf' 0 0 (fun b h=>by omega) (fun b h=>by omega)
  refine ⟨m'.pick [] [l] (s'.pick ⟨[],[l]⟩),rfl,pf.inv,(G.step.fwd hf.inv 0 0).trans fw,?_⟩
  refine ⟨.ref 0 [],s',⟨[],[l]⟩,?_,?_,pf,fun x hx=>hx.1,fun x hx=>hx.1⟩
  · unfold Tmpl.read
    rw [ht.1,ht.2.1,ht.2.2]
    have e1 : (s'.pick ⟨[],[l]⟩).boxes = []:=rfl
    have e2 : (s'.pick ⟨[],[l]⟩).lists = [(0,some w)]:=by
      show [(0,s'.list l)]=_
      rw [hl]
    rw [e1,e2]
    simp [readD,readB,readO,OTy.same_refl]
  · have:=zF (a:=⟨[],[l]⟩) hl' deep hv
    have e : ren (idx · [] 0) (idx · [l] 0) deep (.ref l []) = .ref 0 []:=by
      simp [deep,ren,ren1,idx]
    rw [e] at this
    exact this
theorem xH {P : Program} {ρ : Go.Shelf.Ren} (L : Lays8.n4 P ρ) {i0 : TypeInfo} {z : Value} (hi0 : P.info? (ρ.t 25)=some i0) (hz0 : i0.zero=some z) (hzs : z.cells.size=i0.size) (hs0 : 0<i0.size) {e : Nat} (hby : i0.bytes=e)
    {args : List DV} {s : St} {r : R} (h : hX e args s=some r) {m : aK} {aJ : Array Value} (hf : dN m s s.base) (hl : args.length=aJ.size) (hr : ∀ (i : Nat) d v,args[i]? = some d→aJ[i]? = some v→m.rd d v)
    {t : Tmpl} {eb : Nat} {g : Bool} (ht : t.res = .ref 0 []∧t.boxes = []∧t.lists = [some ⟨.own i0.size eb g [],.int .i64 0⟩]) :
    Calls P (ρ.f 4) aJ m.w (fun e w'=>∃ v,e = .returned v∧kI m 0 0 (some t) r v w'):=by
  unfold hX at h
  split at h
  rotate_left
  · cases h
  rename_i n _
  split at h
  rotate_left
  · cases h
  rename_i hc
  obtain ⟨hn,hbound,hlen⟩:=hc
  cases h
  obtain ⟨v0,v1,rfl⟩ : ∃ v0 v1,aJ = #[v0,v1]:=by
    match aJ,hl with
    | ⟨[a,b]⟩,_=>exact ⟨a,b,rfl⟩
    | ⟨[]⟩,h=>simp at h
    | ⟨[_]⟩,h=>simp at h
    | ⟨_::_::_::_⟩,h=>simp at h
  have h0:=hr 0 _ _ rfl rfl
  have h1:=hr 1 _ _ rfl rfl
  obtain rfl : v1 = .int .i64 n:=by
    cases h1 with
    | p _ _ h1=>cases h1;rfl
  obtain rfl : v0 = .slice none 0 0:=by cases h0;rfl
  obtain ⟨k,rfl⟩:=Int.eq_ofNat_of_zero_le hn
  simp only [Int.toNat_natCast] at hbound
  have sit:=hf.sit (Nat.le_refl s.base)
  have hlf : (OTy.own i0.size eb g []).isLeaf=false:=rfl
  have hmw : m.w.heap.size=m.w.heap.size:=rfl
  have fin : ∀ {w' : World} {v : Value} {F' : Nat→Prop},bL w' m.Z (.own i0.size eb g []) (.lst []) v F'→bS v→(∀ r,F' r→m.w.heap.size≤r)→(∀ r,r<m.w.heap.size→w'.heap[r]? = m.w.heap[r]?)→
      m.w.heap.size≤w'.heap.size→w'.os=m.w.os→w'.tape=m.w.tape→w'.output=m.w.output→kI m 0 0 (some t) [.lst []] v w':=by
    intro w' v F' hro' hcv hF' hw hsize hos htape hout
    have G2:=bA.addRow (B:=fun _=>True) (L:=fun _=>True) (fun b=>b∈([] : List Nat)∨true=true) (fun l=>l∈([] : List Nat)∨true=true) sit (show s.base<s.base+16 by omega) (own:=⟨.own i0.size eb g [],.lst []⟩) hlf hro' (fun r hr=>.inr (hF' r hr)) (fun r hr _=>hw r hr) hsize hos htape hout
    exact aFP (l:=s.base) hf G2 (w:=⟨.own i0.size eb g [],.lst []⟩) (by simp [St.list,St.addList,St.at,look]) (aK.addRow_rd hcv) ht
  by_cases hroom : 0+k≤0
  · refine (Any8.slices_Grow_room L none 0 0 k m.w (Nat.le_refl _) (by omega) (by omega) hroom).mono ?_
    rintro e w' ⟨rfl,rfl⟩
    exact ⟨_,rfl,fin (F':=fun _=>False) (.nil _ _ _ _ _ _ (fun _ h=>h)) trivial (fun _ h=>h.elim) (fun _ _=>rfl) (Nat.le_refl _) rfl rfl rfl⟩
  · refine (Any8.slices_Grow_grow L i0 z hi0 hz0 hs0 none 0 0 k [] m.w (Nat.le_refl _) (by omega) (by rw [hby,Nat.zero_add];exact hbound) (by omega) (by simp) (fun _=>rfl) (fun a h=>by cases h)).mono ?_
    rintro e w' ⟨rfl,rfl⟩
    refine ⟨_,rfl,?_⟩
    generalize hcp : grownCap m.w (0+k) 0 (ρ.t 25)=cp
    have hge : 0+k≤cp:=by rw [← hcp];exact grownCap_ge _ _ _ _
    generalize hcells : (([] : List Value).toArray++Builtin.zeroCells z.cells (0+k - 0)++Builtin.zeroCells z.cells (cp - (0+k)) : Array Value)=cells
    have hcsz : cp*i0.size≤cells.size:=by
      rw [← hcells]
      simp only [Array.size_append,List.size_toArray,List.length_nil,pD,hzs,← Nat.add_mul]
      rw [Nat.zero_add,← Nat.add_mul]
      exact Nat.mul_le_mul_right _ (by omega)
    have hnew : (m.w.drew.alloc (.cells cells (ρ.t 25))).heap[m.w.heap.size]? = some (.cells cells (ρ.t 25) (0,0)):=heap_alloc_new m.w.drew _
    have hro':=(rS.nil (w:=m.w.drew.alloc (.cells cells (ρ.t 25))) (Z:=m.Z) (.own i0.size eb g []) (fun _ _=>.nilFunc) (fun _ _ _=>False)).repO hlf hs0 (b:=m.w.heap.size) (off:=0) (cap:=cp) hnew (by rw [Nat.zero_add];exact hcsz) (by simp) (fun hzr=>by have:=hf.inv.zlt _ hzr;omega)
      (fun i j hi=>by simp at hi) (fun i j hi=>by simp at hi)
    refine fin hro' trivial (fun r hr=>?_) (fun r hr=>heap_alloc_old m.w.drew _ hr) (by simp) rfl rfl rfl
    rcases hr with rfl | ⟨i,j,hi,_⟩
    · exact Nat.le_refl _
    · simp at hi
theorem xI {P : Program} {ρ : Go.Shelf.Ren} (L : LaysM.n171 P ρ) {args : List PV} {r : R} (h : nG args=some r) {w : World} {Z : Nat→Prop} {aJ : Array Value} (htab : Lib.TabIs P w "internal/strconv.uint64pow10" .u64 Lib.pow10Tab) (hl : args.length=aJ.size)
    (hr : ∀ (i : Nat) x v,args[i]? = some x→aJ[i]? = some v→dZ w Z x v) : Calls P (ρ.f 171) aJ w (fun e w'=>∃ v,e = .returned v∧∃ Z',uB w w' Z Z'∧dZ w' Z' (hd r) v):=by
  unfold nG at h
  split at h
  rotate_left
  · cases h
  rename_i n
  split at h
  rotate_left
  · cases h
  rename_i hc
  cases h
  obtain ⟨v0,rfl⟩ : ∃ v0,aJ = #[v0]:=by
    match aJ,hl with
    | ⟨[a]⟩,_=>exact ⟨a,rfl⟩
    | ⟨[]⟩,h=>simp at h
    | ⟨_::_::_⟩,h=>simp at h
  obtain rfl : v0 = .int .i64 n:=by
    have:=hr 0 _ _ rfl rfl
    cases this;rfl
  refine (Any.strconv_Itoa L n hc.1 hc.2 w htab).mono ?_
  rintro e w' ⟨rfl,k,os,rfl⟩
  have e0 : (Sort.grow (w.drewN k) os).heap=w.heap++os:=rfl
  refine ⟨_,rfl,Z,⟨by rw [e0];simp,rfl,rfl,rfl,fun r hr=>?_,fun _ h=>h,fun _ h=>.inl h⟩,.str _⟩
  rw [e0,Array.getElem?_append_left hr]
end Go.Proofs.YtjgleeamiclokaaDoor
namespace Go.Proofs.YtjgleeamiclokaaDoor
open Go Go.Shelf
def Tryd.laysM171_ren : Go.Shelf.Ren:=⟨fun | 171=>59 | 243=>70 | 246=>74 | 283=>77 | 284=>78 | 285=>79 | 286=>80 | 129=>82 | 317=>81 | 318=>83 | 319=>84 | 320=>85 | 337=>86 | 338=>87 | n=>n,fun | 3=>3 | 9=>9 | 2=>2 | 4=>4 | 171=>124 | 0=>0 | 53=>121 | 37=>22 | 5=>5 | 173=>127 | 212=>131 | 51=>118 | 20=>20 | 213=>132 | 46=>114 | 232=>135 | 233=>136 | n=>n,fun | 17=>0 | 18=>1 | 19=>2 | n=>n⟩
theorem Tryd.laysM171 : LaysM.n171 Tryd.prog Tryd.laysM171_ren:={
  mixed:=by kernel_rfl
  f129:=Tryd.func82.trans (congrArg some (by kernel_rfl))
  f171:=Tryd.func59.trans (congrArg some (by kernel_rfl))
  f243:=Tryd.func70.trans (congrArg some (by kernel_rfl))
  f246:=Tryd.func74.trans (congrArg some (by kernel_rfl))
  f283:=Tryd.func77.trans (congrArg some (by kernel_rfl))
  f284:=Tryd.func78.trans (congrArg some (by kernel_rfl))
  f285:=Tryd.func79.trans (congrArg some (by kernel_rfl))
  f286:=Tryd.func80.trans (congrArg some (by kernel_rfl))
  f317:=Tryd.func81.trans (congrArg some (by kernel_rfl))
  f318:=Tryd.func83.trans (congrArg some (by kernel_rfl))
  f319:=Tryd.func84.trans (congrArg some (by kernel_rfl))
  f320:=Tryd.func85.trans (congrArg some (by kernel_rfl))
  f337:=Tryd.func86.trans (congrArg some (by kernel_rfl))
  f338:=Tryd.func87.trans (congrArg some (by kernel_rfl))
  t0:=Tryd.underlying0
  a0:=Tryd.isAgg0
  z0:=Tryd.sizeOf0
  v0:=Tryd.zeroValue0
  t2:=Tryd.underlying2
  a2:=Tryd.isAgg2
  z2:=Tryd.sizeOf2
  v2:=Tryd.zeroValue2
  t3:=Tryd.underlying3
  a3:=Tryd.isAgg3
  z3:=Tryd.sizeOf3
  v3:=Tryd.zeroValue3
  t4:=Tryd.underlying4
  a4:=Tryd.isAgg4
  z4:=Tryd.sizeOf4
  v4:=Tryd.zeroValue4
  t5:=Tryd.underlying5
  a5:=Tryd.isAgg5
  z5:=Tryd.sizeOf5
  v5:=Tryd.zeroValue5
  t9:=Tryd.underlying9
  a9:=Tryd.isAgg9
  z9:=Tryd.sizeOf9
  v9:=Tryd.zeroValue9
  t20:=Tryd.underlying20
  a20:=Tryd.isAgg20
  z20:=Tryd.sizeOf20
  v20:=Tryd.zeroValue20
  t37:=Tryd.underlying22
  a37:=Tryd.isAgg22
  z37:=Tryd.sizeOf22
  v37:=Tryd.zeroValue22
  t46:=Tryd.underlying114
  a46:=Tryd.isAgg114
  z46:=Tryd.sizeOf114
  v46:=Tryd.zeroValue114
  t51:=Tryd.underlying118
  a51:=Tryd.isAgg118
  z51:=Tryd.sizeOf118
  v51:=Tryd.zeroValue118
  t53:=Tryd.underlying121
  a53:=Tryd.isAgg121
  z53:=Tryd.sizeOf121
  v53:=Tryd.zeroValue121
  t171:=Tryd.underlying124
  a171:=Tryd.isAgg124
  z171:=Tryd.sizeOf124
  v171:=Tryd.zeroValue124
  t173:=Tryd.underlying127
  a173:=Tryd.isAgg127
  z173:=Tryd.sizeOf127
  v173:=Tryd.zeroValue127
  t212:=Tryd.underlying131
  a212:=Tryd.isAgg131
  z212:=Tryd.sizeOf131
  v212:=Tryd.zeroValue131
  t213:=Tryd.underlying132
  a213:=Tryd.isAgg132
  z213:=Tryd.sizeOf132
  t232:=Tryd.underlying135
  a232:=Tryd.isAgg135
  z232:=Tryd.sizeOf135
  v232:=Tryd.zeroValue135
  t233:=Tryd.underlying136
  a233:=Tryd.isAgg136
  z233:=Tryd.sizeOf136
  v233:=Tryd.zeroValue136
  g17:=by kernel_rfl
  g18:=by kernel_rfl
  g19:=by kernel_rfl
  i0:=by kernel_rfl
  i2:=by kernel_rfl
  i3:=by kernel_rfl
  i4:=by kernel_rfl
  i5:=by kernel_rfl
  i9:=by kernel_rfl
  i20:=by kernel_rfl
  i37:=by kernel_rfl
  i46:=by kernel_rfl
  i51:=by kernel_rfl
  i53:=by kernel_rfl
  i171:=by kernel_rfl
  i173:=by kernel_rfl
  i212:=by kernel_rfl
  i232:=by kernel_rfl
  i233:=by kernel_rfl
  m17:=by kernel_rfl
  m18:=by kernel_rfl
  m19:=by kernel_rfl}
def Tryd.lays8n4_ren : Go.Shelf.Ren:=⟨fun | 4=>54 | n=>n,fun | 22=>42 | 25=>38 | 3=>3 | 4=>4 | 9=>9 | 20=>20 | 0=>0 | n=>n,fun | n=>n⟩
theorem Tryd.lays8n4 : Go.Proofs.Lays8.n4 Tryd.prog Tryd.lays8n4_ren:={
  mixed:=by kernel_rfl
  f4:=⟨Tryd.f54.name,by decide,Tryd.func54.trans (congrArg some (by kernel_rfl))⟩
  t0:=Tryd.underlying0
  a0:=Tryd.isAgg0
  z0:=Tryd.sizeOf0
  v0:=Tryd.zeroValue0
  t3:=Tryd.underlying3
  a3:=Tryd.isAgg3
  z3:=Tryd.sizeOf3
  v3:=Tryd.zeroValue3
  t4:=Tryd.underlying4
  a4:=Tryd.isAgg4
  z4:=Tryd.sizeOf4
  v4:=Tryd.zeroValue4
  t9:=Tryd.underlying9
  a9:=Tryd.isAgg9
  z9:=Tryd.sizeOf9
  v9:=Tryd.zeroValue9
  t20:=Tryd.underlying20
  a20:=Tryd.isAgg20
  z20:=Tryd.sizeOf20
  v20:=Tryd.zeroValue20
  t22:=Tryd.underlying42
  a22:=Tryd.isAgg42
  z22:=Tryd.sizeOf42
  v22:=Tryd.zeroValue42}
end Go.Proofs.YtjgleeamiclokaaDoor
namespace Go.Proofs.YtjgleeamiclokaaDoor
open Go
theorem aAa {α : Type} {n : Nat} : ∀ {l : List (Nat × α)} {a : α},lk n l=some a→∃ p∈l,p.2=a
  | [],a,h=>by simp [lk] at h
  | (m,b)::r,a,h=>by
    unfold lk at h
    split at h
    · cases h;exact ⟨_,List.mem_cons_self,rfl⟩
    · obtain ⟨p,h1,h2⟩:=aAa h
      exact ⟨p,List.mem_cons_of_mem _ h1,h2⟩
theorem sR {α : Type} {n : Nat} : ∀ {l : List (Nat × α)} {a : α},lk n l=some a→(n,a)∈l
  | [],a,h=>by simp [lk] at h
  | (m,b)::r,a,h=>by
    unfold lk at h
    split at h
    · rename_i hb
      cases h
      rw [aY hb]
      exact List.mem_cons_self
    · exact List.mem_cons_of_mem _ (sR h)
theorem kB {g : Nat} (h : ((Tryd.prog.funcs[g]?).bind (·.body)).isSome=true) : eO Tryd.prog g:=by
  cases hf : Tryd.prog.funcs[g]? with
  | none=>rw [hf] at h;cases h
  | some fn=>
    rw [hf] at h
    cases hb : fn.body with
    | none=>simp [hb] at h
    | some c=>
      have hc:=uF
      rw [List.all_eq_true] at hc
      have:=hc fn (by rw [← Array.getElem?_toList] at hf;exact List.mem_of_getElem? hf)
      rw [hb] at this
      simp only [Bool.and_eq_true,bne_iff_ne,ne_eq] at this
      exact ⟨fn,c,hf,hb,this.2⟩
set_option maxRecDepth 100000 in
theorem aEa {w : World} {Z : Nat→Prop} (h : mU w Z) : Lib.TabIs Tryd.prog w "internal/strconv.uint64pow10" .u64 Lib.pow10Tab:=by
  obtain ⟨_,ty,fz,h⟩:=h
  unfold Lib.TabIs World.var?
  rw [show Tryd.prog.globalNamed "internal/strconv.uint64pow10" = some aEU by kernel_rfl]
  simp only [Option.bind_some,h]
set_option maxRecDepth 100000 in
theorem aEb : sJ Tryd.prog fun g args=>(aZ.prim g).bind fun p=>p args:=by
  intro g args r h
  have h : ((aZ.prim g).bind fun p=>p args)=some r:=h
  cases hp : aZ.prim g with
  | none=>rw [hp] at h;cases h
  | some p=>
    rw [hp] at h
    have h : p args=some r:=h
    have hm:=sR (show lk g nX=some p from hp)
    simp only [nX,List.mem_cons,List.not_mem_nil,or_false,Prod.mk.injEq] at hm
    obtain ⟨rfl,rfl⟩:=hm
    exact ⟨kB (by kernel_rfl),fun w Z aJ hz hl hr=>xI Tryd.laysM171 h (aEa hz.glob) hl hr⟩
set_option maxRecDepth 100000 in
theorem aFQ : (Tryd.prog.info? (Tryd.lays8n4_ren.t 25)).map (fun i=>(i.size,i.bytes,i.zero.map (·.cells.size)))=some (3,32,some 3):=by kernel_rfl
set_option maxRecDepth 100000 in
theorem aB9 : ∀ g h,aZ.primS g=some h→∀ t args s l,aZ.mode g=some t→h args s=some l→eO Tryd.prog g∧∀ (m : aK) (aJ : Array Value),dN m s s.base→args.length=aJ.size→
    (∀ (i : Nat) d v,args[i]? = some d→aJ[i]? = some v→m.rd d v)→Calls Tryd.prog g aJ m.w (fun e w'=>∃ v,e = .returned v∧kI m s.boxes.length (if t.keep then s.lists.length else 0) (some t) l v w'):=by
  intro g h hp t args s l ht h
  have hm:=sR (show lk g lG=some _ from hp)
  simp only [lG,List.mem_cons,List.not_mem_nil,or_false,Prod.mk.injEq] at hm
  obtain ⟨rfl,rfl⟩:=hm
  refine ⟨kB (by kernel_rfl),fun m aJ hf hl hr=>?_⟩
  have htt : aZ.mode 54=some ⟨false,false,.ref 0 [],[],[some ⟨.own 3 32 true [],.int .i64 0⟩],true⟩:=by kernel_rfl
  rw [htt] at ht
  cases ht
  have tg:=aFQ
  cases hi : Tryd.prog.info? (Tryd.lays8n4_ren.t 25) with
  | none=>rw [hi] at tg;cases tg
  | some i0=>
    rw [hi] at tg
    simp only [Option.map_some,Option.some.injEq,Prod.mk.injEq] at tg
    cases hz : i0.zero with
    | none=>rw [hz] at tg;cases tg.2.2
    | some z=>
      rw [hz] at tg
      simp only [Option.map_some,Option.some.injEq] at tg
      have hb : s.boxes.length=0:=by
        have : ∀ a,hX 32 args s=some a→s.boxes = []:=fun a h=>by
          unfold hX at h
          split at h
          · assumption
          · cases h
        rw [this _ h];rfl
      rw [hb]
      exact xH Tryd.lays8n4 hi hz (by omega) (by omega) tg.2.1 h hf hl hr (g:=true) (eb:=32) ⟨rfl,rfl,by rw [tg.1]⟩
end Go.Proofs.YtjgleeamiclokaaDoor
namespace Go.Proofs.YtjgleeamiclokaaDoor
open Go
theorem uG : ∀ (l : List Nat),(l.map fun t=>(Tryd.prog.info? t).bind (·.zero))=(l.map fun t=>some (zeroVal T t))→∀ t,mem t l=true→(Tryd.prog.info? t).bind (·.zero)=some (zeroVal T t)
  | [],_,t,h=>by simp [mem] at h
  | x::r,h,t,hm=>by
    simp only [List.map_cons,List.cons.injEq] at h
    unfold mem at hm
    split at hm
    · rename_i hx
      rw [aY hx];exact h.1
    · exact uG r h.2 t hm
theorem hyp : Hyp Tryd.prog T aZ where
  tab:=aCv.symm
  zero:=fun t h=>by
    rw [aCv]
    exact uG aBG aFE t h
  mixed:=aB8
  code:=fun f fn c hf hc=>by
    have h:=uF
    rw [List.all_eq_true] at h
    have:=h fn (by rw [← Array.getElem?_toList] at hf;exact List.mem_of_getElem? hf)
    rw [hc] at this
    simp only [Bool.and_eq_true,bne_iff_ne,ne_eq] at this
    exact this
  prim:=aEb
  primS:=aB9
  glob:=fun _=>rfl
  wf:=fun g t h=>by
    obtain ⟨p,hp,rfl⟩:=aAa h
    have:=aFO
    rw [List.all_eq_true] at this
    exact this p hp
end Go.Proofs.YtjgleeamiclokaaDoor
namespace Go.Proofs.YtjgleeamiclokaaDoor
open Go Go.IntWalk
def Ok (P : R→Prop) (o : Option R) : Prop:=∃ r,o=some r∧P r
section
variable {P Q : R → Prop}
theorem Ok.eq {r : R} {o : Option R} (h : Ok (fun x=>x=r) o) : o=some r:=by
  obtain ⟨x,h1,rfl⟩:=h
  exact h1
theorem Ok.of {r : R} {o : Option R} (h : o=some r) : Ok (fun x=>x=r) o:=⟨r,h,rfl⟩
theorem Ok.mono {o : Option R} (h : Ok Q o) (hq : ∀ r,Q r→P r) : Ok P o:=by
  obtain ⟨x,h1,h2⟩:=h
  exact ⟨x,h1,hq x h2⟩
theorem aA {r : R} (h : P r) : Ok P (some r):=⟨r,rfl,h⟩
theorem cH {α : Type} {o : Option α} {k : α→Option R} (a : α) (h : o=some a) (hk : Ok P (k a)) : Ok P (bd o k):=by rw [h];exact hk
theorem aH {o : Option R} {k : R→Option R} (h : Ok Q o) (hk : ∀ r,Q r→Ok P (k r)) : Ok P (bd o k):=by
  obtain ⟨r,h1,h2⟩:=h
  rw [h1]
  exact hk r h2
theorem aC {p : Prop} [Decidable p] {x y : Option R} (h1 : p→Ok P x) (h2 : ¬ p→Ok P y) : Ok P (PV.ite (.bool (decide p)) x y):=by
  by_cases h : p
  · rw [decide_eq_true h];exact h1 h
  · rw [decide_eq_false h];exact h2 h
theorem bJ {p : Prop} [Decidable p] {x y : Option R} (h1 : ¬ p→Ok P x) (h2 : p→Ok P y) : Ok P (PV.ite (.bool (!decide p)) x y):=by
  by_cases h : p
  · rw [decide_eq_true h];exact h2 h
  · rw [decide_eq_false h];exact h1 h
theorem bN {b : Bool} {x y : Option R} (h1 : b=true→Ok P x) (h2 : b=false→Ok P y) : Ok P (PV.ite (.bool b) x y):=by
  cases b
  · exact h2 rfl
  · exact h1 rfl
theorem aR {x y : Option R} (h1 : Ok P x) : Ok P (PV.ite (.bool true) x y):=h1
theorem bG {x y : Option R} (h1 : Ok P y) : Ok P (PV.ite (.bool false) x y):=h1
variable {k : PV → Option R} {kk : IntKind} {a b : Int}
theorem gV {op : BinOp} (h1 : op≠.shl) (h2 : op≠.shr) : PV.bin op (.int kk a) (.int kk b)=PV.intBin op kk a b:=by
  cases op<;>simp [PV.bin]<;>first | exact absurd rfl h1 | exact absurd rfl h2
theorem aS (h : Ok P (k (.bool (decide (a<b))))) : Ok P (bd (PV.bin .lss (.int kk a) (.int kk b)) k):=cH _ (by rw [gV (by simp) (by simp)];rfl) h
theorem nB (h : Ok P (k (.bool (decide (a≤b))))) : Ok P (bd (PV.bin .leq (.int kk a) (.int kk b)) k):=cH _ (by rw [gV (by simp) (by simp)];rfl) h
theorem oK (h : Ok P (k (.bool (decide (b<a))))) : Ok P (bd (PV.bin .gtr (.int kk a) (.int kk b)) k):=cH _ (by rw [gV (by simp) (by simp)];rfl) h
theorem qF (h : Ok P (k (.bool (decide (b≤a))))) : Ok P (bd (PV.bin .geq (.int kk a) (.int kk b)) k):=cH _ (by rw [gV (by simp) (by simp)];rfl) h
theorem aE (h : Ok P (k (.bool (decide (a=b))))) : Ok P (bd (PV.bin .eql (.int kk a) (.int kk b)) k):=cH _ (by rw [gV (by simp) (by simp)];rfl) h
theorem dU (h : Ok P (k (.bool (!decide (a=b))))) : Ok P (bd (PV.bin .neq (.int kk a) (.int kk b)) k):=cH _ (by rw [gV (by simp) (by simp)];rfl) h
theorem bC (hr : -9223372036854775808≤a+b∧a+b≤9223372036854775807) (h : Ok P (k (.int .i64 (a+b)))) : Ok P (bd (PV.bin .add (.int .i64 a) (.int .i64 b)) k):=
  cH _ (by rw [gV (by simp) (by simp)];simp only [PV.intBin];rw [i64_in _ hr]) h
theorem nC (hr : -9223372036854775808≤a - b∧a - b≤9223372036854775807) (h : Ok P (k (.int .i64 (a - b)))) : Ok P (bd (PV.bin .sub (.int .i64 a) (.int .i64 b)) k):=
  cH _ (by rw [gV (by simp) (by simp)];simp only [PV.intBin];rw [i64_in _ hr]) h
theorem aCa (hr : -9223372036854775808≤a*b∧a*b≤9223372036854775807) (h : Ok P (k (.int .i64 (a*b)))) : Ok P (bd (PV.bin .mul (.int .i64 a) (.int .i64 b)) k):=
  cH _ (by rw [gV (by simp) (by simp)];simp only [PV.intBin];rw [i64_in _ hr]) h
theorem aCb (h0 : 0≤a) (hb : 0<b) (h : Ok P (k (.int kk (a % b)))) : Ok P (bd (PV.bin .rem (.int kk a) (.int kk b)) k):=
  cH _ (by rw [gV (by simp) (by simp)];simp only [PV.intBin];rw [if_neg (by omega),Int.tmod_eq_emod_of_nonneg h0]) h
theorem eA {x : Bool} (h : Ok P (k (.bool (!x)))) : Ok P (bd (PV.not (.bool x)) k):=h
theorem eF {x y : Bool} (h : Ok P (k (.bool (x==y)))) : Ok P (bd (PV.beq .eql (.bool x) (.bool y)) k):=h
theorem lN {xs : List PV} (h : Ok P (k (.int .i64 xs.length))) : Ok P (bd (PV.len (.lst xs)) k):=h
theorem rF {s : ByteArray} (h : Ok P (k (.int .i64 s.size))) : Ok P (bd (PV.slen (.str s)) k):=h
theorem aEc (hr : -9223372036854775808≤a∧a≤9223372036854775807) (h : Ok P (k (.int .i64 a))) : Ok P (bd (PV.conv .i64 (.int kk a)) k):=cH _ (by simp only [PV.conv];rw [i64_in _ hr]) h
theorem aGv {s : Nat} {g : Bool} {xs : List PV} {i : Int} (h0 : 0≤i) (h1 : i<xs.length) (he : ∀ x∈xs,x.isEl s g=true) : ∃ x,x∈xs∧xs[i.toNat]? = some x∧PV.at_ s g (.lst xs) (.int kk i)=some x:=by
  have hlt : i.toNat<xs.length:=by omega
  refine ⟨xs[i.toNat],List.getElem_mem _,List.getElem?_eq_getElem hlt,?_⟩
  simp only [PV.at_]
  rw [if_pos h0,List.getElem?_eq_getElem hlt]
  simp only
  rw [if_pos (he _ (List.getElem_mem _))]
theorem aC9 {s : Nat} {g : Bool} {xs : List PV} {i : Int} (h0 : 0≤i) (h1 : i<xs.length) (he : ∀ x∈xs,x.isEl s g=true) (h : ∀ x,x∈xs→xs[i.toNat]? = some x→Ok P (k x)) :
    Ok P (bd (PV.at_ s g (.lst xs) (.int kk i)) k):=by
  obtain ⟨x,h2,h3,h4⟩:=aGv (kk:=kk) h0 h1 he
  exact cH x h4 (h x h2 h3)
theorem nD {xs : List PV} {i : Int} (h0 : 0≤i) (h1 : i<xs.length) (h : Ok P (k (.lst xs))) : Ok P (bd (PV.inb (.lst xs) (.int kk i)) k):=
  cH _ (by simp only [PV.inb];rw [if_pos ⟨h0,h1⟩]) h
theorem iZ {s e : Nat} {g : Bool} {xs ys : List PV} (hb : (xs.length+ys.length)*e≤140737488355328) (he : ∀ x∈ys,x.isEl s g=true) (h : Ok P (k (.lst (xs++ys)))) : Ok P (bd (PV.cat s e g (.lst xs) (.lst ys)) k):=
  cH _ (by
    simp only [PV.cat,PV.elems]
    rw [if_pos ⟨hb,List.all_eq_true.2 he⟩]) h
theorem vO {s : Nat} {g : Bool} {xs : List PV} {m n : Int} {k1 k2 : IntKind} (h0 : 0≤m) (h1 : m≤n) (h2 : n≤xs.length) (he : ∀ x∈xs,x.isEl s g=true) (h : Ok P (k (.lst ((xs.take n.toNat).drop m.toNat)))) :
    Ok P (bd (PV.cut s g (.lst xs) (.int k1 m) (.int k2 n)) k):=
  cH _ (by
    have hh : PV.headIs s g xs=true:=by
      cases xs with
      | nil=>rfl
      | cons x r=>exact he x List.mem_cons_self
    simp only [PV.cut,hh,if_true,PV.bound]
    rw [if_pos ⟨by omega,h2⟩,Option.bind_some,if_pos ⟨h0,by omega⟩,Option.bind_some]) h
theorem lO {s : Nat} {xs cs : List PV} {i : Int} {off : Nat} {v : PV} (h0 : 0≤i) (hx : xs[i.toNat]? = some (.agg cs)) (hc : cs.length=s) (ho : off<s) (hv : v.isEl 1 false=true) (h : Ok P (k (.lst (xs.set i.toNat (.agg (cs.set off v)))))) :
    Ok P (bd (PV.setCell s (.lst xs) (.int kk i) off v) k):=
  cH _ (by
    simp only [PV.setCell]
    rw [if_pos h0,hx]
    simp only
    rw [if_pos ⟨hc,ho,hv⟩]) h
theorem aDa {s : Nat} {g : Bool} {xs : List PV} {i : Int} {v : PV} (h0 : 0≤i) (h1 : i<xs.length) (hv : v.isEl s g=true) (h : Ok P (k (.lst (xs.set i.toNat v)))) :
    Ok P (bd (PV.setAt s g (.lst xs) (.int kk i) v) k):=
  cH _ (by simp only [PV.setAt];rw [if_pos ⟨h0,h1,hv⟩]) h
theorem fB {x : PV} (hx : x.isEl 1 false=true) (h : Ok P (k x)) : Ok P (bd (PV.one x) k):=cH x (by simp only [PV.one];rw [if_pos hx]) h
theorem aB {cs : List PV} {j : Nat} {y : PV} (hy : cs[j]? = some y) (h : Ok P (k y)) : Ok P (bd (PV.cell (.agg cs) j) k):=cH y hy h
theorem cF {cs : List PV} {j : Nat} {y : PV} (hy : cs[j]? = some y) (h : Ok P (k y)) : Ok P (bd (PV.comp (.tup cs) j) k):=cH y hy h
theorem aG {cs : List PV} {n : Nat} (hy : cs.length=n) (h : Ok P (k (.agg cs))) : Ok P (bd (PV.whole n (.agg cs)) k):=cH _ (by simp only [PV.whole];rw [if_pos (by rw [hy];exact Nat.beq_refl n)]) h
theorem cA {r : PV} {o : Option R} (hf : r.flat=true) (h : Ok P o) : Ok P (PV.guardFlat r o):=by
  unfold PV.guardFlat;rw [if_pos hf];exact h
theorem eZ {t : OTy} {r : PV} {o : Option R} (hf : PV.flatO t r=true) (h : Ok P o) : Ok P (PV.guardOwn t r o):=by
  unfold PV.guardOwn;rw [if_pos hf];exact h
theorem jA {C : Nat→List PV→Option R} {kr : R→Option R} {f : Nat} {caps args : List PV} {o : Option R} (e : C f (args++caps)=o) (h : Ok Q o) (hk : ∀ r,Q r→Ok P (kr r)) : Ok P (bd (PV.apply C (.fn f caps) args) kr):=by
  refine aH (Q:=Q) ?_ hk
  show Ok Q (C f (args++caps))
  rw [e]
  exact h
theorem fC {cs : List PV} {j : Nat} {y : PV} (hy : cs[j]? = some y) (h : Ok P (k y)) : Ok P (bd (PV.deref (.bx cs) j) k):=cH y hy h
theorem aAb : ∀ l : List Int,(l.map (PV.int .u8)).mapM PV.byteOf=some (l.map fun x=>UInt8.ofNat x.toNat)
  | []=>rfl
  | x::r=>by
    rw [List.map_cons,List.mapM_cons,aAb r]
    rfl
def bW (l : List Int) : PV:=.lst (l.map (PV.int .u8))
theorem aFR {l : List Int} : ∀ x∈l.map (PV.int .u8),x.isEl 1 false=true:=by
  intro x hx
  obtain ⟨a,_,rfl⟩:=List.mem_map.1 hx
  rfl
theorem eR {l : List Int} (h : Ok P (k (.int .i64 l.length))) : Ok P (bd (PV.len (bW l)) k):=by
  refine cH _ ?_ h
  show some (PV.int .i64 ((l.map (PV.int .u8)).length : Int))=_
  rw [List.length_map]
theorem aFh {s : ByteArray} (h : Ok P (k (.bool false))) : Ok P (bd (PV.bin .neq (.str s) (.str s)) k):=cH _ (by simp [PV.bin,PV.strBin]) h
theorem aFS {l : List Int} (h : Ok P (k (.str ⟨(l.map fun x=>UInt8.ofNat x.toNat).toArray⟩))) : Ok P (bd (PV.toStr (bW l)) k):=
  cH _ (by
    show PV.toStr (.lst (l.map (PV.int .u8)))=_
    simp only [PV.toStr]
    rw [aAb]
    rfl) h
theorem aEG {s e : Nat} {g : Bool} {ys : List PV} (hb : ys.length*e≤140737488355328) (he : ∀ x∈ys,x.isEl s g=true) (h : Ok P (k (.lst ys))) : Ok P (bd (PV.cat s e g (.lst []) (.lst ys)) k):=
  iZ (by simpa using hb) he h
theorem xJ {l : List Int} {i : Int} (h0 : 0≤i) (h1 : i<l.length) (h : ∀ x,x∈l→l[i.toNat]? = some x→Ok P (k (.int .u8 x))) : Ok P (bd (PV.at_ 1 false (bW l) (.int kk i)) k):=by
  refine aC9 h0 (by rw [List.length_map];exact h1) aFR (fun x hx hi=>?_)
  rw [List.getElem?_map] at hi
  cases hl : l[i.toNat]? with
  | none=>rw [hl] at hi;cases hi
  | some y=>
    rw [hl] at hi
    cases hi
    exact h y (List.mem_of_getElem? hl) hl
theorem aDb {xs : List PV} (h : Ok P (k (.lst xs))) : Ok P (bd (PV.isLst (.lst xs)) k):=h
theorem aDc {q : IntKind} {n : Int} (h : Ok P (k (.int q n))) : Ok P (bd (PV.isInt (.int q n)) k):=h
theorem aCc {s : Nat} {g : Bool} {xs : List PV} {i : Int} {x : PV} (h0 : 0≤i) (hx : xs[i.toNat]? = some x) (he : x.isEl s g=true) (h : Ok P (k x)) : Ok P (bd (PV.at_ s g (.lst xs) (.int kk i)) k):=
  cH x (by simp only [PV.at_];rw [if_pos h0,hx];simp only;rw [if_pos he]) h
theorem aEH {cs : List PV} {i : Int} {n : Nat} {x : PV} (h0 : 0≤i∧i<n∧cs.length=n) (hx : cs[i.toNat]? = some x) (he : x.isEl 1 false=true) (h : Ok P (k x)) : Ok P (bd (PV.ix n (.agg cs) (.int kk i)) k):=
  cH x (by simp only [PV.ix];rw [if_pos h0,hx];simp only;rw [if_pos he]) h
end
theorem aEI {xs : List PV} {r : R} {x y : Option R} (hx : xs = []→Ok (fun q=>q=r) x) (hy : Ok (fun q=>q=r) y) : Ok (fun q=>q=r) (PV.nilT (.lst xs) x y):=by
  cases xs with
  | nil=>
    have h1:=(hx rfl).eq
    have h2:=hy.eq
    refine ⟨r,?_,rfl⟩
    show @_root_.ite _ (x=y) (Classical.propDecidable _) x none=some r
    rw [h1,h2,if_pos rfl]
  | cons a l=>exact hy
end Go.Proofs.YtjgleeamiclokaaDoor
namespace Go.Proofs.YtjgleeamiclokaaDoor
open Go Go.ChangeShapes Go.WideShapes Go.ChangeAt Go.RowKit
def uH (w : World) (a : Option Addr) (len cap : Nat) (zs : List Int) : Prop:=
  (a=none∧len=0∧cap=0∧zs = [])∨
  ∃ x,a=some x∧len≤cap∧cap≤maxLen∧zs.length=cap∧(∀ i,i<zs.length→w.cell? (x.add i)=some (.int .u8 (zs.getD i 0)))∧∀ n∈zs,(Lit.int .u8 n).wf=true
theorem cell_inv {w : World} {a : Addr} {v : Value} (h : w.cell? a=some v) : a.spot=none∧∃ c e fz,w.heap[a.block]? = some (.cells c e fz)∧c[a.off]? = some v:=by
  unfold World.cell? at h
  split at h
  · rename_i c e fz hc
    split at h
    · cases h
    · rename_i hs
      exact ⟨by simpa using hs,c,e,fz,hc,h⟩
  · cases h
theorem uH.rep {w : World} {a : Option Addr} {len cap : Nat} {zs : List Int} (h : uH w a len cap zs) : dZ w (fun r=>r<w.heap.size) (bW (zs.take len)) (.slice a len cap):=by
  rcases h with ⟨rfl,rfl,rfl,rfl⟩ | ⟨x,rfl,hl,_,hz,hc,_⟩
  · exact .empty none 0
  · by_cases h0 : len=0
    · subst h0;exact .empty _ cap
    · have hlen : ((zs.take len).map (PV.int .u8)).length=len:=by simp;omega
      obtain ⟨hsp,c,e,fz,hh,hc0⟩:=cell_inv (hc 0 (by omega))
      have hx : x=⟨x.block,x.off,none⟩:=by
        have : x.spot=none:=by
          have h1 : (x.add 0).spot=none:=hsp
          unfold Addr.add at h1
          split at h1<;>simp_all
        cases x;simp_all
      rw [hx] at hc ⊢
      have hb : (x.add 0).block=x.block:=by unfold Addr.add;split<;>rfl
      rw [hb] at hh
      have:=dZ.lst (w:=w) (Z:=fun r=>r<w.heap.size) ((zs.take len).map (PV.int .u8)) x.block x.off 1 cap false c e fz (fun i _=>.int .u8 (zs.getD i 0)) (Array.getElem?_eq_some_iff.1 hh).1 hh (by omega) (by omega)
        (fun i y hy=>by
          rw [List.getElem?_map] at hy
          cases hi : (zs.take len)[i]? with
          | none=>rw [hi] at hy;cases hy
          | some q=>rw [hi] at hy;cases hy;rfl)
        (fun i j hi hj=>by
          have hj0 : j=0:=by omega
          subst hj0
          have h1:=hc i (by omega)
          rw [fA] at h1
          obtain ⟨_,c',e',fz',hh',hc'⟩:=cell_inv h1
          have hh' : w.heap[x.block]? = some (.cells c' e' fz'):=hh'
          rw [hh] at hh'
          cases hh'
          simpa using hc')
        (fun _ _ _ _=>trivial)
        (fun i j y hy hj=>by
          rw [List.getElem?_map] at hy
          cases hi : (zs.take len)[i]? with
          | none=>rw [hi] at hy;cases hy
          | some q=>
            rw [hi] at hy
            cases hy
            have hlt : i<(zs.take len).length:=(List.getElem?_eq_some_iff.1 hi).1
            have : zs.getD i 0=q:=by
              rw [List.getElem?_take] at hi
              split at hi
              · rw [List.getD,hi];rfl
              · cases hi
            rw [this]
            exact .int _ _)
      rw [hlen] at this
      exact this
theorem uH.wf {w : World} {a : Option Addr} {len cap : Nat} {zs : List Int} (h : uH w a len cap zs) : ∀ x∈zs.take len,(Lit.int .u8 x).wf=true:=by
  intro x hx
  rcases h with ⟨_,_,_,rfl⟩ | ⟨_,_,_,_,_,_,hw⟩
  · simp at hx
  · exact hw x (List.mem_of_mem_take hx)
theorem aEd (n : Nat) (args : List PV) (aJ : Array Value) (h : pcallO n args=some [.bool true]) {w : World} (gz : mU w fun r=>r<w.heap.size) (hl : args.length=aJ.size) (hr : ∀ (i : Nat) x v,args[i]? = some x→aJ[i]? = some v→dZ w (fun r=>r<w.heap.size) x v) :
    Calls Tryd.prog n aJ w fun e w'=>e = .returned (.bool true)∧Below w.heap.size w w':=by
  refine (xG hyp h (Z:=fun r=>r<w.heap.size) ⟨fun _ h=>h,gz⟩ hl hr).mono ?_
  rintro e w' ⟨v,rfl,Z',pe,hrep⟩
  have hrep : dZ w' Z' (.bool true) v:=hrep
  rw [hrep.bool_inv]
  exact ⟨rfl,pe.os,pe.tape,pe.output,pe.size,pe.old⟩
theorem aGY {l : List Int} (h : ∀ x∈l,(Lit.int .u8 x).wf=true) : ∀ x∈l,0≤x∧x≤255:=by
  intro x hx
  have:=h x hx
  have e1 : IntKind.min .u8=0:=rfl
  have e2 : IntKind.max .u8=255:=rfl
  simp only [Lit.wf,e1,e2,Bool.and_eq_true,decide_eq_true_eq] at this
  exact this
theorem own : ownKnob Tryd.prog.godebug=none:=by kernel_rfl
theorem aGw : laidOutB Tryd.prog=true:=by kernel_rfl
end Go.Proofs.YtjgleeamiclokaaDoor
namespace Go.Proofs.YtjgleeamiclokaaDoor
open Go
noncomputable def iD (x0 : PV) : Option R:=pcallO 3 [x0]
noncomputable def dI (x0 x1 x2 : PV) : Option R:=fM 3 0 0 (aZ.mode 3) (todoOf Tryd.prog 3 7) [(3,.p x0),(4,.ptr 0 0)] ⟨[(0,some [.ref 0 [],.ref 1 []])],[(0,some ⟨(.own 1 16 false []),x1⟩),(1,some ⟨(.own 3 40 true []),x2⟩)],0,0,3⟩
noncomputable def cX (x0 x1 x2 : PV) : Option R:=fM 3 0 0 (aZ.mode 3) (todoOf Tryd.prog 3 11) [(3,.p x0),(4,.ptr 0 0)] ⟨[(0,some [.ref 0 [],.ref 1 []])],[(0,some ⟨(.own 1 16 false []),x1⟩),(1,some ⟨(.own 3 40 true []),x2⟩)],0,0,3⟩
noncomputable def dP (x0 x1 x2 x3 : PV) : Option R:=fM 3 0 0 (aZ.mode 3) (todoOf Tryd.prog 3 19) [(3,.p x0),(4,.ptr 0 0),(5,.ref 2 [])] ⟨[(0,some [.ref 0 [],.ref 1 []])],[(0,some ⟨(.own 1 16 false []),x1⟩),(1,some ⟨(.own 3 40 true []),x2⟩),(2,some ⟨(.own 1 1 false []),x3⟩)],0,0,4⟩
noncomputable def lP (x0 : PV) : Option R:=pcallO 4 [x0]
noncomputable def gW (x0 x1 x2 : PV) : Option R:=pcallO 5 [x0,x1,x2]
noncomputable def eB (x0 x1 x2 x3 x4 : PV) : Option R:=fM 5 0 0 (aZ.mode 5) (todoOf Tryd.prog 5 5) [(0,.p x0),(1,.p x1),(2,.p x2),(7,.p x3),(8,.p x4)] ⟨[],[],0,0,0⟩
noncomputable def bY (x0 : PV) : Option R:=pcallO 6 [x0]
noncomputable def cM (x0 x1 x2 x3 x4 : PV) : Option R:=fM 6 0 0 (aZ.mode 6) (todoOf Tryd.prog 6 4) [(1,.ptr 0 0),(22,.p x0),(23,.p x1),(24,.p x2)] ⟨[(0,some [.p x3,.p x4])],[],0,0,1⟩
noncomputable def aN (x0 x1 x2 : PV) : Option R:=pcallO 8 [x0,x1,x2]
noncomputable def aW (x0 x1 : PV) : Option R:=pcallO 9 [x0,x1]
noncomputable def fR (x0 : PV) : Option R:=pcallO 10 [x0]
noncomputable def aQ (x0 x1 : PV) : Option R:=pcallO 12 [x0,x1]
noncomputable def fS (x0 x1 x2 : PV) : Option R:=pcallO 13 [x0,x1,x2]
noncomputable def bO (x0 x1 : PV) : Option R:=pcallO 17 [x0,x1]
noncomputable def aO (x0 x1 x2 x3 : PV) : Option R:=fM 17 0 0 (aZ.mode 17) (todoOf Tryd.prog 17 2) [(0,.p x0),(1,.p x1),(7,.p x2),(8,.p x3)] ⟨[],[],0,0,0⟩
noncomputable def eS (x0 : PV) : Option R:=pcallO 11 [x0]
noncomputable def cY (x0 x1 x2 : PV) : Option R:=fM 11 0 0 (aZ.mode 11) (todoOf Tryd.prog 11 2) [(0,.p x0),(5,.p x1),(6,.p x2)] ⟨[],[],0,0,0⟩
noncomputable def bK (x0 x1 : PV) : Option R:=pcallO 18 [x0,x1]
noncomputable def aM (x0 x1 x2 x3 : PV) : Option R:=fM 18 0 0 (aZ.mode 18) (todoOf Tryd.prog 18 2) [(0,.p x0),(1,.p x1),(7,.p x2),(8,.p x3)] ⟨[],[],0,0,0⟩
noncomputable def iN (x0 x1 x2 : PV) : Option R:=pcallO 14 [x0,x1,x2]
noncomputable def dV (x0 : PV) : Option R:=pcallO 19 [x0]
noncomputable def aP (x0 x1 : PV) : Option R:=pcallO 20 [x0,x1]
noncomputable def iE (x0 x1 x2 : PV) : Option R:=cL 7 [.p x0,.p x1,.p x2] ⟨[],[],0,0,0⟩
noncomputable def aDd (x0 x1 x2 : PV) : Option R:=cL 15 [.p x0,.p x1,.p x2,.p (.fn 16 [])] ⟨[],[],0,0,0⟩
noncomputable def mL (x0 x1 x2 x3 x4 x5 x6 x7 x8 x9 x10 x11 x12 x13 x14 x15 x16 x17 x18 x19 x20 x21 x22 x23 : PV) : Option R:=fM 15 0 0 (aZ.mode 15) (todoOf Tryd.prog 15 5) [(3,.p (.fn 16 [])),(4,.ptr 0 0),(8,.ptr 1 0),(10,.ptr 2 0),(26,.p x0),(27,.p x1)] ⟨[(0,some [.p x2,.p x3]),(1,some [.ref 0 [],.ref 1 [],.p x4,.ref 2 [],.p x5,.p x6,.p x7,.p x8,.p x9,.p x10]),(2,some [.ref 3 [],.ref 4 [],.p x11,.ref 5 [],.p x12,.p x13,.p x14,.p x15,.p x16,.p x17])],[(0,some ⟨(.own 4 64 true [.leaf,.leaf,(.own 3 32 true []),(.own 3 32 true [])]),x18⟩),(1,some ⟨(.own 1 24 true [(.own 3 32 true [])]),x19⟩),(2,some ⟨(.own 1 16 false []),x20⟩),(3,some ⟨(.own 4 64 true [.leaf,.leaf,(.own 3 32 true []),(.own 3 32 true [])]),x21⟩),(4,some ⟨(.own 1 24 true [(.own 3 32 true [])]),x22⟩),(5,some ⟨(.own 1 16 false []),x23⟩)],0,0,9⟩
noncomputable def aAc (x0 : PV) : Option R:=pcallO 16 [x0]
noncomputable def oL (x0 x1 : PV) : Option R:=cL 21 [.p x0,.p x1] ⟨[],[],0,0,0⟩
noncomputable def qG (x0 : PV) : Option R:=pcallO 24 [x0]
noncomputable def qH (x0 x1 : PV) : Option R:=pcallO 25 [x0,x1]
noncomputable def qI (x0 : PV) : Option R:=pcallO 31 [x0]
noncomputable def gE (x0 x1 x2 x3 x4 x5 x6 : PV) : Option R:=fM 31 0 0 (aZ.mode 31) (todoOf Tryd.prog 31 4) [(1,.ptr 0 0),(2,.ptr 1 0),(16,.p x0),(17,.p x1)] ⟨[(0,some [.p x2,.p x3]),(1,some [.p x4,.p x5,.p x6])],[],0,0,2⟩
noncomputable def gF (x0 x1 x2 x3 x4 x5 x6 x7 x8 x9 x10 x11 : PV) : Option R:=fM 31 0 0 (aZ.mode 31) (todoOf Tryd.prog 31 8) [(1,.ptr 0 0),(2,.ptr 1 0),(3,.p x0),(4,.ptr 2 0),(16,.p x1),(17,.p x2),(28,.p x3),(29,.p x4),(30,.p x5)] ⟨[(0,some [.p x6,.p x7]),(1,some [.p x8,.p x9,.p x10]),(2,some [.p x11])],[],0,0,3⟩
noncomputable def dA (x0 x1 : PV) : Option R:=pcallO 32 [x0,x1]
noncomputable def rY (x0 x1 : PV) : Option R:=pcallO 33 [x0,x1]
noncomputable def qJ (x0 x1 : PV) : Option R:=pcallO 47 [x0,x1]
noncomputable def gG (x0 x1 x2 x3 x4 : PV) : Option R:=fM 47 0 0 (aZ.mode 47) (todoOf Tryd.prog 47 5) [(2,.ptr 0 0),(5,.p x0),(6,.ref 0 []),(7,.p x1)] ⟨[(0,some [.p x2,.p x3])],[(0,some ⟨(.own 1 8 false []),x4⟩)],0,0,2⟩
noncomputable def eG (x0 x1 x2 x3 x4 x5 x6 x7 : PV) : Option R:=fM 47 0 0 (aZ.mode 47) (todoOf Tryd.prog 47 8) [(2,.ptr 0 0),(5,.p x0),(6,.ref 0 []),(7,.p x1),(27,.p x2),(28,.p x3),(29,.p x4)] ⟨[(0,some [.p x5,.p x6])],[(0,some ⟨(.own 1 8 false []),x7⟩)],0,0,2⟩
noncomputable def dB (x0 x1 x2 x3 x4 x5 x6 x7 x8 x9 x10 x11 x12 : PV) : Option R:=fM 47 0 0 (aZ.mode 47) (todoOf Tryd.prog 47 13) [(2,.ptr 0 0),(5,.p x0),(6,.ref 0 []),(7,.p x1),(10,.p x2),(11,.p x3),(27,.p x4),(28,.p x5),(29,.p x6),(51,.p x7),(52,.p x8),(53,.p x9)] ⟨[(0,some [.p x10,.p x11])],[(0,some ⟨(.own 1 8 false []),x12⟩)],0,0,2⟩
noncomputable def pG (x0 x1 x2 x3 x4 x5 x6 x7 x8 x9 x10 x11 x12 : PV) : Option R:=fM 47 0 0 (aZ.mode 47) (todoOf Tryd.prog 47 16) [(2,.ptr 0 0),(5,.p x0),(6,.ref 0 []),(10,.p x1),(11,.p x2),(13,.p x3),(27,.p x4),(28,.p x5),(29,.p x6),(51,.p x7),(52,.p x8),(53,.p x9)] ⟨[(0,some [.p x10,.p x11])],[(0,some ⟨(.own 1 8 false []),x12⟩)],0,0,2⟩
noncomputable def mM (x0 x1 x2 : PV) : Option R:=pcallO 48 [x0,x1,x2]
noncomputable def kU (x0 x1 : PV) : Option R:=pcallO 49 [x0,x1]
noncomputable def fD (x0 x1 : PV) : Option R:=pcallO 50 [x0,x1]
noncomputable def eC (x0 x1 : PV) : Option R:=pcallO 51 [x0,x1]
noncomputable def rZ (x0 x1 x2 : PV) : Option R:=pcallO 52 [x0,x1,x2]
noncomputable def dK (x0 x1 : PV) : Option R:=pcallO 53 [x0,x1]
noncomputable def bB (x0 x1 x2 x3 : PV) : Option R:=fM 53 0 0 (aZ.mode 53) (todoOf Tryd.prog 53 2) [(0,.p x0),(1,.p x1),(7,.p x2),(8,.p x3)] ⟨[],[],0,0,0⟩
noncomputable def oM (x0 x1 x2 : PV) : Option R:=pcallO 34 [x0,x1,x2]
noncomputable def mN (x0 x1 : PV) : Option R:=pcallO 37 [x0,x1]
noncomputable def iL (x0 x1 x2 x3 : PV) : Option R:=fM 37 0 0 (aZ.mode 37) (todoOf Tryd.prog 37 24) [(2,.ptr 0 0),(3,.ptr 1 0)] ⟨[(0,some [.p x0,.p x1]),(1,some [.p x2,.p x3])],[],0,0,2⟩
noncomputable def pH (x0 x1 x2 x3 : PV) : Option R:=fM 37 0 0 (aZ.mode 37) (todoOf Tryd.prog 37 25) [(2,.ptr 0 0),(3,.ptr 1 0)] ⟨[(0,some [.p x0,.p x1]),(1,some [.p x2,.p x3])],[],0,0,2⟩
noncomputable def gH (x0 x1 : PV) : Option R:=pcallO 62 [x0,x1]
noncomputable def dQ (x0 x1 x2 x3 : PV) : Option R:=fM 62 0 0 (aZ.mode 62) (todoOf Tryd.prog 62 2) [(0,.p x0),(1,.p x1),(7,.p x2),(8,.p x3)] ⟨[],[],0,0,0⟩
noncomputable def iF (x0 x1 : PV) : Option R:=pcallO 63 [x0,x1]
noncomputable def cU (x0 x1 x2 x3 : PV) : Option R:=fM 63 0 0 (aZ.mode 63) (todoOf Tryd.prog 63 2) [(0,.p x0),(1,.p x1),(7,.p x2),(8,.p x3)] ⟨[],[],0,0,0⟩
noncomputable def iG (x0 : PV) : Option R:=cL 23 [.p x0] ⟨[],[],0,0,0⟩
noncomputable def kV (x0 x1 x2 x3 x4 x5 x6 x7 x8 x9 x10 x11 : PV) : Option R:=cL 22 [.ptr 0 0,.agg [.p x0,.p x1]] ⟨[(0,some [.ref 0 [],.ref 1 [],.p x2,.ref 2 [],.p x3,.p x4,.p x5,.p x6,.p x7,.p x8])],[(0,some ⟨(.own 4 64 true [.leaf,.leaf,(.own 3 32 true []),(.own 3 32 true [])]),x9⟩),(1,some ⟨(.own 1 24 true [(.own 3 32 true [])]),x10⟩),(2,some ⟨(.own 1 16 false []),x11⟩)],0,0,4⟩
noncomputable def jB (x0 x1 x2 : PV) : Option R:=cL 26 [.p x0,.p x1,.p x2] ⟨[],[],0,0,0⟩
noncomputable def eJ (x0 x1 : PV) : Option R:=cL 61 [.p x0,.p x1] ⟨[],[],0,0,0⟩
noncomputable def iH (x0 x1 : PV) : Option R:=fM 61 0 0 (aZ.mode 61) (todoOf Tryd.prog 61 3) [(0,.p x0),(1,.p x1)] ⟨[],[],0,0,0⟩
noncomputable def iI (x0 x1 : PV) : Option R:=fM 61 0 0 (aZ.mode 61) (todoOf Tryd.prog 61 6) [(0,.p x0),(6,.p x1)] ⟨[],[],0,0,0⟩
noncomputable def dJ (x0 x1 : PV) : Option R:=fM 61 0 0 (aZ.mode 61) (todoOf Tryd.prog 61 8) [(7,.ref 0 []),(8,.p x0)] ⟨[],[(0,some ⟨(.own 1 8 false []),x1⟩)],0,0,1⟩
noncomputable def sA (x0 x1 : PV) : Option R:=pcallO 72 [x0,x1]
noncomputable def pI (x0 x1 : PV) : Option R:=pcallO 76 [x0,x1]
noncomputable def iM (x0 : PV) : Option R:=cL 28 [.p x0] ⟨[],[],0,0,0⟩
noncomputable def fO (x0 x1 x2 x3 : PV) : Option R:=fM 28 0 0 (aZ.mode 28) (todoOf Tryd.prog 28 3) [(3,.ref 0 []),(7,.p x0),(8,.p x1),(9,.p x2)] ⟨[],[(0,some ⟨(.own 4 64 true [.leaf,.leaf,(.own 3 32 true []),(.own 3 32 true [])]),x3⟩)],0,0,1⟩
noncomputable def jW (x0 : PV) : Option R:=cL 29 [.p x0] ⟨[],[],0,0,0⟩
noncomputable def gX (x0 x1 x2 x3 : PV) : Option R:=fM 29 0 0 (aZ.mode 29) (todoOf Tryd.prog 29 3) [(3,.ref 0 []),(7,.p x0),(8,.p x1),(9,.p x2)] ⟨[],[(0,some ⟨(.own 1 24 true [(.own 3 32 true [])]),x3⟩)],0,0,1⟩
noncomputable def cZ (x0 : PV) : Option R:=cL 30 [.p x0] ⟨[],[],0,0,0⟩
noncomputable def oN (x0 x1 x2 x3 x4 x5 x6 x7 x8 x9 x10 x11 : PV) : Option R:=cL 27 [.ptr 0 0,.agg [.p x0,.p x1]] ⟨[(0,some [.ref 0 [],.ref 1 [],.p x2,.ref 2 [],.p x3,.p x4,.p x5,.p x6,.p x7,.p x8])],[(0,some ⟨(.own 4 64 true [.leaf,.leaf,(.own 3 32 true []),(.own 3 32 true [])]),x9⟩),(1,some ⟨(.own 1 24 true [(.own 3 32 true [])]),x10⟩),(2,some ⟨(.own 1 16 false []),x11⟩)],0,0,4⟩
noncomputable def fE (x0 x1 x2 x3 x4 x5 x6 x7 x8 x9 x10 x11 x12 x13 x14 x15 x16 : PV) : Option R:=fM 27 1 0 (aZ.mode 27) (todoOf Tryd.prog 27 74) [(0,.ptr 0 0),(3,.ptr 1 0),(5,.eptr 0 [] x0 0),(9,.p x1),(10,.ref 3 []),(12,.p x2),(21,.p x3)] ⟨[(0,some [.ref 0 [],.ref 1 [],.p x4,.ref 2 [],.p x5,.p x6,.p x7,.p x8,.p x9,.p x10]),(1,some [.p x11,.p x12])],[(0,some ⟨(.own 4 64 true [.leaf,.leaf,(.own 3 32 true []),(.own 3 32 true [])]),x13⟩),(1,some ⟨(.own 1 24 true [(.own 3 32 true [])]),x14⟩),(2,some ⟨(.own 1 16 false []),x15⟩),(3,some ⟨(.own 3 32 true []),x16⟩)],0,0,6⟩
noncomputable def oO (x0 : PV) : Option R:=pcallO 39 [x0]
noncomputable def gI (x0 : PV) : Option R:=pcallO 40 [x0]
noncomputable def eM (x0 : PV) : Option R:=pcallO 41 [x0]
noncomputable def qK (x0 x1 : PV) : Option R:=pcallO 42 [x0,x1]
noncomputable def sS (x0 : PV) : Option R:=pcallO 43 [x0]
noncomputable def lQ (x0 x1 : PV) : Option R:=pcallO 46 [x0,x1]
noncomputable def sT (x0 x1 : PV) : Option R:=pcallO 55 [x0,x1]
noncomputable def sU (x0 x1 : PV) : Option R:=pcallO 56 [x0,x1]
noncomputable def sV (x0 x1 : PV) : Option R:=pcallO 57 [x0,x1]
noncomputable def qL (x0 x1 : PV) : Option R:=pcallO 58 [x0,x1]
noncomputable def strconv_Itoa (x0 : PV) : Option R:=pcallO 59 [x0]
noncomputable def iO (x0 : PV) : Option R:=pcallO 60 [x0]
noncomputable def lF (x0 x1 x2 : PV) : Option R:=pcallO 64 [x0,x1,x2]
noncomputable def jC (x0 x1 x2 : PV) : Option R:=pcallO 65 [x0,x1,x2]
noncomputable def oP (x0 x1 : PV) : Option R:=pcallO 66 [x0,x1]
noncomputable def oQ (x0 x1 : PV) : Option R:=pcallO 67 [x0,x1]
noncomputable def oR (x0 x1 : PV) : Option R:=pcallO 68 [x0,x1]
noncomputable def kJ (x0 x1 : PV) : Option R:=pcallO 69 [x0,x1]
noncomputable def fY (x0 : PV) : Option R:=pcallO 71 [x0]
noncomputable def gY (x0 : PV) : Option R:=pcallO 73 [x0]
noncomputable def nQ (x0 : PV) : Option R:=cL 36 [.p x0] ⟨[],[],0,0,0⟩
noncomputable def bP (x0 : PV) : Option R:=cL 35 [.p x0] ⟨[],[],0,0,0⟩
noncomputable def aV (x0 x1 x2 x3 x4 : PV) : Option R:=fM 35 0 0 (aZ.mode 35) (todoOf Tryd.prog 35 3) [(0,.p x0),(3,.p x1),(9,.p x2),(10,.p x3),(11,.p x4)] ⟨[],[],0,0,0⟩
noncomputable def aT (x0 x1 x2 x3 : PV) : Option R:=fM 35 0 0 (aZ.mode 35) (todoOf Tryd.prog 35 11) [(6,.ref 0 []),(25,.p x0),(26,.p x1),(27,.p x2)] ⟨[],[(0,some ⟨(.own 3 32 true []),x3⟩)],0,0,1⟩
noncomputable def aU (x0 : PV) : Option R:=cL 38 [.p x0] ⟨[],[],0,0,0⟩
noncomputable def iJ (x0 x1 x2 x3 x4 x5 x6 x7 x8 x9 x10 x11 : PV) : Option R:=cL 44 [.ptr 0 0,.p x0,.p x1] ⟨[(0,some [.ref 0 [],.ref 1 [],.p x2,.ref 2 [],.p x3,.p x4,.p x5,.p x6,.p x7,.p x8])],[(0,some ⟨(.own 4 64 true [.leaf,.leaf,(.own 3 32 true []),(.own 3 32 true [])]),x9⟩),(1,some ⟨(.own 1 24 true [(.own 3 32 true [])]),x10⟩),(2,some ⟨(.own 1 16 false []),x11⟩)],0,0,4⟩
noncomputable def jD (x0 x1 x2 x3 x4 x5 x6 x7 x8 x9 x10 : PV) : Option R:=cL 45 [.ptr 0 0,.p x0] ⟨[(0,some [.ref 0 [],.ref 1 [],.p x1,.ref 2 [],.p x2,.p x3,.p x4,.p x5,.p x6,.p x7])],[(0,some ⟨(.own 4 64 true [.leaf,.leaf,(.own 3 32 true []),(.own 3 32 true [])]),x8⟩),(1,some ⟨(.own 1 24 true [(.own 3 32 true [])]),x9⟩),(2,some ⟨(.own 1 16 false []),x10⟩)],0,0,4⟩
noncomputable def bX (x0 : PV) : Option R:=cL 54 [.nils,.p x0] ⟨[],[],0,0,0⟩
end Go.Proofs.YtjgleeamiclokaaDoor
namespace Go.Proofs.YtjgleeamiclokaaDoor
open Go
theorem jO (x0 : PV) : iD x0 =
 bd (lP x0) fun r0=>
 PV.ite (hd r0)
 (some [.bool true])
 (bd (gW x0 (.int .i64 1) (.int .i64 2)) fun r1=>
 bd (gW x0 (.int .i64 0) (.int .i64 7)) fun r2=>
 bd (PV.bin .eql (hd r2) (.int .i64 0)) fun v3=>
 PV.ite v3
 (dI (hd r1) (.lst []) (.lst [(.agg [(.int .i64 0),(.int .i64 0),(.lst [(.agg [(.int .i64 4),(.int .i64 0)]),(.agg [(.int .i64 25),(.int .i64 0)])])])]))
 (bd (PV.bin .eql (hd r2) (.int .i64 1)) fun v4=>
 PV.ite v4
 (cX (hd r1) (.lst []) (.lst [(.agg [(.int .i64 0),(.int .i64 0),(.lst [(.agg [(.int .i64 4),(.int .i64 0)]),(.agg [(.int .i64 25),(.int .i64 0)])])])]))
 (bd (PV.bin .eql (hd r2) (.int .i64 2)) fun v5=>
 PV.ite v5
 (bd (PV.bin .add (.int .i64 12) (hd r1)) fun v6=>
 bd (PV.one v6) fun v7=>
 bd (PV.setCell 3 (.lst [(.agg [(.int .i64 0),(.int .i64 0),(.lst [(.agg [(.int .i64 4),(.int .i64 0)]),(.agg [(.int .i64 25),(.int .i64 0)])])])]) (.int .i64 0) 1 v7) fun v8=>
 bd (bY (.agg [(.lst []),v8])) fun r9=>
 PV.guardFlat (hd r9) (
 bd (PV.bin .eql (hd r1) (.int .i64 0)) fun v10=>
 bd (PV.beq .eql (hd r9) v10) fun v11=>
 some [v11]))
 (bd (PV.bin .eql (hd r2) (.int .i64 3)) fun v12=>
 PV.ite v12
 (dP (hd r1) (.lst []) (.lst [(.agg [(.int .i64 0),(.int .i64 0),(.lst [(.agg [(.int .i64 4),(.int .i64 0)]),(.agg [(.int .i64 25),(.int .i64 0)])])])]) (.lst []))
 (bd (PV.bin .eql (hd r2) (.int .i64 4)) fun v13=>
 PV.ite v13
 (bd (PV.bin .add (.int .i64 23) (hd r1)) fun v14=>
 bd (iE (.agg [(.lst []),(.lst [(.agg [(.int .i64 0),(.int .i64 0),(.lst [(.agg [(.int .i64 24),(.int .i64 0)]),(.agg [(.int .i64 25),(.int .i64 0)])])])])]) (.lst []) v14) fun r15=>
 PV.guardFlat (gd r15 0) (
 PV.guardFlat (gd r15 1) (
 PV.guardFlat (gd r15 2) (
 PV.guardFlat (gd r15 3) (
 PV.guardFlat (gd r15 4) (
 PV.guardFlat (gd r15 5) (
 PV.guardFlat (gd r15 6) (
 PV.guardOwn (.own 4 64 true [.leaf,.leaf,(.own 3 32 true []),(.own 3 32 true [])]) (gd r15 7) (
 PV.guardOwn (.own 1 24 true [(.own 3 32 true [])]) (gd r15 8) (
 PV.guardOwn (.own 1 16 false []) (gd r15 9) (
 bd (PV.bin .eql (gd r15 1) (.int .i64 2)) fun v16=>
 bd (PV.bin .eql (hd r1) (.int .i64 1)) fun v17=>
 bd (PV.beq .eql v16 v17) fun v18=>
 PV.ite v18
 (bd (PV.len (gd r15 7)) fun v19=>
 bd (PV.bin .eql v19 (.int .i64 24)) fun v20=>
 PV.ite v20
 (bd (PV.bin .eql (hd r1) (.int .i64 0)) fun v21=>
 PV.ite v21
 (some [.bool true])
 (bd (PV.bin .eql (gd r15 2) (.int .i64 6)) fun v22=>
 some [v22]))
 (some [.bool false]))
 (some [.bool false]))))))))))))
 (bd (PV.bin .eql (hd r2) (.int .i64 5)) fun v23=>
 PV.ite v23
 (bd (PV.bin .add (.int .i64 360) (hd r1)) fun v24=>
 bd (iE (.agg [(.lst []),(.lst [(.agg [(.int .i64 0),(.int .i64 0),(.lst [(.agg [(.int .i64 20),(.int .i64 2)]),(.agg [(.int .i64 9),(.int .i64 0)]),(.agg [(.int .i64 17),(.int .i64 0)])])])])]) (.lst []) v24) fun r25=>
 PV.guardFlat (gd r25 0) (
 PV.guardFlat (gd r25 1) (
 PV.guardFlat (gd r25 2) (
 PV.guardFlat (gd r25 3) (
 PV.guardFlat (gd r25 4) (
 PV.guardFlat (gd r25 5) (
 PV.guardFlat (gd r25 6) (
 PV.guardOwn (.own 4 64 true [.leaf,.leaf,(.own 3 32 true []),(.own 3 32 true [])]) (gd r25 7) (
 PV.guardOwn (.own 1 24 true [(.own 3 32 true [])]) (gd r25 8) (
 PV.guardOwn (.own 1 16 false []) (gd r25 9) (
 bd (PV.bin .eql (gd r25 0) (.int .i64 120)) fun v26=>
 PV.ite v26
 (bd (PV.bin .eql (gd r25 2) (.int .i64 7)) fun v27=>
 bd (PV.bin .eql (hd r1) (.int .i64 1)) fun v28=>
 bd (PV.beq .eql v27 v28) fun v29=>
 some [v29])
 (some [.bool false]))))))))))))
 (bd (PV.bin .mul (.int .i64 2) (hd r1)) fun v30=>
 bd (PV.bin .add (.int .i64 600) v30) fun v31=>
 bd (iE (.agg [(.lst []),(.lst [(.agg [(.int .i64 0),(.int .i64 0),(.lst [(.agg [(.int .i64 4),(.int .i64 0)]),(.agg [(.int .i64 26),(.int .i64 0)]),(.agg [(.int .i64 17),(.int .i64 0)])])])])]) (.lst []) v31) fun r32=>
 PV.guardFlat (gd r32 0) (
 PV.guardFlat (gd r32 1) (
 PV.guardFlat (gd r32 2) (
 PV.guardFlat (gd r32 3) (
 PV.guardFlat (gd r32 4) (
 PV.guardFlat (gd r32 5) (
 PV.guardFlat (gd r32 6) (
 PV.guardOwn (.own 4 64 true [.leaf,.leaf,(.own 3 32 true []),(.own 3 32 true [])]) (gd r32 7) (
 PV.guardOwn (.own 1 24 true [(.own 3 32 true [])]) (gd r32 8) (
 PV.guardOwn (.own 1 16 false []) (gd r32 9) (
 bd (PV.len (gd r32 9)) fun v33=>
 bd (PV.bin .eql v33 (.int .i64 200)) fun v34=>
 PV.ite v34
 (bd (PV.bin .eql (gd r32 2) (.int .i64 8)) fun v35=>
 bd (PV.bin .eql (hd r1) (.int .i64 1)) fun v36=>
 bd (PV.beq .eql v35 v36) fun v37=>
 some [v37])
 (some [.bool false])))))))))))))))))):=aL _ _ _ (by kernel_rfl)
theorem kP (x0 x1 x2 : PV) : dI x0 x1 x2 =
 bd (PV.len x2) fun v0=>
 bd (PV.bin .add (.int .i64 12) x0) fun v1=>
 bd (PV.bin .lss v0 v1) fun v2=>
 PV.ite v2
 (bd (PV.inb x2 (.int .i64 0)) fun v3=>
 bd (PV.at_ 3 true x2 (.int .i64 0)) fun v4=>
 bd (PV.cat 3 40 true (.lst []) (.lst [v4])) fun v5=>
 bd (PV.cat 3 40 true x2 v5) fun v6=>
 dI x0 x1 v6)
 (bd (bY (.agg [x1,x2])) fun r7=>
 PV.guardFlat (hd r7) (
 bd (PV.bin .eql x0 (.int .i64 0)) fun v8=>
 bd (PV.beq .eql (hd r7) v8) fun v9=>
 some [v9])):=cG _ _ _ _ _ _ _ _ (by kernel_rfl)
theorem gJ (x0 x1 x2 : PV) : cX x0 x1 x2 =
 bd (PV.inb x2 (.int .i64 0)) fun v0=>
 bd (PV.at_ 3 true x2 (.int .i64 0)) fun v1=>
 bd (PV.cell v1 2) fun v2=>
 bd (PV.len v2) fun v3=>
 bd (PV.bin .add (.int .i64 120) x0) fun v4=>
 bd (PV.bin .lss v3 v4) fun v5=>
 PV.ite v5
 (bd (PV.inb x2 (.int .i64 0)) fun v6=>
 bd (PV.at_ 3 true x2 (.int .i64 0)) fun v7=>
 bd (PV.cell v7 2) fun v8=>
 none)
 (bd (bY (.agg [x1,x2])) fun r9=>
 PV.guardFlat (hd r9) (
 bd (PV.bin .eql x0 (.int .i64 0)) fun v10=>
 bd (PV.beq .eql (hd r9) v10) fun v11=>
 some [v11])):=cG _ _ _ _ _ _ _ _ (by kernel_rfl)
theorem kC (x0 x1 x2 x3 : PV) : dP x0 x1 x2 x3 =
 bd (PV.len x3) fun v0=>
 bd (PV.bin .add (.int .i64 60) x0) fun v1=>
 bd (PV.bin .lss v0 v1) fun v2=>
 PV.ite v2
 (bd (PV.cat 1 1 false x3 (.lst [.int .u8 120])) fun v3=>
 dP x0 x1 x2 v3)
 (bd (PV.toStr x3) fun v4=>
 bd (PV.cat 1 16 false (.lst []) (.lst [v4])) fun v5=>
 bd (bY (.agg [v5,x2])) fun r6=>
 PV.guardFlat (hd r6) (
 bd (PV.bin .eql x0 (.int .i64 0)) fun v7=>
 bd (PV.beq .eql (hd r6) v7) fun v8=>
 some [v8])):=cG _ _ _ _ _ _ _ _ (by kernel_rfl)
theorem qM (x0 : PV) : lP x0=bd (PV.len x0) fun v0=>bd (PV.bin .gtr v0 (.int .i64 1048576)) fun v1=>some [v1]:=aL _ _ _ (by kernel_rfl)
theorem oS (x0 x1 x2 : PV) : gW x0 x1 x2 =
 bd (PV.len x0) fun v0=>
 bd (PV.bin .eql v0 (.int .i64 0)) fun v1=>
 PV.ite v1
 (some [.int .i64 0])
 (bd (PV.bin .lss x2 (.int .i64 2)) fun v2=>
 PV.ite v2
 (some [.int .i64 0])
 (eB x0 x1 x2 (.int .i64 0) (.int .i64 0))):=aL _ _ _ (by kernel_rfl)
theorem fT (x0 x1 x2 x3 x4 : PV) : eB x0 x1 x2 x3 x4 =
 bd (PV.bin .lss x4 (.int .i64 3)) fun v0=>
 PV.ite v0
 (bd (PV.bin .mul (.int .i64 31) x3) fun v1=>
 bd (PV.bin .add x1 x4) fun v2=>
 bd (PV.len x0) fun v3=>
 bd (PV.bin .rem v2 v3) fun v4=>
 bd (PV.at_ 1 false x0 v4) fun v5=>
 bd (PV.conv .i64 v5) fun v6=>
 bd (PV.bin .add v1 v6) fun v7=>
 bd (PV.bin .add x4 (.int .i64 1)) fun v8=>
 eB x0 x1 x2 v7 v8)
 (bd (PV.bin .add x3 x1) fun v9=>
 bd (PV.bin .rem v9 x2) fun v10=>
 some [v10]):=cG _ _ _ _ _ _ _ _ (by kernel_rfl)
theorem jP (x0 : PV) : bY x0 =
 bd (PV.whole 2 x0) fun v0=>
 bd (PV.cell v0 0) fun v1=>
 bd (PV.cell v0 1) fun v2=>
 bd (PV.len v2) fun v3=>
 bd (aN v3 (.int .i64 1) (.int .i64 12)) fun r4=>
 bd (PV.not (hd r4)) fun v5=>
 PV.ite v5
 (some [.bool false])
 (bd (PV.len v1) fun v6=>
 bd (PV.bin .gtr v6 (.int .i64 20)) fun v7=>
 PV.ite v7
 (some [.bool false])
 (bd (aW v1 (.fn 10 [])) fun r8=>
 PV.ite (hd r8)
 (some [.bool false])
 (bd (PV.len v2) fun v9=>
 cM v2 v9 (.int .i64 0) v1 v2))):=aL _ _ _ (by kernel_rfl)
theorem dY (x0 x1 x2 x3 x4 : PV) : cM x0 x1 x2 x3 x4 =
 bd (PV.bin .lss x2 x1) fun v0=>
 PV.ite v0
 (bd (PV.at_ 3 true x0 x2) fun v1=>
 bd (PV.whole 3 v1) fun v2=>
 bd (PV.cell v2 0) fun v3=>
 bd (PV.cell v2 1) fun v4=>
 bd (PV.cell v2 2) fun v5=>
 bd (aN v3 (.int .i64 0) (.int .i64 6)) fun r6=>
 bd (PV.not (hd r6)) fun v7=>
 PV.ite v7
 (some [.bool false])
 (bd (aN v4 v3 (.int .i64 12)) fun r8=>
 bd (PV.not (hd r8)) fun v9=>
 PV.ite v9
 (some [.bool false])
 (bd (PV.len v5) fun v10=>
 bd (aN v10 (.int .i64 1) (.int .i64 120)) fun r11=>
 bd (PV.not (hd r11)) fun v12=>
 PV.ite v12
 (some [.bool false])
 (bd (aQ v5 (.fn 13 [(.bx [x3,x4]),(.bx [v3,v4,v5])])) fun r13=>
 PV.guardFlat (hd r13) (
 PV.ite (hd r13)
 (some [.bool false])
 (bd (PV.bin .add x2 (.int .i64 1)) fun v14=>
 cM x0 x1 v14 x3 x4))))))
 (some [.bool true]):=cG _ _ _ _ _ _ _ _ (by kernel_rfl)
theorem kK (x0 x1 x2 : PV) : aN x0 x1 x2 =
 bd (PV.bin .leq x1 x0) fun v0=>
 PV.ite v0
 (bd (PV.bin .leq x0 x2) fun v1=>
 some [v1])
 (some [.bool false]):=aL _ _ _ (by kernel_rfl)
theorem cP (x0 x1 : PV) : aW x0 x1 =
 bd (bO x0 x1) fun r0=>
 bd (PV.bin .geq (hd r0) (.int .i64 0)) fun v1=>
 some [v1]:=aL _ _ _ (by kernel_rfl)
theorem iP (x0 : PV) : fR x0=bd (eS x0) fun r0=>bd (PV.not (hd r0)) fun v1=>some [v1]:=aL _ _ _ (by kernel_rfl)
theorem bZ (x0 x1 : PV) : aQ x0 x1 =
 bd (bK x0 x1) fun r0=>
 bd (PV.bin .geq (hd r0) (.int .i64 0)) fun v1=>
 some [v1]:=aL _ _ _ (by kernel_rfl)
theorem iQ (x0 x1 x2 : PV) : fS x0 x1 x2 =
 bd (PV.whole 2 x0) fun v0=>
 bd (PV.cell v0 0) fun v1=>
 bd (PV.cell v0 1) fun v2=>
 bd (PV.deref x1 0) fun v3=>
 bd (PV.deref x1 1) fun v4=>
 bd (PV.deref x2 0) fun v5=>
 bd (PV.deref x2 1) fun v6=>
 bd (PV.deref x2 2) fun v7=>
 bd (iN (.agg [v3,v4]) (.agg [v5,v6,v7]) (.agg [v1,v2])) fun r8=>
 bd (PV.not (hd r8)) fun v9=>
 some [v9]:=aL _ _ _ (by kernel_rfl)
end Go.Proofs.YtjgleeamiclokaaDoor
namespace Go.Proofs.YtjgleeamiclokaaDoor
open Go
theorem cV (x0 x1 : PV) : bO x0 x1 =
 bd (PV.len x0) fun v0=>
 aO x0 x1 v0 (.int .i64 0):=aL _ _ _ (by kernel_rfl)
theorem bH (x0 x1 x2 x3 : PV) : aO x0 x1 x2 x3 =
 bd (PV.bin .lss x3 x2) fun v0=>
 PV.ite v0
 (bd (PV.at_ 1 false x0 x3) fun v1=>
 bd (PV.apply pcallO x1 [v1]) fun r2=>
 PV.ite (hd r2)
 (some [x3])
 (bd (PV.bin .add x3 (.int .i64 1)) fun v3=>
 aO x0 x1 x2 v3))
 (some [(.int .i64 (-1))]):=cG _ _ _ _ _ _ _ _ (by kernel_rfl)
theorem lR (x0 : PV) : eS x0=bd (PV.slen x0) fun v0=>cY x0 v0 (.int .i64 0):=aL _ _ _ (by kernel_rfl)
theorem eT (x0 x1 x2 : PV) : cY x0 x1 x2 =
 bd (PV.bin .lss x2 x1) fun v0=>
 PV.ite v0
 (bd (PV.chr x0 x2) fun v1=>
 bd (PV.bin .lss v1 (.int .u8 32)) fun v2=>
 PV.ite v2
 (some [.bool false])
 (bd (PV.chr x0 x2) fun v3=>
 bd (PV.bin .gtr v3 (.int .u8 126)) fun v4=>
 PV.ite v4
 (some [.bool false])
 (bd (PV.chr x0 x2) fun v5=>
 bd (PV.bin .eql v5 (.int .u8 34)) fun v6=>
 PV.ite v6
 (some [.bool false])
 (bd (PV.bin .add x2 (.int .i64 1)) fun v7=>
 cY x0 x1 v7))))
 (bd (PV.slen x0) fun v8=>
 bd (PV.bin .leq v8 (.int .i64 60)) fun v9=>
 some [v9]):=cG _ _ _ _ _ _ _ _ (by kernel_rfl)
theorem cN (x0 x1 : PV) : bK x0 x1 =
 bd (PV.len x0) fun v0=>
 aM x0 x1 v0 (.int .i64 0):=aL _ _ _ (by kernel_rfl)
theorem bD (x0 x1 x2 x3 : PV) : aM x0 x1 x2 x3 =
 bd (PV.bin .lss x3 x2) fun v0=>
 PV.ite v0
 (bd (PV.at_ 2 true x0 x3) fun v1=>
 bd (PV.apply pcallO x1 [v1]) fun r2=>
 PV.ite (hd r2)
 (some [x3])
 (bd (PV.bin .add x3 (.int .i64 1)) fun v3=>
 aM x0 x1 x2 v3))
 (some [(.int .i64 (-1))]):=cG _ _ _ _ _ _ _ _ (by kernel_rfl)
theorem nE (x0 x1 x2 : PV) : iN x0 x1 x2 =
 bd (PV.whole 2 x0) fun v0=>
 bd (PV.cell v0 0) fun v1=>
 bd (PV.cell v0 1) fun v2=>
 bd (PV.whole 3 x1) fun v3=>
 bd (PV.cell v3 0) fun v4=>
 bd (PV.cell v3 1) fun v5=>
 bd (PV.cell v3 2) fun v6=>
 bd (PV.whole 2 x2) fun v7=>
 bd (PV.cell v7 0) fun v8=>
 bd (PV.cell v7 1) fun v9=>
 bd (PV.bin .eql v8 (.int .i64 1)) fun v10=>
 PV.ite v10
 (bd (dV v9) fun r11=>
 some [(hd r11)])
 (bd (PV.bin .eql v8 (.int .i64 2)) fun v12=>
 PV.ite v12
 (bd (aN v9 (.int .i64 0) (.int .i64 1)) fun r13=>
 some [(hd r13)])
 (bd (PV.bin .eql v8 (.int .i64 3)) fun v14=>
 PV.ite v14
 (bd (PV.len v1) fun v15=>
 bd (aP v9 v15) fun r16=>
 some [(hd r16)])
 (bd (PV.bin .eql v8 (.int .i64 5)) fun v17=>
 PV.ite v17
 (bd (PV.len v2) fun v18=>
 bd (aP v9 v18) fun r19=>
 some [(hd r19)])
 (bd (PV.bin .eql v8 (.int .i64 24)) fun v20=>
 PV.ite v20
 (bd (PV.len v2) fun v21=>
 bd (aP v9 v21) fun r22=>
 some [(hd r22)])
 (bd (PV.bin .eql v8 (.int .i64 6)) fun v23=>
 PV.ite v23
 (bd (aP v9 v5) fun r24=>
 some [(hd r24)])
 (bd (PV.bin .eql v8 (.int .i64 7)) fun v25=>
 PV.ite v25
 (bd (aP v9 v5) fun r26=>
 some [(hd r26)])
 (bd (PV.bin .eql v8 (.int .i64 17)) fun v27=>
 PV.ite v27
 (bd (PV.len v6) fun v28=>
 bd (aP v9 v28) fun r29=>
 some [(hd r29)])
 (bd (PV.bin .eql v8 (.int .i64 18)) fun v30=>
 PV.ite v30
 (bd (PV.len v6) fun v31=>
 bd (aP v9 v31) fun r32=>
 some [(hd r32)])
 (bd (PV.bin .eql v8 (.int .i64 19)) fun v33=>
 PV.ite v33
 (bd (PV.len v6) fun v34=>
 bd (aP v9 v34) fun r35=>
 some [(hd r35)])
 (bd (PV.bin .eql v8 (.int .i64 20)) fun v36=>
 PV.ite v36
 (bd (aN v9 (.int .i64 0) (.int .i64 6)) fun r37=>
 some [(hd r37)])
 (bd (PV.bin .eql v8 (.int .i64 21)) fun v38=>
 PV.ite v38
 (bd (aP v9 (.int .i64 6)) fun r39=>
 some [(hd r39)])
 (bd (PV.bin .eql v8 (.int .i64 22)) fun v40=>
 PV.ite v40
 (bd (aP v9 (.int .i64 6)) fun r41=>
 some [(hd r41)])
 (bd (PV.bin .eql v8 (.int .i64 23)) fun v42=>
 PV.ite v42
 (bd (aN v9 (.int .i64 0) (.int .i64 6)) fun r43=>
 some [(hd r43)])
 (bd (aN v8 (.int .i64 1) (.int .i64 26)) fun r44=>
 PV.ite (hd r44)
 (bd (PV.bin .eql v9 (.int .i64 0)) fun v45=>
 some [v45])
 (some [.bool false]))))))))))))))):=aL _ _ _ (by kernel_rfl)
theorem jX (x0 : PV) : dV x0=bd (aN x0 (.int .i64 (-1000000000)) (.int .i64 1000000000)) fun r0=>some [(hd r0)]:=aL _ _ _ (by kernel_rfl)
theorem kL (x0 x1 : PV) : aP x0 x1 =
 bd (PV.bin .sub x1 (.int .i64 1)) fun v0=>
 bd (aN x0 (.int .i64 0) v0) fun r1=>
 some [(hd r1)]:=aL _ _ _ (by kernel_rfl)
theorem aDe (x0 x1 x2 : PV) : iE x0 x1 x2 =
 bd (PV.whole 2 x0) fun v0=>
 bd (PV.cell v0 0) fun v1=>
 bd (PV.cell v0 1) fun v2=>
 bd (aDd (.agg [v1,v2]) x1 x2) fun r3=>
 PV.guardFlat (gd r3 0) (
 PV.guardFlat (gd r3 1) (
 PV.guardFlat (gd r3 2) (
 PV.guardFlat (gd r3 3) (
 PV.guardFlat (gd r3 4) (
 PV.guardFlat (gd r3 5) (
 PV.guardFlat (gd r3 6) (
 PV.guardFlat (gd r3 7) (
 PV.guardOwn (.own 4 64 true [.leaf,.leaf,(.own 3 32 true []),(.own 3 32 true [])]) (gd r3 8) (
 PV.guardOwn (.own 1 24 true [(.own 3 32 true [])]) (gd r3 9) (
 PV.guardOwn (.own 1 16 false []) (gd r3 10) (
 some [(gd r3 0),(gd r3 1),(gd r3 2),(gd r3 3),(gd r3 4),(gd r3 5),(gd r3 6),(gd r3 8),(gd r3 9),(gd r3 10)]))))))))))):=eQ _ _ _ _ (by kernel_rfl)
theorem aDf (x0 x1 x2 : PV) : aDd x0 x1 x2 =
 bd (PV.whole 2 x0) fun v0=>
 bd (PV.cell v0 0) fun v1=>
 bd (PV.cell v0 1) fun v2=>
 bd (oL (.agg [v1,v2]) x1) fun r3=>
 PV.guardFlat (gd r3 0) (
 PV.guardFlat (gd r3 1) (
 PV.guardFlat (gd r3 2) (
 PV.guardFlat (gd r3 3) (
 PV.guardFlat (gd r3 4) (
 PV.guardFlat (gd r3 5) (
 PV.guardFlat (gd r3 6) (
 PV.guardFlat (gd r3 7) (
 PV.guardOwn (.own 4 64 true [.leaf,.leaf,(.own 3 32 true []),(.own 3 32 true [])]) (gd r3 8) (
 PV.guardOwn (.own 1 24 true [(.own 3 32 true [])]) (gd r3 9) (
 PV.guardOwn (.own 1 16 false []) (gd r3 10) (
 bd (PV.not (gd r3 7)) fun v4=>
 PV.ite v4
 (some [(.int .i64 0),(.int .i64 0),(.int .i64 0),(.int .i64 0),(.int .i64 0),(.str (bs [])),(.int .i64 0),(.bool false),(.lst []),(.lst []),(.lst [])])
 (bd (aN x2 (.int .i64 0) (.int .i64 50000)) fun r5=>
 bd (PV.not (hd r5)) fun v6=>
 PV.ite v6
 (some [(.int .i64 0),(.int .i64 0),(.int .i64 0),(.int .i64 0),(.int .i64 0),(.str (bs [])),(.int .i64 0),(.bool false),(.lst []),(.lst []),(.lst [])])
 (mL x2 (.int .i64 0) v1 v2 (.int .i64 0) (.int .i64 0) (.int .i64 0) (.int .i64 0) (.int .i64 0) (.str (bs [])) (.int .i64 0) (gd r3 0) (gd r3 1) (gd r3 2) (gd r3 3) (gd r3 4) (gd r3 5) (gd r3 6) (.lst []) (.lst []) (.lst []) (gd r3 8) (gd r3 9) (gd r3 10)))))))))))))):=eQ _ _ _ _ (by kernel_rfl)
theorem qN (x0 x1 x2 x3 x4 x5 x6 x7 x8 x9 x10 x11 x12 x13 x14 x15 x16 x17 x18 x19 x20 x21 x22 x23 : PV) : mL x0 x1 x2 x3 x4 x5 x6 x7 x8 x9 x10 x11 x12 x13 x14 x15 x16 x17 x18 x19 x20 x21 x22 x23 =
 bd (PV.bin .lss x1 x0) fun v0=>
 PV.ite v0
 (bd (PV.bin .neq x12 (.int .i64 0)) fun v1=>
 PV.ite v1
 (bd (iG (.agg [x21,x22,x11,x23,x12,x13,x14,x15,x16,x17])) fun r2=>
 PV.guardFlat (gd r2 0) (
 PV.guardFlat (gd r2 1) (
 PV.guardFlat (gd r2 2) (
 PV.guardFlat (gd r2 3) (
 PV.guardFlat (gd r2 4) (
 PV.guardFlat (gd r2 5) (
 PV.guardFlat (gd r2 6) (
 PV.guardOwn (.own 4 64 true [.leaf,.leaf,(.own 3 32 true []),(.own 3 32 true [])]) (gd r2 7) (
 PV.guardOwn (.own 1 24 true [(.own 3 32 true [])]) (gd r2 8) (
 PV.guardOwn (.own 1 16 false []) (gd r2 9) (
 some [(gd r2 0),(gd r2 1),(gd r2 2),(gd r2 3),(gd r2 4),(gd r2 5),(gd r2 6),(.bool true),(gd r2 7),(gd r2 8),(gd r2 9)])))))))))))
 (bd (PV.apply pcallO (.fn 16 []) [(.bx [x21,x22,x11,x23,x12,x13,x14,x15,x16,x17])]) fun r3=>
 PV.guardFlat (hd r3) (
 bd (kV x2 x3 x11 x12 x13 x14 x15 x16 x17 x21 x22 x23) fun r4=>
 bd (PV.bin .add x1 (.int .i64 1)) fun v5=>
 mL x0 v5 x2 x3 x4 x5 x6 x7 x8 x9 x10 (gd r4 0) (gd r4 1) (gd r4 2) (gd r4 3) (gd r4 4) (gd r4 5) (gd r4 6) x18 x19 x20 (gd r4 7) (gd r4 8) (gd r4 9))))
 (bd (iG (.agg [x21,x22,x11,x23,x12,x13,x14,x15,x16,x17])) fun r6=>
 PV.guardFlat (gd r6 0) (
 PV.guardFlat (gd r6 1) (
 PV.guardFlat (gd r6 2) (
 PV.guardFlat (gd r6 3) (
 PV.guardFlat (gd r6 4) (
 PV.guardFlat (gd r6 5) (
 PV.guardFlat (gd r6 6) (
 PV.guardOwn (.own 4 64 true [.leaf,.leaf,(.own 3 32 true []),(.own 3 32 true [])]) (gd r6 7) (
 PV.guardOwn (.own 1 24 true [(.own 3 32 true [])]) (gd r6 8) (
 PV.guardOwn (.own 1 16 false []) (gd r6 9) (
 some [(gd r6 0),(gd r6 1),(gd r6 2),(gd r6 3),(gd r6 4),(gd r6 5),(gd r6 6),(.bool true),(gd r6 7),(gd r6 8),(gd r6 9)]))))))))))):=cG _ _ _ _ _ _ _ _ (by kernel_rfl)
theorem aAW (x0 : PV) : aAc x0=some [(.tup [])]:=aL _ _ _ (by kernel_rfl)
theorem aAX (x0 x1 : PV) : oL x0 x1 =
 bd (PV.whole 2 x0) fun v0=>
 bd (PV.cell v0 0) fun v1=>
 bd (PV.cell v0 1) fun v2=>
 bd (qG (.agg [v1,v2])) fun r3=>
 bd (PV.not (hd r3)) fun v4=>
 PV.ite v4
 (some [(.int .i64 0),(.int .i64 0),(.int .i64 0),(.int .i64 0),(.int .i64 0),(.str (bs [])),(.int .i64 0),(.bool false),(.lst []),(.lst []),(.lst [])])
 (bd (qH (.agg [v1,v2]) x1) fun r5=>
 bd (PV.not (hd r5)) fun v6=>
 PV.ite v6
 (some [(.int .i64 0),(.int .i64 0),(.int .i64 0),(.int .i64 0),(.int .i64 0),(.str (bs [])),(.int .i64 0),(.bool false),(.lst []),(.lst []),(.lst [])])
 (bd (jB (.agg [v1,v2]) (.int .i64 0) x1) fun r7=>
 PV.guardFlat (gd r7 0) (
 PV.guardFlat (gd r7 1) (
 PV.guardOwn (.own 3 32 true []) (gd r7 2) (
 PV.guardOwn (.own 3 32 true []) (gd r7 3) (
 some [(.int .i64 0),(.int .i64 0),(.int .i64 0),(.int .i64 0),(.int .i64 0),(.str (bs [])),(.int .i64 0),(.bool true),(.lst [(.agg [(gd r7 0),(gd r7 1),(gd r7 2),(gd r7 3)])]),(.lst []),(.lst [])])))))):=eQ _ _ _ _ (by kernel_rfl)
end Go.Proofs.YtjgleeamiclokaaDoor
namespace Go.Proofs.YtjgleeamiclokaaDoor
open Go
theorem aAd (x0 : PV) : qG x0 =
 bd (PV.whole 2 x0) fun v0=>
 bd (PV.cell v0 0) fun v1=>
 bd (PV.cell v0 1) fun v2=>
 bd (qI (.agg [v1,v2])) fun r3=>
 bd (PV.whole 3 (hd r3)) fun v4=>
 bd (PV.cell v4 0) fun v5=>
 bd (PV.cell v4 1) fun v6=>
 bd (PV.cell v4 2) fun v7=>
 bd (PV.ceq [1,1,1] .eql (.agg [v5,v6,v7]) (.agg [(.int .i64 0),(.int .i64 0),(.int .i64 0)])) fun v8=>
 some [v8]:=aL _ _ _ (by kernel_rfl)
theorem aAe (x0 x1 : PV) : qH x0 x1 =
 bd (PV.whole 2 x0) fun v0=>
 bd (PV.cell v0 0) fun v1=>
 bd (PV.cell v0 1) fun v2=>
 bd (PV.len x1) fun v3=>
 bd (PV.at_ 3 true v2 (.int .i64 0)) fun v4=>
 bd (PV.cell v4 0) fun v5=>
 bd (PV.bin .eql v3 v5) fun v6=>
 PV.ite v6
 (bd (dA x1 (.fn 33 [(.bx [v1,v2])])) fun r7=>
 PV.guardFlat (hd r7) (
 bd (PV.not (hd r7)) fun v8=>
 some [v8]))
 (some [.bool false]):=aL _ _ _ (by kernel_rfl)
theorem aAf (x0 : PV) : qI x0 =
 bd (PV.whole 2 x0) fun v0=>
 bd (PV.cell v0 0) fun v1=>
 bd (PV.cell v0 1) fun v2=>
 bd (bY (.agg [v1,v2])) fun r3=>
 bd (PV.not (hd r3)) fun v4=>
 PV.ite v4
 (some [(.agg [(.int .i64 1),(.int .i64 0),(.int .i64 0)])])
 (bd (PV.len v2) fun v5=>
 gE v5 (.int .i64 0) v1 v2 (.int .i64 0) (.int .i64 0) (.int .i64 0)):=aL _ _ _ (by kernel_rfl)
theorem mO (x0 x1 x2 x3 x4 x5 x6 : PV) : gE x0 x1 x2 x3 x4 x5 x6 =
 bd (PV.bin .lss x1 x0) fun v0=>
 PV.ite v0
 (bd (qJ (.agg [x2,x3]) x1) fun r1=>
 bd (PV.one (hd r1)) fun v2=>
 bd (PV.at_ 3 true x3 x1) fun v3=>
 bd (PV.cell v3 2) fun v4=>
 bd (PV.len v4) fun v5=>
 gF x1 x0 x1 v4 v5 (.int .i64 0) x2 x3 x4 x5 x6 v2)
 (some [(.agg [(.int .i64 0),(.int .i64 0),(.int .i64 0)])]):=cG _ _ _ _ _ _ _ _ (by kernel_rfl)
theorem mP (x0 x1 x2 x3 x4 x5 x6 x7 x8 x9 x10 x11 : PV) : gF x0 x1 x2 x3 x4 x5 x6 x7 x8 x9 x10 x11 =
 bd (PV.bin .lss x5 x4) fun v0=>
 PV.ite v0
 (bd (PV.at_ 2 true x3 x5) fun v1=>
 bd (PV.whole 2 v1) fun v2=>
 bd (PV.cell v2 0) fun v3=>
 bd (PV.cell v2 1) fun v4=>
 bd (PV.at_ 1 false x11 x5) fun v5=>
 bd (PV.bin .lss v5 (.int .i64 0)) fun v6=>
 PV.ite v6
 (bd (PV.bin .add x5 (.int .i64 1)) fun v7=>
 gF x0 x1 x2 x3 x4 v7 x6 x7 x8 x9 x10 x11)
 (bd (PV.at_ 1 false x11 x5) fun v8=>
 bd (mM (.agg [x6,x7]) (.agg [v3,v4]) v8) fun r9=>
 bd (PV.comp (hd r9) 0) fun v10=>
 bd (PV.comp (hd r9) 1) fun v11=>
 bd (PV.one v10) fun v12=>
 bd (PV.not v11) fun v13=>
 PV.ite v13
 (bd (PV.one x0) fun v14=>
 bd (PV.one x5) fun v15=>
 some [(.agg [(.int .i64 2),v14,v15])])
 (bd (kU (.agg [v3,v4]) x5) fun r16=>
 bd (PV.len x11) fun v17=>
 bd (fD (hd r16) v17) fun r18=>
 PV.ite (hd r18)
 (bd (PV.one x0) fun v19=>
 bd (PV.one x5) fun v20=>
 some [(.agg [(.int .i64 3),v19,v20])])
 (bd (eC (hd r16) (.fn 52 [(.bx [x11]),(.bx [v12])])) fun r21=>
 PV.guardFlat (hd r21) (
 PV.ite (hd r21)
 (bd (PV.one x0) fun v22=>
 bd (PV.one x5) fun v23=>
 some [(.agg [(.int .i64 4),v22,v23])])
 (bd (PV.bin .add x5 (.int .i64 1)) fun v24=>
 gF x0 x1 x2 x3 x4 v24 x6 x7 x8 x9 x10 x11))))))
 (bd (PV.bin .add x2 (.int .i64 1)) fun v25=>
 gE x1 v25 x6 x7 x8 x9 x10):=cG _ _ _ _ _ _ _ _ (by kernel_rfl)
theorem fF (x0 x1 : PV) : dA x0 x1 =
 bd (dK x0 x1) fun r0=>
 bd (PV.bin .geq (hd r0) (.int .i64 0)) fun v1=>
 some [v1]:=aL _ _ _ (by kernel_rfl)
theorem vP (x0 x1 : PV) : rY x0 x1 =
 bd (PV.whole 3 x0) fun v0=>
 bd (PV.cell v0 0) fun v1=>
 bd (PV.cell v0 1) fun v2=>
 bd (PV.cell v0 2) fun v3=>
 bd (PV.isPtr x1) fun v4=>
 bd (PV.deref v4 1) fun v5=>
 bd (PV.len v5) fun v6=>
 bd (oM (.agg [v1,v2,v3]) v6 (.int .i64 0)) fun r7=>
 bd (PV.not (hd r7)) fun v8=>
 some [v8]:=aL _ _ _ (by kernel_rfl)
theorem aAg (x0 x1 : PV) : qJ x0 x1 =
 bd (PV.whole 2 x0) fun v0=>
 bd (PV.cell v0 0) fun v1=>
 bd (PV.cell v0 1) fun v2=>
 bd (PV.at_ 3 true v2 x1) fun v3=>
 bd (PV.cell v3 2) fun v4=>
 bd (PV.len v4) fun v5=>
 bd (eJ (.lst [(.int .i64 (-1))]) v5) fun r6=>
 PV.guardOwn (.own 1 8 false []) (gd r6 0) (
 bd (PV.inb (gd r6 0) (.int .i64 0)) fun v7=>
 bd (PV.setAt 1 false (gd r6 0) (.int .i64 0) (.int .i64 0)) fun v8=>
 gG v4 (.bool true) v1 v2 v8):=aL _ _ _ (by kernel_rfl)
theorem fZ (x0 x1 x2 x3 x4 : PV) : gG x0 x1 x2 x3 x4 =
 PV.ite x1
 (bd (PV.len x0) fun v0=>
 eG x0 (.bool false) x0 v0 (.int .i64 0) x2 x3 x4)
 (some [x4]):=cG _ _ _ _ _ _ _ _ (by kernel_rfl)
theorem mQ (x0 x1 x2 x3 x4 x5 x6 x7 : PV) : eG x0 x1 x2 x3 x4 x5 x6 x7 =
 bd (PV.bin .lss x4 x3) fun v0=>
 PV.ite v0
 (bd (PV.at_ 2 true x2 x4) fun v1=>
 bd (PV.whole 2 v1) fun v2=>
 bd (PV.cell v2 0) fun v3=>
 bd (PV.cell v2 1) fun v4=>
 bd (PV.inb x7 x4) fun v5=>
 bd (PV.at_ 1 false x7 x4) fun v6=>
 bd (PV.bin .lss v6 (.int .i64 0)) fun v7=>
 PV.ite v7
 (bd (PV.bin .add x4 (.int .i64 1)) fun v8=>
 eG x0 x1 x2 x3 v8 x5 x6 x7)
 (bd (PV.inb x7 x4) fun v9=>
 bd (PV.at_ 1 false x7 x4) fun v10=>
 bd (mM (.agg [x5,x6]) (.agg [v3,v4]) v10) fun r11=>
 bd (PV.comp (hd r11) 0) fun v12=>
 bd (PV.comp (hd r11) 1) fun v13=>
 bd (kU (.agg [v3,v4]) x4) fun r14=>
 bd (PV.len (hd r14)) fun v15=>
 dB x0 x1 v12 v13 x2 x3 x4 (hd r14) v15 (.int .i64 0) x5 x6 x7))
 (gG x0 x1 x5 x6 x7):=cG _ _ _ _ _ _ _ _ (by kernel_rfl)
theorem lS (x0 x1 x2 x3 x4 x5 x6 x7 x8 x9 x10 x11 x12 : PV) : dB x0 x1 x2 x3 x4 x5 x6 x7 x8 x9 x10 x11 x12 =
 bd (PV.bin .lss x9 x8) fun v0=>
 PV.ite v0
 (bd (PV.at_ 1 false x7 x9) fun v1=>
 PV.ite x3
 (bd (PV.len x0) fun v2=>
 bd (PV.bin .lss v1 v2) fun v3=>
 PV.ite v3
 (bd (PV.inb x12 v1) fun v4=>
 bd (PV.at_ 1 false x12 v1) fun v5=>
 bd (PV.bin .lss v5 (.int .i64 0)) fun v6=>
 PV.ite v6
 (pG x0 x2 x3 v1 x4 x5 x6 x7 x8 x9 x10 x11 x12)
 (bd (PV.bin .add x9 (.int .i64 1)) fun v7=>
 dB x0 x1 x2 x3 x4 x5 x6 x7 x8 v7 x10 x11 x12))
 (bd (PV.bin .add x9 (.int .i64 1)) fun v8=>
 dB x0 x1 x2 x3 x4 x5 x6 x7 x8 v8 x10 x11 x12))
 (bd (PV.bin .add x9 (.int .i64 1)) fun v9=>
 dB x0 x1 x2 x3 x4 x5 x6 x7 x8 v9 x10 x11 x12))
 (bd (PV.bin .add x6 (.int .i64 1)) fun v10=>
 eG x0 x1 x4 x5 v10 x10 x11 x12):=cG _ _ _ _ _ _ _ _ (by kernel_rfl)
theorem sW (x0 x1 x2 x3 x4 x5 x6 x7 x8 x9 x10 x11 x12 : PV) : pG x0 x1 x2 x3 x4 x5 x6 x7 x8 x9 x10 x11 x12 =
 bd (PV.inb x12 x3) fun v0=>
 bd (PV.setAt 1 false x12 x3 x1) fun v1=>
 bd (PV.bin .add x9 (.int .i64 1)) fun v2=>
 dB x0 (.bool true) x1 x2 x4 x5 x6 x7 x8 v2 x10 x11 v1:=cG _ _ _ _ _ _ _ _ (by kernel_rfl)
theorem aAh (x0 x1 x2 : PV) : mM x0 x1 x2 =
 bd (PV.whole 2 x0) fun v0=>
 bd (PV.cell v0 0) fun v1=>
 bd (PV.cell v0 1) fun v2=>
 bd (PV.whole 2 x1) fun v3=>
 bd (PV.cell v3 0) fun v4=>
 bd (PV.cell v3 1) fun v5=>
 bd (mN (.agg [v1,v2]) (.agg [v4,v5])) fun r6=>
 bd (PV.comp (hd r6) 0) fun v7=>
 bd (PV.comp (hd r6) 1) fun v8=>
 bd (PV.bin .sub x2 v7) fun v9=>
 bd (PV.bin .add v9 v8) fun v10=>
 bd (PV.bin .leq v7 x2) fun v11=>
 PV.ite v11
 (bd (PV.bin .leq v10 (.int .i64 16)) fun v12=>
 some [(.tup [v10,v12])])
 (some [(.tup [v10,(.bool false)])]):=aL _ _ _ (by kernel_rfl)
theorem xV (x0 x1 : PV) : kU x0 x1 =
 bd (PV.whole 2 x0) fun v0=>
 bd (PV.cell v0 0) fun v1=>
 bd (PV.cell v0 1) fun v2=>
 bd (PV.bin .eql v1 (.int .i64 25)) fun v3=>
 PV.ite v3
 (some [(.lst [])])
 (bd (PV.bin .eql v1 (.int .i64 17)) fun v4=>
 PV.ite v4
 (bd (PV.cat 1 8 false (.lst []) (.lst [v2])) fun v5=>
 some [v5])
 (bd (PV.bin .eql v1 (.int .i64 18)) fun v6=>
 PV.ite v6
 (bd (PV.bin .add x1 (.int .i64 1)) fun v7=>
 bd (PV.cat 1 8 false (.lst []) (.lst [v7,v2])) fun v8=>
 some [v8])
 (bd (PV.bin .eql v1 (.int .i64 19)) fun v9=>
 PV.ite v9
 (bd (PV.bin .add x1 (.int .i64 1)) fun v10=>
 bd (PV.cat 1 8 false (.lst []) (.lst [v10,v2])) fun v11=>
 some [v11])
 (bd (PV.bin .add x1 (.int .i64 1)) fun v12=>
 bd (PV.cat 1 8 false (.lst []) (.lst [v12])) fun v13=>
 some [v13])))):=aL _ _ _ (by kernel_rfl)
theorem lT (x0 x1 : PV) : fD x0 x1 =
 bd (gH x0 x1) fun r0=>
 bd (PV.bin .geq (hd r0) (.int .i64 0)) fun v1=>
 some [v1]:=aL _ _ _ (by kernel_rfl)
theorem jQ (x0 x1 : PV) : eC x0 x1 =
 bd (iF x0 x1) fun r0=>
 bd (PV.bin .geq (hd r0) (.int .i64 0)) fun v1=>
 some [v1]:=aL _ _ _ (by kernel_rfl)
theorem vQ (x0 x1 x2 : PV) : rZ x0 x1 x2 =
 bd (PV.deref x1 0) fun v0=>
 bd (PV.at_ 1 false v0 x0) fun v1=>
 bd (PV.deref x2 0) fun v2=>
 bd (PV.bin .neq v1 v2) fun v3=>
 some [v3]:=aL _ _ _ (by kernel_rfl)
theorem fU (x0 x1 : PV) : dK x0 x1 =
 bd (PV.len x0) fun v0=>
 bB x0 x1 v0 (.int .i64 0):=aL _ _ _ (by kernel_rfl)
theorem cS (x0 x1 x2 x3 : PV) : bB x0 x1 x2 x3 =
 bd (PV.bin .lss x3 x2) fun v0=>
 PV.ite v0
 (bd (PV.at_ 3 true x0 x3) fun v1=>
 bd (PV.apply pcallO x1 [v1]) fun r2=>
 PV.ite (hd r2)
 (some [x3])
 (bd (PV.bin .add x3 (.int .i64 1)) fun v3=>
 bB x0 x1 x2 v3))
 (some [(.int .i64 (-1))]):=cG _ _ _ _ _ _ _ _ (by kernel_rfl)
end Go.Proofs.YtjgleeamiclokaaDoor
namespace Go.Proofs.YtjgleeamiclokaaDoor
open Go
theorem xW (x0 x1 x2 : PV) : oM x0 x1 x2 =
 bd (PV.whole 3 x0) fun v0=>
 bd (PV.cell v0 0) fun v1=>
 bd (PV.cell v0 1) fun v2=>
 bd (PV.cell v0 2) fun v3=>
 bd (PV.bin .eql v1 (.int .i64 0)) fun v4=>
 PV.ite v4
 (bd (PV.ceq [1,1,2] .eql (.agg [v1,v2,v3]) (.agg [(.int .i64 0),(.int .i64 0),(.str (bs []))])) fun v5=>
 some [v5])
 (bd (PV.bin .eql v1 (.int .i64 1)) fun v6=>
 PV.ite v6
 (bd (dV v2) fun r7=>
 PV.ite (hd r7)
 (bd (PV.bin .eql v3 (.str (bs []))) fun v8=>
 some [v8])
 (some [.bool false]))
 (bd (PV.bin .eql v1 (.int .i64 2)) fun v9=>
 PV.ite v9
 (bd (aN v2 (.int .i64 0) (.int .i64 1)) fun r10=>
 PV.ite (hd r10)
 (bd (PV.bin .eql v3 (.str (bs []))) fun v11=>
 some [v11])
 (some [.bool false]))
 (bd (PV.bin .eql v1 (.int .i64 3)) fun v12=>
 PV.ite v12
 (bd (PV.bin .eql v2 (.int .i64 0)) fun v13=>
 PV.ite v13
 (bd (eS v3) fun r14=>
 some [(hd r14)])
 (some [.bool false]))
 (bd (PV.bin .eql v1 (.int .i64 4)) fun v15=>
 PV.ite v15
 (bd (aP v2 x2) fun r16=>
 PV.ite (hd r16)
 (bd (PV.bin .eql v3 (.str (bs []))) fun v17=>
 some [v17])
 (some [.bool false]))
 (bd (PV.bin .eql v1 (.int .i64 5)) fun v18=>
 PV.ite v18
 (bd (aP v2 x1) fun r19=>
 PV.ite (hd r19)
 (bd (PV.bin .eql v3 (.str (bs []))) fun v20=>
 some [v20])
 (some [.bool false]))
 (some [.bool false])))))):=aL _ _ _ (by kernel_rfl)
theorem aAi (x0 x1 : PV) : mN x0 x1 =
 bd (PV.whole 2 x0) fun v0=>
 bd (PV.cell v0 0) fun v1=>
 bd (PV.cell v0 1) fun v2=>
 bd (PV.whole 2 x1) fun v3=>
 bd (PV.cell v3 0) fun v4=>
 bd (PV.cell v3 1) fun v5=>
 bd (aN v4 (.int .i64 1) (.int .i64 6)) fun r6=>
 PV.ite (hd r6)
 (some [(.tup [(.int .i64 0),(.int .i64 1)])])
 (bd (PV.bin .eql v4 (.int .i64 20)) fun v7=>
 PV.ite v7
 (some [(.tup [(.int .i64 0),(.int .i64 1)])])
 (bd (PV.bin .eql v4 (.int .i64 7)) fun v8=>
 PV.ite v8
 (some [(.tup [(.int .i64 1),(.int .i64 0)])])
 (bd (PV.bin .eql v4 (.int .i64 9)) fun v9=>
 PV.ite v9
 (some [(.tup [(.int .i64 1),(.int .i64 0)])])
 (bd (PV.bin .eql v4 (.int .i64 18)) fun v10=>
 PV.ite v10
 (some [(.tup [(.int .i64 1),(.int .i64 0)])])
 (bd (PV.bin .eql v4 (.int .i64 19)) fun v11=>
 PV.ite v11
 (some [(.tup [(.int .i64 1),(.int .i64 0)])])
 (bd (PV.bin .eql v4 (.int .i64 25)) fun v12=>
 PV.ite v12
 (some [(.tup [(.int .i64 1),(.int .i64 0)])])
 (bd (PV.bin .eql v4 (.int .i64 26)) fun v13=>
 PV.ite v13
 (some [(.tup [(.int .i64 1),(.int .i64 0)])])
 (bd (PV.bin .eql v4 (.int .i64 8)) fun v14=>
 PV.ite v14
 (some [(.tup [(.int .i64 1),(.int .i64 2)])])
 (bd (PV.bin .eql v4 (.int .i64 10)) fun v15=>
 PV.ite v15
 (some [(.tup [(.int .i64 2),(.int .i64 2)])])
 (bd (aN v4 (.int .i64 11) (.int .i64 15)) fun r16=>
 PV.ite (hd r16)
 (some [(.tup [(.int .i64 2),(.int .i64 1)])])
 (bd (PV.bin .eql v4 (.int .i64 16)) fun v17=>
 PV.ite v17
 (some [(.tup [(.int .i64 1),(.int .i64 1)])])
 (bd (PV.bin .eql v4 (.int .i64 21)) fun v18=>
 PV.ite v18
 (some [(.tup [(.int .i64 1),(.int .i64 1)])])
 (bd (PV.bin .eql v4 (.int .i64 22)) fun v19=>
 PV.ite v19
 (some [(.tup [(.int .i64 2),(.int .i64 0)])])
 (bd (PV.bin .eql v4 (.int .i64 23)) fun v20=>
 PV.ite v20
 (bd (aN v5 (.int .i64 0) (.int .i64 6)) fun r21=>
 PV.ite (hd r21)
 (bd (PV.bin .add v5 (.int .i64 1)) fun v22=>
 some [(.tup [v22,(.int .i64 1)])])
 (iL v1 v2 v4 v5))
 (iL v1 v2 v4 v5))))))))))))))):=aL _ _ _ (by kernel_rfl)
theorem sX (x0 x1 x2 x3 : PV) : iL x0 x1 x2 x3 =
 bd (PV.bin .eql x2 (.int .i64 24)) fun v0=>
 PV.ite v0
 (bd (PV.len x1) fun v1=>
 bd (aP x3 v1) fun r2=>
 PV.ite (hd r2)
 (pH x0 x1 x2 x3)
 (some [(.tup [(.int .i64 0),(.int .i64 0)])]))
 (some [(.tup [(.int .i64 0),(.int .i64 0)])]):=cG _ _ _ _ _ _ _ _ (by kernel_rfl)
theorem sY (x0 x1 x2 x3 : PV) : pH x0 x1 x2 x3 =
 bd (PV.at_ 3 true x1 x3) fun v0=>
 bd (PV.cell v0 0) fun v1=>
 some [(.tup [v1,(.int .i64 1)])]:=cG _ _ _ _ _ _ _ _ (by kernel_rfl)
theorem nR (x0 x1 : PV) : gH x0 x1=bd (PV.len x0) fun v0=>dQ x0 x1 v0 (.int .i64 0):=aL _ _ _ (by kernel_rfl)
theorem gK (x0 x1 x2 x3 : PV) : dQ x0 x1 x2 x3 =
 bd (PV.bin .lss x3 x2) fun v0=>
 PV.ite v0
 (bd (PV.at_ 1 false x0 x3) fun v1=>
 bd (PV.bin .eql x1 v1) fun v2=>
 PV.ite v2
 (some [x3])
 (bd (PV.bin .add x3 (.int .i64 1)) fun v3=>
 dQ x0 x1 x2 v3))
 (some [(.int .i64 (-1))]):=cG _ _ _ _ _ _ _ _ (by kernel_rfl)
theorem kW (x0 x1 : PV) : iF x0 x1=bd (PV.len x0) fun v0=>cU x0 x1 v0 (.int .i64 0):=aL _ _ _ (by kernel_rfl)
theorem fG (x0 x1 x2 x3 : PV) : cU x0 x1 x2 x3 =
 bd (PV.bin .lss x3 x2) fun v0=>
 PV.ite v0
 (bd (PV.at_ 1 false x0 x3) fun v1=>
 bd (PV.apply pcallO x1 [v1]) fun r2=>
 PV.ite (hd r2)
 (some [x3])
 (bd (PV.bin .add x3 (.int .i64 1)) fun v3=>
 cU x0 x1 x2 v3))
 (some [(.int .i64 (-1))]):=cG _ _ _ _ _ _ _ _ (by kernel_rfl)
theorem vR (x0 : PV) : iG x0 =
 bd (PV.whole 10 x0) fun v0=>
 bd (PV.cell v0 0) fun v1=>
 bd (PV.cell v0 1) fun v2=>
 bd (PV.cell v0 2) fun v3=>
 bd (PV.cell v0 3) fun v4=>
 bd (PV.cell v0 4) fun v5=>
 bd (PV.cell v0 5) fun v6=>
 bd (PV.cell v0 6) fun v7=>
 bd (PV.cell v0 7) fun v8=>
 bd (PV.cell v0 8) fun v9=>
 bd (PV.cell v0 9) fun v10=>
 bd (iM v1) fun r11=>
 PV.guardOwn (.own 4 64 true [.leaf,.leaf,(.own 3 32 true []),(.own 3 32 true [])]) (gd r11 0) (
 bd (jW v2) fun r12=>
 PV.guardOwn (.own 1 24 true [(.own 3 32 true [])]) (gd r12 0) (
 bd (cZ v4) fun r13=>
 PV.guardOwn (.own 1 16 false []) (gd r13 0) (
 some [v3,v5,v6,v7,v8,v9,v10,(gd r11 0),(gd r12 0),(gd r13 0)]))):=eQ _ _ _ _ (by kernel_rfl)
theorem xX (x0 x1 x2 x3 x4 x5 x6 x7 x8 x9 x10 x11 : PV) : kV x0 x1 x2 x3 x4 x5 x6 x7 x8 x9 x10 x11 =
 bd (PV.bin .add x8 (.int .i64 1)) fun v0=>
 bd (PV.one v0) fun v1=>
 bd (oN x0 x1 x2 x3 x4 x5 x6 x7 v1 x9 x10 x11) fun r2=>
 bd (PV.bin .neq (gd r2 0) (.int .i64 0)) fun v3=>
 PV.ite v3
 (bd (PV.one (gd r2 0)) fun v4=>
 some [(gd r2 1),(.int .i64 2),v4,(gd r2 4),(gd r2 5),(gd r2 6),(gd r2 7),(gd r2 8),(gd r2 9),(gd r2 10)])
 (some [(gd r2 1),(gd r2 2),(gd r2 3),(gd r2 4),(gd r2 5),(gd r2 6),(gd r2 7),(gd r2 8),(gd r2 9),(gd r2 10)]):=eQ _ _ _ _ (by kernel_rfl)
theorem xY (x0 x1 x2 : PV) : jB x0 x1 x2 =
 bd (PV.whole 2 x0) fun v0=>
 bd (PV.cell v0 0) fun v1=>
 bd (PV.cell v0 1) fun v2=>
 bd (PV.at_ 3 true v2 x1) fun v3=>
 bd (PV.cell v3 1) fun v4=>
 bd (PV.len x2) fun v5=>
 bd (PV.bin .sub v4 v5) fun v6=>
 bd (nQ v6) fun r7=>
 PV.guardOwn (.own 3 32 true []) (gd r7 0) (
 bd (PV.cat 1 24 false (.lst []) (.lst [x2,(gd r7 0)])) fun v8=>
 bd (bP v8) fun r9=>
 PV.guardOwn (.own 3 32 true []) (gd r9 0) (
 bd (PV.one x1) fun v10=>
 some [v10,(.int .i64 0),(gd r9 0),(.lst [])])):=eQ _ _ _ _ (by kernel_rfl)
theorem nF (x0 x1 : PV) : eJ x0 x1 =
 bd (PV.bin .lss x1 (.int .i64 0)) fun v0=>
 PV.ite v0
 (none)
 (iH x0 x1):=eQ _ _ _ _ (by kernel_rfl)
theorem kX (x0 x1 : PV) : iH x0 x1 =
 bd (PV.len x0) fun v0=>
 bd (PV.conv .u64 v0) fun v1=>
 bd (PV.conv .u64 x1) fun v2=>
 bd (sA v1 v2) fun r3=>
 bd (PV.comp (hd r3) 0) fun v4=>
 bd (PV.comp (hd r3) 1) fun v5=>
 bd (PV.bin .gtr v4 (.int .u64 0)) fun v6=>
 PV.ite v6
 (none)
 (bd (PV.bin .gtr v5 (.int .u64 9223372036854775807)) fun v7=>
 PV.ite v7
 (none)
 (iI x0 v5)):=cG _ _ _ _ _ _ _ _ (by kernel_rfl)
theorem kY (x0 x1 : PV) : iI x0 x1 =
 bd (PV.conv .i64 x1) fun v0=>
 bd (PV.zeros 8 (.int .i64 0) v0) fun v1=>
 bd (PV.bin .leq v0 v0) fun v2=>
 PV.ite v2
 (bd (PV.zeros 8 (.int .i64 0) v0) fun v3=>
 bd (PV.len v3) fun v4=>
 bd (PV.ncopy v3 (.int .i64 0) v4 x0) fun v5=>
 bd (PV.copyIn 1 false v3 (.int .i64 0) v4 x0) fun v6=>
 dJ v5 v6)
 (none):=cG _ _ _ _ _ _ _ _ (by kernel_rfl)
theorem gA (x0 x1 : PV) : dJ x0 x1 =
 bd (PV.len x1) fun v0=>
 bd (PV.bin .lss x0 v0) fun v1=>
 PV.ite v1
 (bd (PV.len x1) fun v2=>
 bd (PV.cut 1 false x1 x0 v2) fun v3=>
 bd (PV.cut 1 false x1 (.int .i64 0) x0) fun v4=>
 bd (PV.cut 1 false x1 (.int .i64 0) x0) fun v5=>
 bd (PV.ncopy x1 x0 v2 v5) fun v6=>
 bd (PV.copyIn 1 false x1 x0 v2 v5) fun v7=>
 bd (PV.bin .add x0 v6) fun v8=>
 dJ v8 v7)
 (some [x1]):=cG _ _ _ _ _ _ _ _ (by kernel_rfl)
theorem vS (x0 x1 : PV) : sA x0 x1 =
 bd (pI x0 x1) fun r0=>
 bd (PV.comp (hd r0) 0) fun v1=>
 bd (PV.comp (hd r0) 1) fun v2=>
 some [(.tup [v1,v2])]:=aL _ _ _ (by kernel_rfl)
theorem sZ (x0 x1 : PV) : pI x0 x1 =
 bd (PV.bin .and x0 (.int .u64 4294967295)) fun v0=>
 bd (PV.bin .shr x0 (.int .u64 32)) fun v1=>
 bd (PV.bin .and x1 (.int .u64 4294967295)) fun v2=>
 bd (PV.bin .shr x1 (.int .u64 32)) fun v3=>
 bd (PV.bin .mul v0 v2) fun v4=>
 bd (PV.bin .mul v1 v2) fun v5=>
 bd (PV.bin .shr v4 (.int .u64 32)) fun v6=>
 bd (PV.bin .add v5 v6) fun v7=>
 bd (PV.bin .and v7 (.int .u64 4294967295)) fun v8=>
 bd (PV.bin .shr v7 (.int .u64 32)) fun v9=>
 bd (PV.bin .mul v0 v3) fun v10=>
 bd (PV.bin .add v8 v10) fun v11=>
 bd (PV.bin .mul v1 v3) fun v12=>
 bd (PV.bin .add v12 v9) fun v13=>
 bd (PV.bin .shr v11 (.int .u64 32)) fun v14=>
 bd (PV.bin .add v13 v14) fun v15=>
 bd (PV.bin .mul x0 x1) fun v16=>
 some [(.tup [v15,v16])]:=aL _ _ _ (by kernel_rfl)
end Go.Proofs.YtjgleeamiclokaaDoor
namespace Go.Proofs.YtjgleeamiclokaaDoor
open Go
theorem tA (x0 : PV) : iM x0=bd (PV.len x0) fun v0=>fO x0 v0 (.int .i64 0) (.lst []):=eQ _ _ _ _ (by kernel_rfl)
theorem jH (x0 x1 x2 x3 : PV) : fO x0 x1 x2 x3 =
 bd (PV.bin .lss x2 x1) fun v0=>
 PV.ite v0
 (bd (PV.at_ 4 true x0 x2) fun v1=>
 bd (PV.whole 4 v1) fun v2=>
 bd (PV.cell v2 0) fun v3=>
 bd (PV.cell v2 1) fun v4=>
 bd (PV.cell v2 2) fun v5=>
 bd (PV.cell v2 3) fun v6=>
 bd (aU v5) fun r7=>
 PV.guardOwn (.own 3 32 true []) (gd r7 0) (
 bd (aU v6) fun r8=>
 PV.guardOwn (.own 3 32 true []) (gd r8 0) (
 bd (PV.cat 4 64 true x3 (.lst [(.agg [v3,v4,(gd r7 0),(gd r8 0)])])) fun v9=>
 bd (PV.bin .add x2 (.int .i64 1)) fun v10=>
 fO x0 x1 v10 v9)))
 (some [x3]):=cG _ _ _ _ _ _ _ _ (by kernel_rfl)
theorem vT (x0 : PV) : jW x0=bd (PV.len x0) fun v0=>gX x0 v0 (.int .i64 0) (.lst []):=eQ _ _ _ _ (by kernel_rfl)
theorem kQ (x0 x1 x2 x3 : PV) : gX x0 x1 x2 x3 =
 bd (PV.bin .lss x2 x1) fun v0=>
 PV.ite v0
 (bd (PV.at_ 1 true x0 x2) fun v1=>
 bd (PV.whole 1 v1) fun v2=>
 bd (PV.cell v2 0) fun v3=>
 bd (aU v3) fun r4=>
 PV.guardOwn (.own 3 32 true []) (gd r4 0) (
 bd (PV.cat 1 24 true x3 (.lst [(.agg [(gd r4 0)])])) fun v5=>
 bd (PV.bin .add x2 (.int .i64 1)) fun v6=>
 gX x0 x1 v6 v5))
 (some [x3]):=cG _ _ _ _ _ _ _ _ (by kernel_rfl)
theorem kD (x0 : PV) : cZ x0 =
 bd (PV.isLst x0) fun v0=>
 PV.nilT v0
 (some [(.lst [])])
 (bd (PV.cat 1 16 false (.lst []) x0) fun v1=>
 some [v1]):=eQ _ _ _ _ (by kernel_rfl)
theorem aAY (x0 x1 x2 x3 x4 x5 x6 x7 x8 x9 x10 x11 : PV) : oN x0 x1 x2 x3 x4 x5 x6 x7 x8 x9 x10 x11 =
 bd (PV.len x9) fun v0=>
 bd (PV.bin .sub v0 (.int .i64 1)) fun v1=>
 bd (PV.inb x9 v1) fun v2=>
 bd (PV.at_ 4 true x9 v1) fun v3=>
 bd (PV.cell v3 0) fun v4=>
 bd (PV.at_ 3 true x1 v4) fun v5=>
 bd (PV.cell v5 2) fun v6=>
 bd (PV.at_ 4 true x9 v1) fun v7=>
 bd (PV.cell v7 1) fun v8=>
 bd (PV.at_ 2 true v6 v8) fun v9=>
 bd (PV.whole 2 v9) fun v10=>
 bd (PV.cell v10 0) fun v11=>
 bd (PV.cell v10 1) fun v12=>
 bd (mN (.agg [x0,x1]) (.agg [v11,v12])) fun r13=>
 bd (PV.comp (hd r13) 0) fun v14=>
 bd (PV.comp (hd r13) 1) fun v15=>
 bd (PV.at_ 4 true x9 v1) fun v16=>
 bd (PV.at_ 4 true x9 v1) fun v17=>
 bd (PV.cell v17 3) fun v18=>
 bd (PV.len v18) fun v19=>
 bd (PV.bin .sub v19 v14) fun v20=>
 bd (PV.at_ 4 true x9 v1) fun v21=>
 bd (PV.at_ 4 true x9 v1) fun v22=>
 bd (PV.cell v22 3) fun v23=>
 bd (PV.len v23) fun v24=>
 bd (PV.cut 3 true v23 v20 v24) fun v25=>
 bd (PV.at_ 4 true x9 v1) fun v26=>
 bd (PV.cell v26 3) fun v27=>
 bd (PV.cut 3 true v27 v20 v24) fun v28=>
 bd (aU v28) fun r29=>
 PV.guardOwn (.own 3 32 true []) (gd r29 0) (
 bd (PV.at_ 4 true x9 v1) fun v30=>
 bd (PV.cell v30 1) fun v31=>
 bd (PV.bin .add v31 (.int .i64 1)) fun v32=>
 bd (PV.bin .eql v11 (.int .i64 1)) fun v33=>
 PV.ite v33
 (bd (oO v12) fun r34=>
 bd (PV.cat 3 32 true (.lst []) (.lst [(hd r34)])) fun v35=>
 bd (PV.cat 3 32 true (.lst []) v35) fun v36=>
 bd (PV.at_ 4 true x9 v1) fun v37=>
 bd (PV.at_ 4 true x9 v1) fun v38=>
 bd (PV.cell v38 3) fun v39=>
 bd (PV.cut 3 true v39 (.int .i64 0) v20) fun v40=>
 bd (PV.at_ 4 true x9 v1) fun v41=>
 bd (PV.cell v41 3) fun v42=>
 bd (PV.cut 3 true v42 (.int .i64 0) v20) fun v43=>
 bd (PV.at_ 4 true x9 v1) fun v44=>
 bd (PV.cell v44 3) fun v45=>
 bd (PV.setCell 4 x9 v1 3 .hole) fun v46=>
 bd (PV.cat 3 32 true v43 v36) fun v47=>
 bd (PV.setCell 4 v46 v1 3 v47) fun v48=>
 bd (PV.one v32) fun v49=>
 bd (PV.setCell 4 v48 v1 1 v49) fun v50=>
 some [(.int .i64 0),x2,x3,x4,x5,x6,x7,x8,v50,x10,x11])
 (bd (PV.bin .eql v11 (.int .i64 2)) fun v51=>
 PV.ite v51
 (bd (PV.bin .eql v12 (.int .i64 1)) fun v52=>
 bd (gI v52) fun r53=>
 bd (PV.cat 3 32 true (.lst []) (.lst [(hd r53)])) fun v54=>
 bd (PV.cat 3 32 true (.lst []) v54) fun v55=>
 bd (PV.at_ 4 true x9 v1) fun v56=>
 bd (PV.at_ 4 true x9 v1) fun v57=>
 bd (PV.cell v57 3) fun v58=>
 bd (PV.cut 3 true v58 (.int .i64 0) v20) fun v59=>
 bd (PV.at_ 4 true x9 v1) fun v60=>
 bd (PV.cell v60 3) fun v61=>
 bd (PV.cut 3 true v61 (.int .i64 0) v20) fun v62=>
 bd (PV.at_ 4 true x9 v1) fun v63=>
 bd (PV.cell v63 3) fun v64=>
 bd (PV.setCell 4 x9 v1 3 .hole) fun v65=>
 bd (PV.cat 3 32 true v62 v55) fun v66=>
 bd (PV.setCell 4 v65 v1 3 v66) fun v67=>
 bd (PV.one v32) fun v68=>
 bd (PV.setCell 4 v67 v1 1 v68) fun v69=>
 some [(.int .i64 0),x2,x3,x4,x5,x6,x7,x8,v69,x10,x11])
 (bd (PV.bin .eql v11 (.int .i64 3)) fun v70=>
 PV.ite v70
 (bd (PV.at_ 1 false x0 v12) fun v71=>
 bd (PV.one v71) fun v72=>
 bd (PV.at_ 4 true x9 v1) fun v73=>
 bd (PV.at_ 4 true x9 v1) fun v74=>
 bd (PV.cell v74 3) fun v75=>
 bd (PV.cut 3 true v75 (.int .i64 0) v20) fun v76=>
 bd (PV.at_ 4 true x9 v1) fun v77=>
 bd (PV.cell v77 3) fun v78=>
 bd (PV.cut 3 true v78 (.int .i64 0) v20) fun v79=>
 bd (PV.at_ 4 true x9 v1) fun v80=>
 bd (PV.cell v80 3) fun v81=>
 bd (PV.setCell 4 x9 v1 3 .hole) fun v82=>
 bd (PV.cat 3 32 true v79 (.lst [(.agg [(.int .i64 3),(.int .i64 0),v72])])) fun v83=>
 bd (PV.setCell 4 v82 v1 3 v83) fun v84=>
 bd (PV.one v32) fun v85=>
 bd (PV.setCell 4 v84 v1 1 v85) fun v86=>
 some [(.int .i64 0),x2,x3,x4,x5,x6,x7,x8,v86,x10,x11])
 (bd (PV.bin .eql v11 (.int .i64 4)) fun v87=>
 PV.ite v87
 (bd (PV.at_ 4 true x9 v1) fun v88=>
 bd (PV.at_ 4 true x9 v1) fun v89=>
 bd (PV.cell v89 3) fun v90=>
 bd (PV.cut 3 true v90 (.int .i64 0) v20) fun v91=>
 bd (PV.at_ 4 true x9 v1) fun v92=>
 bd (PV.cell v92 3) fun v93=>
 bd (PV.cut 3 true v93 (.int .i64 0) v20) fun v94=>
 bd (PV.at_ 4 true x9 v1) fun v95=>
 bd (PV.cell v95 3) fun v96=>
 bd (PV.setCell 4 x9 v1 3 .hole) fun v97=>
 bd (PV.cat 3 32 true v94 (.lst [(.agg [(.int .i64 0),(.int .i64 0),(.str (bs []))])])) fun v98=>
 bd (PV.setCell 4 v97 v1 3 v98) fun v99=>
 bd (PV.one v32) fun v100=>
 bd (PV.setCell 4 v99 v1 1 v100) fun v101=>
 some [(.int .i64 0),x2,x3,x4,x5,x6,x7,x8,v101,x10,x11])
 (bd (PV.bin .eql v11 (.int .i64 5)) fun v102=>
 PV.ite v102
 (bd (PV.one v12) fun v103=>
 bd (PV.at_ 4 true x9 v1) fun v104=>
 bd (PV.at_ 4 true x9 v1) fun v105=>
 bd (PV.cell v105 3) fun v106=>
 bd (PV.cut 3 true v106 (.int .i64 0) v20) fun v107=>
 bd (PV.at_ 4 true x9 v1) fun v108=>
 bd (PV.cell v108 3) fun v109=>
 bd (PV.cut 3 true v109 (.int .i64 0) v20) fun v110=>
 bd (PV.at_ 4 true x9 v1) fun v111=>
 bd (PV.cell v111 3) fun v112=>
 bd (PV.setCell 4 x9 v1 3 .hole) fun v113=>
 bd (PV.cat 3 32 true v110 (.lst [(.agg [(.int .i64 5),v103,(.str (bs []))])])) fun v114=>
 bd (PV.setCell 4 v113 v1 3 v114) fun v115=>
 bd (PV.one v32) fun v116=>
 bd (PV.setCell 4 v115 v1 1 v116) fun v117=>
 some [(.int .i64 0),x2,x3,x4,x5,x6,x7,x8,v117,x10,x11])
 (bd (PV.bin .eql v11 (.int .i64 6)) fun v118=>
 PV.ite v118
 (bd (PV.at_ 4 true x9 v1) fun v119=>
 bd (PV.at_ 4 true x9 v1) fun v120=>
 bd (PV.cell v120 2) fun v121=>
 bd (PV.inb v121 v12) fun v122=>
 bd (PV.at_ 4 true x9 v1) fun v123=>
 bd (PV.cell v123 2) fun v124=>
 bd (PV.at_ 3 true v124 v12) fun v125=>
 bd (PV.cat 3 32 true (.lst []) (.lst [v125])) fun v126=>
 bd (PV.cat 3 32 true (.lst []) v126) fun v127=>
 bd (PV.at_ 4 true x9 v1) fun v128=>
 bd (PV.at_ 4 true x9 v1) fun v129=>
 bd (PV.cell v129 3) fun v130=>
 bd (PV.cut 3 true v130 (.int .i64 0) v20) fun v131=>
 bd (PV.at_ 4 true x9 v1) fun v132=>
 bd (PV.cell v132 3) fun v133=>
 bd (PV.cut 3 true v133 (.int .i64 0) v20) fun v134=>
 bd (PV.at_ 4 true x9 v1) fun v135=>
 bd (PV.cell v135 3) fun v136=>
 bd (PV.setCell 4 x9 v1 3 .hole) fun v137=>
 bd (PV.cat 3 32 true v134 v127) fun v138=>
 bd (PV.setCell 4 v137 v1 3 v138) fun v139=>
 bd (PV.one v32) fun v140=>
 bd (PV.setCell 4 v139 v1 1 v140) fun v141=>
 some [(.int .i64 0),x2,x3,x4,x5,x6,x7,x8,v141,x10,x11])
 (bd (PV.bin .eql v11 (.int .i64 7)) fun v142=>
 PV.ite v142
 (bd (PV.at_ 4 true x9 v1) fun v143=>
 bd (PV.inb (gd r29 0) (.int .i64 0)) fun v144=>
 bd (PV.at_ 3 true (gd r29 0) (.int .i64 0)) fun v145=>
 bd (PV.at_ 4 true x9 v1) fun v146=>
 bd (PV.cell v146 2) fun v147=>
 bd (PV.inb v147 v12) fun v148=>
 bd (PV.at_ 4 true x9 v1) fun v149=>
 bd (PV.cell v149 2) fun v150=>
 bd (PV.at_ 4 true x9 v1) fun v151=>
 bd (PV.cell v151 2) fun v152=>
 bd (PV.setAt 3 true v152 v12 v145) fun v153=>
 bd (PV.at_ 4 true x9 v1) fun v154=>
 bd (PV.cell v154 2) fun v155=>
 bd (PV.setCell 4 x9 v1 2 v153) fun v156=>
 bd (PV.at_ 4 true v156 v1) fun v157=>
 bd (PV.at_ 4 true v156 v1) fun v158=>
 bd (PV.cell v158 3) fun v159=>
 bd (PV.cut 3 true v159 (.int .i64 0) v20) fun v160=>
 bd (PV.at_ 4 true v156 v1) fun v161=>
 bd (PV.cell v161 3) fun v162=>
 bd (PV.cut 3 true v162 (.int .i64 0) v20) fun v163=>
 bd (PV.at_ 4 true v156 v1) fun v164=>
 bd (PV.cell v164 3) fun v165=>
 bd (PV.setCell 4 v156 v1 3 .hole) fun v166=>
 bd (PV.cat 3 32 true v163 (.lst [])) fun v167=>
 bd (PV.setCell 4 v166 v1 3 v167) fun v168=>
 bd (PV.one v32) fun v169=>
 bd (PV.setCell 4 v168 v1 1 v169) fun v170=>
 some [(.int .i64 0),x2,x3,x4,x5,x6,x7,x8,v170,x10,x11])
 (bd (PV.bin .eql v11 (.int .i64 8)) fun v171=>
 PV.ite v171
 (bd (PV.inb (gd r29 0) (.int .i64 0)) fun v172=>
 bd (PV.at_ 3 true (gd r29 0) (.int .i64 0)) fun v173=>
 bd (PV.inb (gd r29 0) (.int .i64 0)) fun v174=>
 bd (PV.at_ 3 true (gd r29 0) (.int .i64 0)) fun v175=>
 bd (PV.cat 3 32 true (.lst []) (.lst [v173,v175])) fun v176=>
 bd (PV.cat 3 32 true (.lst []) v176) fun v177=>
 bd (PV.at_ 4 true x9 v1) fun v178=>
 bd (PV.at_ 4 true x9 v1) fun v179=>
 bd (PV.cell v179 3) fun v180=>
 bd (PV.cut 3 true v180 (.int .i64 0) v20) fun v181=>
 bd (PV.at_ 4 true x9 v1) fun v182=>
 bd (PV.cell v182 3) fun v183=>
 bd (PV.cut 3 true v183 (.int .i64 0) v20) fun v184=>
 bd (PV.at_ 4 true x9 v1) fun v185=>
 bd (PV.cell v185 3) fun v186=>
 bd (PV.setCell 4 x9 v1 3 .hole) fun v187=>
 bd (PV.cat 3 32 true v184 v177) fun v188=>
 bd (PV.setCell 4 v187 v1 3 v188) fun v189=>
 bd (PV.one v32) fun v190=>
 bd (PV.setCell 4 v189 v1 1 v190) fun v191=>
 some [(.int .i64 0),x2,x3,x4,x5,x6,x7,x8,v191,x10,x11])
 (bd (PV.bin .eql v11 (.int .i64 10)) fun v192=>
 PV.ite v192
 (bd (PV.inb (gd r29 0) (.int .i64 1)) fun v193=>
 bd (PV.at_ 3 true (gd r29 0) (.int .i64 1)) fun v194=>
 bd (PV.inb (gd r29 0) (.int .i64 0)) fun v195=>
 bd (PV.at_ 3 true (gd r29 0) (.int .i64 0)) fun v196=>
 bd (PV.cat 3 32 true (.lst []) (.lst [v194,v196])) fun v197=>
 bd (PV.cat 3 32 true (.lst []) v197) fun v198=>
 bd (PV.at_ 4 true x9 v1) fun v199=>
 bd (PV.at_ 4 true x9 v1) fun v200=>
 bd (PV.cell v200 3) fun v201=>
 bd (PV.cut 3 true v201 (.int .i64 0) v20) fun v202=>
 bd (PV.at_ 4 true x9 v1) fun v203=>
 bd (PV.cell v203 3) fun v204=>
 bd (PV.cut 3 true v204 (.int .i64 0) v20) fun v205=>
 bd (PV.at_ 4 true x9 v1) fun v206=>
 bd (PV.cell v206 3) fun v207=>
 bd (PV.setCell 4 x9 v1 3 .hole) fun v208=>
 bd (PV.cat 3 32 true v205 v198) fun v209=>
 bd (PV.setCell 4 v208 v1 3 v209) fun v210=>
 bd (PV.one v32) fun v211=>
 bd (PV.setCell 4 v210 v1 1 v211) fun v212=>
 some [(.int .i64 0),x2,x3,x4,x5,x6,x7,x8,v212,x10,x11])
 (bd (PV.bin .eql v11 (.int .i64 11)) fun v213=>
 PV.ite v213
 (bd (eM v11) fun r214=>
 bd (PV.inb (gd r29 0) (.int .i64 0)) fun v215=>
 bd (PV.at_ 3 true (gd r29 0) (.int .i64 0)) fun v216=>
 bd (PV.inb (gd r29 0) (.int .i64 1)) fun v217=>
 bd (PV.at_ 3 true (gd r29 0) (.int .i64 1)) fun v218=>
 bd (PV.apply pcallO (hd r214) [v216,v218]) fun r219=>
 bd (PV.comp (hd r219) 0) fun v220=>
 bd (PV.comp (hd r219) 1) fun v221=>
 bd (PV.whole 3 v220) fun v222=>
 bd (PV.cell v222 0) fun v223=>
 bd (PV.cell v222 1) fun v224=>
 bd (PV.cell v222 2) fun v225=>
 bd (PV.bin .neq v221 (.int .i64 0)) fun v226=>
 PV.ite v226
 (some [v221,x2,x3,x4,x5,x6,x7,x8,x9,x10,x11])
 (bd (PV.at_ 4 true x9 v1) fun v227=>
 bd (PV.at_ 4 true x9 v1) fun v228=>
 bd (PV.cell v228 3) fun v229=>
 bd (PV.cut 3 true v229 (.int .i64 0) v20) fun v230=>
 bd (PV.at_ 4 true x9 v1) fun v231=>
 bd (PV.cell v231 3) fun v232=>
 bd (PV.cut 3 true v232 (.int .i64 0) v20) fun v233=>
 bd (PV.at_ 4 true x9 v1) fun v234=>
 bd (PV.cell v234 3) fun v235=>
 bd (PV.setCell 4 x9 v1 3 .hole) fun v236=>
 bd (PV.cat 3 32 true v233 (.lst [(.agg [v223,v224,v225])])) fun v237=>
 bd (PV.setCell 4 v236 v1 3 v237) fun v238=>
 bd (PV.one v32) fun v239=>
 bd (PV.setCell 4 v238 v1 1 v239) fun v240=>
 some [(.int .i64 0),x2,x3,x4,x5,x6,x7,x8,v240,x10,x11]))
 (bd (PV.bin .eql v11 (.int .i64 12)) fun v241=>
 PV.ite v241
 (bd (eM v11) fun r242=>
 bd (PV.inb (gd r29 0) (.int .i64 0)) fun v243=>
 bd (PV.at_ 3 true (gd r29 0) (.int .i64 0)) fun v244=>
 bd (PV.inb (gd r29 0) (.int .i64 1)) fun v245=>
 bd (PV.at_ 3 true (gd r29 0) (.int .i64 1)) fun v246=>
 bd (PV.apply pcallO (hd r242) [v244,v246]) fun r247=>
 bd (PV.comp (hd r247) 0) fun v248=>
 bd (PV.comp (hd r247) 1) fun v249=>
 bd (PV.whole 3 v248) fun v250=>
 bd (PV.cell v250 0) fun v251=>
 bd (PV.cell v250 1) fun v252=>
 bd (PV.cell v250 2) fun v253=>
 bd (PV.bin .neq v249 (.int .i64 0)) fun v254=>
 PV.ite v254
 (some [v249,x2,x3,x4,x5,x6,x7,x8,x9,x10,x11])
 (bd (PV.at_ 4 true x9 v1) fun v255=>
 bd (PV.at_ 4 true x9 v1) fun v256=>
 bd (PV.cell v256 3) fun v257=>
 bd (PV.cut 3 true v257 (.int .i64 0) v20) fun v258=>
 bd (PV.at_ 4 true x9 v1) fun v259=>
 bd (PV.cell v259 3) fun v260=>
 bd (PV.cut 3 true v260 (.int .i64 0) v20) fun v261=>
 bd (PV.at_ 4 true x9 v1) fun v262=>
 bd (PV.cell v262 3) fun v263=>
 bd (PV.setCell 4 x9 v1 3 .hole) fun v264=>
 bd (PV.cat 3 32 true v261 (.lst [(.agg [v251,v252,v253])])) fun v265=>
 bd (PV.setCell 4 v264 v1 3 v265) fun v266=>
 bd (PV.one v32) fun v267=>
 bd (PV.setCell 4 v266 v1 1 v267) fun v268=>
 some [(.int .i64 0),x2,x3,x4,x5,x6,x7,x8,v268,x10,x11]))
 (bd (PV.bin .eql v11 (.int .i64 13)) fun v269=>
 PV.ite v269
 (bd (eM v11) fun r270=>
 bd (PV.inb (gd r29 0) (.int .i64 0)) fun v271=>
 bd (PV.at_ 3 true (gd r29 0) (.int .i64 0)) fun v272=>
 bd (PV.inb (gd r29 0) (.int .i64 1)) fun v273=>
 bd (PV.at_ 3 true (gd r29 0) (.int .i64 1)) fun v274=>
 bd (PV.apply pcallO (hd r270) [v272,v274]) fun r275=>
 bd (PV.comp (hd r275) 0) fun v276=>
 bd (PV.comp (hd r275) 1) fun v277=>
 bd (PV.whole 3 v276) fun v278=>
 bd (PV.cell v278 0) fun v279=>
 bd (PV.cell v278 1) fun v280=>
 bd (PV.cell v278 2) fun v281=>
 bd (PV.bin .neq v277 (.int .i64 0)) fun v282=>
 PV.ite v282
 (some [v277,x2,x3,x4,x5,x6,x7,x8,x9,x10,x11])
 (bd (PV.at_ 4 true x9 v1) fun v283=>
 bd (PV.at_ 4 true x9 v1) fun v284=>
 bd (PV.cell v284 3) fun v285=>
 bd (PV.cut 3 true v285 (.int .i64 0) v20) fun v286=>
 bd (PV.at_ 4 true x9 v1) fun v287=>
 bd (PV.cell v287 3) fun v288=>
 bd (PV.cut 3 true v288 (.int .i64 0) v20) fun v289=>
 bd (PV.at_ 4 true x9 v1) fun v290=>
 bd (PV.cell v290 3) fun v291=>
 bd (PV.setCell 4 x9 v1 3 .hole) fun v292=>
 bd (PV.cat 3 32 true v289 (.lst [(.agg [v279,v280,v281])])) fun v293=>
 bd (PV.setCell 4 v292 v1 3 v293) fun v294=>
 bd (PV.one v32) fun v295=>
 bd (PV.setCell 4 v294 v1 1 v295) fun v296=>
 some [(.int .i64 0),x2,x3,x4,x5,x6,x7,x8,v296,x10,x11]))
 (bd (PV.bin .eql v11 (.int .i64 14)) fun v297=>
 PV.ite v297
 (bd (eM v11) fun r298=>
 bd (PV.inb (gd r29 0) (.int .i64 0)) fun v299=>
 bd (PV.at_ 3 true (gd r29 0) (.int .i64 0)) fun v300=>
 bd (PV.inb (gd r29 0) (.int .i64 1)) fun v301=>
 bd (PV.at_ 3 true (gd r29 0) (.int .i64 1)) fun v302=>
 bd (PV.apply pcallO (hd r298) [v300,v302]) fun r303=>
 bd (PV.comp (hd r303) 0) fun v304=>
 bd (PV.comp (hd r303) 1) fun v305=>
 bd (PV.whole 3 v304) fun v306=>
 bd (PV.cell v306 0) fun v307=>
 bd (PV.cell v306 1) fun v308=>
 bd (PV.cell v306 2) fun v309=>
 bd (PV.bin .neq v305 (.int .i64 0)) fun v310=>
 PV.ite v310
 (some [v305,x2,x3,x4,x5,x6,x7,x8,x9,x10,x11])
 (bd (PV.at_ 4 true x9 v1) fun v311=>
 bd (PV.at_ 4 true x9 v1) fun v312=>
 bd (PV.cell v312 3) fun v313=>
 bd (PV.cut 3 true v313 (.int .i64 0) v20) fun v314=>
 bd (PV.at_ 4 true x9 v1) fun v315=>
 bd (PV.cell v315 3) fun v316=>
 bd (PV.cut 3 true v316 (.int .i64 0) v20) fun v317=>
 bd (PV.at_ 4 true x9 v1) fun v318=>
 bd (PV.cell v318 3) fun v319=>
 bd (PV.setCell 4 x9 v1 3 .hole) fun v320=>
 bd (PV.cat 3 32 true v317 (.lst [(.agg [v307,v308,v309])])) fun v321=>
 bd (PV.setCell 4 v320 v1 3 v321) fun v322=>
 bd (PV.one v32) fun v323=>
 bd (PV.setCell 4 v322 v1 1 v323) fun v324=>
 some [(.int .i64 0),x2,x3,x4,x5,x6,x7,x8,v324,x10,x11]))
 (bd (PV.bin .eql v11 (.int .i64 15)) fun v325=>
 PV.ite v325
 (bd (PV.inb (gd r29 0) (.int .i64 0)) fun v326=>
 bd (PV.at_ 3 true (gd r29 0) (.int .i64 0)) fun v327=>
 bd (PV.inb (gd r29 0) (.int .i64 1)) fun v328=>
 bd (PV.at_ 3 true (gd r29 0) (.int .i64 1)) fun v329=>
 bd (qK v327 v329) fun r330=>
 bd (PV.cat 3 32 true (.lst []) (.lst [(hd r330)])) fun v331=>
 bd (PV.cat 3 32 true (.lst []) v331) fun v332=>
 bd (PV.at_ 4 true x9 v1) fun v333=>
 bd (PV.at_ 4 true x9 v1) fun v334=>
 bd (PV.cell v334 3) fun v335=>
 bd (PV.cut 3 true v335 (.int .i64 0) v20) fun v336=>
 bd (PV.at_ 4 true x9 v1) fun v337=>
 bd (PV.cell v337 3) fun v338=>
 bd (PV.cut 3 true v338 (.int .i64 0) v20) fun v339=>
 bd (PV.at_ 4 true x9 v1) fun v340=>
 bd (PV.cell v340 3) fun v341=>
 bd (PV.setCell 4 x9 v1 3 .hole) fun v342=>
 bd (PV.cat 3 32 true v339 v332) fun v343=>
 bd (PV.setCell 4 v342 v1 3 v343) fun v344=>
 bd (PV.one v32) fun v345=>
 bd (PV.setCell 4 v344 v1 1 v345) fun v346=>
 some [(.int .i64 0),x2,x3,x4,x5,x6,x7,x8,v346,x10,x11])
 (bd (PV.bin .eql v11 (.int .i64 16)) fun v347=>
 PV.ite v347
 (bd (PV.inb (gd r29 0) (.int .i64 0)) fun v348=>
 bd (PV.at_ 3 true (gd r29 0) (.int .i64 0)) fun v349=>
 bd (sS v349) fun r350=>
 bd (PV.comp (hd r350) 0) fun v351=>
 bd (PV.comp (hd r350) 1) fun v352=>
 bd (PV.whole 3 v351) fun v353=>
 bd (PV.cell v353 0) fun v354=>
 bd (PV.cell v353 1) fun v355=>
 bd (PV.cell v353 2) fun v356=>
 bd (PV.bin .neq v352 (.int .i64 0)) fun v357=>
 PV.ite v357
 (some [v352,x2,x3,x4,x5,x6,x7,x8,x9,x10,x11])
 (bd (PV.at_ 4 true x9 v1) fun v358=>
 bd (PV.at_ 4 true x9 v1) fun v359=>
 bd (PV.cell v359 3) fun v360=>
 bd (PV.cut 3 true v360 (.int .i64 0) v20) fun v361=>
 bd (PV.at_ 4 true x9 v1) fun v362=>
 bd (PV.cell v362 3) fun v363=>
 bd (PV.cut 3 true v363 (.int .i64 0) v20) fun v364=>
 bd (PV.at_ 4 true x9 v1) fun v365=>
 bd (PV.cell v365 3) fun v366=>
 bd (PV.setCell 4 x9 v1 3 .hole) fun v367=>
 bd (PV.cat 3 32 true v364 (.lst [(.agg [v354,v355,v356])])) fun v368=>
 bd (PV.setCell 4 v367 v1 3 v368) fun v369=>
 bd (PV.one v32) fun v370=>
 bd (PV.setCell 4 v369 v1 1 v370) fun v371=>
 some [(.int .i64 0),x2,x3,x4,x5,x6,x7,x8,v371,x10,x11]))
 (bd (PV.bin .eql v11 (.int .i64 17)) fun v372=>
 PV.ite v372
 (bd (PV.at_ 4 true x9 v1) fun v373=>
 bd (PV.at_ 4 true x9 v1) fun v374=>
 bd (PV.cell v374 3) fun v375=>
 bd (PV.cut 3 true v375 (.int .i64 0) v20) fun v376=>
 bd (PV.at_ 4 true x9 v1) fun v377=>
 bd (PV.cell v377 3) fun v378=>
 bd (PV.cut 3 true v378 (.int .i64 0) v20) fun v379=>
 bd (PV.at_ 4 true x9 v1) fun v380=>
 bd (PV.cell v380 3) fun v381=>
 bd (PV.setCell 4 x9 v1 3 .hole) fun v382=>
 bd (PV.cat 3 32 true v379 (.lst [])) fun v383=>
 bd (PV.setCell 4 v382 v1 3 v383) fun v384=>
 bd (PV.one v12) fun v385=>
 bd (PV.setCell 4 v384 v1 1 v385) fun v386=>
 some [(.int .i64 0),x2,x3,x4,x5,x6,x7,x8,v386,x10,x11])
 (bd (PV.bin .eql v11 (.int .i64 18)) fun v387=>
 PV.ite v387
 (bd (PV.inb (gd r29 0) (.int .i64 0)) fun v388=>
 bd (PV.at_ 3 true (gd r29 0) (.int .i64 0)) fun v389=>
 bd (PV.cell v389 0) fun v390=>
 bd (PV.bin .neq v390 (.int .i64 2)) fun v391=>
 PV.ite v391
 (some [(.int .i64 1),x2,x3,x4,x5,x6,x7,x8,x9,x10,x11])
 (bd (PV.inb (gd r29 0) (.int .i64 0)) fun v392=>
 bd (PV.at_ 3 true (gd r29 0) (.int .i64 0)) fun v393=>
 bd (PV.cell v393 1) fun v394=>
 bd (PV.bin .eql v394 (.int .i64 1)) fun v395=>
 bd (PV.bin .eql v11 (.int .i64 18)) fun v396=>
 bd (PV.beq .eql v395 v396) fun v397=>
 PV.ite v397
 (bd (PV.at_ 4 true x9 v1) fun v398=>
 bd (PV.at_ 4 true x9 v1) fun v399=>
 bd (PV.cell v399 3) fun v400=>
 bd (PV.cut 3 true v400 (.int .i64 0) v20) fun v401=>
 bd (PV.at_ 4 true x9 v1) fun v402=>
 bd (PV.cell v402 3) fun v403=>
 bd (PV.cut 3 true v403 (.int .i64 0) v20) fun v404=>
 bd (PV.at_ 4 true x9 v1) fun v405=>
 bd (PV.cell v405 3) fun v406=>
 bd (PV.setCell 4 x9 v1 3 .hole) fun v407=>
 bd (PV.cat 3 32 true v404 (.lst [])) fun v408=>
 bd (PV.setCell 4 v407 v1 3 v408) fun v409=>
 bd (PV.one v12) fun v410=>
 bd (PV.setCell 4 v409 v1 1 v410) fun v411=>
 some [(.int .i64 0),x2,x3,x4,x5,x6,x7,x8,v411,x10,x11])
 (bd (PV.at_ 4 true x9 v1) fun v412=>
 bd (PV.at_ 4 true x9 v1) fun v413=>
 bd (PV.cell v413 3) fun v414=>
 bd (PV.cut 3 true v414 (.int .i64 0) v20) fun v415=>
 bd (PV.at_ 4 true x9 v1) fun v416=>
 bd (PV.cell v416 3) fun v417=>
 bd (PV.cut 3 true v417 (.int .i64 0) v20) fun v418=>
 bd (PV.at_ 4 true x9 v1) fun v419=>
 bd (PV.cell v419 3) fun v420=>
 bd (PV.setCell 4 x9 v1 3 .hole) fun v421=>
 bd (PV.cat 3 32 true v418 (.lst [])) fun v422=>
 bd (PV.setCell 4 v421 v1 3 v422) fun v423=>
 bd (PV.one v32) fun v424=>
 bd (PV.setCell 4 v423 v1 1 v424) fun v425=>
 some [(.int .i64 0),x2,x3,x4,x5,x6,x7,x8,v425,x10,x11])))
 (bd (PV.bin .eql v11 (.int .i64 19)) fun v426=>
 PV.ite v426
 (bd (PV.inb (gd r29 0) (.int .i64 0)) fun v427=>
 bd (PV.at_ 3 true (gd r29 0) (.int .i64 0)) fun v428=>
 bd (PV.cell v428 0) fun v429=>
 bd (PV.bin .neq v429 (.int .i64 2)) fun v430=>
 PV.ite v430
 (some [(.int .i64 1),x2,x3,x4,x5,x6,x7,x8,x9,x10,x11])
 (bd (PV.inb (gd r29 0) (.int .i64 0)) fun v431=>
 bd (PV.at_ 3 true (gd r29 0) (.int .i64 0)) fun v432=>
 bd (PV.cell v432 1) fun v433=>
 bd (PV.bin .eql v433 (.int .i64 1)) fun v434=>
 bd (PV.bin .eql v11 (.int .i64 18)) fun v435=>
 bd (PV.beq .eql v434 v435) fun v436=>
 PV.ite v436
 (bd (PV.at_ 4 true x9 v1) fun v437=>
 bd (PV.at_ 4 true x9 v1) fun v438=>
 bd (PV.cell v438 3) fun v439=>
 bd (PV.cut 3 true v439 (.int .i64 0) v20) fun v440=>
 bd (PV.at_ 4 true x9 v1) fun v441=>
 bd (PV.cell v441 3) fun v442=>
 bd (PV.cut 3 true v442 (.int .i64 0) v20) fun v443=>
 bd (PV.at_ 4 true x9 v1) fun v444=>
 bd (PV.cell v444 3) fun v445=>
 bd (PV.setCell 4 x9 v1 3 .hole) fun v446=>
 bd (PV.cat 3 32 true v443 (.lst [])) fun v447=>
 bd (PV.setCell 4 v446 v1 3 v447) fun v448=>
 bd (PV.one v12) fun v449=>
 bd (PV.setCell 4 v448 v1 1 v449) fun v450=>
 some [(.int .i64 0),x2,x3,x4,x5,x6,x7,x8,v450,x10,x11])
 (bd (PV.at_ 4 true x9 v1) fun v451=>
 bd (PV.at_ 4 true x9 v1) fun v452=>
 bd (PV.cell v452 3) fun v453=>
 bd (PV.cut 3 true v453 (.int .i64 0) v20) fun v454=>
 bd (PV.at_ 4 true x9 v1) fun v455=>
 bd (PV.cell v455 3) fun v456=>
 bd (PV.cut 3 true v456 (.int .i64 0) v20) fun v457=>
 bd (PV.at_ 4 true x9 v1) fun v458=>
 bd (PV.cell v458 3) fun v459=>
 bd (PV.setCell 4 x9 v1 3 .hole) fun v460=>
 bd (PV.cat 3 32 true v457 (.lst [])) fun v461=>
 bd (PV.setCell 4 v460 v1 3 v461) fun v462=>
 bd (PV.one v32) fun v463=>
 bd (PV.setCell 4 v462 v1 1 v463) fun v464=>
 some [(.int .i64 0),x2,x3,x4,x5,x6,x7,x8,v464,x10,x11])))
 (bd (PV.bin .eql v11 (.int .i64 20)) fun v465=>
 PV.ite v465
 (bd (PV.bin .eql x2 (.int .i64 120)) fun v466=>
 PV.ite v466
 (some [(.int .i64 7),x2,x3,x4,x5,x6,x7,x8,x9,x10,x11])
 (bd (PV.len x10) fun v467=>
 bd (PV.one v467) fun v468=>
 bd (nQ v12) fun r469=>
 PV.guardOwn (.own 3 32 true []) (gd r469 0) (
 bd (PV.cat 1 24 true x10 (.lst [(.agg [(gd r469 0)])])) fun v470=>
 bd (PV.bin .add x2 (.int .i64 1)) fun v471=>
 bd (PV.one v471) fun v472=>
 bd (PV.at_ 4 true x9 v1) fun v473=>
 bd (PV.at_ 4 true x9 v1) fun v474=>
 bd (PV.cell v474 3) fun v475=>
 bd (PV.cut 3 true v475 (.int .i64 0) v20) fun v476=>
 bd (PV.at_ 4 true x9 v1) fun v477=>
 bd (PV.cell v477 3) fun v478=>
 bd (PV.cut 3 true v478 (.int .i64 0) v20) fun v479=>
 bd (PV.at_ 4 true x9 v1) fun v480=>
 bd (PV.cell v480 3) fun v481=>
 bd (PV.setCell 4 x9 v1 3 .hole) fun v482=>
 bd (PV.cat 3 32 true v479 (.lst [(.agg [(.int .i64 4),v468,(.str (bs []))])])) fun v483=>
 bd (PV.setCell 4 v482 v1 3 v483) fun v484=>
 bd (PV.one v32) fun v485=>
 bd (PV.setCell 4 v484 v1 1 v485) fun v486=>
 some [(.int .i64 0),v472,x3,x4,x5,x6,x7,x8,v486,v470,x11])))
 (bd (PV.bin .eql v11 (.int .i64 21)) fun v487=>
 PV.ite v487
 (bd (PV.inb (gd r29 0) (.int .i64 0)) fun v488=>
 bd (PV.at_ 3 true (gd r29 0) (.int .i64 0)) fun v489=>
 bd (iJ v489 v12 x2 x3 x4 x5 x6 x7 x8 x9 x10 x11) fun r490=>
 bd (PV.bin .neq (gd r490 2) (.int .i64 0)) fun v491=>
 PV.ite v491
 (some [(gd r490 2),(gd r490 3),(gd r490 4),(gd r490 5),(gd r490 6),(gd r490 7),(gd r490 8),(gd r490 9),(gd r490 10),(gd r490 11),(gd r490 12)])
 (bd (PV.isInt (gd r490 1)) fun v492=>
 bd (PV.at_ 1 true (gd r490 11) (gd r490 0)) fun v493=>
 bd (PV.cell v493 0) fun v494=>
 bd (PV.at_ 3 true v494 v492) fun v495=>
 bd (PV.cat 3 32 true (.lst []) (.lst [v495])) fun v496=>
 bd (PV.cat 3 32 true (.lst []) v496) fun v497=>
 bd (PV.at_ 4 true (gd r490 10) v1) fun v498=>
 bd (PV.at_ 4 true (gd r490 10) v1) fun v499=>
 bd (PV.cell v499 3) fun v500=>
 bd (PV.cut 3 true v500 (.int .i64 0) v20) fun v501=>
 bd (PV.at_ 4 true (gd r490 10) v1) fun v502=>
 bd (PV.cell v502 3) fun v503=>
 bd (PV.cut 3 true v503 (.int .i64 0) v20) fun v504=>
 bd (PV.at_ 4 true (gd r490 10) v1) fun v505=>
 bd (PV.cell v505 3) fun v506=>
 bd (PV.setCell 4 (gd r490 10) v1 3 .hole) fun v507=>
 bd (PV.cat 3 32 true v504 v497) fun v508=>
 bd (PV.setCell 4 v507 v1 3 v508) fun v509=>
 bd (PV.one v32) fun v510=>
 bd (PV.setCell 4 v509 v1 1 v510) fun v511=>
 some [(.int .i64 0),(gd r490 3),(gd r490 4),(gd r490 5),(gd r490 6),(gd r490 7),(gd r490 8),(gd r490 9),v511,(gd r490 11),(gd r490 12)]))
 (bd (PV.bin .eql v11 (.int .i64 22)) fun v512=>
 PV.ite v512
 (bd (PV.inb (gd r29 0) (.int .i64 0)) fun v513=>
 bd (PV.at_ 3 true (gd r29 0) (.int .i64 0)) fun v514=>
 bd (iJ v514 v12 x2 x3 x4 x5 x6 x7 x8 x9 x10 x11) fun r515=>
 bd (PV.bin .neq (gd r515 2) (.int .i64 0)) fun v516=>
 PV.ite v516
 (some [(gd r515 2),(gd r515 3),(gd r515 4),(gd r515 5),(gd r515 6),(gd r515 7),(gd r515 8),(gd r515 9),(gd r515 10),(gd r515 11),(gd r515 12)])
 (bd (PV.inb (gd r29 0) (.int .i64 1)) fun v517=>
 bd (PV.at_ 3 true (gd r29 0) (.int .i64 1)) fun v518=>
 bd (PV.isInt (gd r515 1)) fun v519=>
 bd (PV.at_ 1 true (gd r515 11) (gd r515 0)) fun v520=>
 bd (PV.cell v520 0) fun v521=>
 bd (PV.at_ 1 true (gd r515 11) (gd r515 0)) fun v522=>
 bd (PV.cell v522 0) fun v523=>
 bd (PV.setAt 3 true v523 v519 v518) fun v524=>
 bd (PV.at_ 1 true (gd r515 11) (gd r515 0)) fun v525=>
 bd (PV.cell v525 0) fun v526=>
 bd (PV.setCell 1 (gd r515 11) (gd r515 0) 0 v524) fun v527=>
 bd (PV.at_ 4 true (gd r515 10) v1) fun v528=>
 bd (PV.at_ 4 true (gd r515 10) v1) fun v529=>
 bd (PV.cell v529 3) fun v530=>
 bd (PV.cut 3 true v530 (.int .i64 0) v20) fun v531=>
 bd (PV.at_ 4 true (gd r515 10) v1) fun v532=>
 bd (PV.cell v532 3) fun v533=>
 bd (PV.cut 3 true v533 (.int .i64 0) v20) fun v534=>
 bd (PV.at_ 4 true (gd r515 10) v1) fun v535=>
 bd (PV.cell v535 3) fun v536=>
 bd (PV.setCell 4 (gd r515 10) v1 3 .hole) fun v537=>
 bd (PV.cat 3 32 true v534 (.lst [])) fun v538=>
 bd (PV.setCell 4 v537 v1 3 v538) fun v539=>
 bd (PV.one v32) fun v540=>
 bd (PV.setCell 4 v539 v1 1 v540) fun v541=>
 some [(.int .i64 0),(gd r515 3),(gd r515 4),(gd r515 5),(gd r515 6),(gd r515 7),(gd r515 8),(gd r515 9),v541,v527,(gd r515 12)]))
 (bd (PV.bin .eql v11 (.int .i64 23)) fun v542=>
 PV.ite v542
 (bd (PV.bin .eql v11 (.int .i64 23)) fun v543=>
 PV.ite v543
 (bd (PV.inb (gd r29 0) (.int .i64 0)) fun v544=>
 bd (PV.at_ 3 true (gd r29 0) (.int .i64 0)) fun v545=>
 bd (PV.cell v545 0) fun v546=>
 bd (PV.bin .neq v546 (.int .i64 5)) fun v547=>
 PV.ite v547
 (some [(.int .i64 1),x2,x3,x4,x5,x6,x7,x8,x9,x10,x11])
 (bd (PV.inb (gd r29 0) (.int .i64 0)) fun v548=>
 bd (PV.at_ 3 true (gd r29 0) (.int .i64 0)) fun v549=>
 bd (PV.cell v549 1) fun v550=>
 bd (PV.at_ 3 true x1 v550) fun v551=>
 bd (PV.cell v551 0) fun v552=>
 bd (PV.bin .neq v552 v12) fun v553=>
 PV.ite v553
 (some [(.int .i64 5),x2,x3,x4,x5,x6,x7,x8,x9,x10,x11])
 (bd (PV.inb (gd r29 0) (.int .i64 0)) fun v554=>
 bd (PV.at_ 3 true (gd r29 0) (.int .i64 0)) fun v555=>
 bd (PV.cell v555 1) fun v556=>
 bd (PV.len (gd r29 0)) fun v557=>
 bd (PV.cut 3 true (gd r29 0) (.int .i64 1) v557) fun v558=>
 bd (PV.cut 3 true (gd r29 0) (.int .i64 1) v557) fun v559=>
 fE v1 v20 v32 v556 x2 x3 x4 x5 x6 x7 x8 x0 x1 x9 x10 x11 v559)))
 (fE v1 v20 v32 v12 x2 x3 x4 x5 x6 x7 x8 x0 x1 x9 x10 x11 (gd r29 0)))
 (bd (PV.bin .eql v11 (.int .i64 24)) fun v560=>
 PV.ite v560
 (bd (PV.bin .eql v11 (.int .i64 23)) fun v561=>
 PV.ite v561
 (bd (PV.inb (gd r29 0) (.int .i64 0)) fun v562=>
 bd (PV.at_ 3 true (gd r29 0) (.int .i64 0)) fun v563=>
 bd (PV.cell v563 0) fun v564=>
 bd (PV.bin .neq v564 (.int .i64 5)) fun v565=>
 PV.ite v565
 (some [(.int .i64 1),x2,x3,x4,x5,x6,x7,x8,x9,x10,x11])
 (bd (PV.inb (gd r29 0) (.int .i64 0)) fun v566=>
 bd (PV.at_ 3 true (gd r29 0) (.int .i64 0)) fun v567=>
 bd (PV.cell v567 1) fun v568=>
 bd (PV.at_ 3 true x1 v568) fun v569=>
 bd (PV.cell v569 0) fun v570=>
 bd (PV.bin .neq v570 v12) fun v571=>
 PV.ite v571
 (some [(.int .i64 5),x2,x3,x4,x5,x6,x7,x8,x9,x10,x11])
 (bd (PV.inb (gd r29 0) (.int .i64 0)) fun v572=>
 bd (PV.at_ 3 true (gd r29 0) (.int .i64 0)) fun v573=>
 bd (PV.cell v573 1) fun v574=>
 bd (PV.len (gd r29 0)) fun v575=>
 bd (PV.cut 3 true (gd r29 0) (.int .i64 1) v575) fun v576=>
 bd (PV.cut 3 true (gd r29 0) (.int .i64 1) v575) fun v577=>
 fE v1 v20 v32 v574 x2 x3 x4 x5 x6 x7 x8 x0 x1 x9 x10 x11 v577)))
 (fE v1 v20 v32 v12 x2 x3 x4 x5 x6 x7 x8 x0 x1 x9 x10 x11 (gd r29 0)))
 (bd (PV.bin .eql v11 (.int .i64 25)) fun v578=>
 PV.ite v578
 (bd (PV.inb (gd r29 0) (.int .i64 0)) fun v579=>
 bd (PV.at_ 3 true (gd r29 0) (.int .i64 0)) fun v580=>
 bd (jD v580 x2 x3 x4 x5 x6 x7 x8 x9 x10 x11) fun r581=>
 some [(.int .i64 0),(gd r581 0),(gd r581 1),(gd r581 2),(gd r581 3),(gd r581 4),(gd r581 5),(gd r581 6),(gd r581 7),(gd r581 8),(gd r581 9)])
 (bd (PV.bin .eql v11 (.int .i64 26)) fun v582=>
 PV.ite v582
 (bd (PV.len x11) fun v583=>
 bd (PV.bin .eql v583 (.int .i64 200)) fun v584=>
 PV.ite v584
 (some [(.int .i64 8),x2,x3,x4,x5,x6,x7,x8,x9,x10,x11])
 (bd (PV.inb (gd r29 0) (.int .i64 0)) fun v585=>
 bd (PV.at_ 3 true (gd r29 0) (.int .i64 0)) fun v586=>
 bd (lQ v586 x10) fun r587=>
 PV.guardFlat (hd r587) (
 bd (PV.cat 1 16 false (.lst []) (.lst [(hd r587)])) fun v588=>
 bd (PV.cat 1 16 false x11 v588) fun v589=>
 bd (PV.at_ 4 true x9 v1) fun v590=>
 bd (PV.at_ 4 true x9 v1) fun v591=>
 bd (PV.cell v591 3) fun v592=>
 bd (PV.cut 3 true v592 (.int .i64 0) v20) fun v593=>
 bd (PV.at_ 4 true x9 v1) fun v594=>
 bd (PV.cell v594 3) fun v595=>
 bd (PV.cut 3 true v595 (.int .i64 0) v20) fun v596=>
 bd (PV.at_ 4 true x9 v1) fun v597=>
 bd (PV.cell v597 3) fun v598=>
 bd (PV.setCell 4 x9 v1 3 .hole) fun v599=>
 bd (PV.cat 3 32 true v596 (.lst [])) fun v600=>
 bd (PV.setCell 4 v599 v1 3 v600) fun v601=>
 bd (PV.one v32) fun v602=>
 bd (PV.setCell 4 v601 v1 1 v602) fun v603=>
 some [(.int .i64 0),x2,x3,x4,x5,x6,x7,x8,v603,x10,v589])))
 (bd (PV.at_ 4 true x9 v1) fun v604=>
 bd (PV.at_ 4 true x9 v1) fun v605=>
 bd (PV.cell v605 3) fun v606=>
 bd (PV.cut 3 true v606 (.int .i64 0) v20) fun v607=>
 bd (PV.at_ 4 true x9 v1) fun v608=>
 bd (PV.cell v608 3) fun v609=>
 bd (PV.cut 3 true v609 (.int .i64 0) v20) fun v610=>
 bd (PV.at_ 4 true x9 v1) fun v611=>
 bd (PV.cell v611 3) fun v612=>
 bd (PV.setCell 4 x9 v1 3 .hole) fun v613=>
 bd (PV.cat 3 32 true v610 (.lst [])) fun v614=>
 bd (PV.setCell 4 v613 v1 3 v614) fun v615=>
 bd (PV.one v32) fun v616=>
 bd (PV.setCell 4 v615 v1 1 v616) fun v617=>
 some [(.int .i64 0),x2,x3,x4,x5,x6,x7,x8,v617,x10,x11])))))))))))))))))))))))))):=eQ _ _ _ _ (by kernel_rfl)
end Go.Proofs.YtjgleeamiclokaaDoor
namespace Go.Proofs.YtjgleeamiclokaaDoor
open Go
theorem uI (x0 x1 x2 x3 x4 x5 x6 x7 x8 x9 x10 x11 x12 x13 x14 x15 x16 : PV) : fE x0 x1 x2 x3 x4 x5 x6 x7 x8 x9 x10 x11 x12 x13 x14 x15 x16 =
 bd (PV.len x13) fun v0=>
 bd (PV.bin .eql v0 (.int .i64 24)) fun v1=>
 PV.ite v1
 (some [(.int .i64 6),x4,x5,x6,x7,x8,x9,x10,x13,x14,x15])
 (bd (PV.at_ 4 true x13 x0) fun v2=>
 bd (PV.at_ 4 true x13 x0) fun v3=>
 bd (PV.cell v3 3) fun v4=>
 bd (PV.cut 3 true v4 (.int .i64 0) x1) fun v5=>
 bd (PV.at_ 4 true x13 x0) fun v6=>
 bd (PV.cell v6 3) fun v7=>
 bd (PV.cut 3 true v7 (.int .i64 0) x1) fun v8=>
 bd (PV.at_ 4 true x13 x0) fun v9=>
 bd (PV.cell v9 3) fun v10=>
 bd (PV.setCell 4 x13 x0 3 .hole) fun v11=>
 bd (PV.setCell 4 v11 x0 3 v8) fun v12=>
 bd (PV.one x2) fun v13=>
 bd (PV.setCell 4 v12 x0 1 v13) fun v14=>
 bd (jB (.agg [x11,x12]) x3 x16) fun r15=>
 PV.guardFlat (gd r15 0) (
 PV.guardFlat (gd r15 1) (
 PV.guardOwn (.own 3 32 true []) (gd r15 2) (
 PV.guardOwn (.own 3 32 true []) (gd r15 3) (
 bd (PV.cat 4 64 true v14 (.lst [(.agg [(gd r15 0),(gd r15 1),(gd r15 2),(gd r15 3)])])) fun v16=>
 some [(.int .i64 0),x4,x5,x6,x7,x8,x9,x10,v16,x14,x15]))))):=cG _ _ _ _ _ _ _ _ (by kernel_rfl)
end Go.Proofs.YtjgleeamiclokaaDoor
namespace Go.Proofs.YtjgleeamiclokaaDoor
open Go
theorem aAZ (x0 : PV) : oO x0=bd (PV.one x0) fun v0=>some [(.agg [(.int .i64 1),v0,(.str (bs []))])]:=aL _ _ _ (by kernel_rfl)
end Go.Proofs.YtjgleeamiclokaaDoor
namespace Go.Proofs.YtjgleeamiclokaaDoor
open Go
theorem aAj (x0 : PV) : gI x0 =
 PV.ite x0
 (some [(.agg [(.int .i64 2),(.int .i64 1),(.str (bs []))])])
 (some [(.agg [(.int .i64 2),(.int .i64 0),(.str (bs []))])]):=aL _ _ _ (by kernel_rfl)
end Go.Proofs.YtjgleeamiclokaaDoor
namespace Go.Proofs.YtjgleeamiclokaaDoor
open Go
theorem tB (x0 : PV) : eM x0 =
 bd (PV.bin .sub x0 (.int .i64 11)) fun v0=>
 bd (PV.ix 4 (.agg [(.fn 55 []),(.fn 56 []),(.fn 57 []),(.fn 58 [])]) v0) fun v1=>
 some [v1]:=aL _ _ _ (by kernel_rfl)
theorem aAk (x0 x1 : PV) : qK x0 x1 =
 bd (PV.whole 3 x0) fun v0=>
 bd (PV.cell v0 0) fun v1=>
 bd (PV.cell v0 1) fun v2=>
 bd (PV.cell v0 2) fun v3=>
 bd (PV.whole 3 x1) fun v4=>
 bd (PV.cell v4 0) fun v5=>
 bd (PV.cell v4 1) fun v6=>
 bd (PV.cell v4 2) fun v7=>
 bd (PV.ceq [1,1,2] .eql (.agg [v1,v2,v3]) (.agg [v5,v6,v7])) fun v8=>
 bd (gI v8) fun r9=>
 bd (PV.whole 3 (hd r9)) fun v10=>
 bd (PV.cell v10 0) fun v11=>
 bd (PV.cell v10 1) fun v12=>
 bd (PV.cell v10 2) fun v13=>
 some [(.agg [v11,v12,v13])]:=aL _ _ _ (by kernel_rfl)
theorem aA0 (x0 : PV) : sS x0 =
 bd (PV.whole 3 x0) fun v0=>
 bd (PV.cell v0 0) fun v1=>
 bd (PV.cell v0 1) fun v2=>
 bd (PV.cell v0 2) fun v3=>
 bd (PV.bin .neq v1 (.int .i64 2)) fun v4=>
 PV.ite v4
 (some [(.tup [(.agg [(.int .i64 0),(.int .i64 0),(.str (bs []))]),(.int .i64 1)])])
 (bd (PV.bin .neq v2 (.int .i64 1)) fun v5=>
 bd (gI v5) fun r6=>
 bd (PV.whole 3 (hd r6)) fun v7=>
 bd (PV.cell v7 0) fun v8=>
 bd (PV.cell v7 1) fun v9=>
 bd (PV.cell v7 2) fun v10=>
 some [(.tup [(.agg [v8,v9,v10]),(.int .i64 0)])]):=aL _ _ _ (by kernel_rfl)
theorem uJ (x0 x1 : PV) : lQ x0 x1 =
 bd (PV.whole 3 x0) fun v0=>
 bd (PV.cell v0 0) fun v1=>
 bd (PV.cell v0 1) fun v2=>
 bd (PV.cell v0 2) fun v3=>
 bd (PV.bin .eql v1 (.int .i64 0)) fun v4=>
 PV.ite v4
 (some [(.str (bs [110,105,108]))])
 (bd (PV.bin .eql v1 (.int .i64 1)) fun v5=>
 PV.ite v5
 (bd (strconv_Itoa v2) fun r6=>
 some [(hd r6)])
 (bd (PV.bin .eql v1 (.int .i64 2)) fun v7=>
 PV.ite v7
 (bd (PV.bin .eql v2 (.int .i64 1)) fun v8=>
 bd (iO v8) fun r9=>
 some [(hd r9)])
 (bd (PV.bin .eql v1 (.int .i64 3)) fun v10=>
 PV.ite v10
 (some [v3])
 (bd (PV.bin .eql v1 (.int .i64 5)) fun v11=>
 PV.ite v11
 (bd (strconv_Itoa v2) fun r12=>
 bd (PV.bin .add (.str (bs [102,117,110])) (hd r12)) fun v13=>
 some [v13])
 (bd (PV.bin .eql v1 (.int .i64 4)) fun v14=>
 PV.ite v14
 (bd (PV.len x1) fun v15=>
 bd (aP v2 v15) fun r16=>
 PV.ite (hd r16)
 (bd (PV.at_ 1 true x1 v2) fun v17=>
 bd (PV.cell v17 0) fun v18=>
 bd (PV.len v18) fun v19=>
 bd (strconv_Itoa v19) fun r20=>
 bd (PV.bin .add (.str (bs [123])) (hd r20)) fun v21=>
 bd (PV.bin .add v21 (.str (bs [125]))) fun v22=>
 some [v22])
 (some [(.str (bs []))]))
 (some [(.str (bs []))])))))):=aL _ _ _ (by kernel_rfl)
theorem aA1 (x0 x1 : PV) : sT x0 x1 =
 bd (PV.whole 3 x0) fun v0=>
 bd (PV.cell v0 0) fun v1=>
 bd (PV.cell v0 1) fun v2=>
 bd (PV.cell v0 2) fun v3=>
 bd (PV.whole 3 x1) fun v4=>
 bd (PV.cell v4 0) fun v5=>
 bd (PV.cell v4 1) fun v6=>
 bd (PV.cell v4 2) fun v7=>
 bd (lF (.agg [v1,v2,v3]) (.agg [v5,v6,v7]) (.int .i64 3)) fun r8=>
 PV.ite (hd r8)
 (bd (PV.slen v3) fun v9=>
 bd (PV.slen v7) fun v10=>
 bd (PV.bin .add v9 v10) fun v11=>
 bd (PV.bin .gtr v11 (.int .i64 60)) fun v12=>
 PV.ite v12
 (some [(.tup [(.agg [(.int .i64 0),(.int .i64 0),(.str (bs []))]),(.int .i64 3)])])
 (bd (PV.bin .add v3 v7) fun v13=>
 bd (PV.one v13) fun v14=>
 some [(.tup [(.agg [(.int .i64 3),(.int .i64 0),v14]),(.int .i64 0)])]))
 (bd (jC (.agg [v1,v2,v3]) (.agg [v5,v6,v7]) (.fn 66 [])) fun r15=>
 bd (PV.comp (hd r15) 0) fun v16=>
 bd (PV.comp (hd r15) 1) fun v17=>
 bd (PV.whole 3 v16) fun v18=>
 bd (PV.cell v18 0) fun v19=>
 bd (PV.cell v18 1) fun v20=>
 bd (PV.cell v18 2) fun v21=>
 some [(.tup [(.agg [v19,v20,v21]),v17])]):=aL _ _ _ (by kernel_rfl)
end Go.Proofs.YtjgleeamiclokaaDoor
namespace Go.Proofs.YtjgleeamiclokaaDoor
open Go
theorem aA2 (x0 x1 : PV) : sU x0 x1 =
 bd (PV.whole 3 x0) fun v0=>
 bd (PV.cell v0 0) fun v1=>
 bd (PV.cell v0 1) fun v2=>
 bd (PV.cell v0 2) fun v3=>
 bd (PV.whole 3 x1) fun v4=>
 bd (PV.cell v4 0) fun v5=>
 bd (PV.cell v4 1) fun v6=>
 bd (PV.cell v4 2) fun v7=>
 bd (jC (.agg [v1,v2,v3]) (.agg [v5,v6,v7]) (.fn 67 [])) fun r8=>
 bd (PV.comp (hd r8) 0) fun v9=>
 bd (PV.comp (hd r8) 1) fun v10=>
 bd (PV.whole 3 v9) fun v11=>
 bd (PV.cell v11 0) fun v12=>
 bd (PV.cell v11 1) fun v13=>
 bd (PV.cell v11 2) fun v14=>
 some [(.tup [(.agg [v12,v13,v14]),v10])]:=aL _ _ _ (by kernel_rfl)
theorem aA3 (x0 x1 : PV) : sV x0 x1 =
 bd (PV.whole 3 x0) fun v0=>
 bd (PV.cell v0 0) fun v1=>
 bd (PV.cell v0 1) fun v2=>
 bd (PV.cell v0 2) fun v3=>
 bd (PV.whole 3 x1) fun v4=>
 bd (PV.cell v4 0) fun v5=>
 bd (PV.cell v4 1) fun v6=>
 bd (PV.cell v4 2) fun v7=>
 bd (jC (.agg [v1,v2,v3]) (.agg [v5,v6,v7]) (.fn 68 [])) fun r8=>
 bd (PV.comp (hd r8) 0) fun v9=>
 bd (PV.comp (hd r8) 1) fun v10=>
 bd (PV.whole 3 v9) fun v11=>
 bd (PV.cell v11 0) fun v12=>
 bd (PV.cell v11 1) fun v13=>
 bd (PV.cell v11 2) fun v14=>
 some [(.tup [(.agg [v12,v13,v14]),v10])]:=aL _ _ _ (by kernel_rfl)
theorem aAl (x0 x1 : PV) : qL x0 x1 =
 bd (PV.whole 3 x0) fun v0=>
 bd (PV.cell v0 0) fun v1=>
 bd (PV.cell v0 1) fun v2=>
 bd (PV.cell v0 2) fun v3=>
 bd (PV.whole 3 x1) fun v4=>
 bd (PV.cell v4 0) fun v5=>
 bd (PV.cell v4 1) fun v6=>
 bd (PV.cell v4 2) fun v7=>
 bd (lF (.agg [v1,v2,v3]) (.agg [v5,v6,v7]) (.int .i64 1)) fun r8=>
 PV.ite (hd r8)
 (bd (PV.bin .lss v2 v6) fun v9=>
 bd (gI v9) fun r10=>
 bd (PV.whole 3 (hd r10)) fun v11=>
 bd (PV.cell v11 0) fun v12=>
 bd (PV.cell v11 1) fun v13=>
 bd (PV.cell v11 2) fun v14=>
 some [(.tup [(.agg [v12,v13,v14]),(.int .i64 0)])])
 (bd (lF (.agg [v1,v2,v3]) (.agg [v5,v6,v7]) (.int .i64 3)) fun r15=>
 PV.ite (hd r15)
 (bd (kJ v3 v7) fun r16=>
 bd (gI (hd r16)) fun r17=>
 bd (PV.whole 3 (hd r17)) fun v18=>
 bd (PV.cell v18 0) fun v19=>
 bd (PV.cell v18 1) fun v20=>
 bd (PV.cell v18 2) fun v21=>
 some [(.tup [(.agg [v19,v20,v21]),(.int .i64 0)])])
 (some [(.tup [(.agg [(.int .i64 0),(.int .i64 0),(.str (bs []))]),(.int .i64 1)])])):=aL _ _ _ (by kernel_rfl)
theorem xZ (x0 : PV) : strconv_Itoa x0=nG [x0]:=aL _ _ _ (by kernel_rfl)
theorem pJ (x0 : PV) : iO x0=bd (fY x0) fun r0=>some [(hd r0)]:=aL _ _ _ (by kernel_rfl)
theorem aCd (x0 x1 x2 : PV) : lF x0 x1 x2 =
 bd (PV.whole 3 x0) fun v0=>
 bd (PV.cell v0 0) fun v1=>
 bd (PV.cell v0 1) fun v2=>
 bd (PV.cell v0 2) fun v3=>
 bd (PV.whole 3 x1) fun v4=>
 bd (PV.cell v4 0) fun v5=>
 bd (PV.cell v4 1) fun v6=>
 bd (PV.cell v4 2) fun v7=>
 bd (PV.bin .eql v1 x2) fun v8=>
 PV.ite v8
 (bd (PV.bin .eql v5 x2) fun v9=>
 some [v9])
 (some [.bool false]):=aL _ _ _ (by kernel_rfl)
theorem yA (x0 x1 x2 : PV) : jC x0 x1 x2 =
 bd (PV.whole 3 x0) fun v0=>
 bd (PV.cell v0 0) fun v1=>
 bd (PV.cell v0 1) fun v2=>
 bd (PV.cell v0 2) fun v3=>
 bd (PV.whole 3 x1) fun v4=>
 bd (PV.cell v4 0) fun v5=>
 bd (PV.cell v4 1) fun v6=>
 bd (PV.cell v4 2) fun v7=>
 bd (lF (.agg [v1,v2,v3]) (.agg [v5,v6,v7]) (.int .i64 1)) fun r8=>
 bd (PV.not (hd r8)) fun v9=>
 PV.ite v9
 (some [(.tup [(.agg [(.int .i64 0),(.int .i64 0),(.str (bs []))]),(.int .i64 1)])])
 (bd (dV v2) fun r10=>
 bd (PV.not (hd r10)) fun v11=>
 PV.ite v11
 (some [(.tup [(.agg [(.int .i64 0),(.int .i64 0),(.str (bs []))]),(.int .i64 2)])])
 (bd (dV v6) fun r12=>
 bd (PV.not (hd r12)) fun v13=>
 PV.ite v13
 (some [(.tup [(.agg [(.int .i64 0),(.int .i64 0),(.str (bs []))]),(.int .i64 2)])])
 (bd (PV.apply pcallO x2 [v2,v6]) fun r14=>
 bd (dV (hd r14)) fun r15=>
 bd (PV.not (hd r15)) fun v16=>
 PV.ite v16
 (some [(.tup [(.agg [(.int .i64 0),(.int .i64 0),(.str (bs []))]),(.int .i64 2)])])
 (bd (PV.apply pcallO x2 [v2,v6]) fun r17=>
 bd (oO (hd r17)) fun r18=>
 bd (PV.whole 3 (hd r18)) fun v19=>
 bd (PV.cell v19 0) fun v20=>
 bd (PV.cell v19 1) fun v21=>
 bd (PV.cell v19 2) fun v22=>
 some [(.tup [(.agg [v20,v21,v22]),(.int .i64 0)])])))):=aL _ _ _ (by kernel_rfl)
theorem yB (x0 x1 : PV) : oP x0 x1=bd (PV.bin .add x0 x1) fun v0=>some [v0]:=aL _ _ _ (by kernel_rfl)
theorem yC (x0 x1 : PV) : oQ x0 x1=bd (PV.bin .sub x0 x1) fun v0=>some [v0]:=aL _ _ _ (by kernel_rfl)
theorem yD (x0 x1 : PV) : oR x0 x1=bd (PV.bin .mul x0 x1) fun v0=>some [v0]:=aL _ _ _ (by kernel_rfl)
theorem tC (x0 x1 : PV) : kJ x0 x1 =
 bd (gY x0) fun r0=>
 PV.ite (hd r0)
 (bd (gY x1) fun r1=>
 bd (PV.not (hd r1)) fun v2=>
 PV.ite v2
 (some [.bool true])
 (bd (PV.bin .lss x0 x1) fun v3=>
 some [v3]))
 (bd (PV.bin .lss x0 x1) fun v4=>
 some [v4]):=aL _ _ _ (by kernel_rfl)
theorem jR (x0 : PV) : fY x0 =
 PV.ite x0
 (some [(.str (bs [116,114,117,101]))])
 (some [(.str (bs [102,97,108,115,101]))]):=aL _ _ _ (by kernel_rfl)
theorem rO (x0 : PV) : gY x0=bd (PV.bin .neq x0 x0) fun v0=>some [v0]:=aL _ _ _ (by kernel_rfl)
theorem aCe (x0 : PV) : nQ x0 =
 bd (PV.zeros 32 (.agg [(.int .i64 0),(.int .i64 0),(.str (bs []))]) x0) fun v0=>
 bd (PV.bin .leq x0 x0) fun v1=>
 PV.ite v1
 (bd (PV.zeros 32 (.agg [(.int .i64 0),(.int .i64 0),(.str (bs []))]) x0) fun v2=>
 some [v2])
 (none):=eQ _ _ _ _ (by kernel_rfl)
theorem gL (x0 : PV) : bP x0 =
 bd (PV.len x0) fun v0=>
 aV x0 (.int .i64 0) x0 v0 (.int .i64 0):=eQ _ _ _ _ (by kernel_rfl)
theorem bT (x0 x1 x2 x3 x4 : PV) : aV x0 x1 x2 x3 x4 =
 bd (PV.bin .lss x4 x3) fun v0=>
 PV.ite v0
 (bd (PV.at_ 1 false x2 x4) fun v1=>
 bd (PV.len v1) fun v2=>
 bd (PV.bin .add x1 v2) fun v3=>
 bd (PV.bin .lss v3 (.int .i64 0)) fun v4=>
 PV.ite v4
 (none)
 (bd (PV.bin .add x4 (.int .i64 1)) fun v5=>
 aV x0 v3 x2 x3 v5))
 (bd (bX x1) fun r6=>
 bd (PV.len x0) fun v7=>
 aT x0 v7 (.int .i64 0) (gd r6 0)):=cG _ _ _ _ _ _ _ _ (by kernel_rfl)
theorem bR (x0 x1 x2 x3 : PV) : aT x0 x1 x2 x3 =
 bd (PV.bin .lss x2 x1) fun v0=>
 PV.ite v0
 (bd (PV.at_ 1 false x0 x2) fun v1=>
 bd (PV.cat 3 32 true x3 v1) fun v2=>
 bd (PV.bin .add x2 (.int .i64 1)) fun v3=>
 aT x0 x1 v3 v2)
 (some [x3]):=cG _ _ _ _ _ _ _ _ (by kernel_rfl)
theorem gZ (x0 : PV) : aU x0 =
 bd (PV.isLst x0) fun v0=>
 PV.nilT v0
 (some [(.lst [])])
 (bd (PV.cat 3 32 true (.lst []) x0) fun v1=>
 some [v1]):=eQ _ _ _ _ (by kernel_rfl)
theorem vU (x0 x1 x2 x3 x4 x5 x6 x7 x8 x9 x10 x11 : PV) : iJ x0 x1 x2 x3 x4 x5 x6 x7 x8 x9 x10 x11 =
 bd (PV.whole 3 x0) fun v0=>
 bd (PV.cell v0 0) fun v1=>
 bd (PV.cell v0 1) fun v2=>
 bd (PV.cell v0 2) fun v3=>
 bd (PV.bin .neq v1 (.int .i64 4)) fun v4=>
 PV.ite v4
 (some [.nil,.nil,(.int .i64 1),x2,x3,x4,x5,x6,x7,x8,x9,x10,x11])
 (bd (PV.inb x10 v2) fun v5=>
 bd (PV.at_ 1 true x10 v2) fun v6=>
 bd (PV.at_ 1 true x10 v2) fun v7=>
 bd (PV.cell v7 0) fun v8=>
 bd (PV.len v8) fun v9=>
 bd (PV.bin .geq x1 v9) fun v10=>
 PV.ite v10
 (some [.nil,.nil,(.int .i64 4),x2,x3,x4,x5,x6,x7,x8,x9,x10,x11])
 (bd (PV.inb x10 v2) fun v11=>
 bd (PV.at_ 1 true x10 v2) fun v12=>
 bd (PV.at_ 1 true x10 v2) fun v13=>
 bd (PV.cell v13 0) fun v14=>
 bd (PV.inb v14 x1) fun v15=>
 some [v2,x1,(.int .i64 0),x2,x3,x4,x5,x6,x7,x8,x9,x10,x11])):=eQ _ _ _ _ (by kernel_rfl)
theorem uK (x0 x1 x2 x3 x4 x5 x6 x7 x8 x9 x10 : PV) : jD x0 x1 x2 x3 x4 x5 x6 x7 x8 x9 x10 =
 bd (PV.whole 3 x0) fun v0=>
 bd (PV.cell v0 0) fun v1=>
 bd (PV.cell v0 1) fun v2=>
 bd (PV.cell v0 2) fun v3=>
 bd (PV.len x8) fun v4=>
 bd (PV.bin .sub v4 (.int .i64 1)) fun v5=>
 bd (PV.cut 4 true x8 (.int .i64 0) v5) fun v6=>
 bd (PV.cut 4 true x8 (.int .i64 0) v5) fun v7=>
 bd (PV.bin .eql v5 (.int .i64 0)) fun v8=>
 PV.ite v8
 (some [x1,(.int .i64 1),x3,v1,v2,v3,x7,v7,x9,x10])
 (bd (PV.bin .sub v5 (.int .i64 1)) fun v9=>
 bd (PV.inb v7 v9) fun v10=>
 bd (PV.at_ 4 true v7 v9) fun v11=>
 bd (PV.at_ 4 true v7 v9) fun v12=>
 bd (PV.cell v12 3) fun v13=>
 bd (PV.at_ 4 true v7 v9) fun v14=>
 bd (PV.cell v14 3) fun v15=>
 bd (PV.setCell 4 v7 v9 3 .hole) fun v16=>
 bd (PV.cat 3 32 true v13 (.lst [(.agg [v1,v2,v3])])) fun v17=>
 bd (PV.setCell 4 v16 v9 3 v17) fun v18=>
 some [x1,x2,x3,x4,x5,x6,x7,v18,x9,x10]):=eQ _ _ _ _ (by kernel_rfl)
theorem hU (x0 : PV) : bX x0=hX 32 [.nils,.p x0] ⟨[],[],0,0,0⟩:=eQ _ _ _ _ (by kernel_rfl)
end Go.Proofs.YtjgleeamiclokaaDoor

