/-
  Texts of the proof, part 4: a value-level evaluator and its soundness, what the functions compute, laws about it.
  Conditions: none.
-/
import Derived.Test.YtjgleeamiclokaaGreatDoorC
import Derived.Calls
import Derived.KernelRfl
import Derived.Orders
import Derived.Test.YtjgleeamiclokaaGreatDoorProg
import Derived.Lib.AppendIntMem
import Derived.Lib.ItoaNum
import Derived.Laws.IdiomCopy
import Derived.Laws.Cells
import Derived.Below
import Derived.Laws.StructEq
import Derived.Laws.BytesString
import Derived.Laws.NewFold
import Derived.Laws.Tables
import Derived.Great.FillDense
import Derived.Shelf.Spec.SlicesGrow
import Derived.Shelf.Strconv.Itoa3
import Derived.Shelf.SlGeneric
import Derived.Ground.NamesProg
import Derived.Ground.Names8Prog
import Derived.IntWalk
import Derived.WalkKit
import Derived.ProofKit
import Derived.OpenShut
import Derived.ShutString
import Derived.ChangeOld
set_option linter.all false
namespace Go.Proofs.YtjgleeamiclokaaGreatDoor
open Go
def aEI (P : Program) (mode : Nat→Option Tmpl) (S : Nat→List DV→St→Option R) : Prop:=∀ g t args s l,mode g=some t→S g args s=some l→jQ P g∧∀ (m : aY) (aV : Array Value),fT m s s.base→args.length=aV.size→
  (∀ (i : Nat) d v,args[i]? = some d→aV[i]? = some v→m.rd d v)→Calls P g aV m.w (fun e w'=>∃ v,e = .returned v∧rO m s.boxes.length (if t.keep then s.lists.length else 0) (some t) l v w')
theorem aCE (l : R) : ∀ (bs : List (Option (List DV))),(fillB l bs).length=bs.length
  | []=>rfl
  | some _::r=>by simp [fillB,aCE l r]
  | none::r=>by simp [fillB,aCE l r]
theorem rG (l : R) : ∀ (bs : List (Option Own)),(fillO l bs).length=bs.length
  | []=>rfl
  | some _::r=>by simp [fillO,rG l r]
  | none::r=>by simp [fillO,rG l r]
theorem aAQ (l : R) : ∀ {bs : List (Option (List DV))} {i : Nat} {fs : List DV},(fillB l bs)[i]? = some (some fs)→∃ ts,bs[i]? = some (some ts)
  | [],i,fs,h=>by simp [fillB] at h
  | some t::r,i,fs,h=>by
    cases i with
    | zero=>exact ⟨t,rfl⟩
    | succ i=>simpa using aAQ l (bs:=r) (i:=i) (by simpa [fillB] using h)
  | none::r,i,fs,h=>by
    cases i with
    | zero=>simp [fillB] at h
    | succ i=>simpa using aAQ l (bs:=r) (i:=i) (by simpa [fillB] using h)
theorem rP (l : R) : ∀ {bs : List (Option Own)} {i : Nat} {w : Own},(fillO l bs)[i]? = some (some w)→∃ ts,bs[i]? = some (some ts)
  | [],i,fs,h=>by simp [fillO] at h
  | some t::r,i,fs,h=>by
    cases i with
    | zero=>exact ⟨t,rfl⟩
    | succ i=>simpa using rP l (bs:=r) (i:=i) (by simpa [fillO] using h)
  | none::r,i,fs,h=>by
    cases i with
    | zero=>simp [fillO] at h
    | succ i=>simpa using rP l (bs:=r) (i:=i) (by simpa [fillO] using h)
theorem aDo {α : Type} : ∀ {l : List (Option α)},allSome l=true→∀ (i : Nat) o,l[i]? = some o→∃ a,o=some a
  | [],_,i,o,h=>by simp at h
  | some a::r,h,i,o,hi=>by
    cases i with
    | zero=>simp at hi;exact ⟨a,hi.symm⟩
    | succ i=>exact aDo (l:=r) h i o (by simpa using hi)
  | none::r,h,_,_,_=>by simp [allSome] at h
theorem getD_some {α : Type} {l : List (Option α)} {i : Nat} {x : α} (h : l.getD i none=some x) : l[i]? = some (some x):=by
  rw [List.getD] at h
  cases hi : l[i]? with
  | none=>rw [hi] at h;cases h
  | some o=>rw [hi] at h;simp at h;rw [h]
theorem yE {m : aY} {s : St} {a : Seen} {r : Nat} (h : (m.pick a.bs a.ls (s.pick a)).owned r) : aEH m a.bs a.ls r:=by
  rcases h with ⟨i,cs,h,rfl⟩ | ⟨l,o,h,hr⟩ | h
  · have h : (s.pick a).box i=some cs:=h
    rw [xZ] at h
    cases hbi : a.bs[i]? with
    | none=>rw [hbi] at h;cases h
    | some b=>
      refine .inl ⟨b,List.mem_of_getElem? hbi,?_⟩
      show m.ρ.box (a.bs.getD i 0)=_
      rw [dO hbi]
  · have h : (s.pick a).list l=some o:=h
    rw [uP] at h
    cases hbi : a.ls[l]? with
    | none=>rw [hbi] at h;cases h
    | some l0=>
      refine .inr ⟨l0,List.mem_of_getElem? hbi,?_⟩
      have hr : m.ρ.fp (a.ls.getD l 0) r:=hr
      rw [dO hbi] at hr
      exact hr
  · exact h.elim
section
variable {P : Program} {X : Cx} {O : Orc}
theorem aIi (hS : aEI P X.mode O.S) {ft : Foot} {n0 : Nat} {t : Tmpl} {f : Nat} (hm : X.mode f=some t) (hwf : t.wf=true) {args : List DV} {s : St} {k : DV→St→List Nat→Option R} {r : R} (h : liveK O ft n0 t f args s k=some r) :
    jQ P f∧∃ d' s' kl,k d' s' kl=some r∧s.nl≤s'.nl∧∀ (n : Nat) (m : aY) (B L WB WL : Nat→Prop),oD m s B L n→s'.nb≤n+16→s'.nl≤n+16→n≤n0→(∀ b∈ft.rb,B b∧WB b)→(∀ l∈ft.rl,L l∧WL l)→(t.keep=true→∀ x,(B x∧WB x)∧(L x∧WL x))→
      ∀ vs : Array Value,args.length=vs.size→(∀ (i : Nat) d v,args[i]? = some d→vs[i]? = some v→m.rd d v)→
        Calls P f vs m.w (fun e w'=>∃ v,e = .returned v∧∃ m',m'.w=w'∧bS m m' s s' B L WB WL n (scrubKeptD t.keep kl)∧m'.rd d' v):=by
  unfold liveK at h
  generalize ha : reach s fuelR args ⟨[],[]⟩=a at h
  simp only at h
  generalize hkd : (if t.keep=true then a.ls else [])=kl at h
  split at h
  rotate_left
  · cases h
  rename_i hc
  simp only [Bool.and_eq_true,List.all_eq_true,Bool.or_eq_true,Nat.blt_eq] at hc
  obtain ⟨⟨⟨⟨hlen,hsome⟩,hbs⟩,hls⟩,hkl⟩:=hc
  have hkl:=oM hkl
  have hlen:=oM hlen
  obtain ⟨l,hl,hk⟩:=aT h
  obtain ⟨hcb,HS⟩:=hS f t _ _ l hm hl
  have nod:=jP (s:=s) fuelR args ⟨[],[]⟩ List.nodup_nil List.nodup_nil
  have liv:=gL (s:=s) fuelR args ⟨[],[]⟩ (by simp) (by simp)
  rw [ha] at nod liv
  refine ⟨hcb,_,_,_,hk,Nat.le_add_right _ _,fun n m B L WB WL sit hnb hnl hn0 hB hL hall vs hvl hrd=>?_⟩
  have hnl : s.nl+(t.lists.length - kl.length)≤n+16:=hnl
  have hks : ∀ l∈kl,l∈a.ls:=fun l hl=>by rw [← hkd] at hl;split at hl;exact hl;cases hl
  have hkn : kl.Nodup:=by rw [← hkd];split;exact nod.2.1;exact List.nodup_nil
  have hkk : t.keep=false→kl = []:=fun hf=>by rw [← hkd,hf];rfl
  have hlists : (s.pick a).lists.length=a.ls.length:=pB
  have hnb : s.nb+(t.boxes.length - a.bs.length)≤n+16:=hnb
  have sn1:=sit.nb
  have sn2:=sit.nl
  have lin : ∀ l∈a.ls,l∈ft.rl∨(n≤l∧l<n+16):=fun l hl=>by
    rcases hls l hl with h | ⟨h1,h2⟩
    · exact .inl (oZ.1 h)
    · have:=oM h1;exact .inr (by omega)
  have hb : ∀ b∈a.bs,m.s.box b=s.box b:=fun b hb=>sit.ab b (.inl (hB b (oZ.1 (hbs b hb))).1)
  have hl' : ∀ l∈a.ls,m.s.list l=s.list l:=fun l hl=>sit.al l ((lin l hl).imp (fun h=>(hL l h).1) id)
  have pf:=zK (a:=a) sit.inv hb hl' nod.1 nod.2.1
  have hboxes : (s.pick a).boxes.length=a.bs.length:=tY
  refine (HS (m.pick a.bs a.ls (s.pick a)) vs pf (by simpa using hvl) (fun i d v hd hv=>?_)).mono ?_
  · rw [List.getElem?_map] at hd
    cases hdi : args[i]? with
    | none=>rw [hdi] at hd;cases hd
    | some d0=>rw [hdi] at hd;cases hd;exact aEA hl' deep (hrd i d0 v hdi hv)
  · rintro e w' ⟨v,rfl,c,hw,cinv,fw,d,s0,a0,hread,hdv,hfull,hub,hul⟩
    rw [hboxes,hlists] at fw
    obtain ⟨hless,lenB,lenL,HB,HO⟩:=Tmpl.read_sound hread hwf
    have lenB : t.boxes.length=a0.bs.length:=lenB.trans tY
    have lenL : t.lists.length=a0.ls.length:=lenL.trans pB
    refine ⟨v,rfl,?_⟩
    generalize hcsB : ((fillB l t.boxes).map fun o=>o.map fun cs=>cs.map (ren (backFb a.bs s.nb) (backFb kl s.nl) deep))=csB
    have hcsBl : csB.length=t.boxes.length:=by rw [← hcsB,List.length_map,aCE]
    have hab : ∀ b∈a.bs,∃ cs,m.s.box b=some cs:=fun b hbm=>by
      rw [hb b hbm]
      exact Option.ne_none_iff_exists'.1 (liv.1 b hbm)
    have hal : ∀ l∈a.ls,∃ o,m.s.list l=some o:=fun l hlm=>by
      rw [hl' l hlm]
      exact Option.ne_none_iff_exists'.1 (liv.2 l hlm)
    have freshB : ∀ x,s.nb≤x→x<s.nb+(t.boxes.length - a.bs.length)→¬ m.ρ.ub x:=fun x h1 h2=>sit.fb x h1 (by omega)
    have freshL : ∀ x,s.nl≤x→x<s.nl+(t.lists.length - kl.length)→¬ m.ρ.ul x:=fun x h1 h2=>sit.fl x h1 (by omega)
    have hout : ∀ b∈a.bs,¬ (s.nb≤b∧b<s.nb+(csB.length - a.bs.length)):=fun b hbm hr=>by
      obtain ⟨cs,hcs⟩:=hab b hbm
      rw [hcsBl] at hr
      exact freshB b hr.1 hr.2 (sit.inv.ub b cs hcs)
    have scrL : ∀ x,look x (scrubKept t.keep kl s.boxes)=(s.box x).map (·.map (scrubKeptD t.keep kl)):=fun x=>by
      unfold scrubKept scrubKeptD
      cases t.keep with
      | true=>exact zI kl x s.boxes
      | false=>
        rw [if_neg (by simp),if_neg (by simp)]
        exact kM _
    have boxL : ∀ x,look x (backB a.bs s.nb csB (scrubKept t.keep kl s.boxes))=match dM a.bs s.nb (t.boxes.length - a.bs.length) x with | some i=>csB.getD i none | none=>(s.box x).map (·.map (scrubKeptD t.keep kl)):=fun x=>by
      have:=aAP (x:=x) (cs:=csB) (bs:=a.bs) (n:=s.nb) (old:=scrubKept t.keep kl s.boxes) nod.1 (by rw [hcsBl];exact hlen) hout
      rw [hcsBl,scrL] at this
      exact this
    have houtL : ∀ l0∈kl,¬ (s.nl≤l0∧l0<s.nl+((fillO l t.lists).length - kl.length)):=fun l0 hlm hr=>by
      obtain ⟨o,ho⟩:=hal l0 (hks l0 hlm)
      rw [rG] at hr
      exact freshL l0 hr.1 hr.2 (sit.inv.ul l0 o ho)
    have listL : ∀ x,look x (backB kl s.nl (fillO l t.lists) (s.killL a.ls).lists)=match dM kl s.nl (t.lists.length - kl.length) x with | some i=>(fillO l t.lists).getD i none | none=>(s.killL a.ls).list x:=fun x=>by
      have:=aAP (x:=x) (cs:=fillO l t.lists) (bs:=kl) (n:=s.nl) (old:=(s.killL a.ls).lists) hkn (by rw [rG];exact hkl) houtL
      rw [rG] at this
      exact this
    let S : Sx:={ box:=fun x=>match dM a.bs s.nb (t.boxes.length - a.bs.length) x with | some i=>csB.getD i none | none=>(m.s.box x).map (·.map (scrubKeptD t.keep kl))
                  list:=fun x=>match dM kl s.nl (t.lists.length - kl.length) x with | some i=>(fillO l t.lists).getD i none | none=>if x∈a.ls then none else m.s.list x}
    have hbn : ∀ x,(∃ cs,m.s.box x=some cs)→¬ (s.nb≤x∧x<s.nb+(t.boxes.length - a.bs.length)):=fun x ⟨cs,hcs⟩ hr=>freshB x hr.1 hr.2 (sit.inv.ub x cs hcs)
    have cb_fb : ∀ b b',b<t.boxes.length→backFb a.bs s.nb b=some b'→dM a.bs s.nb (t.boxes.length - a.bs.length) b'=some b∧(m.ρ.ub b'∨(s.nb≤b'∧b'<s.nb+(t.boxes.length - a.bs.length))):=by
      intro b b' hlt hbb
      unfold backFb at hbb
      split at hbb
      · rename_i x hx
        cases hbb
        obtain ⟨cs,hcs⟩:=hab b' (List.mem_of_getElem? hx)
        refine ⟨?_,.inl (sit.inv.ub b' cs hcs)⟩
        unfold dM
        rw [aG8 (n:=0) nod.1 hx,Nat.zero_add]
      · rename_i hx
        cases hbb
        have hge : a.bs.length≤b:=by
          rcases Nat.lt_or_ge b a.bs.length with h | h
          · rw [List.getElem?_eq_getElem h] at hx;cases hx
          · exact h
        have hnot : s.nb+(b - a.bs.length)∉a.bs:=fun hm'=>hbn _ (hab _ hm') ⟨by omega,by omega⟩
        refine ⟨?_,.inr ⟨by omega,by omega⟩⟩
        unfold dM
        rw [aBR hnot]
        simp only
        rw [if_pos ⟨by omega,by omega⟩]
        congr 1
        omega
    have cl_fl : ∀ b b',b<t.lists.length→backFb kl s.nl b=some b'→dM kl s.nl (t.lists.length - kl.length) b'=some b∧(m.ρ.ul b'∨(s.nl≤b'∧b'<s.nl+(t.lists.length - kl.length))):=by
      intro b b' hlt hbb
      unfold backFb at hbb
      split at hbb
      · rename_i x hx
        cases hbb
        obtain ⟨o,ho⟩:=hal b' (hks b' (List.mem_of_getElem? hx))
        refine ⟨?_,.inl (sit.inv.ul b' o ho)⟩
        unfold dM
        rw [aG8 (n:=0) hkn hx,Nat.zero_add]
      · rename_i hx
        cases hbb
        have hge : kl.length≤b:=by
          rcases Nat.lt_or_ge b kl.length with h | h
          · rw [List.getElem?_eq_getElem h] at hx;cases hx
          · exact h
        have hnot : s.nl+(b - kl.length)∉kl:=fun hm'=>by
          obtain ⟨o,ho⟩:=hal _ (hks _ hm')
          exact freshL _ (by omega) (by omega) (sit.inv.ul _ o ho)
        refine ⟨?_,.inr ⟨by omega,by omega⟩⟩
        unfold dM
        rw [aBR hnot]
        simp only
        rw [if_pos ⟨by omega,by omega⟩]
        congr 1
        omega
    have ren_ok : ∀ {d : DV} {v : Value},c.rd d v→(m.back c a.bs kl s.nb (t.boxes.length - a.bs.length) s.nl (t.lists.length - kl.length) S).rd (ren (backFb a.bs s.nb) (backFb kl s.nl) deep d) v:=by
      intro d v hd
      refine cW.renum (fun b b' hu hbb=>?_) (fun l0 l' hu hll=>?_) deep hd
      · obtain ⟨h1,h2⟩:=cb_fb b b' (by rw [lenB];exact hub b hu) hbb
        refine ⟨h2,?_⟩
        show (match dM a.bs s.nb (t.boxes.length - a.bs.length) b' with | some i=>c.ρ.box i | none=>m.ρ.box b')=_
        rw [h1]
      · have hlt:=hul l0 hu
        rw [← lenL] at hlt
        obtain ⟨hcl,hcu⟩:=cl_fl l0 l' hlt hll
        refine ⟨hcu,fun hv=>⟨?_,?_,?_,?_⟩⟩
        · have hv : (match dM kl s.nl (t.lists.length - kl.length) l' with | some i=>(fillO l t.lists).getD i none | none=>if l'∈a.ls then none else m.s.list l')≠none:=hv
          rw [hcl] at hv
          obtain ⟨w1,hw1⟩:=Option.ne_none_iff_exists'.1 hv
          have hg:=getD_some hw1
          obtain ⟨ts,hts⟩:=rP l hg
          obtain ⟨x,w2,g1,_⟩:=HO l0 ts hts
          have g1 : (s0.pick a0).list l0=some w2:=by
            have:=mH (n:=0) g1
            rw [Nat.zero_add] at this
            exact this
          rw [← hfull.list l0] at g1
          exact aY.live_of g1
        · show (match dM kl s.nl (t.lists.length - kl.length) l' with | some i=>c.ρ.hdr i | none=>_)=_
          rw [hcl]
        · show (match dM kl s.nl (t.lists.length - kl.length) l' with | some i=>c.ρ.ty i | none=>_)=_
          rw [hcl]
        · show (match dM kl s.nl (t.lists.length - kl.length) l' with | some i=>c.ρ.fp i | none=>_)=_
          rw [hcl]
    have came : sP m c t.keep a.bs a.ls kl s.nb (t.boxes.length - a.bs.length) s.nl (t.lists.length - kl.length) S:={
      kk:=hkk
      kn:=hkn
      ks:=hks
      row:=fun i l0 hi hlv=>by
        have hkt : t.keep=true:=by
          cases hk2 : t.keep with
          | true=>rfl
          | false=>rw [hkk hk2] at hi;simp at hi
        have hkl2 : kl=a.ls:=by rw [← hkd,hkt];rfl
        rw [hkl2] at hi
        obtain ⟨o,ho⟩:=hal l0 (List.mem_of_getElem? hi)
        have hlt : i<a.ls.length:=(List.getElem?_eq_some_iff.1 hi).1
        rw [hkt] at fw
        have hu : (m.pick a.bs a.ls (s.pick a)).ρ.ul i:=⟨hlt,by rw [dO hi];exact sit.inv.ul l0 o ho⟩
        obtain ⟨_,q⟩:=fw.row i (by simpa using hlt) hu
        obtain ⟨_,q1,q2⟩:=q hlv
        rw [q1,q2]
        show m.ρ.hdr (a.ls.getD i 0)=_∧m.ρ.ty (a.ls.getD i 0)=_
        rw [dO hi]
        exact ⟨rfl,rfl⟩
      inv:=sit.inv
      cinv:=cinv
      nb:=nod.1
      ab:=hab
      al:=hal
      size:=fw.size
      os:=fw.os
      tape:=fw.tape
      output:=fw.output
      keep:=fun r hr hn=>fw.keep r hr (fun ho=>hn (yE ho))
      own:=fun r hr=>(fw.own r hr).imp (fun h=>yE h) id
      z:=fun r hr=>(fw.z r hr).imp id (fun h=>h.imp (fun h=>yE h) id)
      zz:=fw.zz
      box:=fun i b hbi=>by
        obtain ⟨cs,hcs⟩:=hab b (List.mem_of_getElem? hbi)
        have:=fw.box i (List.getElem?_eq_some_iff.1 hbi).1 (cs.map (ren (idx · a.bs 0) (idx · a.ls 0) deep)) (by
          show (s.pick a).box i=_
          rw [xZ,hbi,Option.bind_some,← hb b (List.mem_of_getElem? hbi),hcs];rfl)
        rw [this.1]
        show m.ρ.box (a.bs.getD i 0)=_
        rw [dO hbi]
      freshB:=freshB
      freshL:=freshL
      sb:=fun x cs hx=>by
        have hx : (match dM a.bs s.nb (t.boxes.length - a.bs.length) x with | some i=>csB.getD i none | none=>(m.s.box x).map (·.map (scrubKeptD t.keep kl)))=some cs:=hx
        cases hcb : dM a.bs s.nb (t.boxes.length - a.bs.length) x with
        | none=>
          rw [hcb] at hx
          simp only at hx
          cases hmx : m.s.box x with
          | none=>rw [hmx] at hx;cases hx
          | some cs0=>rw [hmx] at hx;cases hx;exact .inr ⟨rfl,cs0,rfl,rfl⟩
        | some i=>
          rw [hcb] at hx
          have hg:=getD_some hx
          rw [← hcsB,List.getElem?_map] at hg
          cases hfi : (fillB l t.boxes)[i]? with
          | none=>rw [hfi] at hg;cases hg
          | some o=>
            rw [hfi] at hg
            simp only [Option.map_some,Option.some.injEq] at hg
            cases o with
            | none=>cases hg
            | some fs=>
              simp only [Option.map_some,Option.some.injEq] at hg
              obtain ⟨ts,hts⟩:=aAQ l hfi
              obtain ⟨g1,x',cs0,g2,g3⟩:=HB i ts hts
              rw [hfi] at g1
              cases g1
              have g2 : (s0.pick a0).box i=some cs0:=by
                have:=aAu (n:=0) g2
                rw [Nat.zero_add] at this
                exact this
              rw [← hfull.box i] at g2
              refine .inl ⟨i,cs0,rfl,g2,by rw [← hg,List.length_map];exact g3.1,fun j d0 d1 v0 h1 h2 h3=>?_⟩
              rw [← hg,List.getElem?_map] at h2
              cases hj : (fillDs l ts)[j]? with
              | none=>rw [hj] at h2;cases h2
              | some d2=>
                rw [hj] at h2
                cases h2
                exact ren_ok (g3.2 j d0 d2 h1 hj c v0 h3)
      sbx:=fun x hx=>by
        show ∃ cs,(match dM a.bs s.nb (t.boxes.length - a.bs.length) x with | some i=>csB.getD i none | none=>(m.s.box x).map (·.map (scrubKeptD t.keep kl)))=some cs
        rcases eD a.bs s.nb (t.boxes.length - a.bs.length) x with ⟨i,h1,h2⟩ | ⟨i,h1,h2,h3,h4⟩ | ⟨h1,_⟩
        · rw [h1]
          have hlt : i<a.bs.length:=(List.getElem?_eq_some_iff.1 h2).1
          have hti : (t.boxes.take a.bs.length)[i]? = some (t.boxes[i]'(by omega)):=by rw [List.getElem?_take,if_pos hlt,List.getElem?_eq_getElem]
          obtain ⟨ts,hts⟩:=aDo hsome i _ hti
          obtain ⟨g1,_⟩:=HB i ts (by rw [List.getElem?_eq_getElem (by omega),hts])
          refine ⟨(fillDs l ts).map (ren (backFb a.bs s.nb) (backFb kl s.nl) deep),?_⟩
          simp only
          rw [List.getD,← hcsB,List.getElem?_map,g1]
          rfl
        · exact absurd ⟨by omega,by omega⟩ (hbn x hx)
        · rw [h1]
          obtain ⟨cs,hcs⟩:=hx
          exact ⟨_,by simp only [hcs,Option.map_some];rfl⟩
      sl:=fun x o hx=>by
        have hx : (match dM kl s.nl (t.lists.length - kl.length) x with | some i=>(fillO l t.lists).getD i none | none=>if x∈a.ls then none else m.s.list x)=some o:=hx
        cases hcl : dM kl s.nl (t.lists.length - kl.length) x with
        | none=>
          rw [hcl] at hx
          simp only at hx
          split at hx
          · cases hx
          · rename_i hn;exact .inr ⟨rfl,hn,hx⟩
        | some i=>
          rw [hcl] at hx
          have hg:=getD_some hx
          obtain ⟨ts,hts⟩:=rP l hg
          obtain ⟨x',w2,g1,g2,_⟩:=HO i ts hts
          rw [hg] at g2
          cases g2
          have g1 : (s0.pick a0).list i=some o:=by
            have:=mH (n:=0) g1
            rw [Nat.zero_add] at this
            exact this
          rw [← hfull.list i] at g1
          exact .inl ⟨i,rfl,g1⟩}
    have wbs : ∀ b∈a.bs,B b∧WB b:=fun b hbm=>hB b (oZ.1 (hbs b hbm))
    refine ⟨m.back c a.bs kl s.nb (t.boxes.length - a.bs.length) s.nl (t.lists.length - kl.length) S,hw,?_,ren_ok (hless c v hdv)⟩
    refine {
      step:=came.step sn1 hnb sn2 hnl
      after:=⟨fun x hx=>?_,fun x hx=>?_,fun x h1 h2=>?_,fun x h1 h2=>?_,fun x h1 h2=>?_,fun x h1 h2=>?_⟩
      nb:=Nat.le_add_right _ _
      nl:=Nat.le_add_right _ _
      ub:=fun x hx hu=>hu.elim id (fun h=>by have hx : s.nb+(t.boxes.length - a.bs.length)≤x:=hx;omega)
      ul:=fun x hx hu=>hu.elim id (fun h=>by have hx : s.nl+(t.lists.length - kl.length)≤x:=hx;omega)}
    · show (match dM a.bs s.nb (t.boxes.length - a.bs.length) x with | some i=>csB.getD i none | none=>(m.s.box x).map (·.map (scrubKeptD t.keep kl)))=look x (backB a.bs s.nb _ (scrubKept t.keep kl s.boxes))
      rw [boxL x]
      cases dM a.bs s.nb (t.boxes.length - a.bs.length) x with
      | some i=>rfl
      | none=>simp only;rw [sit.ab x hx]
    · show (match dM kl s.nl (t.lists.length - kl.length) x with | some i=>(fillO l t.lists).getD i none | none=>if x∈a.ls then none else m.s.list x)=look x (backB kl s.nl (fillO l t.lists) (s.killL a.ls).lists)
      rw [listL x]
      cases dM kl s.nl (t.lists.length - kl.length) x with
      | some i=>rfl
      | none=>
        simp only
        rw [eZ,sit.al x hx]
    · by_cases hkt : t.keep=true
      · exact absurd ((hall hkt x).1.1) h1
      · have hkt : t.keep=false:=by simpa using hkt
        show (match dM a.bs s.nb (t.boxes.length - a.bs.length) x with | some i=>csB.getD i none | none=>(m.s.box x).map (fun cs : List DV=>cs.map (scrubKeptD t.keep kl)))=_
        rcases eD a.bs s.nb (t.boxes.length - a.bs.length) x with ⟨i,g1,g2⟩ | ⟨i,g1,g2,g3,g4⟩ | ⟨g1,_⟩
        · exact absurd (wbs x (List.mem_of_getElem? g2)).1 h1
        · exact absurd ⟨by omega,by omega⟩ h2
        · rw [g1,hkt]
          exact (kM _).symm
    · by_cases hkt : t.keep=true
      · exact absurd ((hall hkt x).2.1) h1
      · have hkt : t.keep=false:=by simpa using hkt
        show (match dM kl s.nl (t.lists.length - kl.length) x with | some i=>(fillO l t.lists).getD i none | none=>if x∈a.ls then none else m.s.list x)=_
        rw [hkk hkt]
        rcases eD [] s.nl (t.lists.length - ([] : List Nat).length) x with ⟨i,g1,g2⟩ | ⟨i,g1,g2,g3,_⟩ | ⟨g1,_⟩
        · simp at g2
        · exact absurd ⟨by omega,by rw [hkk hkt] at hnl;omega⟩ h2
        · rw [g1]
          simp only
          rw [if_neg]
          intro hxm
          rcases lin x hxm with h | h
          · exact h1 (hL x h).1
          · exact h2 h
    · by_cases hkt : t.keep=true
      · exact absurd ((hall hkt x).1.2) h1
      · have hkt : t.keep=false:=by simpa using hkt
        show look x (backB a.bs s.nb _ (scrubKept t.keep kl s.boxes))=_
        rw [boxL x]
        rcases eD a.bs s.nb (t.boxes.length - a.bs.length) x with ⟨i,g1,g2⟩ | ⟨i,g1,g2,g3,g4⟩ | ⟨g1,_⟩
        · exact absurd (wbs x (List.mem_of_getElem? g2)).2 h1
        · exact absurd ⟨by omega,by omega⟩ h2
        · rw [g1,hkt]
          exact (kM _).symm
    · by_cases hkt : t.keep=true
      · exact absurd ((hall hkt x).2.2) h1
      · have hkt : t.keep=false:=by simpa using hkt
        show look x (backB kl s.nl (fillO l t.lists) (s.killL a.ls).lists)=_
        rw [listL x,hkk hkt]
        rcases eD [] s.nl (t.lists.length - ([] : List Nat).length) x with ⟨i,g1,g2⟩ | ⟨i,g1,g2,g3,_⟩ | ⟨g1,_⟩
        · simp at g2
        · exact absurd ⟨by omega,by rw [hkk hkt] at hnl;omega⟩ h2
        · rw [g1]
          simp only
          rw [eZ,if_neg]
          intro hxm
          rcases lin x hxm with h | h
          · exact h1 (hL x h).2
          · exact h2 h
end
end Go.Proofs.YtjgleeamiclokaaGreatDoor
namespace Go.Proofs.YtjgleeamiclokaaGreatDoor
open Go
theorem aEJ : ∀ {cs : List PV} {cts : List OTy},PV.flatCs cts cs=true→∀ (j : Nat) c,cs[j]? = some c→PV.flatO (cts.getD j .leaf) c=true∨c.flat=true
  | [],_,_,j,c,h=>by simp at h
  | x::r,cts,h,j,c,hj=>by
    have tail : ∀ {b : Bool},(b&&PV.flatCs cts.tail r)=true→j≠0→PV.flatO (cts.getD j .leaf) c=true∨c.flat=true:=by
      intro b hb hj0
      simp only [Bool.and_eq_true] at hb
      obtain ⟨q,rfl⟩ : ∃ q,j=q+1:=⟨j - 1,by omega⟩
      have:=aEJ hb.2 q c (by simpa using hj)
      cases cts with
      | nil=>simpa [List.getD] using this
      | cons o os=>simpa [List.getD] using this
    by_cases hj0 : j=0
    · subst hj0
      simp at hj
      subst hj
      cases x with
      | lst xs=>
        unfold PV.flatCs at h
        simp only [Bool.and_eq_true] at h
        cases cts with
        | nil=>simp at h
        | cons o os=>
          cases o with
          | leaf=>simp at h
          | own s e g cts'=>exact .inl (by simpa [List.getD,PV.flatO] using h.1)
      | _=>unfold PV.flatCs at h;simp only [Bool.and_eq_true] at h;exact .inr h.1
    · cases x<;>(unfold PV.flatCs at h;exact tail h hj0)
theorem aEK : ∀ {xs : List PV} {g : Bool} {cts : List OTy},PV.flatEs g cts xs=true→∀ (i : Nat) x,xs[i]? = some x→PV.flatE g cts x=true
  | [],_,_,_,i,x,h=>by simp at h
  | y::r,g,cts,h,i,x,hi=>by
    unfold PV.flatEs at h
    simp only [Bool.and_eq_true] at h
    cases i with
    | zero=>simp at hi;subst hi;exact h.1
    | succ i=>exact aEK h.2 i x (by simpa using hi)
theorem cI.flat {w : World} {Z Z' : Nat→Prop} {o : OTy} {x : PV} {v : Value} {F : Nat→Prop} (h : cI w Z o x v F) (hf : PV.flatO o x=true∨x.flat=true) (hn : ∀ r,F r→¬ Z' r) : cI w Z' o x v F:=by
  induction h with
  | leaf x v F h hF=>
    rcases hf with hf | hf
    · simp [PV.flatO] at hf
    · exact .leaf x v F (h.flat hf) hF
  | hole s e g cts v F h hF=>exact .hole s e g cts v F h hF
  | nil s e g cts F a hF=>exact .nil s e g cts F a hF
  | own s e g cts xs b o cap cells ety cv fp F hh hs ho hl hz he hc hv hr hF hb hd ih=>
    have hf : PV.flatEs g cts xs=true:=by
      rcases hf with hf | hf
      · simpa [PV.flatO] using hf
      · simp [PV.flat] at hf
    refine .own s e g cts xs b o cap cells ety cv fp F hh hs ho hl (hn b ((hF b).2 (.inl rfl))) he hc hv (fun i j x hx hj=>?_) hF hb hd
    have hi : i<xs.length:=(List.getElem?_eq_some_iff.1 hx).1
    refine ih i j x hx hj ?_ (fun r hr=>hn r ((hF r).2 (.inr ⟨i,j,hi,hj,hr⟩)))
    have hfe:=aEK hf i x hx
    have hel:=he i x hx
    cases g with
    | true=>
      obtain ⟨cs,rfl,hlen⟩:=xS hel
      rw [eX]
      unfold PV.flatE at hfe
      simp only [Bool.true_and] at hfe
      have hj' : cs[j]? = some (cs[j]'(by omega)):=List.getElem?_eq_getElem (by omega)
      have hg : cs.getD j .hole=cs[j]'(by omega):=by rw [List.getD,hj'];rfl
      rw [hg]
      exact aEJ hfe j _ hj'
    | false=>
      have hs1:=aBy hel
      have hj0 : j=0:=by omega
      subst hj0
      show PV.flatO (cts.getD 0 .leaf) x=true∨x.flat=true
      cases x with
      | lst ys=>
        unfold PV.flatE at hfe
        cases cts with
        | nil=>simp at hfe
        | cons o os=>
          cases o with
          | leaf=>simp at hfe
          | own s' e' g' cts'=>exact .inl (by simpa [List.getD,PV.flatO] using hfe)
      | agg cs=>unfold PV.flatE at hfe;simp at hfe
      | _=>unfold PV.flatE at hfe;simp only [Bool.not_false,Bool.true_and] at hfe;exact .inr hfe
inductive wU (l : R) : DV→Prop
  | p (k : IntKind) (i : Int) : (gd l i.toNat).flat=true→wU l (.p (.int k i))
  | ref (n : Nat) (path : eW) : wU l (.ref n path)
  | agg (cs : List DV) : (∀ c∈cs,wU l c)→wU l (.agg cs)
  | tup (cs : List DV) : (∀ c∈cs,wU l c)→wU l (.tup cs)
theorem nQ {l : R} : ∀ {cs : List DV} {k : Option R} {r : R},guardCells l cs k=some r→(∀ c∈cs,wU l c)∧k=some r
  | [],k,r,h=>⟨by simp,h⟩
  | .p (.int kk i)::cs,k,r,h=>by
    unfold guardCells at h
    obtain ⟨hf,h'⟩:=yD h
    obtain ⟨h1,h2⟩:=nQ h'
    refine ⟨fun c hc=>?_,h2⟩
    rcases List.mem_cons.1 hc with rfl | hc
    · exact .p _ _ hf
    · exact h1 c hc
  | .ref n path::cs,k,r,h=>by
    unfold guardCells at h
    obtain ⟨h1,h2⟩:=nQ h
    refine ⟨fun c hc=>?_,h2⟩
    rcases List.mem_cons.1 hc with rfl | hc
    · exact .ref _ _
    · exact h1 c hc
  | .p (.bool _)::_,_,_,h=>by simp [guardCells] at h
  | .p (.str _)::_,_,_,h=>by simp [guardCells] at h
  | .p .nil::_,_,_,h=>by simp [guardCells] at h
  | .p .nilf::_,_,_,h=>by simp [guardCells] at h
  | .p (.agg _)::_,_,_,h=>by simp [guardCells] at h
  | .p (.lst _)::_,_,_,h=>by simp [guardCells] at h
  | .p (.bx _)::_,_,_,h=>by simp [guardCells] at h
  | .p (.fn _ _)::_,_,_,h=>by simp [guardCells] at h
  | .p (.tup _)::_,_,_,h=>by simp [guardCells] at h
  | .p .hole::_,_,_,h=>by simp [guardCells] at h
  | .nils::_,_,_,h=>by simp [guardCells] at h
  | .agg _::_,_,_,h=>by simp [guardCells] at h
  | .tup _::_,_,_,h=>by simp [guardCells] at h
  | .fn _ _::_,_,_,h=>by simp [guardCells] at h
  | .ptr _ _::_,_,_,h=>by simp [guardCells] at h
  | .sref _ _ _ _::_,_,_,h=>by simp [guardCells] at h
  | .eptr _ _ _ _::_,_,_,h=>by simp [guardCells] at h
  | .fptr _ _ _ _::_,_,_,h=>by simp [guardCells] at h
  | .bptr _ _::_,_,_,h=>by simp [guardCells] at h
  | .gptr _ _ _ _::_,_,_,h=>by simp [guardCells] at h
  | .nilq _ _::_,_,_,h=>by simp [guardCells] at h
  | .dead::_,_,_,h=>by simp [guardCells] at h
theorem pC {l : R} : ∀ {cs : List DV} {k : Option R} {r : R},guardAggs l cs k=some r→(∀ c∈cs,wU l c)∧k=some r
  | [],k,r,h=>⟨by simp,h⟩
  | d::cs,k,r,h=>by
    have one : ∀ {d : DV},guardCells l [d] (guardAggs l cs k)=some r→(∀ c∈d::cs,wU l c)∧k=some r:=by
      intro d h
      obtain ⟨h1,h2⟩:=nQ h
      obtain ⟨h3,h4⟩:=pC h2
      refine ⟨fun c hc=>?_,h4⟩
      rcases List.mem_cons.1 hc with rfl | hc
      · exact h1 _ List.mem_cons_self
      · exact h3 c hc
    cases d with
    | agg ds=>
      unfold guardAggs at h
      obtain ⟨h1,h2⟩:=nQ h
      obtain ⟨h3,h4⟩:=pC h2
      refine ⟨fun c hc=>?_,h4⟩
      rcases List.mem_cons.1 hc with rfl | hc
      · exact .agg _ h1
      · exact h3 c hc
    | _=>exact one (by simpa only [guardAggs] using h)
theorem aG9 {l : R} {d : DV} {k : Option R} {r : R} (h : guardRes l d k=some r) : wU l d∧k=some r:=by
  unfold guardRes at h
  split at h
  · obtain ⟨h1,h2⟩:=pC h
    exact ⟨.tup _ h1,h2⟩
  · obtain ⟨h1,h2⟩:=pC h
    exact ⟨h1 _ List.mem_cons_self,h2⟩
theorem aAv {l : R} : ∀ {cs : List (Option Own)} {k : Option R} {r : R},guardRows l cs k=some r→(∀ (i : Nat) w kk j,cs[i]? = some (some w)→w.c = .int kk j→PV.flatO w.o (gd l j.toNat)=true)∧k=some r
  | [],k,r,h=>⟨fun i w kk j hi=>by simp at hi,h⟩
  | none::_,_,_,h=>by simp [guardRows] at h
  | some w::cs,k,r,h=>by
    unfold guardRows at h
    split at h
    · rename_i kk j hc
      unfold PV.guardOwn at h
      split at h
      · rename_i hf
        obtain ⟨h1,h2⟩:=aAv h
        refine ⟨fun i w' kk' j' hi hc'=>?_,h2⟩
        cases i with
        | zero=>
          simp at hi
          subst hi
          rw [hc] at hc'
          cases hc'
          exact hf
        | succ i=>exact h1 i w' kk' j' (by simpa using hi) hc'
      · cases h
    · cases h
mutual
theorem aAR (l : R) : ∀ (ds : List DV),fillDs l ds=ds.map (fillD l)
  | []=>rfl
  | d::r=>by simp only [fillDs,List.map_cons,aAR l r]
end
theorem wU.rd {l : R} {w : World} {Z Z' : Nat→Prop} {ρ : Loc} {live live' : Nat→Prop} (hl : ∀ x,live' x→live x) {d : DV} (hf : wU l d) : ∀ {v : Value},cW w Z ρ live (fillD l d) v→cW w Z' ρ live' (fillD l d) v:=by
  induction hf with
  | p k i hfl=>
    intro v h
    simp only [fillD] at h ⊢
    cases h with
    | p _ _ h=>exact .p _ _ (h.flat hfl)
  | ref n path=>
    intro v h
    simp only [fillD] at h ⊢
    cases h with
    | ref _ _ _ h1 h2 h3=>exact .ref _ _ _ h1 h2 (fun hv=>h3 (hl _ hv))
  | agg cs _ ih=>
    intro v h
    simp only [fillD,aAR] at h ⊢
    cases h with
    | agg _ vs h1 h2 h3=>
      refine .agg _ vs h1 h2 (fun i d v hd hv=>?_)
      rw [List.getElem?_map] at hd
      cases hc : cs[i]? with
      | none=>rw [hc] at hd;cases hd
      | some c=>
        rw [hc] at hd
        cases hd
        exact ih c (List.mem_of_getElem? hc) (h3 i _ v (by rw [List.getElem?_map,hc];rfl) hv)
  | tup cs _ ih=>
    intro v h
    simp only [fillD,aAR] at h ⊢
    cases h with
    | tup _ vs h1 h3=>
      refine .tup _ vs h1 (fun i d v hd hv=>?_)
      rw [List.getElem?_map] at hd
      cases hc : cs[i]? with
      | none=>rw [hc] at hd;cases hd
      | some c=>
        rw [hc] at hd
        cases hd
        exact ih c (List.mem_of_getElem? hc) (h3 i _ v (by rw [List.getElem?_map,hc];rfl) hv)
section
variable {P : Program} {X : Cx} {O : Orc}
theorem lentK_sound (hS : aEI P X.mode O.S) {t : Tmpl} {f : Nat} (hm : X.mode f=some t) (hwf : t.wf=true) {args : List DV} {s : St} {k : DV→St→Option R} {r : R} (h : lentK O t f args s k=some r) :
    jQ P f∧∃ d' s',k d' s'=some r∧∀ (n : Nat) (m : aY) (B L WB WL : Nat→Prop),oD m s B L n→s'.nb≤n+16→s'.nl≤n+16→aD6 m s args→
      ∀ vs : Array Value,args.length=vs.size→(∀ (i : Nat) d v,args[i]? = some d→vs[i]? = some v→m.rd d v)→
        Calls P f vs m.w (fun e w'=>∃ v,e = .returned v∧∃ m',m'.w=w'∧bS m m' s s' B L WB WL n id∧m'.rd d' v):=by
  unfold lentK at h
  obtain ⟨ps,h1,hpl,H⟩:=sZ h
  obtain ⟨l,hl,h2⟩:=aT h1
  obtain ⟨hflat,h3⟩:=aG9 h2
  obtain ⟨hrows,hk⟩:=aAv h3
  obtain ⟨hcb,HS⟩:=hS f t _ _ l hm hl
  refine ⟨hcb,_,_,hk,fun n m B L WB WL sit hnb hnl hM vs hvl hrd=>?_⟩
  have hnl : s.nl+t.lists.length≤n+16:=hnl
  have sn1:=sit.nb
  have sn2:=sit.nl
  let m0 : aY:={ w:=m.w,Z:=fun x=>m.Z x∨m.owned x,s:={ box:=fun _=>none,list:=fun _=>none},L:=fun _=>False,
                 ρ:={ box:=fun _=>0,hdr:=fun _=>.nilFunc,fp:=fun _ _=>False,ty:=fun _=>.leaf,ub:=fun _=>False,ul:=fun _=>False}}
  have full0 : fT m0 ⟨[],[],0,0,0⟩ 0:={
    inv:={
      ub:=fun _ _ h=>by cases h
      ul:=fun _ _ h=>by cases h
      zlt:=sit.inv.zlt.next (fun _ h=>.inl h) (fun _ _=>rfl) fun r hr=>hr.elim (sit.inv.zlt r) (fun h=>sit.inv.owned_lt h)
      box:=fun _ _ h=>by cases h
      row:=fun _ _ h=>by cases h
      bz:=fun _ _ h=>by cases h
      bb:=fun _ _ _ _ h=>by cases h
      bl:=fun _ _ _ _ h=>by cases h
      ll:=fun _ _ _ _ _ h=>by cases h
      Lz:=fun _ h=>h.elim
      Lb:=fun _ _ _ h=>h
      Ll:=fun _ _ _ _ _ h=>h}
    box:=fun _=>rfl
    list:=fun _=>rfl
    ub:=fun _ h=>h.elim
    ul:=fun _ h=>h.elim}
  have own0 : ∀ r,¬ m0.owned r:=by
    rintro r (⟨_,_,h,_⟩ | ⟨_,_,h,_⟩ | h)
    · cases h
    · cases h
    · exact h
  have hreps:=H m (fun x=>m.Z x∨m.owned x) sit.inv hM (.inl fun r hr=>.inr hr) (fun r hr=>.inl hr) vs hvl hrd
  refine (HS m0 vs full0 (by rw [List.length_map];omega) (fun i d v hd hv=>?_)).mono ?_
  · rw [List.getElem?_map] at hd
    cases hp : ps[i]? with
    | none=>rw [hp] at hd;cases hd
    | some p=>rw [hp] at hd;cases hd;exact .p _ _ (hreps i p v hp hv)
  · rintro e w' ⟨v,rfl,c,hw,cinv,fw,d,s0,a0,hread,hdv,hfull,hub,hul⟩
    obtain ⟨hless,lenB,lenL,HB,HO⟩:=Tmpl.read_sound hread hwf
    have lenL : t.lists.length=a0.ls.length:=lenL.trans pB
    refine ⟨v,rfl,?_⟩
    have rowC : ∀ i w,c.s.list i=some w→∃ w0,t.lists[i]? = some (some w0)∧(fillO l t.lists)[i]? = some (some w)∧PV.flatO w.o w.c=true:=by
      intro i w hi
      have hlt : i<t.lists.length:=by rw [lenL];exact hul i (cinv.ul i w hi)
      have hi':=hi
      rw [hfull.list i] at hi'
      cases hti : t.lists[i]'hlt with
      | none=>
        exfalso
        have : ∀ {cs : List (Option Own)} {k : Option R} {r : R},guardRows l cs k=some r→∀ (j : Nat),cs[j]?≠some none:=by
          intro cs
          induction cs with
          | nil=>intro k r _ j;simp
          | cons x xs ih=>
            intro k r h j
            cases x with
            | none=>simp [guardRows] at h
            | some w=>
              unfold guardRows at h
              split at h
              · unfold PV.guardOwn at h
                split at h
                · cases j with
                  | zero=>simp
                  | succ j=>simpa using ih h j
                · cases h
              · cases h
        exact this h3 i (by rw [List.getElem?_eq_getElem hlt,hti])
      | some w0=>
        have ht : t.lists[i]? = some (some w0):=by rw [List.getElem?_eq_getElem hlt,hti]
        obtain ⟨x,w1,g1,g2,⟨kk,j,g3,g4⟩,g5⟩:=HO i w0 ht
        have g1 : (s0.pick a0).list i=some w1:=by
          have:=mH (n:=0) g1
          rw [Nat.zero_add] at this
          exact this
        rw [g1] at hi'
        cases hi'
        refine ⟨w0,ht,g2,?_⟩
        have:=hrows i w0 kk j ht g3
        rw [g4,g5] at this
        exact this
    let c1 : aY:={ w:=c.w,Z:=fun x=>c.Z x∧(m.Z x∨m.w.heap.size≤x),s:={ box:=fun _=>none,list:=c.s.list},L:=fun _=>False,ρ:=c.ρ}
    have c1inv : mP c1:={
      ub:=fun _ _ h=>by cases h
      ul:=fun l o h=>cinv.ul l o h
      zlt:=⟨fun r hr=>cinv.zlt r hr.1,sit.inv.zlt.glob.mono (fun r h=>⟨fw.zz r (.inl h),.inl h⟩) (fun r h=>fw.keep r (Nat.lt_of_lt_of_le (sit.inv.zlt r h) (Nat.le_refl _)) (own0 r))⟩
      box:=fun _ _ h=>by cases h
      row:=fun i o hi=>by
        have hi : c.s.list i=some o:=hi
        obtain ⟨g1,g2,g3⟩:=cinv.row i o hi
        obtain ⟨w0,_,_,hf⟩:=rowC i o hi
        exact ⟨g1,g2,g3.flat (.inl hf) (fun r hr hz=>g3.notZ r hr hz.1)⟩
      bz:=fun _ _ h=>by cases h
      bb:=fun _ _ _ _ h=>by cases h
      bl:=fun _ _ _ _ h=>by cases h
      ll:=fun l o l' o' r h h'=>cinv.ll l o l' o' r h h'
      Lz:=fun _ h=>h.elim
      Lb:=fun _ _ _ h=>h
      Ll:=fun _ _ _ _ _ h=>h}
    have c1own : ∀ r,c1.owned r→c.owned r:=by
      rintro r (⟨_,_,h,_⟩ | ⟨l,o,h,hr⟩ | h)
      · cases h
      · exact .inr (.inl ⟨l,o,h,hr⟩)
      · exact h.elim
    let S : Sx:={ box:=m.s.box
                  list:=fun x=>match vM s.nl t.lists.length x with | some i=>(fillO l t.lists).getD i none | none=>m.s.list x}
    have freshL : ∀ x,s.nl≤x→x<s.nl+t.lists.length→¬ m.ρ.ul x:=fun x h1 h2=>sit.fl x h1 (by omega)
    have cb0 : ∀ x,dM [] s.nb 0 x=none:=fun x=>by
      unfold dM
      simp only [idx]
      rw [if_neg (by omega)]
    have listC : ∀ i w,(fillO l t.lists)[i]? = some (some w)→c.s.list i=some w:=by
      intro i w hi
      obtain ⟨ts,hts⟩:=rP l hi
      obtain ⟨x',w2,g1,g2,_⟩:=HO i ts hts
      rw [hi] at g2
      cases g2
      have g1 : (s0.pick a0).list i=some w:=by
        have:=mH (n:=0) g1
        rw [Nat.zero_add] at this
        exact this
      rw [← hfull.list i] at g1
      exact g1
    have came : sP m c1 false [] [] [] s.nb 0 s.nl t.lists.length S:={
      kk:=fun _=>rfl
      kn:=List.nodup_nil
      ks:=by simp
      row:=fun i l0 h=>by simp at h
      inv:=sit.inv
      cinv:=c1inv
      nb:=List.nodup_nil
      ab:=by simp
      al:=by simp
      size:=fw.size
      os:=fw.os
      tape:=fw.tape
      output:=fw.output
      keep:=fun r hr _=>fw.keep r hr (own0 r)
      own:=fun r hr=>.inr ((fw.own r (c1own r hr)).resolve_left (own0 r))
      z:=fun r hr=>hr.2.imp id (fun h=>.inr h)
      zz:=fun r hr=>⟨fw.zz r (.inl hr),.inl hr⟩
      box:=fun i b h=>by simp at h
      freshB:=fun x h1 h2=>by omega
      freshL:=freshL
      sb:=fun x cs hx=>.inr ⟨cb0 x,cs,hx,(List.map_id _).symm⟩
      sbx:=fun x hx=>hx
      sl:=fun x o hx=>by
        have hx : (match vM s.nl t.lists.length x with | some i=>(fillO l t.lists).getD i none | none=>m.s.list x)=some o:=hx
        rw [aBS]
        cases hcl : vM s.nl t.lists.length x with
        | none=>rw [hcl] at hx;exact .inr ⟨rfl,by simp,hx⟩
        | some i=>
          rw [hcl] at hx
          exact .inl ⟨i,rfl,listC i o (getD_some hx)⟩}
    have listL : ∀ x,look x (backO s.nl (fillO l t.lists) s.lists)=match vM s.nl t.lists.length x with | some i=>(fillO l t.lists).getD i none | none=>s.list x:=fun x=>by
      have:=aEF (x:=x) (cs:=fillO l t.lists) (n:=s.nl) (old:=s.lists)
      rw [rG] at this
      exact this
    have hres : c1.rd (fillD l t.res) v:=hflat.rd (fun _ h=>h) (hless c v hdv)
    refine ⟨m.back c1 [] [] s.nb 0 s.nl t.lists.length S,hw,?_,?_⟩
    · refine {
        step:=by have:=came.step sn1 (by omega) sn2 hnl;exact this
        after:=⟨fun x hx=>sit.ab x hx,fun x hx=>?_,fun _ _ _=>rfl,fun x h1 h2=>?_,fun _ _ _=>rfl,fun x h1 h2=>?_⟩
        nb:=Nat.le_refl _
        nl:=Nat.le_add_right _ _
        ub:=fun x hx hu=>hu.elim id (fun h=>by omega)
        ul:=fun x hx hu=>hu.elim id (fun h=>by have hx : s.nl+t.lists.length≤x:=hx;omega)}
      · show (match vM s.nl t.lists.length x with | some i=>(fillO l t.lists).getD i none | none=>m.s.list x)=look x (backO s.nl (fillO l t.lists) s.lists)
        rw [listL x]
        cases vM s.nl t.lists.length x with
        | some i=>rfl
        | none=>exact sit.al x hx
      · show (match vM s.nl t.lists.length x with | some i=>(fillO l t.lists).getD i none | none=>m.s.list x)=_
        rcases aEG s.nl t.lists.length x with ⟨i,g1,g2,g3⟩ | ⟨g1,_⟩
        · exact absurd ⟨by omega,by omega⟩ h2
        · rw [g1]
      · show look x (backO s.nl (fillO l t.lists) s.lists)=_
        rw [listL x]
        rcases aEG s.nl t.lists.length x with ⟨i,g1,g2,g3⟩ | ⟨g1,_⟩
        · exact absurd ⟨by omega,by omega⟩ h2
        · rw [g1]
    · refine cW.renum (ρ:=c1.ρ) (live:=c1.s.live) (fun b b' hu hbb=>by cases hbb) (fun l0 l' hu hll=>?_) deep hres
      unfold backFl at hll
      cases hll
      have hlt:=hul l0 hu
      rw [← lenL] at hlt
      have hcl : vM s.nl t.lists.length (s.nl+l0)=some l0:=by
        unfold vM
        rw [if_pos ⟨by omega,by omega⟩]
        congr 1
        omega
      refine ⟨.inr ⟨by omega,by omega⟩,fun hv=>⟨?_,?_,?_,?_⟩⟩
      · have hv : (match vM s.nl t.lists.length (s.nl+l0) with | some i=>(fillO l t.lists).getD i none | none=>m.s.list (s.nl+l0))≠none:=hv
        rw [hcl] at hv
        obtain ⟨w1,hw1⟩:=Option.ne_none_iff_exists'.1 hv
        have:=listC l0 w1 (getD_some hw1)
        show c.s.list l0≠none
        rw [this];simp
      · show (match dM [] s.nl t.lists.length (s.nl+l0) with | some i=>c.ρ.hdr i | none=>_)=_
        rw [aBS,hcl]
      · show (match dM [] s.nl t.lists.length (s.nl+l0) with | some i=>c.ρ.ty i | none=>_)=_
        rw [aBS,hcl]
      · show (match dM [] s.nl t.lists.length (s.nl+l0) with | some i=>c.ρ.fp i | none=>_)=_
        rw [aBS,hcl]
end
end Go.Proofs.YtjgleeamiclokaaGreatDoor
namespace Go.Proofs.YtjgleeamiclokaaGreatDoor
open Go
section
variable {P : Program} {X : Cx} {O : Orc}
theorem aAS : ∀ (ds : List DV) (ts : List Nat) (s : St) (k : List DV→St→Option R),ownArgs X ds ts s k=ownCells X ds (ts.map (elemOf X)) s k
  | [],ts,s,k=>by cases ts<;>rfl
  | d::ds,[],s,k=>rfl
  | d::ds,t::ts,s,k=>by
    unfold ownArgs ownCells
    simp only [List.map_cons]
    cases d<;>cases elemOf X t<;>simp only [aAS ds ts]
theorem aFL {f : Nat} (hP : aCD P O.C) : ∀ ps r,O.C f ps=some r→jQ P f∧∀ (w : World) (Z : Nat→Prop) (aV us : Array Value),ZOk w Z→ps.length=aV.size→
      (∀ (i : Nat) x v,ps[i]? = some x→aV[i]? = some v→gJ w Z x v)→([] : List PV).length=us.size→(∀ (i : Nat) x v,([] : List PV)[i]? = some x→us[i]? = some v→gJ w Z x v)→
      Calls P f (aV++us) w (fun e w'=>∃ v,e = .returned v∧∃ Z',aBQ w w' Z Z'∧gJ w' Z' (hd r) v):=by
  intro ps r h
  obtain ⟨h1,h2⟩:=hP f ps r h
  refine ⟨h1,fun w Z aV us hz hl hr hu _=>?_⟩
  have : us = #[]:=Array.eq_empty_of_size_eq_zero hu.symm
  subst this
  rw [Array.append_empty]
  exact h2 w Z aV hz hl hr
theorem aEL (kp : Bool) (kl : List Nat) (t : Nat) (e : Env) : (scrubKeptE kp kl e).get t=scrubKeptD kp kl (e.get t):=by
  unfold scrubKeptE scrubKeptD
  cases kp with
  | true=>exact vF kl t e
  | false=>rfl
theorem aIj (hP : aCD P O.C) (hS : aEI P X.mode O.S) (hwf : ∀ g t,X.mode g=some t→t.wf=true) {f : Nat} {args : List DV} {ts : List Nat} {e : Env} {s : St} {k : DV→Env→St→Option R} {r : R} (h : callK X O f args ts e s k=some r) :
    jQ P f∧∃ d' e' s' scr,k d' e' s'=some r∧(∀ t,e'.get t=scr (e.get t))∧((match X.mode f with | some t=>{ deepFoot s args (!t.lent) with last:=!t.lent&&t.keep} | none=>deepFoot s args false).last=false→scr=_root_.id)∧∀ (n : Nat) (m : aY) (B L WB WL : Nat→Prop),oD m s B L n→s'.nb≤n+16→s'.nl≤n+16→
      (∀ ft,ft=(match X.mode f with | some t=>{ deepFoot s args (!t.lent) with last:=!t.lent&&t.keep} | none=>deepFoot s args false)→ft.Cov B L WB WL∧(ft.ok=true∨∀ x,B x∧L x))→
      ∀ vs : Array Value,args.length=vs.size→(∀ (i : Nat) d v,args[i]? = some d→vs[i]? = some v→m.rd d v)→
        Calls P f vs m.w (fun e w'=>∃ v,e = .returned v∧∃ m',m'.w=w'∧bS m m' s s' B L WB WL n scr∧m'.rd d' v):=by
  unfold callK at h
  split at h
  · rename_i hmode
    unfold pureK at h
    obtain ⟨hcb,d',hk,H⟩:=aIf (caps:=[]) (k:=fun d s=>k d e s) (aFL hP) h
    refine ⟨hcb,d',e,s,_root_.id,hk,fun _=>rfl,fun _=>rfl,fun n m B L WB WL sit _ _ hft vs hl hr=>?_⟩
    obtain ⟨C,hok⟩:=hft _ rfl
    rw [hmode] at C hok
    have:=H n m B L WB WL sit (aG7 sit C hok) vs #[] hl hr rfl (fun i x v h=>by simp at h)
    rwa [Array.append_empty] at this
  · rename_i t hmode
    split at h
    · rename_i hlent
      obtain ⟨hcb,d',s',hk,H⟩:=lentK_sound hS hmode (hwf f t hmode) h
      refine ⟨hcb,d',e,s',_root_.id,hk,fun _=>rfl,fun _=>rfl,fun n m B L WB WL sit hnb hnl hft vs hl hr=>?_⟩
      obtain ⟨C,hok⟩:=hft _ rfl
      rw [hmode] at C hok
      simp only [hlent,Bool.not_true,Bool.false_and] at C hok
      exact H n m B L WB WL sit hnb hnl (aG7 sit C hok) vs hl hr
    · rename_i hlent
      have hlent : t.lent=false:=by simpa using hlent
      rw [aAS] at h
      obtain ⟨ds',s1,h1,hlen,hms,HM⟩:=kN h
      obtain ⟨hcb,d',s',kl,hk,hs1,H⟩:=aIi hS hmode (hwf f t hmode) h1
      refine ⟨hcb,d',scrubKeptE t.keep kl e,s',scrubKeptD t.keep kl,hk,fun t'=>aEL t.keep kl t' e,fun hla=>?_,fun n m B L WB WL sit hnb hnl hft vs hl hr=>?_⟩
      · rw [hmode] at hla
        simp only [hlent,Bool.not_false,Bool.true_and] at hla
        unfold scrubKeptD
        rw [hla];rfl
      obtain ⟨C,hok⟩:=hft _ rfl
      rw [hmode] at C hok
      simp only [hlent,Bool.not_false,Bool.true_and] at C hok
      obtain ⟨m1,M1,hr1⟩:=HM n m sit.inv sit.nl (by omega) sit.fl vs.toList (fun i d u h1 h2=>hr i d u h1 (by simpa using h2))
      have G1:=M1.goes WB WL sit hms (by omega)
      have sit1:=G1.sit sit
      have hwb : (deepFoot s args true).wb=(deepFoot s args true).rb:=rfl
      have hwl : (deepFoot s args true).wl=(deepFoot s args true).rl:=rfl
      have:=H n m1 B L WB WL sit1 hnb hnl sit.nl (fun b hb=>⟨C.rb b hb,C.wb b (by show b∈(deepFoot s args true).wb;rw [hwb];exact hb)⟩) (fun l hl=>⟨C.rl l hl,C.wl l (by show l∈(deepFoot s args true).wl;rw [hwl];exact hl)⟩) (fun hkp x=>⟨⟨(C.all hkp x).1,(C.all hkp x).2.2.1⟩,⟨(C.all hkp x).2.1,(C.all hkp x).2.2.2⟩⟩) vs (by omega) (fun i d v h1 h2=>hr1 i d v h1 (by simpa using h2))
      rw [M1.w] at this
      refine this.mono ?_
      rintro e w' ⟨v,rfl,m',hw,G,hd⟩
      exact ⟨v,rfl,m',hw,G1.trans G,hd⟩
theorem aJt (hP : aCD P O.C) (hS : aEI P X.mode O.S) (hwf : ∀ g t,X.mode g=some t→t.wf=true) : aBM P X O:=by
  intro d args ts e s k r h
  unfold applyK at h
  split at h
  · rename_i f caps
    obtain ⟨hcb,d',e',s',scr,hk,he,hid,H⟩:=aIj hP hS hwf h
    have hfeq : callFoot X (.fn f caps) args s=(match X.mode f with | some t=>{ deepFoot s (args++caps) (!t.lent) with last:=!t.lent&&t.keep} | none=>deepFoot s (args++caps) false):=by
      unfold callFoot
      simp only
      cases X.mode f<;>rfl
    refine ⟨d',e',s',scr,hk,he,fun hla=>hid (by rw [← hfeq];exact hla),fun n m B L WB WL sit hnb hnl C hok vf vs hvf hl hr=>?_⟩
    cases hvf with
    | fn _ _ us hul hur=>
      have e1 : (do let df ← Deferred.ofValue (.func (.func f) #[] us.toArray) vs;invoke df.target df.args : Sem Next).run P m.w = .ok (.enter f (vs++us.toArray)) m.w:=by
        simp [Deferred.ofValue,invoke,aBP hcb]
      rw [e1]
      refine (H n m B L WB WL sit hnb hnl (fun ft hft=>?_) (vs++us.toArray) (by simp;omega) (fun i d v hd hv=>?_))
      · rw [hfeq,← hft] at C hok
        exact ⟨C,hok⟩
      · rw [Array.getElem?_append] at hv
        split at hv
        · rename_i hi
          rw [List.getElem?_append_left (by omega)] at hd
          exact hr i d v hd hv
        · rename_i hi
          rw [List.getElem?_append_right (by omega)] at hd
          refine hur (i - args.length) d v hd ?_
          rw [hl]
          simpa using hv
  · rename_i v
    cases v with
    | fn f caps=>
      obtain ⟨hcb,d',hk,H⟩:=aIf (P:=P) (f:=f) (C:=fun vs=>PV.apply O.C (.fn f caps) vs) (caps:=caps) (k:=fun d s=>k d e s) (fun ps r0 h0=>by
        have h0 : O.C f (ps++caps)=some r0:=h0
        obtain ⟨h1,h2⟩:=hP f _ _ h0
        refine ⟨h1,fun w Z aV us hz hl hr hul hur=>h2 w Z (aV++us) hz (by simp;omega) (fun i x v hx hv=>?_)⟩
        rw [Array.getElem?_append] at hv
        split at hv
        · rw [List.getElem?_append_left (by omega)] at hx
          exact hr i x v hx hv
        · rw [List.getElem?_append_right (by omega)] at hx
          exact hur (i - ps.length) x v hx (by rw [hl];exact hv)) h
      refine ⟨d',e,s,id,hk,fun _=>rfl,fun _=>rfl,fun n m B L WB WL sit hnb hnl C hok vf vs hvf hl hr=>?_⟩
      cases hvf with
      | p _ _ hvf=>cases hvf with
        | fn _ _ us hul hur=>
          have e1 : (do let df ← Deferred.ofValue (.func (.func f) #[] us.toArray) vs;invoke df.target df.args : Sem Next).run P m.w = .ok (.enter f (vs++us.toArray)) m.w:=by
            simp [Deferred.ofValue,invoke,aBP hcb]
          rw [e1]
          exact H n m B L WB WL sit (aG7 (ds:=args) (wr:=false) sit C hok) vs us.toArray hl hr (by simpa using hul) (fun i x v hx hv=>hur i x v hx (by simpa using hv))
    | _=>
      exfalso
      split at h<;>
      · obtain ⟨ps,h1,_⟩:=sZ (s:=s) h
        obtain ⟨r0,hr0,_⟩:=aT h1
        simp [PV.apply] at hr0
  · cases h
end
structure Hyp (P : Program) (T : Tab) (H : Hints) : Prop where
  tab : T=tabOf P
  zero : kO P H.zok
  mixed : P.follows .mixedOrders=true
  code : ∀ (f : Nat) (fn : Func) (c : Code),P.funcs[f]? = some fn→fn.body=some c→codeOk fn.ntmps c=true∧fn.name≠ "runtime.NumGoroutine"
  prim : aCD P fun g args=>(H.prim g).bind fun p=>p args
  primS : ∀ g h,H.primS g=some h→∀ t args s l,H.mode g=some t→h args s=some l→jQ P g∧∀ (m : aY) (aV : Array Value),fT m s s.base→args.length=aV.size→
    (∀ (i : Nat) d v,args[i]? = some d→aV[i]? = some v→m.rd d v)→Calls P g aV m.w (fun e w'=>∃ v,e = .returned v∧rO m s.boxes.length (if t.keep then s.lists.length else 0) (some t) l v w')
  glob : ∀ g,H.glob g=none
  wf : ∀ g t,H.mode g=some t→t.wf=true
section
variable {P : Program} {T : Tab} {H : Hints}
theorem aEM : ∀ (ds : List DV) (n t : Nat),(argEnv n ds).get t=if n≤t then ds.getD (t - n) .dead else .dead
  | [],n,t=>by simp [argEnv,Env.get]
  | d::r,n,t=>by
    unfold argEnv
    simp only [Env.get]
    by_cases h : t=n
    · subst h;simp
    · have hb : Nat.beq t n=false:=by
        cases hb : Nat.beq t n with
        | false=>rfl
        | true=>exact absurd (bQ hb) h
      rw [hb]
      simp only [Bool.false_eq_true,if_false]
      rw [aEM]
      by_cases h2 : n≤t
      · rw [if_pos h2,if_pos (by omega),show t - n=t - (n+1)+1 by omega]
        simp [List.getD]
      · rw [if_neg h2,if_neg (by omega)]
theorem aIk {m : aY} {args : List DV} {vs : Array Value} {n : Nat} (hl : args.length=vs.size) (hr : ∀ (i : Nat) d v,args[i]? = some d→vs[i]? = some v→m.rd d v) :
    gF m (argEnv 0 args).get ⟨vs++Array.replicate n undef,[]⟩:=by
  intro t
  rw [aEM,if_pos (Nat.zero_le _),Nat.sub_zero]
  by_cases h : t<args.length
  · have hd : args[t]? = some args[t]:=List.getElem?_eq_getElem h
    have hv : vs[t]? = some (vs[t]'(by omega)):=Array.getElem?_eq_getElem (by omega)
    have e1 : args.getD t .dead=args[t]:=by rw [List.getD,hd];rfl
    have e2 : Act.eval ⟨vs++Array.replicate n undef,[]⟩ (.tmp t)=vs[t]'(by omega):=by
      show (vs++Array.replicate n undef).getD t undef=_
      rw [Array.getD_eq_getD_getElem?,Array.getElem?_append_left (by omega),hv];rfl
    rw [e1,e2]
    exact hr t _ _ hd hv
  · have e1 : args.getD t .dead = .dead:=by rw [List.getD,List.getElem?_eq_none (by omega)];rfl
    rw [e1]
    exact .dead _
theorem aAw {f : Nat} {fn : Func} {c : Code} (hfn : P.funcs[f]? = some fn) (hc : fn.body=some c) {nb nl : Nat} {out : Option Tmpl} {args : List DV} {s : St} {r : R} (hg : aMz P f nb nl out [.code c] (argEnv 0 args) s r)
    {m : aY} {vs : Array Value} (hf : fT m s s.base) (hl : args.length=vs.size) (hr : ∀ (i : Nat) d v,args[i]? = some d→vs[i]? = some v→m.rd d v) :
    Calls P f vs m.w (fun e w'=>∃ v,e = .returned v∧rO m nb nl out r v w'):=by
  intro cs
  let b : Frame:={ (default : Frame) with fn:=f,kind:=.normal}
  have henter : Frame.enter P f vs .normal=b.at ⟨vs++Array.replicate (fn.ntmps - vs.size) undef,[]⟩ [.code c]:=by
    simp [Frame.enter,Frame.at,hfn,hc,b]
  obtain ⟨v,w',fr,h1,h2,h3,h4⟩:=hg m ⟨vs++Array.replicate (fn.ntmps - vs.size) undef,[]⟩ fn hfn hf (aIk hl hr) (by simp;omega) rfl b cs rfl rfl
  rw [← henter] at h2
  exact ⟨.returned v,w',fr,⟨v,rfl,h1⟩,h2,h3,h4⟩
theorem aAT {f : Nat} {n nb nl : Nat} {out : Option Tmpl} {e : Env} {s : St} {r : R} (h : runN P T H n f nb nl out (startOf P f) e s=some r) : ∃ fn c,P.funcs[f]? = some fn∧fn.body=some c∧startOf P f = [.code c]:=by
  cases hb : bodyOf P f with
  | none=>
    exfalso
    cases n with
    | zero=>simp [runN] at h
    | succ n=>
      unfold runN at h
      have hs : startOf P f = [.code (.refuse "")]:=by unfold startOf;rw [hb]
      rw [hs] at h
      unfold evalFuel eval at h
      simp at h
  | some c=>
    have hs : startOf P f = [.code c]:=by unfold startOf;rw [hb]
    unfold bodyOf at hb
    cases hf : P.funcs[f]? with
    | none=>rw [hf] at hb;cases hb
    | some fn=>rw [hf] at hb;exact ⟨fn,c,rfl,hb,hs⟩
theorem aM7 (hy : Hyp P T H) {g : Nat} {fn : Func} {c : Code} (hg : P.funcs[g]? = some fn) (hc : fn.body=some c) : mA fn.ntmps [.code c]:=fun x hx=>by
  simp at hx;subst hx;exact (hy.code _ _ _ hg hc).1
def aKf (P : Program) (run : Nat→Nat→Nat→Option Tmpl→List Item→Env→St→Option R) : Prop:=∀ (f nb nl : Nat) (out : Option Tmpl) (todo : List Item) (e : Env) (s : St) (r : R) (fn : Func),run f nb nl out todo e s=some r→P.funcs[f]? = some fn→mA fn.ntmps todo→aMz P f nb nl out todo e s r
def aLN (P : Program) (run : Nat→Nat→Nat→Option Tmpl→List Item→Env→St→Option R) : Prop:=∀ {f nb nl : Nat} {out : Option Tmpl} {e : Env} {s : St} {r : R},run f nb nl out (startOf P f) e s=some r→∃ fn c,P.funcs[f]? = some fn∧fn.body=some c∧startOf P f = [.code c]
variable {run : Nat → Nat → Nat → Option Tmpl → List Item → Env → St → Option R}
theorem aIl (hy : Hyp P T H) (hrun : aKf P run) (hst : aLN P run) (f nb nl : Nat) (out : Option Tmpl) : aCD P (orcOf P H run f nb nl out).C:=by
  intro g args r h
  have h : (match H.prim g with | some h=>h args | none=>run g 0 0 none (startOf P g) (argEnv 0 (args.map .p)) ⟨[],[],0,0,0⟩)=some r:=h
  cases hpr : H.prim g with
  | some p=>
    rw [hpr] at h
    exact hy.prim g args r (by simp only [hpr,Option.bind_some];exact h)
  | none=>
  rw [hpr] at h
  simp only at h
  obtain ⟨fg,c,hfg,hc,hst'⟩:=hst h
  rw [hst'] at h
  have good:=hrun g 0 0 none _ _ _ r fg h hfg (aM7 hy hfg hc)
  refine ⟨⟨fg,c,hfg,hc,(hy.code _ _ _ hfg hc).2⟩,fun w Z aV hz hl hr=>?_⟩
  let m0 : aY:={ w:=w,Z:=Z,s:={ box:=fun _=>none,list:=fun _=>none},L:=fun _=>False,
                 ρ:={ box:=fun _=>0,hdr:=fun _=>.nilFunc,fp:=fun _ _=>False,ty:=fun _=>.leaf,ub:=fun _=>False,ul:=fun _=>False}}
  have full0 : fT m0 ⟨[],[],0,0,0⟩ 0:={
    inv:={
      ub:=fun _ _ h=>by cases h
      ul:=fun _ _ h=>by cases h
      zlt:=hz
      box:=fun _ _ h=>by cases h
      row:=fun _ _ h=>by cases h
      bz:=fun _ _ h=>by cases h
      bb:=fun _ _ _ _ h=>by cases h
      bl:=fun _ _ _ _ h=>by cases h
      ll:=fun _ _ _ _ _ h=>by cases h
      Lz:=fun _ h=>h.elim
      Lb:=fun _ _ _ h=>h
      Ll:=fun _ _ _ _ _ h=>h}
    box:=fun _=>rfl
    list:=fun _=>rfl
    ub:=fun _ h=>h.elim
    ul:=fun _ h=>h.elim}
  have own0 : ∀ r,¬ m0.owned r:=by
    rintro r (⟨_,_,h,_⟩ | ⟨_,_,h,_⟩ | h)
    · cases h
    · cases h
    · exact h
  refine (aAw hfg hc good (m:=m0) (vs:=aV) full0 (by simpa using hl) (fun i d v hd hv=>?_)).mono ?_
  · rw [List.getElem?_map] at hd
    cases hp : args[i]? with
    | none=>rw [hp] at hd;cases hd
    | some p=>rw [hp] at hd;cases hd;exact .p _ _ (hr i p v hp hv)
  · rintro e w' ⟨v,rfl,m',rfl,inv',fw,pv,rfl,hrep⟩
    refine ⟨v,rfl,fun x=>m'.Z x∨m'.owned x,⟨fw.size,fw.os,fw.tape,fw.output,fun r hr=>fw.keep r hr (own0 r),fun r hr=>.inl (fw.zz r hr),fun r hr=>?_⟩,hrep⟩
    rcases hr with hr | hr
    · rcases fw.z r hr with h | h | h
      · exact .inl h
      · exact (own0 r h).elim
      · exact .inr ⟨h,inv'.zlt r hr⟩
    · exact .inr ⟨(fw.own r hr).resolve_left (own0 r),inv'.owned_lt hr⟩
theorem aLO (hy : Hyp P T H) (hrun : aKf P run) (hst : aLN P run) (f nb nl : Nat) (out : Option Tmpl) : aEI P H.mode (orcOf P H run f nb nl out).S:=by
  intro g t args s l hmode h
  have h : (match H.mode g with | some t=>(match H.primS g with | some h=>h args s | none=>run g s.boxes.length (if t.keep then s.lists.length else 0) (some t) (startOf P g) (argEnv 0 args) s) | none=>none)=some l:=h
  rw [hmode] at h
  simp only at h
  cases hps : H.primS g with
  | some p=>
    rw [hps] at h
    exact hy.primS g p hps t args s l hmode h
  | none=>
  rw [hps] at h
  simp only at h
  obtain ⟨fg,c,hfg,hc,hst'⟩:=hst h
  rw [hst'] at h
  have good:=hrun g s.boxes.length (if t.keep then s.lists.length else 0) (some t) _ _ _ l fg h hfg (aM7 hy hfg hc)
  exact ⟨⟨fg,c,hfg,hc,(hy.code _ _ _ hfg hc).2⟩,fun m aV hf hl hr=>aAw hfg hc good hf hl hr⟩
theorem aGp (hy : Hyp P T H) : ∀ (n : Nat),aKf P (runN P T H n)
  | 0,_,_,_,_,_,_,_,_,_,h,_,_=>by simp [runN] at h
  | n+1,f,nb,nl,out,todo,e,s,r,fn,h,hfn,hok=>by
    unfold runN at h
    have ih:=aGp hy n
    have hP:=aIl hy ih aAT f nb nl out
    have hS:=aLO hy ih aAT f nb nl out
    refine aED (X:=cxOf P T H f nb nl out) (O:=orcOf P H (runN P T H n) f nb nl out) hy.tab hy.zero hy.glob (aJt hP hS hy.wf) hy.mixed hfn ?_ (fun todo e s r h hk=>ih f nb nl out todo e s r fn h hfn hk) evalFuel true todo e s r h hok
    show ((P.funcs[f]?).map (·.results.toList)).getD []=_
    rw [hfn];rfl
end
end Go.Proofs.YtjgleeamiclokaaGreatDoor
namespace Go.Proofs.YtjgleeamiclokaaGreatDoor
open Go
def aM {β : Type} (a : Option β) (b : Nat→Option β) : Prop:=∀ r,a=some r→∃ N,∀ n,N≤n→b n=some r
section
variable {α β : Type}
theorem aM.none {b : Nat→Option β} : aM (Option.none : Option β) b:=fun r h=>by cases h
theorem aM.rfl (a : Option β) : aM a (fun _=>a):=fun r h=>⟨0,fun _ _=>h⟩
theorem aM.bd {o : Option α} {k : α→Option β} {k' : Nat→α→Option β} (h : ∀ a,aM (k a) (fun n=>k' n a)) : aM (bd o k) (fun n=>bd o (k' n)):=by
  cases o with
  | none=>exact aM.none
  | some a=>exact h a
theorem aM.bd2 {o : Option α} {o' : Nat→Option α} {k : α→Option β} {k' : Nat→α→Option β} (ho : aM o o') (h : ∀ a,aM (k a) (fun n=>k' n a)) : aM (Go.Proofs.YtjgleeamiclokaaGreatDoor.bd o k) (fun n=>Go.Proofs.YtjgleeamiclokaaGreatDoor.bd (o' n) (k' n)):=by
  intro r hr
  obtain ⟨a,ha,hk⟩:=aT hr
  obtain ⟨N,hN⟩:=ho a ha
  obtain ⟨M,hM⟩:=h a r hk
  refine ⟨max N M,fun n hn=>?_⟩
  show Go.Proofs.YtjgleeamiclokaaGreatDoor.bd (o' n) (k' n)=some r
  rw [hN n (by omega)]
  exact hM n (by omega)
theorem aM.pvite {c : PV} {a b : Option β} {a' b' : Nat→Option β} (ha : aM a a') (hb : aM b b') : aM (PV.ite c a b) (fun n=>PV.ite c (a' n) (b' n)):=by
  intro r hr
  rcases uM hr with ⟨rfl,h⟩ | ⟨rfl,h⟩
  · obtain ⟨N,hN⟩:=ha r h
    exact ⟨N,fun n hn=>hN n hn⟩
  · obtain ⟨N,hN⟩:=hb r h
    exact ⟨N,fun n hn=>hN n hn⟩
theorem aM.nilT {c : PV} {a b : Option β} {a' b' : Nat→Option β} (ha : aM a a') (hb : aM b b') : aM (PV.nilT c a b) (fun n=>PV.nilT c (a' n) (b' n)):=by
  intro r hr
  obtain ⟨h1,h2⟩:=aGm hr
  obtain ⟨M,hM⟩:=hb r h2
  cases c with
  | lst xs=>
    cases xs with
    | nil=>
      obtain ⟨N,hN⟩:=ha r (h1 (Eq.refl _))
      refine ⟨max N M,fun n hn=>?_⟩
      show @_root_.ite _ (a' n=b' n) (Classical.propDecidable _) (a' n) Option.none=some r
      rw [hN n (by omega),hM n (by omega),if_pos (Eq.refl _)]
    | cons x xs=>exact ⟨M,fun n hn=>hM n hn⟩
  | _=>cases hr
theorem aM.ite {c : Prop} [Decidable c] {a b : Option β} {a' b' : Nat→Option β} (ha : aM a a') (hb : aM b b') : aM (if c then a else b) (fun n=>if c then a' n else b' n):=by
  by_cases h : c
  · simp only [h,if_true];exact ha
  · simp only [h,if_false];exact hb
theorem aM.flat {r : PV} {a : Option β} {a' : Nat→Option β} (ha : aM a a') : aM (PV.guardFlat r a) (fun n=>PV.guardFlat r (a' n)):=by
  unfold PV.guardFlat;exact aM.ite ha aM.none
theorem aM.own {o : OTy} {r : PV} {a : Option β} {a' : Nat→Option β} (ha : aM a a') : aM (PV.guardOwn o r a) (fun n=>PV.guardOwn o r (a' n)):=by
  unfold PV.guardOwn;exact aM.ite ha aM.none
end
section
variable {X : Cx}
theorem aBT {v : PV} : ∀ {m : Nat} {k : List PV→Option R} {k' : Nat→List PV→Option R},(∀ l,aM (k l) (fun n=>k' n l))→aM (cellsK.go v m k) (fun n=>cellsK.go v m (k' n))
  | 0,_,_,h=>h []
  | _+1,_,_,h=>by
    unfold cellsK.go
    exact aBT fun l=>aM.bd fun c=>h _
theorem nG {m : Nat} {d : DV} {k : List DV→Option R} {k' : Nat→List DV→Option R} (h : ∀ l,aM (k l) (fun n=>k' n l)) : aM (cellsK m d k) (fun n=>cellsK m d (k' n)):=by
  cases d<;>simp only [cellsK]<;>first
    | exact aM.none
    | exact aM.ite (h _) aM.none
    | exact aM.bd fun v=>aBT fun l=>h _
theorem jV : ∀ {path : eW} {o : OTy} {c : PV} {k : OTy→PV→Option R} {k' : Nat→OTy→PV→Option R},(∀ o c,aM (k o c) (fun n=>k' n o c))→aM (getK o c path k) (fun n=>getK o c path (k' n))
  | [],_,_,_,_,h=>h _ _
  | (i,j)::r,o,c,k,k',h=>by
    unfold getK
    exact aM.bd fun x=>aM.ite (aM.bd fun y=>jV h) (aM.ite (jV h) aM.none)
theorem uQ : ∀ {path : eW} {o : OTy} {c y : PV} {k : PV→Option R} {k' : Nat→PV→Option R},(∀ c,aM (k c) (fun n=>k' n c))→aM (setK o c path y k) (fun n=>setK o c path y (k' n))
  | [],_,_,_,_,_,h=>h _
  | (i,j)::r,o,c,y,k,k',h=>by
    unfold setK
    exact aM.bd fun x=>aM.ite (aM.bd fun z=>uQ fun z'=>aM.bd h) (aM.ite (uQ fun z'=>aM.bd h) aM.none)
theorem rH {s : St} {d : DV} {k : OTy→PV→Option R} {k' : Nat→OTy→PV→Option R} (h : ∀ o c,aM (k o c) (fun n=>k' n o c)) : aM (rowK s d k) (fun n=>rowK s d (k' n)):=by
  cases d<;>simp only [rowK]<;>try exact aM.none
  · rename_i l path
    cases s.list l with
    | none=>exact aM.none
    | some w=>exact jV h
  · rename_i l path lo hi
    cases s.list l with
    | none=>exact aM.none
    | some w=>exact jV fun o c=>aM.bd fun c=>h _ _
theorem aCF {α β : Type} {f : α→(β→Option R)→Option R} (hf : ∀ a k (k' : Nat→β→Option R),(∀ b,aM (k b) (fun n=>k' n b))→aM (f a k) (fun n=>f a (k' n))) :
    ∀ {l : List α} {k : List β→Option R} {k' : Nat→List β→Option R},(∀ b,aM (k b) (fun n=>k' n b))→aM (mapK f l k) (fun n=>mapK f l (k' n))
  | [],_,_,h=>h _
  | d::r,k,k',h=>by
    unfold mapK
    exact hf _ _ _ fun v=>aCF hf fun vs=>h _
theorem aAU {s : St} : ∀ {m : Nat} {d : DV} {k : PV→Option R} {k' : Nat→PV→Option R},(∀ v,aM (k v) (fun n=>k' n v))→aM (snapK s m d k) (fun n=>snapK s m d (k' n))
  | 0,_,_,_,_=>by simp only [snapK];exact aM.none
  | m+1,d,k,k',h=>by
    have mp:=fun {ds : List DV} {k : List PV→Option R} {k' : Nat→List PV→Option R} (h : ∀ v,aM (k v) (fun n=>k' n v))=>aCF (f:=snapK s m) (fun a k k' h=>aAU h) (l:=ds) h
    cases d<;>simp only [snapK]<;>first
      | exact aM.none
      | exact h _
      | exact mp fun vs=>h _
      | exact rH fun _ c=>h _
      | skip
    rename_i b off
    cases off with
    | zero=>
      cases s.box b with
      | none=>exact aM.none
      | some cs=>exact mp fun vs=>h _
    | succ n=>exact aM.none
theorem rQ {s : St} {m : Nat} {ds : List DV} {k : List PV→Option R} {k' : Nat→List PV→Option R} (h : ∀ v,aM (k v) (fun n=>k' n v)) : aM (snapL s m ds k) (fun n=>snapL s m ds (k' n)):=by
  unfold snapL
  exact aCF (f:=snapK s m) (fun a k k' h=>aAU h) h
theorem aJu {s : St} {d : DV} {k : PV→St→Option R} {k' : Nat→PV→St→Option R} (h : ∀ v s,aM (k v s) (fun n=>k' n v s)) : aM (sinkK s d k) (fun n=>sinkK s d (k' n)):=by
  unfold sinkK
  cases bsOf deep d with
  | nil=>exact aAU fun v=>h _ _
  | cons=>exact aM.none
theorem tA {ct : OTy} {s : St} {d : DV} {k : PV→St→Option R} {k' : Nat→PV→St→Option R} (h : ∀ v s,aM (k v s) (fun n=>k' n v s)) : aM (sinkAs ct s d k) (fun n=>sinkAs ct s d (k' n)):=by
  cases ct with
  | leaf=>exact aJu h
  | own a b c e=>
    cases d<;>simp only [sinkAs]<;>first
      | exact aM.none
      | exact h _ _
      | skip
    · rename_i l path
      cases path with
      | nil=>
        dsimp only
        cases s.list l with
        | none=>exact aM.none
        | some w=>exact aM.ite (h _ _) aM.none
      | cons=>exact aM.none
    · rename_i l path lo hi
      cases path with
      | nil=>
        dsimp only
        cases s.list l with
        | none=>exact aM.none
        | some w=>exact aM.ite (aM.bd fun c=>h _ _) aM.none
      | cons=>exact aM.none
theorem rR {o : OTy} : ∀ {ds : List DV} {s : St} {j : Nat} {k : List PV→St→Option R} {k' : Nat→List PV→St→Option R},(∀ v s,aM (k v s) (fun n=>k' n v s))→aM (sinkCells o s j ds k) (fun n=>sinkCells o s j ds (k' n))
  | [],_,_,_,_,h=>h _ _
  | d::r,s,j,k,k',h=>by
    unfold sinkCells
    exact tA fun v s=>rR fun vs s=>h _ _
theorem aEN {o : OTy} {s : St} {d : DV} {k : PV→St→Option R} {k' : Nat→PV→St→Option R} (h : ∀ v s,aM (k v s) (fun n=>k' n v s)) : aM (elemK o s d k) (fun n=>elemK o s d (k' n)):=by
  unfold elemK
  cases o.g with
  | true=>
    cases d<;>simp only [if_true]<;>first
      | exact aM.none
      | exact aM.ite (h _ _) aM.none
      | exact aM.ite (rR fun vs s=>h _ _) aM.none
  | false=>
    cases d<;>simp only [Bool.false_eq_true,if_false]<;>first
      | exact aM.none
      | exact tA h
theorem jW : ∀ {ds : List DV} {ts : List (Option Nat)} {s : St} {k : List DV→St→Option R} {k' : Nat→List DV→St→Option R},(∀ v s,aM (k v s) (fun n=>k' n v s))→aM (ownCells X ds ts s k) (fun n=>ownCells X ds ts s (k' n))
  | [],ts,s,k,k',h=>by cases ts<;>exact h _ _
  | d::ds,[],s,k,k',h=>h _ _
  | d::ds,t::ts,s,k,k',h=>by
    unfold ownCells
    cases d<;>cases t<;>exact jW fun vs s=>h _ _
theorem yF {l : Nat} {path : eW} {i : PV} {o : OTy} {x : PV} : ∀ {m off : Nat} {k : List DV→Option R} {k' : Nat→List DV→Option R},(∀ v,aM (k v) (fun n=>k' n v))→aM (cellsE l path i o x m off k) (fun n=>cellsE l path i o x m off (k' n))
  | 0,_,_,_,h=>h _
  | m+1,off,k,k',h=>by
    unfold cellsE
    exact aM.ite (aM.bd fun y=>yF fun ds=>h _) (yF fun ds=>h _)
theorem aEO {x : PV} {s : Nat} {g : Bool} {off : Nat} {r : TyR} {k : DV→Option R} {k' : Nat→DV→Option R} (h : ∀ v,aM (k v) (fun n=>k' n v)) : aM (partK x s g off r k) (fun n=>partK x s g off r (k' n)):=by
  unfold partK
  exact aM.ite (aM.ite (h _) (aM.bd fun y=>h _)) (aM.ite (aM.bd fun y=>h _) (aM.ite (h _) aM.none))
theorem aDp {c : PV} : ∀ {m off : Nat} {k : List PV→Option R} {k' : Nat→List PV→Option R},(∀ v,aM (k v) (fun n=>k' n v))→aM (loadK.cellsB c m off k) (fun n=>loadK.cellsB c m off (k' n))
  | 0,_,_,_,h=>h _
  | m+1,off,k,k',h=>by
    unfold loadK.cellsB
    exact aM.bd fun v=>aDp fun l=>h _
theorem aJv {t : Nat} {a : DV} {s : St} {k : DV→Option R} {k' : Nat→DV→Option R} (h : ∀ v,aM (k v) (fun n=>k' n v)) : aM (loadK X t a s k) (fun n=>loadK X t a s (k' n)):=by
  unfold loadK
  refine aM.ite aM.none ?_
  cases a<;>(try simp only)<;>first
    | exact aM.none
    | exact aM.ite (aDp fun l=>h _) (aM.bd fun y=>h _)
    | exact aEO h
    | skip
  · rename_i b off
    cases s.box b with
    | none=>exact aM.none
    | some cs=>
      refine aM.ite (aM.ite (h _) aM.none) ?_
      cases cs[off]? with
      | none=>exact aM.none
      | some d=>exact h _
  · rename_i l path i off
    cases s.list l with
    | none=>exact aM.none
    | some w=>
      exact jV fun o c=>aM.bd fun x=>aM.ite (aEO h) (aM.ite (aM.ite (yF fun ds=>h _) aM.none)
        (aM.ite (aM.ite (aM.bd fun y=>h _) (aM.ite (h _) aM.none)) (aM.ite (h _) aM.none)))
theorem zL {d : DV} {k : DV→Option R} {k' : Nat→DV→Option R} (h : ∀ v,aM (k v) (fun n=>k' n v)) : aM (oneK d k) (fun n=>oneK d (k' n)):=by
  cases d<;>simp only [oneK]<;>first
    | exact aM.none
    | exact h _
    | exact aM.bd fun x=>h _
theorem aIm {t b off : Nat} {v : DV} {s : St} {k : St→Option R} {k' : Nat→St→Option R} (h : ∀ v,aM (k v) (fun n=>k' n v)) : aM (storeB X t b off v s k) (fun n=>storeB X t b off v s (k' n)):=by
  unfold storeB
  simp only
  cases s.box b with
  | none=>exact aM.none
  | some cs=>
    refine aM.ite (aM.ite (nG fun vs=>jW fun vs s=>h _) (aM.ite (zL fun v=>?_) aM.none)) aM.none
    cases v<;>(try simp only)<;>first
      | exact h _
      | skip
    · cases elemOf X t with
      | none=>exact aM.none
      | some u=>exact h _
    · rename_i l path lo hi
      cases path with
      | cons=>exact h _
      | nil=>
        cases cs[off]? with
        | none=>exact h _
        | some d=>
          cases d<;>(try simp only)<;>first
            | exact h _
            | skip
          rename_i l' path'
          cases path' with
          | cons=>exact h _
          | nil=>
            refine aM.ite ?_ (h _)
            cases s.list l with
            | none=>exact aM.none
            | some w=>exact aM.bd fun c=>h _
theorem aDq {m : Nat} {c i : PV} : ∀ {ys : List PV} {c : PV} {off : Nat} {k : PV→Option R} {k' : Nat→PV→Option R},(∀ v,aM (k v) (fun n=>k' n v))→aM (storeK.setAll m c i off ys k) (fun n=>storeK.setAll m c i off ys (k' n))
  | [],_,_,_,_,h=>h _
  | y::ys,c,off,k,k',h=>by
    unfold storeK.setAll
    exact aM.bd fun c=>aDq (c:=c) h
theorem aIn {e : Env} {l : Nat} {path : eW} {w : Own} {c : PV} {s : St} {k : Env→St→Option R} {k' : Nat→Env→St→Option R} (h : ∀ e s,aM (k e s) (fun n=>k' n e s)) : aM (storeK.fin e k l path w c s) (fun n=>storeK.fin e (k' n) l path w c s):=by
  unfold storeK.fin
  refine uQ fun c'=>?_
  unfold touchK
  exact aM.ite (h _ _) (h _ _)
theorem aEP {e : Env} {o : OTy} {ds : List DV} {off l : Nat} {path : eW} {i : PV} {s : St} {k : Env→St→Option R} {k' : Nat→Env→St→Option R} (h : ∀ e s,aM (k e s) (fun n=>k' n e s)) : aM (storeK.setIn e k o ds off l path i s) (fun n=>storeK.setIn e (k' n) o ds off l path i s):=by
  unfold storeK.setIn
  refine rR fun ys s=>?_
  cases s.list l with
  | none=>exact aM.none
  | some w=>exact jV fun o c=>aDq (c:=c) fun c=>aIn h
theorem aDr {t : Nat} {a v : DV} {e : Env} {s : St} {k : Env→St→Option R} {k' : Nat→Env→St→Option R} (h : ∀ e s,aM (k e s) (fun n=>k' n e s)) : aM (storeK X t a v e s k) (fun n=>storeK X t a v e s (k' n)):=by
  unfold storeK
  refine aM.ite aM.none ?_
  cases a<;>(try simp only)<;>first
    | exact aM.none
    | exact aIm fun s=>h _ _
    | skip
  rename_i l path i off
  cases s.list l with
  | none=>exact aM.none
  | some w=>
    refine jV fun o c=>aM.ite (aEN fun x s=>?_) (aM.ite (nG fun ds=>aEP h) (aM.ite (zL fun v=>aEP h) aM.none))
    cases s.list l with
    | none=>exact aM.none
    | some w=>exact jV fun o c=>aM.bd fun c=>aIn h
theorem yG {fs : List (Nat × Nat)} : ∀ {ps : List (Nat × DV)} {cs : List DV} {k : List DV→Option R} {k' : Nat→List DV→Option R},(∀ v,aM (k v) (fun n=>k' n v))→aM (buildK X fs ps cs k) (fun n=>buildK X fs ps cs (k' n))
  | [],_,_,_,h=>h _
  | (i,v)::r,cs,k,k',h=>by
    unfold buildK
    cases fs[i]? with
    | none=>exact aM.none
    | some p=>exact aM.ite (aM.ite (nG fun vs=>yG h) (aM.ite (zL fun v=>yG h) aM.none)) aM.none
theorem aDs {o : OTy} : ∀ {ds : List DV} {s : St} {k : List PV→St→Option R} {k' : Nat→List PV→St→Option R},(∀ v s,aM (k v s) (fun n=>k' n v s))→aM (elemsK o s ds k) (fun n=>elemsK o s ds (k' n))
  | [],_,_,_,h=>h _ _
  | d::r,s,k,k',h=>by
    unfold elemsK
    exact aEN fun v s=>aDs fun vs s=>h _ _
theorem vN {dst : Option Nat} {t : Nat} {d : DV} {e : Env} {s : St} {k : DV→St→Option R} {k' : Nat→DV→St→Option R} (h : ∀ v s,aM (k v s) (fun n=>k' n v s)) : aM (moveK X dst t d e s k) (fun n=>moveK X dst t d e s (k' n)):=by
  cases d<;>simp only [moveK]<;>first
    | exact aM.none
    | exact h _ _
    | skip
  · cases elemOf X t with
    | none=>exact h _ _
    | some u=>exact h _ _
  · rename_i l path lo hi
    cases path with
    | cons=>exact h _ _
    | nil=>
      cases dst with
      | none=>exact h _ _
      | some t=>
        dsimp only
        generalize e.get t=d0
        cases d0<;>(try simp only)<;>first
          | exact h _ _
          | skip
        rename_i l' path'
        cases path' with
        | cons=>exact h _ _
        | nil=>
          refine aM.ite ?_ (h _ _)
          cases s.list l with
          | none=>exact aM.none
          | some w=>exact aM.bd fun c=>h _ _
theorem aJw {c a b : DV} {e : Env} {s : St} {k : DV→St→Option R} {k' : Nat→DV→St→Option R} (h : ∀ v s,aM (k v s) (fun n=>k' n v s)) : aM (pickK X c a b e s k) (fun n=>pickK X c a b e s (k' n)):=by
  cases c<;>simp only [pickK]<;>first
    | exact aM.none
    | exact aM.pvite (vN h) (vN h)
theorem aIo {t : Nat} {s : St} {k : DV→St→Option R} {k' : Nat→DV→St→Option R} (h : ∀ v s,aM (k v s) (fun n=>k' n v s)) : aM (allocK X t s k) (fun n=>allocK X t s (k' n)):=by
  unfold allocK
  exact aM.ite (jW fun cs s=>h _ _) aM.none
theorem aK0 {t : Nat} {x : DV} {s : St} {k : DV→St→Option R} {k' : Nat→DV→St→Option R} (h : ∀ v s,aM (k v s) (fun n=>k' n v s)) : aM (boxK X t x s k) (fun n=>boxK X t x s (k' n)):=by
  unfold boxK
  exact aM.ite (nG fun cs=>jW fun cs s=>h _ _) (zL fun d=>jW fun cs s=>h _ _)
theorem aHa {t : Nat} {ps : List (Nat × DV)} {k : DV→Option R} {k' : Nat→DV→Option R} (h : ∀ v,aM (k v) (fun n=>k' n v)) : aM (buildTK X t ps k) (fun n=>buildTK X t ps (k' n)):=by
  unfold buildTK
  cases (X.T.at t).d<;>(try simp only)<;>first
    | exact aM.none
    | exact aM.ite (yG fun cs=>h _) aM.none
theorem aCG {t m : Nat} {ps : List (Nat × DV)} {s : St} {k : DV→St→Option R} {k' : Nat→DV→St→Option R} (h : ∀ v s,aM (k v s) (fun n=>k' n v s)) : aM (buildSliceK X t m ps s k) (fun n=>buildSliceK X t m ps s (k' n)):=by
  unfold buildSliceK
  cases elemOf X t with
  | none=>exact aM.none
  | some u=>exact aM.ite (aDs fun vs s=>aM.bd fun c=>h _ _) aM.none
theorem aDE {t : Nat} {l c : DV} {s : St} {k : DV→St→Option R} {k' : Nat→DV→St→Option R} (h : ∀ v s,aM (k v s) (fun n=>k' n v s)) : aM (makeSliceK X t l c s k) (fun n=>makeSliceK X t l c s (k' n)):=by
  unfold makeSliceK
  cases elemOf X t with
  | none=>exact aM.none
  | some u=>
    cases l<;>cases c<;>(try simp only)<;>first
      | exact aM.none
      | exact aM.ite (aM.bd fun _=>aM.bd fun y=>aM.pvite (aM.bd fun c=>h _ _) aM.none) aM.none
theorem aEQ {x : DV} {s : St} {k : DV→Option R} {k' : Nat→DV→Option R} (h : ∀ v,aM (k v) (fun n=>k' n v)) : aM (nilCheckK x s k) (fun n=>nilCheckK x s (k' n)):=by
  cases x<;>simp only [nilCheckK]<;>first
    | exact aM.none
    | exact h _
    | exact aM.bd fun v=>h _
    | skip
  rename_i l path i off
  cases s.list l with
  | none=>exact aM.none
  | some w=>exact h _
theorem aJx {op : UnOp} {x : DV} {k : DV→Option R} {k' : Nat→DV→Option R} (h : ∀ v,aM (k v) (fun n=>k' n v)) : aM (unOpK op x k) (fun n=>unOpK op x (k' n)):=by
  cases op<;>cases x<;>simp only [unOpK]<;>first
    | exact aM.none
    | exact aM.bd fun v=>h _
theorem aIp {t : Nat} {x i : DV} {k : DV→Option R} {k' : Nat→DV→Option R} (h : ∀ v,aM (k v) (fun n=>k' n v)) : aM (indexK X t x i k) (fun n=>indexK X t x i (k' n)):=by
  unfold indexK
  cases (X.T.at t).d<;>cases x<;>cases i<;>(try simp only)<;>first
    | exact aM.none
    | exact aM.bd fun v=>h _
    | skip
  refine aM.ite ?_ aM.none
  split
  · exact aM.bd fun v=>h _
  · exact aM.none
theorem aER {d : DV} {k : DV→Option R} {k' : Nat→DV→Option R} (h : ∀ v,aM (k v) (fun n=>k' n v)) : aM (soK d k) (fun n=>soK d (k' n)):=by
  cases d<;>simp only [soK]<;>first
    | exact aM.bd fun v=>h _
    | exact h _
theorem aFM {x : DV} {i : Nat} {k : DV→Option R} {k' : Nat→DV→Option R} (h : ∀ v,aM (k v) (fun n=>k' n v)) : aM (extractK x i k) (fun n=>extractK x i (k' n)):=by
  cases x<;>simp only [extractK]<;>first
    | exact aM.none
    | exact aM.bd fun v=>h _
    | skip
  rename_i cs
  cases cs[i]? with
  | none=>exact aM.none
  | some d=>exact h _
theorem aIq {t f : Nat} {x : DV} {k : DV→Option R} {k' : Nat→DV→Option R} (h : ∀ v,aM (k v) (fun n=>k' n v)) : aM (fieldK X t x f k) (fun n=>fieldK X t x f (k' n)):=by
  unfold fieldK
  cases (X.T.at t).d<;>(try simp only)<;>first
    | exact aM.none
    | skip
  rename_i fs
  cases fs[f]? with
  | none=>exact aM.none
  | some p=>
    refine aM.ite aM.none ?_
    cases x<;>(try simp only)<;>first
      | exact aM.none
      | exact aM.ite (aM.bd fun y=>h _) (aM.bd fun y=>h _)
      | skip
    rename_i cs
    refine aM.ite (aM.ite (h _) aM.none) ?_
    cases cs[p.1]? with
    | none=>exact aM.none
    | some d=>exact h _
theorem aDF {t f : Nat} {x : DV} {s : St} {k : DV→Option R} {k' : Nat→DV→Option R} (h : ∀ v,aM (k v) (fun n=>k' n v)) : aM (fieldAddrK X t x f s k) (fun n=>fieldAddrK X t x f s (k' n)):=by
  unfold fieldAddrK
  cases (X.T.at t).d<;>(try simp only)<;>first
    | exact aM.none
    | skip
  rename_i fs
  cases fs[f]? with
  | none=>exact aM.none
  | some p=>
    refine aM.ite aM.none ?_
    cases x<;>(try simp only)<;>first
      | exact aM.none
      | exact h _
      | exact aM.bd fun y=>h _
      | skip
    rename_i l path i off
    cases s.list l with
    | none=>exact aM.none
    | some w=>exact h _
theorem aDG {t : Nat} {x i : DV} {s : St} {k : DV→Option R} {k' : Nat→DV→Option R} (h : ∀ v,aM (k v) (fun n=>k' n v)) : aM (indexAddrK X t x i s k) (fun n=>indexAddrK X t x i s (k' n)):=by
  unfold indexAddrK
  cases (X.T.at t).d<;>cases i<;>(try simp only)<;>first
    | exact aM.none
    | skip
  · refine aM.ite aM.none ?_
    cases x<;>(try simp only)<;>first
      | exact aM.none
      | exact aM.bd fun y=>h _
      | exact rH fun o c=>aM.ite (aM.bd fun _=>h _) aM.none
      | exact rH fun o c=>aM.ite (aM.bd fun _=>aM.bd fun j=>h _) aM.none
  · rename_i i
    refine aM.ite aM.none ?_
    cases x<;>cases i<;>(try simp only)<;>first
      | exact aM.none
      | exact aM.ite (h _) aM.none
      | exact aM.ite (aM.bd fun v=>h _) aM.none
theorem aHb {t : Nat} {x : DV} {lo hi : Option DV} {mx : DV} {s : St} {k : DV→St→Option R} {k' : Nat→DV→St→Option R} (h : ∀ v s,aM (k v s) (fun n=>k' n v s)) : aM (noRoomK X t x lo hi mx s k) (fun n=>noRoomK X t x lo hi mx s (k' n)):=by
  unfold noRoomK
  cases elemOf X t with
  | none=>exact aM.none
  | some u=>
    cases x<;>cases lo<;>(try exact aM.none)
    cases hi with
    | none=>exact aM.none
    | some d=>
      cases d<;>cases mx<;>first
        | exact aM.none
        | exact aM.ite (aM.bd fun _=>h _ _) aM.none
theorem aIr {t : Nat} {x : DV} {lo hi : Option DV} {s : St} {k : DV→Option R} {k' : Nat→DV→Option R} (h : ∀ v,aM (k v) (fun n=>k' n v)) : aM (sliceK X t x lo hi s k) (fun n=>sliceK X t x lo hi s (k' n)):=by
  unfold sliceK
  cases sliceK.lowOf lo with
  | none=>exact aM.none
  | some l=>
    cases (X.T.at t).d<;>(try simp only)<;>first
      | exact aM.none
      | skip
    · cases x<;>(try simp only)<;>first
        | exact aM.none
        | skip
      cases hi with
      | none=>exact aM.bd fun _=>aM.bd fun y=>h _
      | some d=>
        cases d<;>(try simp only)<;>first
          | exact aM.none
          | exact aM.bd fun y=>h _
    · refine aM.ite aM.none ?_
      cases x<;>(try simp only)<;>first
        | exact aM.none
        | skip
      · cases hi with
        | none=>exact aM.bd fun _=>aM.bd fun y=>h _
        | some d=>
          cases d<;>(try simp only)<;>first
            | exact aM.none
            | exact aM.bd fun y=>h _
      · refine rH fun o c=>aM.ite ?_ aM.none
        cases hi with
        | none=>exact aM.bd fun _=>aM.bd fun y=>h _
        | some d=>
          cases d<;>(try simp only)<;>first
            | exact aM.none
            | exact aM.bd fun y=>h _
theorem aK1 {t : Nat} {d : DV} {s : St} {k : DV→Option R} {k' : Nat→DV→Option R} (h : ∀ v,aM (k v) (fun n=>k' n v)) : aM (lenK X t d s k) (fun n=>lenK X t d s (k' n)):=by
  unfold lenK
  cases (X.T.at t).d<;>cases d<;>(try simp only)<;>first
    | exact aM.none
    | exact h _
    | exact aM.bd fun y=>h _
    | exact rH fun _ c=>aM.bd fun y=>h _
theorem aAV : ∀ {ds : List DV} {k : List PV→Option R} {k' : Nat→List PV→Option R},(∀ v,aM (k v) (fun n=>k' n v))→aM (eqK.trees ds k) (fun n=>eqK.trees ds (k' n))
  | [],_,_,h=>h _
  | d::ds,k,k',h=>by
    cases d<;>simp only [eqK.trees]<;>first
      | exact aM.none
      | exact aAV fun vs=>h _
theorem aK2 {op : BinOp} {x : DV} {k : DV→Option R} {k' : Nat→DV→Option R} (h : ∀ v,aM (k v) (fun n=>k' n v)) : aM (nilK op x k) (fun n=>nilK op x (k' n)):=by
  unfold nilK
  cases op<;>cases x<;>(try simp only)<;>first
    | exact aM.none
    | exact aM.bd fun v=>h _
theorem aK3 {op : BinOp} {t : Nat} {x y : DV} {k : DV→Option R} {k' : Nat→DV→Option R} (h : ∀ v,aM (k v) (fun n=>k' n v)) : aM (binK X op t x y k) (fun n=>binK X op t x y (k' n)):=by
  unfold binK
  cases (X.T.at t).d<;>(try simp only)<;>first
    | exact aM.none
    | skip
  · cases x<;>cases y<;>(try simp only)<;>first
      | exact aM.none
      | exact aM.bd fun v=>h _
  · cases x<;>cases y<;>(try simp only)<;>first
      | exact aM.none
      | exact aM.bd fun v=>h _
  · cases x<;>cases y<;>(try simp only)<;>first
      | exact aM.none
      | exact aM.bd fun v=>h _
  · cases x<;>cases y<;>(try simp only)<;>first
      | exact aM.none
      | exact aM.bd fun v=>h _
      | skip
    rename_i v
    cases v<;>cases op<;>(try simp only)<;>first
      | exact aM.none
      | exact h _
  · cases y<;>(try simp only)<;>first
      | exact aM.none
      | exact aK2 h
  · unfold eqK
    cases eqKinds X 10 t with
    | none=>exact aM.none
    | some qs=>exact nG fun as_=>nG fun bs=>aAV fun as_=>aAV fun bs=>aM.bd fun v=>h _
theorem zM {d : DV} {s : St} {k : PV→Option R} {k' : Nat→PV→Option R} (h : ∀ v,aM (k v) (fun n=>k' n v)) : aM (srcK d s k) (fun n=>srcK d s (k' n)):=by
  cases d<;>simp only [srcK]<;>first
    | exact aM.none
    | exact h _
    | exact rH fun o c=>aM.ite (h _) aM.none
theorem aJy {a b : Nat} {x : DV} {s : St} {k : DV→Option R} {k' : Nat→DV→Option R} (h : ∀ v,aM (k v) (fun n=>k' n v)) : aM (convK X a b x s k) (fun n=>convK X a b x s (k' n)):=by
  unfold convK
  cases (X.T.at a).d<;>cases (X.T.at b).d<;>(try simp only)<;>first
    | exact aM.none
    | skip
  · cases x<;>(try simp only)<;>first
      | exact aM.none
      | exact aM.bd fun v=>h _
  · cases x<;>(try simp only)<;>first
      | exact aM.none
      | exact aM.bd fun v=>h _
  · rename_i e
    cases x<;>(try simp only)<;>first
      | exact aM.none
      | skip
    cases (X.T.at e).d<;>(try simp only)<;>first
      | exact aM.none
      | skip
    rename_i kk
    cases kk<;>(try simp only)<;>first
      | exact aM.none
      | exact aM.bd fun v=>h _
  · rename_i e
    cases (X.T.at e).d<;>(try simp only)<;>first
      | exact aM.none
      | skip
    rename_i kk
    cases kk<;>(try simp only)<;>first
      | exact aM.none
      | exact zM fun c=>aM.bd fun y=>h _
theorem aES {o : OTy} {d : DV} {s : St} {k : PV→St→Option R} {k' : Nat→PV→St→Option R} (h : ∀ v s,aM (k v s) (fun n=>k' n v s)) : aM (appendedK o d s k) (fun n=>appendedK o d s (k' n)):=by
  unfold appendedK
  exact aM.ite (zM fun y=>h _ _) (tA h)
theorem aDt {o : OTy} {c : PV} {q : Option (PV × PV)} {k : PV→Option R} {k' : Nat→PV→Option R} (h : ∀ v,aM (k v) (fun n=>k' n v)) : aM (pieceK o c q k) (fun n=>pieceK o c q (k' n)):=by
  cases q with
  | none=>exact h _
  | some p=>exact aM.bd h
theorem aIs {l : Nat} {path : eW} {q : Option (PV × PV)} {s : St} {k : DV→St→Option R} {k' : Nat→DV→St→Option R} (h : ∀ d s,aM (k d s) (fun n=>k' n d s)) : aM (leaveK l path q s k) (fun n=>leaveK l path q s (k' n)):=by
  unfold leaveK
  cases s.list l with
  | none=>exact aM.none
  | some w=>exact jV fun o c=>aM.ite (aDt fun c1=>uQ fun c'=>h _ _) aM.none
theorem aHc {t : Nat} {a v : DV} {e : Env} {s : St} {k : Env→St→Option R} {k' : Nat→Env→St→Option R} (h : ∀ e s,aM (k e s) (fun n=>k' n e s)) : aM (storeLK X t a v e s k) (fun n=>storeLK X t a v e s (k' n)):=by
  unfold storeLK
  split
  · exact aIs fun _ _=>aDr fun _ _=>aM.ite (h _ _) aM.none
  · exact aDr h
theorem aGq {d : DV} {te : Nat} {e : Env} {s : St} {l : Nat} {path : eW} {q : Option (PV × PV)} {k : DV→Env→St→Option R} {k' : Nat→DV→Env→St→Option R} (h : ∀ v e s,aM (k v e s) (fun n=>k' n v e s)) : aM (appendK.nest X d te e s k l path q) (fun n=>appendK.nest X d te e s (k' n) l path q):=by
  unfold appendK.nest
  cases s.list l with
  | none=>exact aM.none
  | some w=>
    exact jV fun o c=>aM.ite (zM fun y=>aDt fun c=>uQ fun c'=>aM.bd fun c2=>h _ _ _) aM.none
theorem aHd {base d : DV} {te : Nat} {e : Env} {s : St} {k : DV→Env→St→Option R} {k' : Nat→DV→Env→St→Option R} (h : ∀ v e s,aM (k v e s) (fun n=>k' n v e s)) : aM (appendK X base d te e s k) (fun n=>appendK X base d te e s (k' n)):=by
  have plain : ∀ (q : Option OTy) (base : DV),aM (match q with
      | some o=>if fits X o te then appendedK o d s fun y s=>sinkAs o s base fun c s=>bd (PV.cat o.s o.e o.g c y) fun c'=>k (.ref s.nl []) e (s.addList ⟨o,c'⟩) else none
      | none=>none) (fun n=>match q with
      | some o=>if fits X o te then appendedK o d s fun y s=>sinkAs o s base fun c s=>bd (PV.cat o.s o.e o.g c y) fun c'=>k' n (.ref s.nl []) e (s.addList ⟨o,c'⟩) else none
      | none=>none):=by
    intro q base
    cases q with
    | none=>exact aM.none
    | some o=>exact aM.ite (aES fun y s=>tA fun c s=>aM.bd fun c'=>h _ _ _) aM.none
  cases base with
  | ref l path=>
    cases path with
    | nil=>exact plain (baseTy X te s (.ref l [])) (.ref l [])
    | cons p r=>exact aGq h
  | sref l path lo hi=>
    cases path with
    | nil=>exact plain (baseTy X te s (.sref l [] lo hi)) (.sref l [] lo hi)
    | cons p r=>exact aGq h
  | p v=>exact plain (baseTy X te s (.p v)) (.p v)
  | nils=>exact plain (baseTy X te s .nils) .nils
  | agg cs=>exact plain (baseTy X te s (.agg cs)) (.agg cs)
  | tup cs=>exact plain (baseTy X te s (.tup cs)) (.tup cs)
  | fn f cs=>exact plain (baseTy X te s (.fn f cs)) (.fn f cs)
  | ptr b off=>exact plain (baseTy X te s (.ptr b off)) (.ptr b off)
  | eptr l path i off=>exact plain (baseTy X te s (.eptr l path i off)) (.eptr l path i off)
  | fptr x s' g off=>exact plain (baseTy X te s (.fptr x s' g off)) (.fptr x s' g off)
  | bptr c off=>exact plain (baseTy X te s (.bptr c off)) (.bptr c off)
  | gptr l path i off=>exact plain (baseTy X te s (.gptr l path i off)) (.gptr l path i off)
  | nilq c neg=>exact plain (baseTy X te s (.nilq c neg)) (.nilq c neg)
  | dead=>exact plain (baseTy X te s .dead) .dead
theorem aGr {d : DV} {e : Env} {s : St} {k : Env→St→Option R} {k' : Nat→Env→St→Option R} (h : ∀ e s,aM (k e s) (fun n=>k' n e s)) : aM (frz1 d e s k) (fun n=>frz1 d e s (k' n)):=by
  unfold frz1
  split
  · split
    · exact h _ _
    · exact h _ _
  · exact h _ _
theorem uR : ∀ {fs : List (Nat × Option Nat)} {e : Env} {s : St} {k : Env→St→Option R} {k' : Nat→Env→St→Option R},(∀ e s,aM (k e s) (fun n=>k' n e s))→aM (frzK fs e s k) (fun n=>frzK fs e s (k' n))
  | [],_,_,_,_,h=>h _ _
  | (t,none)::r,e,s,k,k',h=>aGr fun e s=>uR h
  | (t,some j)::r,e,s,k,k',h=>by
    unfold frzK
    generalize e.get t=d0
    cases d0<;>(try simp only)<;>first
      | exact uR h
      | skip
    rename_i b off
    cases s.box b with
    | none=>exact uR h
    | some cs=>exact aGr fun e s=>uR h
theorem aDu {te : Nat} {src : DV} {s : St} {l : Nat} {w : Own} {lo hi : PV} {k : DV→St→Option R} {k' : Nat→DV→St→Option R} (h : ∀ v s,aM (k v s) (fun n=>k' n v s)) : aM (copyK.go X te src s k l w lo hi) (fun n=>copyK.go X te src s (k' n) l w lo hi):=by
  unfold copyK.go
  exact aM.ite (zM fun y=>aM.bd fun n=>aM.bd fun c=>h _ _) aM.none
theorem aJz {te : Nat} {dst src : DV} {s : St} {k : DV→St→Option R} {k' : Nat→DV→St→Option R} (h : ∀ v s,aM (k v s) (fun n=>k' n v s)) : aM (copyK X te dst src s k) (fun n=>copyK X te dst src s (k' n)):=by
  unfold copyK
  cases dst<;>(try simp only)<;>first
    | exact aM.none
    | skip
  · rename_i l path
    cases path with
    | cons=>exact aM.none
    | nil=>
      dsimp only
      cases s.list l with
      | none=>exact aM.none
      | some w=>exact aM.bd fun n=>aDu h
  · rename_i l path lo hi
    cases path with
    | cons=>exact aM.none
    | nil=>
      dsimp only
      cases s.list l with
      | none=>exact aM.none
      | some w=>exact aDu h
end
end Go.Proofs.YtjgleeamiclokaaGreatDoor
namespace Go.Proofs.YtjgleeamiclokaaGreatDoor
open Go
structure EvO (O : Orc) (O' : Nat→Orc) : Prop where
  L : ∀ todo e s,aM (O.L todo e s) (fun n=>(O' n).L todo e s)
  C : ∀ g args,aM (O.C g args) (fun n=>(O' n).C g args)
  S : ∀ g args s,aM (O.S g args s) (fun n=>(O' n).S g args s)
section
variable {X : Cx} {O : Orc} {O' : Nat → Orc}
theorem wV {l : R} : ∀ {cs : List DV} {a : Option R} {a' : Nat→Option R},aM a a'→aM (guardCells l cs a) (fun n=>guardCells l cs (a' n))
  | [],_,_,h=>h
  | d::cs,a,a',h=>by
    have ih:=wV (l:=l) (cs:=cs) h
    cases d with
    | ref=>simp only [guardCells];exact ih
    | p v=>
      cases v with
      | int=>simp only [guardCells];exact aM.flat ih
      | _=>simp only [guardCells];exact aM.none
    | _=>simp only [guardCells];exact aM.none
theorem yH {l : R} : ∀ {cs : List DV} {a : Option R} {a' : Nat→Option R},aM a a'→aM (guardAggs l cs a) (fun n=>guardAggs l cs (a' n))
  | [],_,_,h=>h
  | d::cs,a,a',h=>by
    have ih:=yH (l:=l) (cs:=cs) h
    cases d<;>(try simp only [guardAggs])<;>exact wV ih
theorem aFN {l : R} {d : DV} {a : Option R} {a' : Nat→Option R} (h : aM a a') : aM (guardRes l d a) (fun n=>guardRes l d (a' n)):=by
  cases d<;>(try simp only [guardRes])<;>exact yH h
theorem yI {l : R} : ∀ {cs : List (Option Own)} {a : Option R} {a' : Nat→Option R},aM a a'→aM (guardRows l cs a) (fun n=>guardRows l cs (a' n))
  | [],_,_,h=>h
  | none::_,_,_,_=>by simp only [guardRows];exact aM.none
  | some w::cs,a,a',h=>by
    simp only [guardRows]
    cases w.c<;>(try simp only)<;>first
      | exact aM.none
      | exact aM.own (yI h)
theorem aJA (hO : EvO O O') {f : Nat} {args : List DV} {s : St} {k : DV→St→Option R} {k' : Nat→DV→St→Option R} (h : ∀ v s,aM (k v s) (fun n=>k' n v s)) : aM (pureK O f args s k) (fun n=>pureK (O' n) f args s (k' n)):=by
  unfold pureK
  exact aM.ite (rQ fun vs=>aM.bd2 (hO.C _ _) fun r=>aM.flat (h _ _)) (rQ fun vs=>aM.bd2 (hO.C _ _) fun r=>h _ _)
theorem aJB (hO : EvO O O') {t : Tmpl} {f : Nat} {args : List DV} {s : St} {k : DV→St→Option R} {k' : Nat→DV→St→Option R} (h : ∀ v s,aM (k v s) (fun n=>k' n v s)) : aM (lentK O t f args s k) (fun n=>lentK (O' n) t f args s (k' n)):=by
  unfold lentK
  exact rQ fun vs=>aM.bd2 (hO.S _ _ _) fun l=>aFN (yI (h _ _))
theorem aJC (hO : EvO O O') {ft : Foot} {n0 : Nat} {t : Tmpl} {f : Nat} {args : List DV} {s : St} {k : DV→St→List Nat→Option R} {k' : Nat→DV→St→List Nat→Option R} (h : ∀ v s l,aM (k v s l) (fun n=>k' n v s l)) : aM (liveK O ft n0 t f args s k) (fun n=>liveK (O' n) ft n0 t f args s (k' n)):=by
  unfold liveK
  exact aM.ite (aM.bd2 (hO.S _ _ _) fun l=>h _ _ _) aM.none
theorem aJD (hO : EvO O O') {f : Nat} {args : List DV} {ts : List Nat} {e : Env} {s : St} {k : DV→Env→St→Option R} {k' : Nat→DV→Env→St→Option R} (h : ∀ v e s,aM (k v e s) (fun n=>k' n v e s)) : aM (callK X O f args ts e s k) (fun n=>callK X (O' n) f args ts e s (k' n)):=by
  unfold callK
  cases X.mode f with
  | none=>exact aJA hO fun _ _=>h _ _ _
  | some t=>
    refine aM.ite (aJB hO fun _ _=>h _ _ _) ?_
    simp only [aAS]
    exact jW fun args s=>aJC hO fun _ _ _=>h _ _ _
theorem aET (hO : EvO O O') {v : PV} {vs : List PV} : aM (PV.apply O.C v vs) (fun n=>PV.apply (O' n).C v vs):=by
  unfold PV.apply
  cases v<;>(try simp only)<;>first
    | exact aM.none
    | exact hO.C _ _
theorem aIt (hO : EvO O O') {d : DV} {args : List DV} {ts : List Nat} {e : Env} {s : St} {k : DV→Env→St→Option R} {k' : Nat→DV→Env→St→Option R} (h : ∀ v e s,aM (k v e s) (fun n=>k' n v e s)) : aM (applyK X O d args ts e s k) (fun n=>applyK X (O' n) d args ts e s (k' n)):=by
  cases d<;>(try simp only [applyK])<;>first
    | exact aM.none
    | exact aJD hO h
    | exact aM.ite (rQ fun vs=>aM.bd2 (aET hO) fun r=>aM.flat (h _ _ _)) (rQ fun vs=>aM.bd2 (aET hO) fun r=>h _ _ _)
theorem aFO {b : Builtin} {ts : List Nat} {args : List DV} {e : Env} {s : St} {k : DV→Env→St→Option R} {k' : Nat→DV→Env→St→Option R} (h : ∀ v e s,aM (k v e s) (fun n=>k' n v e s)) : aM (builtinK X b ts args e s k) (fun n=>builtinK X b ts args e s (k' n)):=by
  unfold builtinK
  split
  · exact aK1 fun n=>h _ _ _
  · rename_i t u a d
    cases elemOf X t with
    | none=>exact aM.none
    | some te=>exact aM.ite (aHd h) aM.none
  · rename_i t u a d
    cases elemOf X t with
    | none=>exact aM.none
    | some te=>exact aJz fun d s=>h _ _ _
  · exact aM.bd fun c=>h _ _ _
  · exact aM.bd fun c=>h _ _ _
  · exact aM.none
theorem aCH (hO : EvO O O') {o : Oper} {e : Env} {s : St} {k : Kont} {k' : Nat→Kont} (h : ∀ e s,aM (k e s) (fun n=>k' n e s)) : aM (exec X O o e s k) (fun n=>exec X (O' n) o e s (k' n)):=by
  obtain ⟨dst,op,type,pos,after,guard⟩:=o
  cases op<;>simp only [exec]<;>try exact aM.none
  case move=>exact vN fun _ _=>h _ _
  case assign=>exact vN fun _ _=>h _ _
  case pick=>exact aJw fun _ _=>h _ _
  case alloc=>exact aIo fun _ _=>h _ _
  case box=>exact aK0 fun _ _=>h _ _
  case build=>exact aHa fun _=>h _ _
  case buildSlice=>exact aCG fun _ _=>h _ _
  case makeSlice=>exact aDE fun _ _=>h _ _
  case load=>exact aER fun _=>aJv fun _=>h _ _
  case store=>exact aER fun _=>aHc fun _ _=>h _ _
  case nilCheck=>exact aER fun _=>aEQ fun _=>h _ _
  case binOp=>exact aK3 fun _=>h _ _
  case unOp=>exact aJx fun _=>h _ _
  case convert=>exact aJy fun _=>h _ _
  case makeFunc fn first caps=>
    cases fn<;>(try simp only)<;>first
      | exact aM.none
      | exact aM.ite (h _ _) aM.none
  case slice t x lo hi mx=>
    cases mx with
    | none=>exact aIr fun _=>h _ _
    | some _=>exact aHb fun _ _=>h _ _
  case fieldAddr=>exact aDF fun _=>h _ _
  case field=>exact aIq fun _=>h _ _
  case indexAddr=>exact aDG fun _=>h _ _
  case index=>exact aIp fun _=>h _ _
  case extract=>exact aFM fun _=>h _ _
  case call c=>
    cases c.callee with
    | value f=>exact aIt hO fun _ _ _=>h _ _
    | builtin b=>exact aFO fun _ _ _=>h _ _
    | invoke _ _=>exact aM.none
theorem hY (hO : EvO O O') {ops : Array Oper} {draw : Bool} : ∀ {r : List Oper} {i : Nat} {acc : List (Nat × Foot)} {e : Env} {s : St} {k : Kont} {k' : Nat→Kont},(∀ e s,aM (k e s) (fun n=>k' n e s))→aM (execOps X O ops draw i acc r e s k) (fun n=>execOps X (O' n) ops draw i acc r e s (k' n))
  | [],i,acc,e,s,k,k',h=>by
    unfold execOps
    exact aM.ite aM.none (h _ _)
  | o::r,i,acc,e,s,k,k',h=>by
    unfold execOps
    simp only [stf,stp]
    cases o.guard with
    | none=>exact aCH hO fun e s'=>aM.ite (hY hO h) aM.none
    | some p=>
      obtain ⟨j,want⟩:=p
      simp only
      cases guardDst ops.toList j with
      | none=>exact aM.none
      | some t=>
        simp only
        generalize e.get t=d0
        have hskip:=hY (ops:=ops) (draw:=draw) (r:=r) (i:=i+1) (acc:=if draw then (i,Foot.none)::acc else []) (e:=put o.dst (.tup []) e) (s:={ s with nb:=s.base+16*i,nl:=s.base+16*i}) hO h
        cases d0<;>(try simp only)<;>first
          | exact aM.none
          | (rename_i cs;cases cs with
             | nil=>exact hskip
             | cons=>exact aM.none)
          | exact aM.pvite (aM.ite (aCH hO fun e s'=>aM.ite (hY hO h) aM.none) (hY hO h)) (aM.ite (hY hO h) (aCH hO fun e s'=>aM.ite (hY hO h) aM.none))
theorem zN (hO : EvO O O') : ∀ (m : Nat) (first : Bool) (todo : List Item) (e : Env) (s : St),aM (eval X O m first todo e s) (fun n=>eval X (O' n) m first todo e s)
  | 0,_,_,_,_=>by simp only [eval];exact aM.none
  | m+1,first,todo,e,s=>by
    have ih:=zN hO m
    cases todo with
    | nil=>simp only [eval];exact aM.rfl _
    | cons x k=>
    cases x with
    | inBlock id=>simp only [eval];exact ih _ _ _ _
    | inScope c=>simp only [eval];exact ih _ _ _ _
    | inLoop c=>simp only [eval];exact ih _ _ _ _
    | code c=>
      cases c<;>simp only [eval]<;>first
        | exact aM.none
        | exact aM.rfl _
        | exact ih _ _ _ _
        | skip
      case exit id=>
        cases exitTo id k with
        | none=>exact aM.none
        | some k'=>exact ih _ _ _ _
      case goto l=>
        cases gotoIn l k with
        | none=>exact aM.none
        | some k'=>exact ih _ _ _ _
      case cond c a b=>
        generalize ev X e c=d0
        cases d0<;>(try simp only)<;>first
          | exact aM.none
          | exact aM.nilT (ih _ _ _ _) (ih _ _ _ _)
          | skip
        cases c<;>(try simp only)<;>exact aM.pvite (ih _ _ _ _) (ih _ _ _ _)
      case region id ops draw=>
        refine uR fun e s=>?_
        cases first with
        | true=>exact hY hO fun e s=>ih _ _ _ _
        | false=>
          cases X.cut id with
          | none=>exact hY hO fun e s=>ih _ _ _ _
          | some keep=>exact hO.L _ _ _
    | _=>simp only [eval];exact aM.none
end
section
variable (P : Program) (T : Tab) (H : Hints)
noncomputable def sQ (f nb nl : Nat) (out : Option Tmpl) (todo : List Item) (e : Env) (s : St) : Option R:=
  open Classical in if h : ∃ r,∃ n,runN P T H n f nb nl out todo e s=some r then some h.choose else none
end
section
variable {P : Program} {T : Tab} {H : Hints}
theorem aM.le {β : Type} {a b : Option β} (h : ∀ r,a=some r→b=some r) : aM a (fun _=>b):=fun r hr=>⟨0,fun _ _=>h r hr⟩
theorem aM.of {β : Type} {a b : Option β} (h : aM a (fun _=>b)) : ∀ r,a=some r→b=some r:=fun r hr=>let ⟨N,hN⟩:=h r hr;hN N (Nat.le_refl _)
theorem aEU {run : Nat→Nat→Nat→Option Tmpl→List Item→Env→St→Option R} {run' : Nat→Nat→Nat→Nat→Option Tmpl→List Item→Env→St→Option R}
    (h : ∀ f nb nl out todo e s,aM (run f nb nl out todo e s) (fun n=>run' n f nb nl out todo e s)) (f nb nl : Nat) (out : Option Tmpl) : EvO (orcOf P H run f nb nl out) (fun n=>orcOf P H (run' n) f nb nl out) where
  L:=fun todo e s=>h _ _ _ _ _ _ _
  C:=fun g args=>by
    simp only [orcOf]
    cases H.prim g with
    | none=>exact h _ _ _ _ _ _ _
    | some p=>exact aM.rfl _
  S:=fun g args s=>by
    simp only [orcOf]
    cases H.mode g with
    | none=>exact aM.none
    | some t=>cases H.primS g with
      | none=>exact h _ _ _ _ _ _ _
      | some p=>exact aM.rfl _
theorem aGs : ∀ (n f nb nl : Nat) (out : Option Tmpl) (todo : List Item) (e : Env) (s : St) (r : R),runN P T H n f nb nl out todo e s=some r→runN P T H (n+1) f nb nl out todo e s=some r
  | 0,_,_,_,_,_,_,_,_,h=>by simp [runN] at h
  | n+1,f,nb,nl,out,todo,e,s,r,h=>by
    have ih:=aGs n
    unfold runN at h ⊢
    exact (zN (aEU (run':=fun _=>runN P T H (n+1)) (fun f nb nl out todo e s=>aM.le (ih f nb nl out todo e s)) f nb nl out) evalFuel true todo e s).of r h
theorem aHe {n n' f nb nl : Nat} {out : Option Tmpl} {todo : List Item} {e : Env} {s : St} {r : R} (h : runN P T H n f nb nl out todo e s=some r) (hn : n≤n') : runN P T H n' f nb nl out todo e s=some r:=by
  induction hn with
  | refl=>exact h
  | step _ ih=>exact aGs _ _ _ _ _ _ _ _ _ ih
theorem aKg {n f nb nl : Nat} {out : Option Tmpl} {todo : List Item} {e : Env} {s : St} {r : R} (h : runN P T H n f nb nl out todo e s=some r) : sQ P T H f nb nl out todo e s=some r:=by
  unfold sQ
  have hex : ∃ r,∃ n,runN P T H n f nb nl out todo e s=some r:=⟨r,n,h⟩
  rw [dif_pos hex]
  obtain ⟨n',h'⟩:=hex.choose_spec
  have h1:=aHe h (Nat.le_max_left n n')
  have h2:=aHe h' (Nat.le_max_right n n')
  rw [h1] at h2
  exact h2.symm
theorem zO {f nb nl : Nat} {out : Option Tmpl} {todo : List Item} {e : Env} {s : St} {r : R} (h : sQ P T H f nb nl out todo e s=some r) : ∃ n,runN P T H n f nb nl out todo e s=some r:=by
  unfold sQ at h
  split at h
  · rename_i hex
    cases h
    exact hex.choose_spec
  · cases h
theorem aK4 (f nb nl : Nat) (out : Option Tmpl) (todo : List Item) (e : Env) (s : St) : aM (sQ P T H f nb nl out todo e s) (fun n=>runN P T H n f nb nl out todo e s):=by
  intro r hr
  obtain ⟨n,hn⟩:=zO hr
  exact ⟨n,fun n' h'=>aHe hn h'⟩
theorem aKh (f nb nl : Nat) (out : Option Tmpl) (todo : List Item) (e : Env) (s : St) :
    sQ P T H f nb nl out todo e s=eval (cxOf P T H f nb nl out) (orcOf P H (sQ P T H) f nb nl out) evalFuel true todo e s:=by
  cases h : eval (cxOf P T H f nb nl out) (orcOf P H (sQ P T H) f nb nl out) evalFuel true todo e s with
  | some r=>
    obtain ⟨N,hN⟩:=zN (aEU (run':=fun n=>runN P T H n) aK4 f nb nl out) evalFuel true todo e s r h
    refine aKg (n:=N+1) ?_
    unfold runN
    exact hN N (Nat.le_refl _)
  | none=>
    cases h' : sQ P T H f nb nl out todo e s with
    | none=>rfl
    | some r=>
      exfalso
      obtain ⟨n,hn⟩:=zO h'
      cases n with
      | zero=>simp [runN] at hn
      | succ n=>
        unfold runN at hn
        have:=(zN (aEU (run':=fun _=>sQ P T H) (fun f nb nl out todo e s=>aM.le (fun r h=>aKg h)) f nb nl out) evalFuel true todo e s).of r hn
        rw [h] at this
        cases this
noncomputable def aLP (P : Program) (T : Tab) (H : Hints) (f : Nat) (args : List PV) : Option R:=(orcOf P H (sQ P T H) 0 0 0 none).C f args
noncomputable def aM8 (P : Program) (T : Tab) (H : Hints) (f : Nat) (args : List DV) (s : St) : Option R:=(orcOf P H (sQ P T H) 0 0 0 none).S f args s
theorem aMB (hy : Hyp P T H) : aKf P (sQ P T H):=by
  intro f nb nl out todo e s r fn h hfn hok
  obtain ⟨n,hn⟩:=zO h
  exact aGp hy n f nb nl out todo e s r fn hn hfn hok
theorem aMC : aLN P (sQ P T H):=by
  intro f nb nl out e s r h
  obtain ⟨n,hn⟩:=zO h
  exact aAT hn
theorem aIu (hy : Hyp P T H) {f : Nat} {args : List PV} {r : R} (h : aLP P T H f args=some r) {w : World} {aV : Array Value} {Z : Nat→Prop} (hz : ZOk w Z) (hl : args.length=aV.size)
    (hr : ∀ (i : Nat) x v,args[i]? = some x→aV[i]? = some v→gJ w Z x v) : Calls P f aV w (fun e w'=>∃ v,e = .returned v∧∃ Z',aBQ w w' Z Z'∧gJ w' Z' (hd r) v):=
  (aIl hy (aMB hy) aMC 0 0 0 none f args r h).2 w Z aV hz hl hr
theorem aKi (f nb nl : Nat) (out : Option Tmpl) (todo : List Item) (e : Env) (s : St) (r : Option R) (h : eval (cxOf P T H f nb nl out) (orcOf P H (sQ P T H) f nb nl out) evalFuel true todo e s=r) : sQ P T H f nb nl out todo e s=r:=
  (aKh f nb nl out todo e s).trans h
theorem aLQ (f : Nat) (hp : H.prim f=none) (args : List PV) (r : Option R) (h : eval (cxOf P T H f 0 0 none) (orcOf P H (sQ P T H) f 0 0 none) evalFuel true (startOf P f) (argEnv 0 (args.map .p)) ⟨[],[],0,0,0⟩=r) : aLP P T H f args=r:=by
  show (match H.prim f with | some h=>h args | none=>sQ P T H f 0 0 none (startOf P f) (argEnv 0 (args.map .p)) ⟨[],[],0,0,0⟩)=r
  rw [hp]
  exact aKi _ _ _ _ _ _ _ _ h
theorem aLR (f : Nat) (hp : H.primS f=none) (args : List DV) (s : St) (r : Option R) (h : (match H.mode f with | some t=>eval (cxOf P T H f s.boxes.length (if t.keep then s.lists.length else 0) (some t)) (orcOf P H (sQ P T H) f s.boxes.length (if t.keep then s.lists.length else 0) (some t)) evalFuel true (startOf P f) (argEnv 0 args) s | none=>none)=r) : aM8 P T H f args s=r:=by
  show (match H.mode f with | some t=>(match H.primS f with | some h=>h args s | none=>sQ P T H f s.boxes.length (if t.keep then s.lists.length else 0) (some t) (startOf P f) (argEnv 0 args) s) | none=>none)=r
  rw [← h,hp]
  cases H.mode f with
  | none=>rfl
  | some t=>exact aKh _ _ _ _ _ _ _
end
end Go.Proofs.YtjgleeamiclokaaGreatDoor
namespace Go.Proofs.YtjgleeamiclokaaGreatDoor
open Go
noncomputable def cU (f nb nl : Nat) (out : Option Tmpl) (todo : List Item) (e : Env) (s : St) : Option R:=sQ Tryz.prog T bF f nb nl out todo e s
noncomputable def aN (f : Nat) (args : List PV) : Option R:=aLP Tryz.prog T bF f args
noncomputable def cG (f : Nat) (args : List DV) (s : St) : Option R:=aM8 Tryz.prog T bF f args s
noncomputable def orc (f nb nl : Nat) (out : Option Tmpl) : Orc:=orcOf Tryz.prog bF (sQ Tryz.prog T bF) f nb nl out
theorem bD (f nb nl : Nat) (out : Option Tmpl) (todo : List Item) (e : Env) (s : St) (r : Option R) (h : eval (cxOf Tryz.prog T bF f nb nl out) (orc f nb nl out) evalFuel true todo e s=r) : cU f nb nl out todo e s=r:=aKi f nb nl out todo e s r h
theorem aP (f : Nat) (args : List PV) (r : Option R) (h : (match bF.prim f with | some p=>p args | none=>eval (cxOf Tryz.prog T bF f 0 0 none) (orc f 0 0 none) evalFuel true (startOf Tryz.prog f) (argEnv 0 (args.map .p)) ⟨[],[],0,0,0⟩)=r) : aN f args=r:=by
  cases hp : bF.prim f with
  | none=>rw [hp] at h;exact aLQ f hp args r h
  | some p=>rw [hp] at h;rw [← h];show (match bF.prim f with | some h=>h args | none=>_)=_;rw [hp]
theorem bR (f : Nat) (args : List DV) (s : St) (r : Option R) (h : (match bF.mode f with | some t=>(match bF.primS f with | some p=>p args s | none=>eval (cxOf Tryz.prog T bF f s.boxes.length (if t.keep then s.lists.length else 0) (some t)) (orc f s.boxes.length (if t.keep then s.lists.length else 0) (some t)) evalFuel true (startOf Tryz.prog f) (argEnv 0 args) s) | none=>none)=r) : cG f args s=r:=by
  cases hp : bF.primS f with
  | none=>simp only [hp] at h;exact aLR f hp args s r h
  | some p=>
    simp only [hp] at h
    rw [← h]
    show (match bF.mode f with | some t=>(match bF.primS f with | some h=>h args s | none=>_) | none=>none)=_
    rw [hp]
set_option maxRecDepth 100000 in
theorem aKj : (Tryz.prog.funcs.toList.all fun f=>match f.body with | some c=>codeOk f.ntmps c&&(f.name != "runtime.NumGoroutine") | none=>true)=true:=by kernel_rfl
theorem aMD : Tryz.prog.follows .mixedOrders=true:=by kernel_rfl
theorem aNG : (aJ7.all fun p=>p.2.wf)=true:=by kernel_rfl
end Go.Proofs.YtjgleeamiclokaaGreatDoor
namespace Go.Proofs.YtjgleeamiclokaaGreatDoor
open Go
theorem aLS {m m' : aY} {s s' : St} {l : Nat} {scr : DV→DV} {w : Own} {v : Value} {t : Tmpl} (hf : fT m s s.base)
    (G : bS m m' (s.at s.base) s' (fun _=>True) (fun _=>True) (fun b=>b∈([] : List Nat)∨true=true) (fun l=>l∈([] : List Nat)∨true=true) s.base scr) (hl : s'.list l=some w) (hv : m'.rd (.ref l []) v)
    (ht : t.res = .ref 0 []∧t.boxes = []∧t.lists = [some ⟨w.o,.int .i64 0⟩]) : rO m 0 0 (some t) [w.c] v m'.w:=by
  have hf':=(bS.full (f:=⟨[],[],[],[],true,true⟩) hf G).1
  have hb : ∀ b∈([] : List Nat),m'.s.box b=s'.box b:=fun b _=>hf'.box b
  have hl' : ∀ x∈[l],m'.s.list x=s'.list x:=fun x _=>hf'.list x
  have pf:=zK (a:=⟨[],[l]⟩) hf'.inv hb hl' List.nodup_nil (by simp)
  have fw:=aEC (a:=⟨[],[l]⟩) hf' 0 0 (fun b h=>by omega) (fun b h=>by omega)
  refine ⟨m'.pick [] [l] (s'.pick ⟨[],[l]⟩),rfl,pf.inv,(G.step.fwd hf.inv 0 0).trans fw,?_⟩
  refine ⟨.ref 0 [],s',⟨[],[l]⟩,?_,?_,pf,fun x hx=>hx.1,fun x hx=>hx.1⟩
  · unfold Tmpl.read
    rw [ht.1,ht.2.1,ht.2.2]
    have e1 : (s'.pick ⟨[],[l]⟩).boxes = []:=rfl
    have e2 : (s'.pick ⟨[],[l]⟩).lists = [(0,some w)]:=by
      show [(0,s'.list l)]=_
      rw [hl]
    rw [e1,e2]
    simp [readD,readB,readO,OTy.same_refl]
  · have:=aEA (a:=⟨[],[l]⟩) hl' deep hv
    have e : ren (idx · [] 0) (idx · [l] 0) deep (.ref l []) = .ref 0 []:=by
      simp [deep,ren,ren1,idx]
    rw [e] at this
    exact this
theorem aIv {P : Program} {ρ : Go.Shelf.Ren} (L : Lays8.n4 P ρ) {i0 : TypeInfo} {z : Value} (hi0 : P.info? (ρ.t 25)=some i0) (hz0 : i0.zero=some z) (hzs : z.cells.size=i0.size) (hs0 : 0<i0.size) {e : Nat} (hby : i0.bytes=e)
    {args : List DV} {s : St} {r : R} (h : rK e args s=some r) {m : aY} {aV : Array Value} (hf : fT m s s.base) (hl : args.length=aV.size) (hr : ∀ (i : Nat) d v,args[i]? = some d→aV[i]? = some v→m.rd d v)
    {t : Tmpl} {eb : Nat} {g : Bool} (ht : t.res = .ref 0 []∧t.boxes = []∧t.lists = [some ⟨.own i0.size eb g [],.int .i64 0⟩]) :
    Calls P (ρ.f 4) aV m.w (fun e w'=>∃ v,e = .returned v∧rO m 0 0 (some t) r v w'):=by
  unfold rK at h
  split at h
  rotate_left
  · cases h
  rename_i n _
  split at h
  rotate_left
  · cases h
  rename_i hc
  obtain ⟨hn,hbound,hlen⟩:=hc
  cases h
  obtain ⟨v0,v1,rfl⟩ : ∃ v0 v1,aV = #[v0,v1]:=by
    match aV,hl with
    | ⟨[a,b]⟩,_=>exact ⟨a,b,rfl⟩
    | ⟨[]⟩,h=>simp at h
    | ⟨[_]⟩,h=>simp at h
    | ⟨_::_::_::_⟩,h=>simp at h
  have h0:=hr 0 _ _ rfl rfl
  have h1:=hr 1 _ _ rfl rfl
  obtain rfl : v1 = .int .i64 n:=by
    cases h1 with
    | p _ _ h1=>cases h1;rfl
  obtain rfl : v0 = .slice none 0 0:=by cases h0;rfl
  obtain ⟨k,rfl⟩:=Int.eq_ofNat_of_zero_le hn
  simp only [Int.toNat_natCast] at hbound
  have sit:=hf.sit (Nat.le_refl s.base)
  have hlf : (OTy.own i0.size eb g []).isLeaf=false:=rfl
  have hmw : m.w.heap.size=m.w.heap.size:=rfl
  have fin : ∀ {w' : World} {v : Value} {F' : Nat→Prop},cI w' m.Z (.own i0.size eb g []) (.lst []) v F'→dA v→(∀ r,F' r→m.w.heap.size≤r)→(∀ r,r<m.w.heap.size→w'.heap[r]? = m.w.heap[r]?)→
      m.w.heap.size≤w'.heap.size→w'.os=m.w.os→w'.tape=m.w.tape→w'.output=m.w.output→rO m 0 0 (some t) [.lst []] v w':=by
    intro w' v F' hro' hcv hF' hw hsize hos htape hout
    have G2:=bS.addRow (B:=fun _=>True) (L:=fun _=>True) (fun b=>b∈([] : List Nat)∨true=true) (fun l=>l∈([] : List Nat)∨true=true) sit (show s.base<s.base+16 by omega) (own:=⟨.own i0.size eb g [],.lst []⟩) hlf hro' (fun r hr=>.inr (hF' r hr)) (fun r hr _=>hw r hr) hsize hos htape hout
    exact aLS (l:=s.base) hf G2 (w:=⟨.own i0.size eb g [],.lst []⟩) (by simp [St.list,St.addList,St.at,look]) (aY.addRow_rd hcv) ht
  by_cases hroom : 0+k≤0
  · refine (Any8.slices_Grow_room L none 0 0 k m.w (Nat.le_refl _) (by omega) (by omega) hroom).mono ?_
    rintro e w' ⟨rfl,rfl⟩
    exact ⟨_,rfl,fin (F':=fun _=>False) (.nil _ _ _ _ _ _ (fun _ h=>h)) trivial (fun _ h=>h.elim) (fun _ _=>rfl) (Nat.le_refl _) rfl rfl rfl⟩
  · refine (Any8.slices_Grow_grow L i0 z hi0 hz0 hs0 none 0 0 k [] m.w (Nat.le_refl _) (by omega) (by rw [hby,Nat.zero_add];exact hbound) (by omega) (by simp) (fun _=>rfl) (fun a h=>by cases h)).mono ?_
    rintro e w' ⟨rfl,rfl⟩
    refine ⟨_,rfl,?_⟩
    generalize hcp : grownCap m.w (0+k) 0 (ρ.t 25)=cp
    have hge : 0+k≤cp:=by rw [← hcp];exact grownCap_ge _ _ _ _
    generalize hcells : (([] : List Value).toArray++Builtin.zeroCells z.cells (0+k - 0)++Builtin.zeroCells z.cells (cp - (0+k)) : Array Value)=cells
    have hcsz : cp*i0.size≤cells.size:=by
      rw [← hcells]
      simp only [Array.size_append,List.size_toArray,List.length_nil,wS,hzs,← Nat.add_mul]
      rw [Nat.zero_add,← Nat.add_mul]
      exact Nat.mul_le_mul_right _ (by omega)
    have hnew : (m.w.drew.alloc (.cells cells (ρ.t 25))).heap[m.w.heap.size]? = some (.cells cells (ρ.t 25) (0,0)):=heap_alloc_new m.w.drew _
    have hro':=(Els.nil (w:=m.w.drew.alloc (.cells cells (ρ.t 25))) (Z:=m.Z) (.own i0.size eb g []) (fun _ _=>.nilFunc) (fun _ _ _=>False)).repO hlf hs0 (b:=m.w.heap.size) (off:=0) (cap:=cp) hnew (by rw [Nat.zero_add];exact hcsz) (by simp) (fun hzr=>by have:=hf.inv.zlt _ hzr;omega)
      (fun i j hi=>by simp at hi) (fun i j hi=>by simp at hi)
    refine fin hro' trivial (fun r hr=>?_) (fun r hr=>heap_alloc_old m.w.drew _ hr) (by simp) rfl rfl rfl
    rcases hr with rfl | ⟨i,j,hi,_⟩
    · exact Nat.le_refl _
    · simp at hi
theorem aIw {P : Program} {ρ : Go.Shelf.Ren} (L : LaysM.n171 P ρ) {args : List PV} {r : R} (h : xQ args=some r) {w : World} {Z : Nat→Prop} {aV : Array Value} (htab : Lib.TabIs P w "internal/strconv.uint64pow10" .u64 Lib.pow10Tab) (hl : args.length=aV.size)
    (hr : ∀ (i : Nat) x v,args[i]? = some x→aV[i]? = some v→gJ w Z x v) : Calls P (ρ.f 171) aV w (fun e w'=>∃ v,e = .returned v∧∃ Z',aBQ w w' Z Z'∧gJ w' Z' (hd r) v):=by
  unfold xQ at h
  split at h
  rotate_left
  · cases h
  rename_i n
  split at h
  rotate_left
  · cases h
  rename_i hc
  cases h
  obtain ⟨v0,rfl⟩ : ∃ v0,aV = #[v0]:=by
    match aV,hl with
    | ⟨[a]⟩,_=>exact ⟨a,rfl⟩
    | ⟨[]⟩,h=>simp at h
    | ⟨_::_::_⟩,h=>simp at h
  obtain rfl : v0 = .int .i64 n:=by
    have:=hr 0 _ _ rfl rfl
    cases this;rfl
  refine (Any.strconv_Itoa L n hc.1 hc.2 w htab).mono ?_
  rintro e w' ⟨rfl,k,os,rfl⟩
  have e0 : (Sort.grow (w.drewN k) os).heap=w.heap++os:=rfl
  refine ⟨_,rfl,Z,⟨by rw [e0];simp,rfl,rfl,rfl,fun r hr=>?_,fun _ h=>h,fun _ h=>.inl h⟩,.str _⟩
  rw [e0,Array.getElem?_append_left hr]
end Go.Proofs.YtjgleeamiclokaaGreatDoor
namespace Go.Proofs.YtjgleeamiclokaaGreatDoor
open Go Go.Shelf
def Tryz.laysM171_ren : Go.Shelf.Ren:=⟨fun | 171=>134 | 243=>149 | 246=>154 | 283=>155 | 284=>156 | 285=>157 | 286=>158 | 129=>160 | 317=>159 | 318=>161 | 319=>162 | 320=>163 | 337=>164 | 338=>165 | n=>n,fun | 3=>3 | 9=>9 | 2=>2 | 4=>4 | 171=>172 | 0=>0 | 53=>162 | 37=>22 | 5=>5 | 173=>175 | 212=>178 | 51=>159 | 20=>20 | 213=>179 | 46=>143 | 232=>182 | 233=>183 | n=>n,fun | 17=>0 | 18=>1 | 19=>2 | n=>n⟩
theorem Tryz.laysM171 : LaysM.n171 Tryz.prog Tryz.laysM171_ren:={
  mixed:=by kernel_rfl
  f129:=Tryz.func160.trans (congrArg some (by kernel_rfl))
  f171:=Tryz.func134.trans (congrArg some (by kernel_rfl))
  f243:=Tryz.func149.trans (congrArg some (by kernel_rfl))
  f246:=Tryz.func154.trans (congrArg some (by kernel_rfl))
  f283:=Tryz.func155.trans (congrArg some (by kernel_rfl))
  f284:=Tryz.func156.trans (congrArg some (by kernel_rfl))
  f285:=Tryz.func157.trans (congrArg some (by kernel_rfl))
  f286:=Tryz.func158.trans (congrArg some (by kernel_rfl))
  f317:=Tryz.func159.trans (congrArg some (by kernel_rfl))
  f318:=Tryz.func161.trans (congrArg some (by kernel_rfl))
  f319:=Tryz.func162.trans (congrArg some (by kernel_rfl))
  f320:=Tryz.func163.trans (congrArg some (by kernel_rfl))
  f337:=Tryz.func164.trans (congrArg some (by kernel_rfl))
  f338:=Tryz.func165.trans (congrArg some (by kernel_rfl))
  t0:=Tryz.underlying0
  a0:=Tryz.isAgg0
  z0:=Tryz.sizeOf0
  v0:=Tryz.zeroValue0
  t2:=Tryz.underlying2
  a2:=Tryz.isAgg2
  z2:=Tryz.sizeOf2
  v2:=Tryz.zeroValue2
  t3:=Tryz.underlying3
  a3:=Tryz.isAgg3
  z3:=Tryz.sizeOf3
  v3:=Tryz.zeroValue3
  t4:=Tryz.underlying4
  a4:=Tryz.isAgg4
  z4:=Tryz.sizeOf4
  v4:=Tryz.zeroValue4
  t5:=Tryz.underlying5
  a5:=Tryz.isAgg5
  z5:=Tryz.sizeOf5
  v5:=Tryz.zeroValue5
  t9:=Tryz.underlying9
  a9:=Tryz.isAgg9
  z9:=Tryz.sizeOf9
  v9:=Tryz.zeroValue9
  t20:=Tryz.underlying20
  a20:=Tryz.isAgg20
  z20:=Tryz.sizeOf20
  v20:=Tryz.zeroValue20
  t37:=Tryz.underlying22
  a37:=Tryz.isAgg22
  z37:=Tryz.sizeOf22
  v37:=Tryz.zeroValue22
  t46:=Tryz.underlying143
  a46:=Tryz.isAgg143
  z46:=Tryz.sizeOf143
  v46:=Tryz.zeroValue143
  t51:=Tryz.underlying159
  a51:=Tryz.isAgg159
  z51:=Tryz.sizeOf159
  v51:=Tryz.zeroValue159
  t53:=Tryz.underlying162
  a53:=Tryz.isAgg162
  z53:=Tryz.sizeOf162
  v53:=Tryz.zeroValue162
  t171:=Tryz.underlying172
  a171:=Tryz.isAgg172
  z171:=Tryz.sizeOf172
  v171:=Tryz.zeroValue172
  t173:=Tryz.underlying175
  a173:=Tryz.isAgg175
  z173:=Tryz.sizeOf175
  v173:=Tryz.zeroValue175
  t212:=Tryz.underlying178
  a212:=Tryz.isAgg178
  z212:=Tryz.sizeOf178
  v212:=Tryz.zeroValue178
  t213:=Tryz.underlying179
  a213:=Tryz.isAgg179
  z213:=Tryz.sizeOf179
  t232:=Tryz.underlying182
  a232:=Tryz.isAgg182
  z232:=Tryz.sizeOf182
  v232:=Tryz.zeroValue182
  t233:=Tryz.underlying183
  a233:=Tryz.isAgg183
  z233:=Tryz.sizeOf183
  v233:=Tryz.zeroValue183
  g17:=by kernel_rfl
  g18:=by kernel_rfl
  g19:=by kernel_rfl
  i0:=by kernel_rfl
  i2:=by kernel_rfl
  i3:=by kernel_rfl
  i4:=by kernel_rfl
  i5:=by kernel_rfl
  i9:=by kernel_rfl
  i20:=by kernel_rfl
  i37:=by kernel_rfl
  i46:=by kernel_rfl
  i51:=by kernel_rfl
  i53:=by kernel_rfl
  i171:=by kernel_rfl
  i173:=by kernel_rfl
  i212:=by kernel_rfl
  i232:=by kernel_rfl
  i233:=by kernel_rfl
  m17:=by kernel_rfl
  m18:=by kernel_rfl
  m19:=by kernel_rfl}
def Tryz.lays8n4_ren : Go.Shelf.Ren:=⟨fun | 4=>111 | n=>n,fun | 22=>28 | 25=>35 | 3=>3 | 4=>4 | 9=>9 | 20=>20 | 0=>0 | n=>n,fun | n=>n⟩
theorem Tryz.lays8n4 : Go.Proofs.Lays8.n4 Tryz.prog Tryz.lays8n4_ren:={
  mixed:=by kernel_rfl
  f4:=⟨Tryz.f111.name,by decide,Tryz.func111.trans (congrArg some (by kernel_rfl))⟩
  t0:=Tryz.underlying0
  a0:=Tryz.isAgg0
  z0:=Tryz.sizeOf0
  v0:=Tryz.zeroValue0
  t3:=Tryz.underlying3
  a3:=Tryz.isAgg3
  z3:=Tryz.sizeOf3
  v3:=Tryz.zeroValue3
  t4:=Tryz.underlying4
  a4:=Tryz.isAgg4
  z4:=Tryz.sizeOf4
  v4:=Tryz.zeroValue4
  t9:=Tryz.underlying9
  a9:=Tryz.isAgg9
  z9:=Tryz.sizeOf9
  v9:=Tryz.zeroValue9
  t20:=Tryz.underlying20
  a20:=Tryz.isAgg20
  z20:=Tryz.sizeOf20
  v20:=Tryz.zeroValue20
  t22:=Tryz.underlying28
  a22:=Tryz.isAgg28
  z22:=Tryz.sizeOf28
  v22:=Tryz.zeroValue28}
end Go.Proofs.YtjgleeamiclokaaGreatDoor
namespace Go.Proofs.YtjgleeamiclokaaGreatDoor
open Go
theorem aLT {α : Type} {n : Nat} : ∀ {l : List (Nat × α)} {a : α},lk n l=some a→∃ p∈l,p.2=a
  | [],a,h=>by simp [lk] at h
  | (m,b)::r,a,h=>by
    unfold lk at h
    split at h
    · cases h;exact ⟨_,List.mem_cons_self,rfl⟩
    · obtain ⟨p,h1,h2⟩:=aLT h
      exact ⟨p,List.mem_cons_of_mem _ h1,h2⟩
theorem aJE {α : Type} {n : Nat} : ∀ {l : List (Nat × α)} {a : α},lk n l=some a→(n,a)∈l
  | [],a,h=>by simp [lk] at h
  | (m,b)::r,a,h=>by
    unfold lk at h
    split at h
    · rename_i hb
      cases h
      rw [bQ hb]
      exact List.mem_cons_self
    · exact List.mem_cons_of_mem _ (aJE h)
theorem aDv {g : Nat} (h : ((Tryz.prog.funcs[g]?).bind (·.body)).isSome=true) : jQ Tryz.prog g:=by
  cases hf : Tryz.prog.funcs[g]? with
  | none=>rw [hf] at h;cases h
  | some fn=>
    rw [hf] at h
    cases hb : fn.body with
    | none=>simp [hb] at h
    | some c=>
      have hc:=aKj
      rw [List.all_eq_true] at hc
      have:=hc fn (by rw [← Array.getElem?_toList] at hf;exact List.mem_of_getElem? hf)
      rw [hb] at this
      simp only [Bool.and_eq_true,bne_iff_ne,ne_eq] at this
      exact ⟨fn,c,hf,hb,this.2⟩
set_option maxRecDepth 100000 in
theorem aNk {w : World} {Z : Nat→Prop} (h : aAJ w Z) : Lib.TabIs Tryz.prog w "internal/strconv.uint64pow10" .u64 Lib.pow10Tab:=by
  obtain ⟨_,ty,fz,h⟩:=h
  unfold Lib.TabIs World.var?
  rw [show Tryz.prog.globalNamed "internal/strconv.uint64pow10" = some aLH by kernel_rfl]
  simp only [Option.bind_some,h]
set_option maxRecDepth 100000 in
theorem aNl : aCD Tryz.prog fun g args=>(bF.prim g).bind fun p=>p args:=by
  intro g args r h
  have h : ((bF.prim g).bind fun p=>p args)=some r:=h
  cases hp : bF.prim g with
  | none=>rw [hp] at h;cases h
  | some p=>
    rw [hp] at h
    have h : p args=some r:=h
    have hm:=aJE (show lk g aGO=some p from hp)
    simp only [aGO,List.mem_cons,List.not_mem_nil,or_false,Prod.mk.injEq] at hm
    obtain ⟨rfl,rfl⟩:=hm
    exact ⟨aDv (by kernel_rfl),fun w Z aV hz hl hr=>aIw Tryz.laysM171 h (aNk hz.glob) hl hr⟩
set_option maxRecDepth 100000 in
theorem aNH : (Tryz.prog.info? (Tryz.lays8n4_ren.t 25)).map (fun i=>(i.size,i.bytes,i.zero.map (·.cells.size)))=some (3,32,some 3):=by kernel_rfl
set_option maxRecDepth 100000 in
theorem aME : ∀ g h,bF.primS g=some h→∀ t args s l,bF.mode g=some t→h args s=some l→jQ Tryz.prog g∧∀ (m : aY) (aV : Array Value),fT m s s.base→args.length=aV.size→
    (∀ (i : Nat) d v,args[i]? = some d→aV[i]? = some v→m.rd d v)→Calls Tryz.prog g aV m.w (fun e w'=>∃ v,e = .returned v∧rO m s.boxes.length (if t.keep then s.lists.length else 0) (some t) l v w'):=by
  intro g h hp t args s l ht h
  have hm:=aJE (show lk g aEe=some _ from hp)
  simp only [aEe,List.mem_cons,List.not_mem_nil,or_false,Prod.mk.injEq] at hm
  obtain ⟨rfl,rfl⟩:=hm
  refine ⟨aDv (by kernel_rfl),fun m aV hf hl hr=>?_⟩
  have htt : bF.mode 111=some ⟨false,false,.ref 0 [],[],[some ⟨.own 3 32 true [],.int .i64 0⟩],true⟩:=by kernel_rfl
  rw [htt] at ht
  cases ht
  have tg:=aNH
  cases hi : Tryz.prog.info? (Tryz.lays8n4_ren.t 25) with
  | none=>rw [hi] at tg;cases tg
  | some i0=>
    rw [hi] at tg
    simp only [Option.map_some,Option.some.injEq,Prod.mk.injEq] at tg
    cases hz : i0.zero with
    | none=>rw [hz] at tg;cases tg.2.2
    | some z=>
      rw [hz] at tg
      simp only [Option.map_some,Option.some.injEq] at tg
      have hb : s.boxes.length=0:=by
        have : ∀ a,rK 32 args s=some a→s.boxes = []:=fun a h=>by
          unfold rK at h
          split at h
          · assumption
          · cases h
        rw [this _ h];rfl
      rw [hb]
      exact aIv Tryz.lays8n4 hi hz (by omega) (by omega) tg.2.1 h hf hl hr (g:=true) (eb:=32) ⟨rfl,rfl,by rw [tg.1]⟩
end Go.Proofs.YtjgleeamiclokaaGreatDoor
namespace Go.Proofs.YtjgleeamiclokaaGreatDoor
open Go
theorem aKk : ∀ (l : List Nat),(l.map fun t=>(Tryz.prog.info? t).bind (·.zero))=(l.map fun t=>some (zeroVal T t))→∀ t,mem t l=true→(Tryz.prog.info? t).bind (·.zero)=some (zeroVal T t)
  | [],_,t,h=>by simp [mem] at h
  | x::r,h,t,hm=>by
    simp only [List.map_cons,List.cons.injEq] at h
    unfold mem at hm
    split at hm
    · rename_i hx
      rw [bQ hx];exact h.1
    · exact aKk r h.2 t hm
theorem hyp : Hyp Tryz.prog T bF where
  tab:=aM6.symm
  zero:=fun t h=>by
    rw [aM6]
    exact aKk aMw aNB t h
  mixed:=aMD
  code:=fun f fn c hf hc=>by
    have h:=aKj
    rw [List.all_eq_true] at h
    have:=h fn (by rw [← Array.getElem?_toList] at hf;exact List.mem_of_getElem? hf)
    rw [hc] at this
    simp only [Bool.and_eq_true,bne_iff_ne,ne_eq] at this
    exact this
  prim:=aNl
  primS:=aME
  glob:=fun _=>rfl
  wf:=fun g t h=>by
    obtain ⟨p,hp,rfl⟩:=aLT h
    have:=aNG
    rw [List.all_eq_true] at this
    exact this p hp
end Go.Proofs.YtjgleeamiclokaaGreatDoor
namespace Go.Proofs.YtjgleeamiclokaaGreatDoor
open Go Go.IntWalk
def Ok (P : R→Prop) (o : Option R) : Prop:=∃ r,o=some r∧P r
section
variable {P Q : R → Prop}
theorem Ok.eq {r : R} {o : Option R} (h : Ok (fun x=>x=r) o) : o=some r:=by
  obtain ⟨x,h1,rfl⟩:=h
  exact h1
theorem Ok.of {r : R} {o : Option R} (h : o=some r) : Ok (fun x=>x=r) o:=⟨r,h,rfl⟩
theorem Ok.mono {o : Option R} (h : Ok Q o) (hq : ∀ r,Q r→P r) : Ok P o:=by
  obtain ⟨x,h1,h2⟩:=h
  exact ⟨x,h1,hq x h2⟩
theorem aB {r : R} (h : P r) : Ok P (some r):=⟨r,rfl,h⟩
theorem cQ {α : Type} {o : Option α} {k : α→Option R} (a : α) (h : o=some a) (hk : Ok P (k a)) : Ok P (bd o k):=by rw [h];exact hk
theorem aH {o : Option R} {k : R→Option R} (h : Ok Q o) (hk : ∀ r,Q r→Ok P (k r)) : Ok P (bd o k):=by
  obtain ⟨r,h1,h2⟩:=h
  rw [h1]
  exact hk r h2
theorem aC {p : Prop} [Decidable p] {x y : Option R} (h1 : p→Ok P x) (h2 : ¬ p→Ok P y) : Ok P (PV.ite (.bool (decide p)) x y):=by
  by_cases h : p
  · rw [decide_eq_true h];exact h1 h
  · rw [decide_eq_false h];exact h2 h
theorem aK {p : Prop} [Decidable p] {x y : Option R} (h1 : ¬ p→Ok P x) (h2 : p→Ok P y) : Ok P (PV.ite (.bool (!decide p)) x y):=by
  by_cases h : p
  · rw [decide_eq_true h];exact h2 h
  · rw [decide_eq_false h];exact h1 h
theorem aZ {b : Bool} {x y : Option R} (h1 : b=true→Ok P x) (h2 : b=false→Ok P y) : Ok P (PV.ite (.bool b) x y):=by
  cases b
  · exact h2 rfl
  · exact h1 rfl
theorem bB {x y : Option R} (h1 : Ok P x) : Ok P (PV.ite (.bool true) x y):=h1
theorem aQ {x y : Option R} (h1 : Ok P y) : Ok P (PV.ite (.bool false) x y):=h1
variable {k : PV → Option R} {kk : IntKind} {a b : Int}
theorem iO {op : BinOp} (h1 : op≠.shl) (h2 : op≠.shr) : PV.bin op (.int kk a) (.int kk b)=PV.intBin op kk a b:=by
  cases op<;>simp [PV.bin]<;>first | exact absurd rfl h1 | exact absurd rfl h2
theorem aJ (h : Ok P (k (.bool (decide (a<b))))) : Ok P (bd (PV.bin .lss (.int kk a) (.int kk b)) k):=cQ _ (by rw [iO (by simp) (by simp)];rfl) h
theorem dZ (h : Ok P (k (.bool (decide (a≤b))))) : Ok P (bd (PV.bin .leq (.int kk a) (.int kk b)) k):=cQ _ (by rw [iO (by simp) (by simp)];rfl) h
theorem cO (h : Ok P (k (.bool (decide (b<a))))) : Ok P (bd (PV.bin .gtr (.int kk a) (.int kk b)) k):=cQ _ (by rw [iO (by simp) (by simp)];rfl) h
theorem dP (h : Ok P (k (.bool (decide (b≤a))))) : Ok P (bd (PV.bin .geq (.int kk a) (.int kk b)) k):=cQ _ (by rw [iO (by simp) (by simp)];rfl) h
theorem aF (h : Ok P (k (.bool (decide (a=b))))) : Ok P (bd (PV.bin .eql (.int kk a) (.int kk b)) k):=cQ _ (by rw [iO (by simp) (by simp)];rfl) h
theorem bC (h : Ok P (k (.bool (!decide (a=b))))) : Ok P (bd (PV.bin .neq (.int kk a) (.int kk b)) k):=cQ _ (by rw [iO (by simp) (by simp)];rfl) h
theorem aR (hr : -9223372036854775808≤a+b∧a+b≤9223372036854775807) (h : Ok P (k (.int .i64 (a+b)))) : Ok P (bd (PV.bin .add (.int .i64 a) (.int .i64 b)) k):=
  cQ _ (by rw [iO (by simp) (by simp)];simp only [PV.intBin];rw [i64_in _ hr]) h
theorem bG (hr : -9223372036854775808≤a - b∧a - b≤9223372036854775807) (h : Ok P (k (.int .i64 (a - b)))) : Ok P (bd (PV.bin .sub (.int .i64 a) (.int .i64 b)) k):=
  cQ _ (by rw [iO (by simp) (by simp)];simp only [PV.intBin];rw [i64_in _ hr]) h
theorem iJ (hr : -9223372036854775808≤a*b∧a*b≤9223372036854775807) (h : Ok P (k (.int .i64 (a*b)))) : Ok P (bd (PV.bin .mul (.int .i64 a) (.int .i64 b)) k):=
  cQ _ (by rw [iO (by simp) (by simp)];simp only [PV.intBin];rw [i64_in _ hr]) h
theorem iK (h0 : 0≤a) (hb : 0<b) (h : Ok P (k (.int kk (a % b)))) : Ok P (bd (PV.bin .rem (.int kk a) (.int kk b)) k):=
  cQ _ (by rw [iO (by simp) (by simp)];simp only [PV.intBin];rw [if_neg (by omega),Int.tmod_eq_emod_of_nonneg h0]) h
theorem iU (h0 : 0≤a) (hb : 0<b) (hr : a≤9223372036854775807) (h : Ok P (k (.int .i64 (a / b)))) : Ok P (bd (PV.bin .quo (.int .i64 a) (.int .i64 b)) k):=
  cQ _ (by rw [iO (by simp) (by simp)];simp only [PV.intBin];rw [if_neg (by omega),i64_quo _ _ ⟨h0,hr,by omega⟩]) h
theorem gY (hr : -9223372036854775808≤0 - a∧0 - a≤9223372036854775807) (h : Ok P (k (.int .i64 (0 - a)))) : Ok P (bd (PV.neg (.int .i64 a)) k):=
  cQ _ (by simp only [PV.neg];rw [i64_in _ hr]) h
theorem bE {x : Bool} (h : Ok P (k (.bool (!x)))) : Ok P (bd (PV.not (.bool x)) k):=h
theorem vO {x y : Bool} (h : Ok P (k (.bool (x==y)))) : Ok P (bd (PV.beq .eql (.bool x) (.bool y)) k):=h
theorem aJF {x y : Bool} (h : Ok P (k (.bool (!(x==y))))) : Ok P (bd (PV.beq .neq (.bool x) (.bool y)) k):=h
theorem cJ {xs : List PV} (h : Ok P (k (.int .i64 xs.length))) : Ok P (bd (PV.len (.lst xs)) k):=h
theorem dI {s : ByteArray} (h : Ok P (k (.int .i64 s.size))) : Ok P (bd (PV.slen (.str s)) k):=h
theorem iL (hr : -9223372036854775808≤a∧a≤9223372036854775807) (h : Ok P (k (.int .i64 a))) : Ok P (bd (PV.conv .i64 (.int kk a)) k):=cQ _ (by simp only [PV.conv];rw [i64_in _ hr]) h
theorem aNI (hr : 0≤a∧a≤255) (h : Ok P (k (.int .u8 a))) : Ok P (bd (PV.conv .u8 (.int kk a)) k):=cQ _ (by simp only [PV.conv];rw [u8_in _ hr]) h
theorem aMF {s : Nat} {g : Bool} {xs : List PV} {i : Int} (h0 : 0≤i) (h1 : i<xs.length) (he : ∀ x∈xs,x.isEl s g=true) : ∃ x,x∈xs∧xs[i.toNat]? = some x∧PV.at_ s g (.lst xs) (.int kk i)=some x:=by
  have hlt : i.toNat<xs.length:=by omega
  refine ⟨xs[i.toNat],List.getElem_mem _,List.getElem?_eq_getElem hlt,?_⟩
  simp only [PV.at_]
  rw [if_pos h0,List.getElem?_eq_getElem hlt]
  simp only
  rw [if_pos (he _ (List.getElem_mem _))]
theorem rS {s : Nat} {g : Bool} {xs : List PV} {i : Int} (h0 : 0≤i) (h1 : i<xs.length) (he : ∀ x∈xs,x.isEl s g=true) (h : ∀ x,x∈xs→xs[i.toNat]? = some x→Ok P (k x)) :
    Ok P (bd (PV.at_ s g (.lst xs) (.int kk i)) k):=by
  obtain ⟨x,h2,h3,h4⟩:=aMF (kk:=kk) h0 h1 he
  exact cQ x h4 (h x h2 h3)
theorem cR {xs : List PV} {i : Int} (h0 : 0≤i) (h1 : i<xs.length) (h : Ok P (k (.lst xs))) : Ok P (bd (PV.inb (.lst xs) (.int kk i)) k):=
  cQ _ (by simp only [PV.inb];rw [if_pos ⟨h0,h1⟩]) h
theorem fA {s e : Nat} {g : Bool} {xs ys : List PV} (hb : (xs.length+ys.length)*e≤140737488355328) (he : ∀ x∈ys,x.isEl s g=true) (h : Ok P (k (.lst (xs++ys)))) : Ok P (bd (PV.cat s e g (.lst xs) (.lst ys)) k):=
  cQ _ (by
    simp only [PV.cat,PV.elems]
    rw [if_pos ⟨hb,List.all_eq_true.2 he⟩]) h
theorem vP {s : Nat} {g : Bool} {xs : List PV} {m n : Int} {k1 k2 : IntKind} (h0 : 0≤m) (h1 : m≤n) (h2 : n≤xs.length) (he : ∀ x∈xs,x.isEl s g=true) (h : Ok P (k (.lst ((xs.take n.toNat).drop m.toNat)))) :
    Ok P (bd (PV.cut s g (.lst xs) (.int k1 m) (.int k2 n)) k):=
  cQ _ (by
    have hh : PV.headIs s g xs=true:=by
      cases xs with
      | nil=>rfl
      | cons x r=>exact he x List.mem_cons_self
    simp only [PV.cut,hh,if_true,PV.bound]
    rw [if_pos ⟨by omega,h2⟩,Option.bind_some,if_pos ⟨h0,by omega⟩,Option.bind_some]) h
theorem fU {s : Nat} {xs cs : List PV} {i : Int} {off : Nat} {v : PV} (h0 : 0≤i) (hx : xs[i.toNat]? = some (.agg cs)) (hc : cs.length=s) (ho : off<s) (hv : v.isEl 1 false=true) (h : Ok P (k (.lst (xs.set i.toNat (.agg (cs.set off v)))))) :
    Ok P (bd (PV.setCell s (.lst xs) (.int kk i) off v) k):=
  cQ _ (by
    simp only [PV.setCell]
    rw [if_pos h0,hx]
    simp only
    rw [if_pos ⟨hc,ho,hv⟩]) h
theorem aIx {s : Nat} {g : Bool} {xs : List PV} {i : Int} {v : PV} (h0 : 0≤i) (h1 : i<xs.length) (hv : v.isEl s g=true) (h : Ok P (k (.lst (xs.set i.toNat v)))) :
    Ok P (bd (PV.setAt s g (.lst xs) (.int kk i) v) k):=
  cQ _ (by simp only [PV.setAt];rw [if_pos ⟨h0,h1,hv⟩]) h
theorem aW {x : PV} (hx : x.isEl 1 false=true) (h : Ok P (k x)) : Ok P (bd (PV.one x) k):=cQ x (by simp only [PV.one];rw [if_pos hx]) h
theorem aA {cs : List PV} {j : Nat} {y : PV} (hy : cs[j]? = some y) (h : Ok P (k y)) : Ok P (bd (PV.cell (.agg cs) j) k):=cQ y hy h
theorem aS {cs : List PV} {j : Nat} {y : PV} (hy : cs[j]? = some y) (h : Ok P (k y)) : Ok P (bd (PV.comp (.tup cs) j) k):=cQ y hy h
theorem aD {cs : List PV} {n : Nat} (hy : cs.length=n) (h : Ok P (k (.agg cs))) : Ok P (bd (PV.whole n (.agg cs)) k):=cQ _ (by simp only [PV.whole];rw [if_pos (by rw [hy];exact Nat.beq_refl n)]) h
theorem dU {r : PV} {o : Option R} (hf : r.flat=true) (h : Ok P o) : Ok P (PV.guardFlat r o):=by
  unfold PV.guardFlat;rw [if_pos hf];exact h
theorem fB {t : OTy} {r : PV} {o : Option R} (hf : PV.flatO t r=true) (h : Ok P o) : Ok P (PV.guardOwn t r o):=by
  unfold PV.guardOwn;rw [if_pos hf];exact h
theorem rT {C : Nat→List PV→Option R} {kr : R→Option R} {f : Nat} {caps args : List PV} {o : Option R} (e : C f (args++caps)=o) (h : Ok Q o) (hk : ∀ r,Q r→Ok P (kr r)) : Ok P (bd (PV.apply C (.fn f caps) args) kr):=by
  refine aH (Q:=Q) ?_ hk
  show Ok Q (C f (args++caps))
  rw [e]
  exact h
theorem pH {cs : List PV} {j : Nat} {y : PV} (hy : cs[j]? = some y) (h : Ok P (k y)) : Ok P (bd (PV.deref (.bx cs) j) k):=cQ y hy h
theorem aEV : ∀ l : List Int,(l.map (PV.int .u8)).mapM PV.byteOf=some (l.map fun x=>UInt8.ofNat x.toNat)
  | []=>rfl
  | x::r=>by
    rw [List.map_cons,List.mapM_cons,aEV r]
    rfl
def bL (l : List Int) : PV:=.lst (l.map (PV.int .u8))
theorem aLU {l : List Int} : ∀ x∈l.map (PV.int .u8),x.isEl 1 false=true:=by
  intro x hx
  obtain ⟨a,_,rfl⟩:=List.mem_map.1 hx
  rfl
theorem bV {l : List Int} (h : Ok P (k (.int .i64 l.length))) : Ok P (bd (PV.len (bL l)) k):=by
  refine cQ _ ?_ h
  show some (PV.int .i64 ((l.map (PV.int .u8)).length : Int))=_
  rw [List.length_map]
theorem aGt {s : ByteArray} (h : Ok P (k (.bool false))) : Ok P (bd (PV.bin .neq (.str s) (.str s)) k):=cQ _ (by simp [PV.bin,PV.strBin]) h
theorem aLV {l : List Int} (h : Ok P (k (.str ⟨(l.map fun x=>UInt8.ofNat x.toNat).toArray⟩))) : Ok P (bd (PV.toStr (bL l)) k):=
  cQ _ (by
    show PV.toStr (.lst (l.map (PV.int .u8)))=_
    simp only [PV.toStr]
    rw [aEV]
    rfl) h
theorem jH {s e : Nat} {g : Bool} {ys : List PV} (hb : ys.length*e≤140737488355328) (he : ∀ x∈ys,x.isEl s g=true) (h : Ok P (k (.lst ys))) : Ok P (bd (PV.cat s e g (.lst []) (.lst ys)) k):=
  fA (by simpa using hb) he h
theorem aDw {l : List Int} {i : Int} (h0 : 0≤i) (h1 : i<l.length) (h : ∀ x,x∈l→l[i.toNat]? = some x→Ok P (k (.int .u8 x))) : Ok P (bd (PV.at_ 1 false (bL l) (.int kk i)) k):=by
  refine rS h0 (by rw [List.length_map];exact h1) aLU (fun x hx hi=>?_)
  rw [List.getElem?_map] at hi
  cases hl : l[i.toNat]? with
  | none=>rw [hl] at hi;cases hi
  | some y=>
    rw [hl] at hi
    cases hi
    exact h y (List.mem_of_getElem? hl) hl
theorem aIy {xs : List PV} (h : Ok P (k (.lst xs))) : Ok P (bd (PV.isLst (.lst xs)) k):=h
theorem aIz {q : IntKind} {n : Int} (h : Ok P (k (.int q n))) : Ok P (bd (PV.isInt (.int q n)) k):=h
theorem vQ {s : Nat} {g : Bool} {xs : List PV} {i : Int} {x : PV} (h0 : 0≤i) (hx : xs[i.toNat]? = some x) (he : x.isEl s g=true) (h : Ok P (k x)) : Ok P (bd (PV.at_ s g (.lst xs) (.int kk i)) k):=
  cQ x (by simp only [PV.at_];rw [if_pos h0,hx];simp only;rw [if_pos he]) h
theorem aKl {cs : List PV} {i : Int} {n : Nat} {x : PV} (h0 : 0≤i∧i<n∧cs.length=n) (hx : cs[i.toNat]? = some x) (he : x.isEl 1 false=true) (h : Ok P (k x)) : Ok P (bd (PV.ix n (.agg cs) (.int kk i)) k):=
  cQ x (by simp only [PV.ix];rw [if_pos h0,hx];simp only;rw [if_pos he]) h
end
theorem aKm {xs : List PV} {r : R} {x y : Option R} (hx : xs = []→Ok (fun q=>q=r) x) (hy : Ok (fun q=>q=r) y) : Ok (fun q=>q=r) (PV.nilT (.lst xs) x y):=by
  cases xs with
  | nil=>
    have h1:=(hx rfl).eq
    have h2:=hy.eq
    refine ⟨r,?_,rfl⟩
    show @_root_.ite _ (x=y) (Classical.propDecidable _) x none=some r
    rw [h1,h2,if_pos rfl]
  | cons a l=>exact hy
end Go.Proofs.YtjgleeamiclokaaGreatDoor
namespace Go.Proofs.YtjgleeamiclokaaGreatDoor
open Go Go.ChangeShapes Go.WideShapes Go.ChangeAt Go.RowKit
def aBU (w : World) (a : Option Addr) (len cap : Nat) (zs : List Int) : Prop:=
  (a=none∧len=0∧cap=0∧zs = [])∨
  ∃ x,a=some x∧len≤cap∧cap≤maxLen∧zs.length=cap∧(∀ i,i<zs.length→w.cell? (x.add i)=some (.int .u8 (zs.getD i 0)))∧∀ n∈zs,(Lit.int .u8 n).wf=true
theorem cell_inv {w : World} {a : Addr} {v : Value} (h : w.cell? a=some v) : a.spot=none∧∃ c e fz,w.heap[a.block]? = some (.cells c e fz)∧c[a.off]? = some v:=by
  unfold World.cell? at h
  split at h
  · rename_i c e fz hc
    split at h
    · cases h
    · rename_i hs
      exact ⟨by simpa using hs,c,e,fz,hc,h⟩
  · cases h
theorem aBU.rep {w : World} {a : Option Addr} {len cap : Nat} {zs : List Int} (h : aBU w a len cap zs) : gJ w (fun r=>r<w.heap.size) (bL (zs.take len)) (.slice a len cap):=by
  rcases h with ⟨rfl,rfl,rfl,rfl⟩ | ⟨x,rfl,hl,_,hz,hc,_⟩
  · exact .empty none 0
  · by_cases h0 : len=0
    · subst h0;exact .empty _ cap
    · have hlen : ((zs.take len).map (PV.int .u8)).length=len:=by simp;omega
      obtain ⟨hsp,c,e,fz,hh,hc0⟩:=cell_inv (hc 0 (by omega))
      have hx : x=⟨x.block,x.off,none⟩:=by
        have : x.spot=none:=by
          have h1 : (x.add 0).spot=none:=hsp
          unfold Addr.add at h1
          split at h1<;>simp_all
        cases x;simp_all
      rw [hx] at hc ⊢
      have hb : (x.add 0).block=x.block:=by unfold Addr.add;split<;>rfl
      rw [hb] at hh
      have:=gJ.lst (w:=w) (Z:=fun r=>r<w.heap.size) ((zs.take len).map (PV.int .u8)) x.block x.off 1 cap false c e fz (fun i _=>.int .u8 (zs.getD i 0)) (Array.getElem?_eq_some_iff.1 hh).1 hh (by omega) (by omega)
        (fun i y hy=>by
          rw [List.getElem?_map] at hy
          cases hi : (zs.take len)[i]? with
          | none=>rw [hi] at hy;cases hy
          | some q=>rw [hi] at hy;cases hy;rfl)
        (fun i j hi hj=>by
          have hj0 : j=0:=by omega
          subst hj0
          have h1:=hc i (by omega)
          rw [iT] at h1
          obtain ⟨_,c',e',fz',hh',hc'⟩:=cell_inv h1
          have hh' : w.heap[x.block]? = some (.cells c' e' fz'):=hh'
          rw [hh] at hh'
          cases hh'
          simpa using hc')
        (fun _ _ _ _=>trivial)
        (fun i j y hy hj=>by
          rw [List.getElem?_map] at hy
          cases hi : (zs.take len)[i]? with
          | none=>rw [hi] at hy;cases hy
          | some q=>
            rw [hi] at hy
            cases hy
            have hlt : i<(zs.take len).length:=(List.getElem?_eq_some_iff.1 hi).1
            have : zs.getD i 0=q:=by
              rw [List.getElem?_take] at hi
              split at hi
              · rw [List.getD,hi];rfl
              · cases hi
            rw [this]
            exact .int _ _)
      rw [hlen] at this
      exact this
theorem aBU.wf {w : World} {a : Option Addr} {len cap : Nat} {zs : List Int} (h : aBU w a len cap zs) : ∀ x∈zs.take len,(Lit.int .u8 x).wf=true:=by
  intro x hx
  rcases h with ⟨_,_,_,rfl⟩ | ⟨_,_,_,_,_,_,hw⟩
  · simp at hx
  · exact hw x (List.mem_of_mem_take hx)
theorem aJG (n : Nat) (args : List PV) (aV : Array Value) (h : aN n args=some [.bool true]) {w : World} (gz : aAJ w fun r=>r<w.heap.size) (hl : args.length=aV.size) (hr : ∀ (i : Nat) x v,args[i]? = some x→aV[i]? = some v→gJ w (fun r=>r<w.heap.size) x v) :
    Calls Tryz.prog n aV w fun e w'=>e = .returned (.bool true)∧Below w.heap.size w w':=by
  refine (aIu hyp h (Z:=fun r=>r<w.heap.size) ⟨fun _ h=>h,gz⟩ hl hr).mono ?_
  rintro e w' ⟨v,rfl,Z',pe,hrep⟩
  have hrep : gJ w' Z' (.bool true) v:=hrep
  rw [hrep.bool_inv]
  exact ⟨rfl,pe.os,pe.tape,pe.output,pe.size,pe.old⟩
theorem aNm {l : List Int} (h : ∀ x∈l,(Lit.int .u8 x).wf=true) : ∀ x∈l,0≤x∧x≤255:=by
  intro x hx
  have:=h x hx
  have e1 : IntKind.min .u8=0:=rfl
  have e2 : IntKind.max .u8=255:=rfl
  simp only [Lit.wf,e1,e2,Bool.and_eq_true,decide_eq_true_eq] at this
  exact this
theorem own : ownKnob Tryz.prog.godebug=none:=by kernel_rfl
theorem aMG : laidOutB Tryz.prog=true:=by kernel_rfl
end Go.Proofs.YtjgleeamiclokaaGreatDoor
namespace Go.Proofs.YtjgleeamiclokaaGreatDoor
open Go
noncomputable def yJ (x0 : PV) : Option R:=aN 4 [x0]
noncomputable def kB (x0 x1 x2 x3 x4 x5 x6 x7 x8 x9 x10 x11 x12 x13 x14 x15 x16 x17 x18 x19 x20 x21 x22 x23 x24 : PV) : Option R:=cU 4 0 0 (bF.mode 4) (todoOf Tryz.prog 4 9) [(3,.ptr 0 0),(5,.p x0),(6,.ptr 1 0),(8,.ptr 2 0),(9,.p x1),(10,.p x2)] ⟨[(0,some [.p x3,.p x4]),(1,some [.p x5,.p x6,.p x7,.p x8,.p x9,.p x10,.p x11,.p x12,.p x13,.p x14]),(2,some [.p x15,.p x16,.p x17,.p x18,.p x19,.p x20,.p x21,.p x22,.p x23,.p x24])],[],0,0,3⟩
noncomputable def aEW (x0 : PV) : Option R:=aN 5 [x0]
noncomputable def vR (x0 : PV) : Option R:=aN 6 [x0]
noncomputable def mQ (x0 x1 x2 x3 x4 x5 : PV) : Option R:=cU 6 0 0 (bF.mode 6) (todoOf Tryz.prog 6 7) [(2,.ptr 0 0),(6,.ptr 1 0),(7,.p x0),(8,.p x1)] ⟨[(0,some [.ref 0 [],.ref 1 []]),(1,some [.p x2,.p x3])],[(0,some ⟨(.own 1 16 false []),x4⟩),(1,some ⟨(.own 3 40 true []),x5⟩)],0,0,4⟩
noncomputable def pI (x0 x1 : PV) : Option R:=aN 9 [x0,x1]
noncomputable def nR (x0 x1 x2 x3 x4 x5 x6 x7 x8 x9 x10 x11 x12 x13 x14 x15 x16 x17 x18 x19 x20 : PV) : Option R:=cU 9 0 0 (bF.mode 9) (todoOf Tryz.prog 9 4) [(2,.ptr 0 0),(3,.ptr 1 0),(5,.p x0)] ⟨[(0,some [.p x1,.p x2,.p x3,.p x4,.p x5,.p x6,.p x7,.p x8,.p x9,.p x10]),(1,some [.p x11,.p x12,.p x13,.p x14,.p x15,.p x16,.p x17,.p x18,.p x19,.p x20])],[],0,0,2⟩
noncomputable def kP (x0 x1 x2 x3 x4 x5 x6 x7 x8 x9 x10 x11 x12 x13 x14 x15 x16 x17 x18 x19 x20 : PV) : Option R:=cU 9 0 0 (bF.mode 9) (todoOf Tryz.prog 9 9) [(2,.ptr 0 0),(3,.ptr 1 0),(6,.p x0)] ⟨[(0,some [.p x1,.p x2,.p x3,.p x4,.p x5,.p x6,.p x7,.p x8,.p x9,.p x10]),(1,some [.p x11,.p x12,.p x13,.p x14,.p x15,.p x16,.p x17,.p x18,.p x19,.p x20])],[],0,0,2⟩
noncomputable def aCI (x0 x1 : PV) : Option R:=aN 11 [x0,x1]
noncomputable def aAW (x0 x1 : PV) : Option R:=aN 13 [x0,x1]
noncomputable def mI (x0 x1 x2 x3 x4 x5 x6 x7 x8 x9 x10 x11 x12 x13 : PV) : Option R:=cU 13 0 0 (bF.mode 13) (todoOf Tryz.prog 13 4) [(1,.p x0),(2,.ptr 0 0),(4,.ptr 1 0),(6,.p x1)] ⟨[(0,some [.p x2,.p x3]),(1,some [.ref 0 [],.ref 1 [],.p x4,.ref 2 [],.p x5,.p x6,.p x7,.p x8,.p x9,.p x10])],[(0,some ⟨(.own 4 64 true []),x11⟩),(1,some ⟨(.own 1 24 true []),x12⟩),(2,some ⟨(.own 1 16 false []),x13⟩)],0,0,5⟩
noncomputable def kQ (x0 x1 x2 x3 x4 x5 x6 x7 x8 x9 x10 x11 x12 x13 x14 x15 : PV) : Option R:=cU 13 0 0 (bF.mode 13) (todoOf Tryz.prog 13 10) [(1,.p x0),(4,.ptr 0 0),(7,.ptr 1 0),(8,.p x1)] ⟨[(0,some [.ref 0 [],.ref 1 [],.p x2,.ref 2 [],.p x3,.p x4,.p x5,.p x6,.p x7,.p x8]),(1,some [.p x9,.p x10,.ref 3 [],.ref 4 []])],[(0,some ⟨(.own 4 64 true []),x11⟩),(1,some ⟨(.own 1 24 true []),x12⟩),(2,some ⟨(.own 1 16 false []),x13⟩),(3,some ⟨(.own 3 32 true []),x14⟩),(4,some ⟨(.own 3 32 true []),x15⟩)],0,0,7⟩
noncomputable def tB (x0 : PV) : Option R:=aN 14 [x0]
noncomputable def kR (x0 x1 x2 x3 x4 x5 x6 : PV) : Option R:=cU 14 0 0 (bF.mode 14) (todoOf Tryz.prog 14 4) [(1,.ptr 0 0),(2,.ptr 1 0),(16,.p x0),(17,.p x1)] ⟨[(0,some [.p x2,.p x3]),(1,some [.p x4,.p x5,.p x6])],[],0,0,2⟩
noncomputable def kS (x0 x1 x2 x3 x4 x5 x6 x7 x8 x9 x10 x11 : PV) : Option R:=cU 14 0 0 (bF.mode 14) (todoOf Tryz.prog 14 8) [(1,.ptr 0 0),(2,.ptr 1 0),(3,.p x0),(4,.ptr 2 0),(16,.p x1),(17,.p x2),(28,.p x3),(29,.p x4),(30,.p x5)] ⟨[(0,some [.p x6,.p x7]),(1,some [.p x8,.p x9,.p x10]),(2,some [.p x11])],[],0,0,3⟩
noncomputable def tC (x0 : PV) : Option R:=aN 15 [x0]
noncomputable def kT (x0 x1 x2 x3 x4 x5 : PV) : Option R:=cU 15 0 0 (bF.mode 15) (todoOf Tryz.prog 15 4) [(1,.ptr 0 0),(2,.ptr 1 0),(3,.p x0)] ⟨[(0,some [.p x1,.p x2]),(1,some [.p x3,.p x4,.p x5])],[],0,0,2⟩
noncomputable def iV (x0 x1 x2 x3 x4 x5 x6 x7 x8 : PV) : Option R:=cU 15 0 0 (bF.mode 15) (todoOf Tryz.prog 15 9) [(1,.ptr 0 0),(2,.ptr 1 0),(3,.p x0),(4,.p x1),(5,.p x2),(6,.p x3)] ⟨[(0,some [.p x4,.p x5]),(1,some [.p x6,.p x7,.p x8])],[],0,0,2⟩
noncomputable def jR (x0 x1 x2 x3 x4 x5 x6 x7 x8 x9 x10 x11 : PV) : Option R:=cU 15 0 0 (bF.mode 15) (todoOf Tryz.prog 15 18) [(1,.ptr 0 0),(2,.ptr 1 0),(3,.p x0),(4,.p x1),(5,.p x2),(6,.p x3),(9,.p x4),(10,.p x5),(11,.p x6)] ⟨[(0,some [.p x7,.p x8]),(1,some [.p x9,.p x10,.p x11])],[],0,0,2⟩
noncomputable def hH (x0 x1 x2 x3 x4 x5 x6 x7 x8 x9 x10 x11 : PV) : Option R:=cU 15 0 0 (bF.mode 15) (todoOf Tryz.prog 15 23) [(1,.ptr 0 0),(2,.ptr 1 0),(3,.p x0),(4,.p x1),(5,.p x2),(6,.p x3),(9,.p x4),(10,.p x5),(12,.p x6)] ⟨[(0,some [.p x7,.p x8]),(1,some [.p x9,.p x10,.p x11])],[],0,0,2⟩
noncomputable def tZ (x0 x1 : PV) : Option R:=aN 16 [x0,x1]
noncomputable def zP (x0 x1 : PV) : Option R:=aN 17 [x0,x1]
noncomputable def aCJ (x0 x1 : PV) : Option R:=aN 18 [x0,x1]
noncomputable def aL (x0 x1 x2 : PV) : Option R:=aN 28 [x0,x1,x2]
noncomputable def vS (x0 x1 : PV) : Option R:=aN 29 [x0,x1]
noncomputable def rU (x0 x1 : PV) : Option R:=aN 26 [x0,x1]
noncomputable def kC (x0 x1 x2 : PV) : Option R:=cU 26 0 0 (bF.mode 26) (todoOf Tryz.prog 26 4) [(0,.p x0),(1,.p x1),(5,.p x2)] ⟨[],[],0,0,0⟩
noncomputable def jS (x0 x1 : PV) : Option R:=aN 27 [x0,x1]
noncomputable def jI (x0 x1 x2 : PV) : Option R:=cU 27 0 0 (bF.mode 27) (todoOf Tryz.prog 27 4) [(0,.p x0),(1,.p x1),(5,.p x2)] ⟨[],[],0,0,0⟩
noncomputable def nS (x0 : PV) : Option R:=aN 35 [x0]
noncomputable def rV (x0 x1 x2 : PV) : Option R:=aN 36 [x0,x1,x2]
noncomputable def pD (x0 : PV) : Option R:=aN 37 [x0]
noncomputable def lK (x0 x1 x2 x3 x4 : PV) : Option R:=cU 37 0 0 (bF.mode 37) (todoOf Tryz.prog 37 4) [(1,.ptr 0 0),(22,.p x0),(23,.p x1),(24,.p x2)] ⟨[(0,some [.p x3,.p x4])],[],0,0,1⟩
noncomputable def pJ (x0 x1 : PV) : Option R:=aN 38 [x0,x1]
noncomputable def kU (x0 x1 x2 x3 x4 : PV) : Option R:=cU 38 0 0 (bF.mode 38) (todoOf Tryz.prog 38 5) [(2,.ptr 0 0),(5,.p x0),(6,.ref 0 []),(7,.p x1)] ⟨[(0,some [.p x2,.p x3])],[(0,some ⟨(.own 1 8 false []),x4⟩)],0,0,2⟩
noncomputable def gM (x0 x1 x2 x3 x4 x5 x6 x7 : PV) : Option R:=cU 38 0 0 (bF.mode 38) (todoOf Tryz.prog 38 8) [(2,.ptr 0 0),(5,.p x0),(6,.ref 0 []),(7,.p x1),(27,.p x2),(28,.p x3),(29,.p x4)] ⟨[(0,some [.p x5,.p x6])],[(0,some ⟨(.own 1 8 false []),x7⟩)],0,0,2⟩
noncomputable def eO (x0 x1 x2 x3 x4 x5 x6 x7 x8 x9 x10 x11 x12 : PV) : Option R:=cU 38 0 0 (bF.mode 38) (todoOf Tryz.prog 38 13) [(2,.ptr 0 0),(5,.p x0),(6,.ref 0 []),(7,.p x1),(10,.p x2),(11,.p x3),(27,.p x4),(28,.p x5),(29,.p x6),(51,.p x7),(52,.p x8),(53,.p x9)] ⟨[(0,some [.p x10,.p x11])],[(0,some ⟨(.own 1 8 false []),x12⟩)],0,0,2⟩
noncomputable def wW (x0 x1 x2 x3 x4 x5 x6 x7 x8 x9 x10 x11 x12 : PV) : Option R:=cU 38 0 0 (bF.mode 38) (todoOf Tryz.prog 38 16) [(2,.ptr 0 0),(5,.p x0),(6,.ref 0 []),(10,.p x1),(11,.p x2),(13,.p x3),(27,.p x4),(28,.p x5),(29,.p x6),(51,.p x7),(52,.p x8),(53,.p x9)] ⟨[(0,some [.p x10,.p x11])],[(0,some ⟨(.own 1 8 false []),x12⟩)],0,0,2⟩
noncomputable def tD (x0 x1 x2 : PV) : Option R:=aN 39 [x0,x1,x2]
noncomputable def qR (x0 x1 : PV) : Option R:=aN 40 [x0,x1]
noncomputable def iW (x0 x1 : PV) : Option R:=aN 41 [x0,x1]
noncomputable def gD (x0 x1 : PV) : Option R:=aN 42 [x0,x1]
noncomputable def aAx (x0 x1 x2 : PV) : Option R:=aN 43 [x0,x1,x2]
noncomputable def uA (x0 : PV) : Option R:=aN 44 [x0]
noncomputable def lL (x0 x1 x2 : PV) : Option R:=cU 44 0 0 (bF.mode 44) (todoOf Tryz.prog 44 4) [(1,.ptr 0 0),(3,.p x0)] ⟨[(0,some [.p x1,.p x2])],[],0,0,1⟩
noncomputable def iX (x0 x1 x2 : PV) : Option R:=cU 44 0 0 (bF.mode 44) (todoOf Tryz.prog 44 9) [(1,.ptr 0 0),(4,.p x0)] ⟨[(0,some [.p x1,.p x2])],[],0,0,1⟩
noncomputable def kD (x0 x1 x2 x3 x4 x5 x6 : PV) : Option R:=cU 44 0 0 (bF.mode 44) (todoOf Tryz.prog 44 15) [(1,.ptr 0 0),(4,.p x0),(5,.ptr 1 0),(6,.p x1)] ⟨[(0,some [.p x2,.p x3]),(1,some [.p x4,.p x5,.p x6])],[],0,0,2⟩
noncomputable def kV (x0 x1 : PV) : Option R:=aN 45 [x0,x1]
noncomputable def kE (x0 x1 x2 x3 x4 : PV) : Option R:=cU 45 0 0 (bF.mode 45) (todoOf Tryz.prog 45 4) [(2,.ptr 0 0),(5,.p x0),(6,.ref 0 []),(7,.p x1)] ⟨[(0,some [.p x2,.p x3])],[(0,some ⟨(.own 1 8 false []),x4⟩)],0,0,2⟩
noncomputable def iA (x0 x1 x2 x3 x4 : PV) : Option R:=cU 45 0 0 (bF.mode 45) (todoOf Tryz.prog 45 9) [(2,.ptr 0 0),(5,.p x0),(6,.ref 0 []),(8,.p x1)] ⟨[(0,some [.p x2,.p x3])],[(0,some ⟨(.own 1 8 false []),x4⟩)],0,0,2⟩
noncomputable def dJ (x0 x1 x2 x3 x4 x5 : PV) : Option R:=cU 45 0 0 (bF.mode 45) (todoOf Tryz.prog 45 12) [(2,.ptr 0 0),(5,.p x0),(6,.ref 0 []),(8,.p x1),(9,.p x2)] ⟨[(0,some [.p x3,.p x4])],[(0,some ⟨(.own 1 8 false []),x5⟩)],0,0,2⟩
noncomputable def eE (x0 x1 x2 x3 x4 x5 x6 x7 x8 : PV) : Option R:=cU 45 0 0 (bF.mode 45) (todoOf Tryz.prog 45 19) [(2,.ptr 0 0),(5,.p x0),(6,.ref 0 []),(8,.p x1),(9,.p x2),(12,.p x3),(13,.p x4),(14,.p x5)] ⟨[(0,some [.p x6,.p x7])],[(0,some ⟨(.own 1 8 false []),x8⟩)],0,0,2⟩
noncomputable def rW (x0 x1 x2 x3 x4 x5 x6 x7 : PV) : Option R:=cU 45 0 0 (bF.mode 45) (todoOf Tryz.prog 45 22) [(2,.ptr 0 0),(5,.p x0),(6,.ref 0 []),(9,.p x1),(12,.p x2),(13,.p x3),(14,.p x4)] ⟨[(0,some [.p x5,.p x6])],[(0,some ⟨(.own 1 8 false []),x7⟩)],0,0,2⟩
noncomputable def tE (x0 x1 : PV) : Option R:=aN 46 [x0,x1]
noncomputable def qS (x0 x1 : PV) : Option R:=aN 47 [x0,x1]
noncomputable def wX (x0 x1 x2 x3 : PV) : Option R:=cU 47 0 0 (bF.mode 47) (todoOf Tryz.prog 47 3) [(1,.p x0),(2,.ptr 0 0),(5,.ref 0 [])] ⟨[(0,some [.p x1,.p x2])],[(0,some ⟨(.own 1 8 false []),x3⟩)],0,0,2⟩
noncomputable def mR (x0 x1 x2 : PV) : Option R:=cU 47 0 0 (bF.mode 47) (todoOf Tryz.prog 47 4) [(2,.ptr 0 0),(5,.ref 0 [])] ⟨[(0,some [.p x0,.p x1])],[(0,some ⟨(.own 1 8 false []),x2⟩)],0,0,2⟩
noncomputable def mS (x0 x1 x2 : PV) : Option R:=cU 47 0 0 (bF.mode 47) (todoOf Tryz.prog 47 5) [(2,.ptr 0 0),(5,.ref 0 [])] ⟨[(0,some [.p x0,.p x1])],[(0,some ⟨(.own 1 8 false []),x2⟩)],0,0,2⟩
noncomputable def cC (x0 x1 : PV) : Option R:=aN 48 [x0,x1]
noncomputable def tF (x0 : PV) : Option R:=aN 32 [x0]
noncomputable def vT (x0 : PV) : Option R:=aN 50 [x0]
noncomputable def jT (x0 x1 x2 x3 x4 : PV) : Option R:=cU 50 0 0 (bF.mode 50) (todoOf Tryz.prog 50 3) [(1,.ptr 0 0),(3,.ref 0 []),(8,.p x0),(9,.p x1)] ⟨[(0,some [.p x2,.p x3])],[(0,some ⟨(.own 1 24 false []),x4⟩)],0,0,2⟩
noncomputable def aGu (x0 x1 x2 : PV) : Option R:=aN 49 [x0,x1,x2]
noncomputable def lM (x0 x1 x2 x3 x4 x5 x6 x7 x8 x9 x10 x11 x12 x13 x14 x15 x16 : PV) : Option R:=cU 49 0 0 (bF.mode 49) (todoOf Tryz.prog 49 8) [(1,.p x0),(3,.ptr 0 0),(5,.ptr 1 0),(7,.ptr 2 0),(43,.p x1),(44,.p x2),(45,.p x3)] ⟨[(0,some [.p x4,.p x5]),(1,some [.p x6,.p x7,.p x8,.p x9,.p x10,.p x11,.p x12,.p x13,.p x14,.p x15]),(2,some [.p x16])],[],0,0,3⟩
noncomputable def aCK (x0 x1 : PV) : Option R:=aN 51 [x0,x1]
noncomputable def bZ (x0 x1 x2 : PV) : Option R:=aN 57 [x0,x1,x2]
noncomputable def gG (x0 : PV) : Option R:=aN 70 [x0]
noncomputable def lN (x0 : PV) : Option R:=aN 71 [x0]
noncomputable def mT (x0 x1 : PV) : Option R:=cU 71 0 0 (bF.mode 71) (todoOf Tryz.prog 71 4) [(0,.p x0),(3,.p x1)] ⟨[],[],0,0,0⟩
noncomputable def dC (x0 x1 : PV) : Option R:=aN 72 [x0,x1]
noncomputable def wY (x0 : PV) : Option R:=aN 73 [x0]
noncomputable def dQ (x0 x1 : PV) : Option R:=aN 75 [x0,x1]
noncomputable def wZ (x0 x1 x2 : PV) : Option R:=aN 76 [x0,x1,x2]
noncomputable def tG (x0 x1 : PV) : Option R:=aN 79 [x0,x1]
noncomputable def mU (x0 x1 x2 x3 : PV) : Option R:=cU 79 0 0 (bF.mode 79) (todoOf Tryz.prog 79 24) [(2,.ptr 0 0),(3,.ptr 1 0)] ⟨[(0,some [.p x0,.p x1]),(1,some [.p x2,.p x3])],[],0,0,2⟩
noncomputable def xA (x0 x1 x2 x3 : PV) : Option R:=cU 79 0 0 (bF.mode 79) (todoOf Tryz.prog 79 25) [(2,.ptr 0 0),(3,.ptr 1 0)] ⟨[(0,some [.p x0,.p x1]),(1,some [.p x2,.p x3])],[],0,0,2⟩
noncomputable def kW (x0 x1 : PV) : Option R:=aN 80 [x0,x1]
noncomputable def fO (x0 x1 x2 x3 : PV) : Option R:=cU 80 0 0 (bF.mode 80) (todoOf Tryz.prog 80 2) [(0,.p x0),(1,.p x1),(7,.p x2),(8,.p x3)] ⟨[],[],0,0,0⟩
noncomputable def mJ (x0 x1 : PV) : Option R:=aN 81 [x0,x1]
noncomputable def eI (x0 x1 x2 x3 : PV) : Option R:=cU 81 0 0 (bF.mode 81) (todoOf Tryz.prog 81 2) [(0,.p x0),(1,.p x1),(7,.p x2),(8,.p x3)] ⟨[],[],0,0,0⟩
noncomputable def aAX (x0 x1 x2 : PV) : Option R:=aN 82 [x0,x1,x2]
noncomputable def yK (x0 : PV) : Option R:=aN 83 [x0]
noncomputable def aDx (x0 : PV) : Option R:=aN 84 [x0]
noncomputable def vU (x0 x1 x2 x3 x4 x5 x6 : PV) : Option R:=aN 87 [x0,x1,x2,x3,x4,x5,x6]
noncomputable def aBV (x0 x1 : PV) : Option R:=aN 88 [x0,x1]
noncomputable def mV (x0 x1 x2 x3 x4 x5 x6 x7 x8 x9 x10 x11 x12 x13 : PV) : Option R:=cU 88 0 0 (bF.mode 88) (todoOf Tryz.prog 88 5) [(2,.ptr 0 0),(3,.ptr 1 0),(5,.p x0),(6,.p x1)] ⟨[(0,some [.p x2,.p x3]),(1,some [.p x4,.p x5,.p x6,.p x7,.p x8,.p x9,.p x10,.p x11,.p x12,.p x13])],[],0,0,2⟩
noncomputable def iY (x0 x1 x2 x3 x4 x5 x6 x7 x8 x9 x10 x11 x12 x13 : PV) : Option R:=cU 88 0 0 (bF.mode 88) (todoOf Tryz.prog 88 10) [(2,.ptr 0 0),(3,.ptr 1 0),(5,.p x0),(7,.p x1)] ⟨[(0,some [.p x2,.p x3]),(1,some [.p x4,.p x5,.p x6,.p x7,.p x8,.p x9,.p x10,.p x11,.p x12,.p x13])],[],0,0,2⟩
noncomputable def cK (x0 x1 x2 x3 x4 x5 x6 x7 x8 x9 x10 x11 x12 x13 : PV) : Option R:=cU 88 0 0 (bF.mode 88) (todoOf Tryz.prog 88 21) [(2,.ptr 0 0),(3,.ptr 1 0),(5,.p x0),(8,.p x1)] ⟨[(0,some [.p x2,.p x3]),(1,some [.p x4,.p x5,.p x6,.p x7,.p x8,.p x9,.p x10,.p x11,.p x12,.p x13])],[],0,0,2⟩
noncomputable def iZ (x0 x1 : PV) : Option R:=aN 112 [x0,x1]
noncomputable def dD (x0 x1 x2 x3 : PV) : Option R:=cU 112 0 0 (bF.mode 112) (todoOf Tryz.prog 112 2) [(0,.p x0),(1,.p x1),(7,.p x2),(8,.p x3)] ⟨[],[],0,0,0⟩
noncomputable def nH (x0 : PV) : Option R:=aN 74 [x0]
noncomputable def nT (x0 x1 x2 : PV) : Option R:=cU 74 0 0 (bF.mode 74) (todoOf Tryz.prog 74 2) [(0,.p x0),(5,.p x1),(6,.p x2)] ⟨[],[],0,0,0⟩
noncomputable def gN (x0 x1 : PV) : Option R:=aN 113 [x0,x1]
noncomputable def cN (x0 x1 x2 x3 : PV) : Option R:=cU 113 0 0 (bF.mode 113) (todoOf Tryz.prog 113 2) [(0,.p x0),(1,.p x1),(7,.p x2),(8,.p x3)] ⟨[],[],0,0,0⟩
noncomputable def aAY (x0 x1 x2 : PV) : Option R:=aN 77 [x0,x1,x2]
noncomputable def fP (x0 x1 : PV) : Option R:=aN 115 [x0,x1]
noncomputable def aAy (x0 : PV) : Option R:=aN 116 [x0]
noncomputable def kX (x0 x1 x2 : PV) : Option R:=aN 117 [x0,x1,x2]
noncomputable def kF (x0 x1 x2 x3 x4 : PV) : Option R:=cU 117 0 0 (bF.mode 117) (todoOf Tryz.prog 117 2) [(1,.p x0),(2,.p x1),(3,.ptr 0 0),(7,.p x2)] ⟨[(0,some [.p x3,.p x4])],[],0,0,1⟩
noncomputable def qA (x0 x1 x2 x3 : PV) : Option R:=aN 118 [x0,x1,x2,x3]
noncomputable def kY (x0 : PV) : Option R:=aN 110 [x0]
noncomputable def gO (x0 x1 : PV) : Option R:=aN 138 [x0,x1]
noncomputable def cA (x0 x1 x2 x3 : PV) : Option R:=cU 138 0 0 (bF.mode 138) (todoOf Tryz.prog 138 2) [(0,.p x0),(1,.p x1),(7,.p x2),(8,.p x3)] ⟨[],[],0,0,0⟩
noncomputable def aAZ (x0 x1 : PV) : Option R:=cG 12 [.p x0,.p x1] ⟨[],[],0,0,0⟩
noncomputable def yL (x0 x1 : PV) : Option R:=aN 33 [x0,x1]
noncomputable def eP (x0 x1 : PV) : Option R:=aN 65 [x0,x1]
noncomputable def aAz (x0 x1 : PV) : Option R:=aN 66 [x0,x1]
noncomputable def fG (x0 x1 : PV) : Option R:=aN 109 [x0,x1]
noncomputable def bT (x0 x1 x2 x3 : PV) : Option R:=cU 109 0 0 (bF.mode 109) (todoOf Tryz.prog 109 2) [(0,.p x0),(1,.p x1),(7,.p x2),(8,.p x3)] ⟨[],[],0,0,0⟩
noncomputable def qT (x0 x1 x2 : PV) : Option R:=aN 67 [x0,x1,x2]
noncomputable def vV (x0 : PV) : Option R:=cG 19 [.p x0] ⟨[],[],0,0,0⟩
noncomputable def oP (x0 x1 x2 : PV) : Option R:=cG 20 [.ptr 0 0] ⟨[(0,some [.p x0,.p x1,.p x2])],[],0,0,1⟩
noncomputable def oQ (x0 x1 x2 x3 x4 : PV) : Option R:=cG 21 [.ptr 0 0,.agg [.p x0,.p x1]] ⟨[(0,some [.p x2,.p x3,.p x4])],[],0,0,1⟩
noncomputable def iP (x0 x1 x2 x3 x4 x5 x6 : PV) : Option R:=cU 21 1 0 (bF.mode 21) (todoOf Tryz.prog 21 3) [(0,.ptr 0 0),(3,.ptr 1 0),(5,.ref 0 []),(6,.p x0)] ⟨[(0,some [.p x1,.p x2,.p x3]),(1,some [.p x4,.p x5])],[(0,some ⟨(.own 3 32 true []),x6⟩)],0,0,3⟩
noncomputable def eQ (x0 : PV) : Option R:=aN 54 [x0]
noncomputable def fE (x0 : PV) : Option R:=aN 55 [x0]
noncomputable def aE (x0 x1 x2 x3 : PV) : Option R:=cG 22 [.ptr 0 0,.p x0] ⟨[(0,some [.p x1,.p x2,.p x3])],[],0,0,1⟩
noncomputable def fZ (x0 x1 x2 x3 x4 : PV) : Option R:=cU 22 1 0 (bF.mode 22) (todoOf Tryz.prog 22 9) [(0,.ptr 0 0),(1,.p x0),(5,.p x1)] ⟨[(0,some [.p x2,.p x3,.p x4])],[],0,0,1⟩
noncomputable def cL (x0 x1 x2 x3 : PV) : Option R:=cG 23 [.ptr 0 0,.p x0] ⟨[(0,some [.p x1,.p x2,.p x3])],[],0,0,1⟩
noncomputable def jX (x0 : PV) : Option R:=cG 30 [.p x0] ⟨[],[],0,0,0⟩
noncomputable def vW (x0 x1 x2 x3 x4 x5 x6 x7 x8 x9 x10 x11 : PV) : Option R:=cG 31 [.ptr 0 0,.agg [.p x0,.p x1]] ⟨[(0,some [.ref 0 [],.ref 1 [],.p x2,.ref 2 [],.p x3,.p x4,.p x5,.p x6,.p x7,.p x8])],[(0,some ⟨(.own 4 64 true [.leaf,.leaf,(.own 3 32 true []),(.own 3 32 true [])]),x9⟩),(1,some ⟨(.own 1 24 true [(.own 3 32 true [])]),x10⟩),(2,some ⟨(.own 1 16 false []),x11⟩)],0,0,4⟩
noncomputable def jJ (x0 : PV) : Option R:=cG 58 [.p x0] ⟨[],[],0,0,0⟩
noncomputable def mW (x0 x1 x2 x3 x4 x5 x6 x7 x8 x9 x10 x11 x12 x13 x14 x15 x16 x17 x18 x19 x20 x21 : PV) : Option R:=cU 58 0 0 (bF.mode 58) (todoOf Tryz.prog 58 3) [(1,.ptr 0 0),(2,.ptr 1 0),(3,.ref 3 []),(4,.p x0)] ⟨[(0,some [.p x1,.p x2,.p x3,.p x4,.p x5,.p x6,.p x7,.p x8,.p x9,.p x10]),(1,some [.ref 0 [],.ref 1 [],.p x11,.ref 2 [],.p x12,.p x13,.p x14,.p x15,.p x16,.p x17])],[(0,some ⟨(.own 4 64 true [.leaf,.leaf,(.own 3 32 true []),(.own 3 32 true [])]),x18⟩),(1,some ⟨(.own 1 24 true [(.own 3 32 true [])]),x19⟩),(2,some ⟨(.own 1 16 false []),x20⟩),(3,some ⟨(.own 4 64 true [.leaf,.leaf,(.own 3 32 true []),(.own 3 32 true [])]),x21⟩)],0,0,6⟩
noncomputable def dV (x0 x1 x2 x3 x4 x5 x6 x7 x8 x9 x10 x11 x12 : PV) : Option R:=cG 59 [.ptr 0 0] ⟨[(0,some [.p x0,.p x1,.ref 0 [],.ref 1 [],.p x2,.ref 2 [],.p x3,.p x4,.p x5,.p x6,.p x7,.p x8,.p x9])],[(0,some ⟨(.own 4 64 true [.leaf,.leaf,(.own 3 32 true []),(.own 3 32 true [])]),x10⟩),(1,some ⟨(.own 1 24 true [(.own 3 32 true [])]),x11⟩),(2,some ⟨(.own 1 16 false []),x12⟩)],0,0,4⟩
noncomputable def rX (x0 x1 x2 x3 x4 x5 x6 x7 x8 x9 x10 x11 x12 x13 x14 : PV) : Option R:=cG 60 [.ptr 0 0,.agg [.p x0,.p x1]] ⟨[(0,some [.p x2,.p x3,.ref 0 [],.ref 1 [],.p x4,.ref 2 [],.p x5,.p x6,.p x7,.p x8,.p x9,.p x10,.p x11])],[(0,some ⟨(.own 4 64 true [.leaf,.leaf,(.own 3 32 true []),(.own 3 32 true [])]),x12⟩),(1,some ⟨(.own 1 24 true [(.own 3 32 true [])]),x13⟩),(2,some ⟨(.own 1 16 false []),x14⟩)],0,0,4⟩
noncomputable def mZ (x0 x1 x2 : PV) : Option R:=aN 96 [x0,x1,x2]
noncomputable def aA0 (x0 : PV) : Option R:=aN 97 [x0]
noncomputable def rY (x0 x1 : PV) : Option R:=aN 99 [x0,x1]
noncomputable def aA1 (x0 x1 : PV) : Option R:=aN 124 [x0,x1]
noncomputable def aAA (x0 x1 x2 x3 x4 x5 x6 x7 x8 : PV) : Option R:=cU 124 0 0 (bF.mode 124) (todoOf Tryz.prog 124 2) [(2,.ptr 0 0),(3,.ptr 1 0),(4,.ptr 2 0)] ⟨[(0,some [.p x0,.p x1,.p x2]),(1,some [.p x3,.p x4,.p x5]),(2,some [.p x6,.p x7,.p x8])],[],0,0,3⟩
noncomputable def aA2 (x0 x1 : PV) : Option R:=aN 125 [x0,x1]
noncomputable def aA3 (x0 x1 : PV) : Option R:=aN 126 [x0,x1]
noncomputable def yM (x0 x1 : PV) : Option R:=aN 127 [x0,x1]
noncomputable def yN (x0 x1 x2 x3 x4 x5 x6 x7 x8 : PV) : Option R:=cU 127 0 0 (bF.mode 127) (todoOf Tryz.prog 127 2) [(2,.ptr 0 0),(3,.ptr 1 0),(4,.ptr 2 0)] ⟨[(0,some [.p x0,.p x1,.p x2]),(1,some [.p x3,.p x4,.p x5]),(2,some [.p x6,.p x7,.p x8])],[],0,0,3⟩
noncomputable def nU (x0 x1 x2 x3 x4 x5 x6 x7 x8 : PV) : Option R:=cU 127 0 0 (bF.mode 127) (todoOf Tryz.prog 127 3) [(2,.ptr 0 0),(3,.ptr 1 0),(4,.ptr 2 0)] ⟨[(0,some [.p x0,.p x1,.p x2]),(1,some [.p x3,.p x4,.p x5]),(2,some [.p x6,.p x7,.p x8])],[],0,0,3⟩
noncomputable def yO (x0 x1 x2 x3 x4 x5 x6 x7 x8 : PV) : Option R:=cU 127 0 0 (bF.mode 127) (todoOf Tryz.prog 127 4) [(2,.ptr 0 0),(3,.ptr 1 0),(4,.ptr 2 0)] ⟨[(0,some [.p x0,.p x1,.p x2]),(1,some [.p x3,.p x4,.p x5]),(2,some [.p x6,.p x7,.p x8])],[],0,0,3⟩
noncomputable def yP (x0 x1 : PV) : Option R:=aN 128 [x0,x1]
noncomputable def eA (x0 : PV) : Option R:=aN 129 [x0]
noncomputable def hJ (x0 x1 x2 : PV) : Option R:=aN 142 [x0,x1,x2]
noncomputable def uB (x0 x1 x2 : PV) : Option R:=aN 152 [x0,x1,x2]
noncomputable def jY (x0 x1 : PV) : Option R:=cG 78 [.p x0,.p x1] ⟨[],[],0,0,0⟩
noncomputable def mK (x0 x1 : PV) : Option R:=cU 78 0 0 (bF.mode 78) (todoOf Tryz.prog 78 3) [(0,.p x0),(1,.p x1)] ⟨[],[],0,0,0⟩
noncomputable def mL (x0 x1 : PV) : Option R:=cU 78 0 0 (bF.mode 78) (todoOf Tryz.prog 78 6) [(0,.p x0),(6,.p x1)] ⟨[],[],0,0,0⟩
noncomputable def fF (x0 x1 : PV) : Option R:=cU 78 0 0 (bF.mode 78) (todoOf Tryz.prog 78 8) [(7,.ref 0 []),(8,.p x0)] ⟨[],[(0,some ⟨(.own 1 8 false []),x1⟩)],0,0,1⟩
noncomputable def aAB (x0 x1 : PV) : Option R:=aN 114 [x0,x1]
noncomputable def xB (x0 x1 : PV) : Option R:=aN 137 [x0,x1]
noncomputable def rZ (x0 x1 x2 x3 x4 x5 x6 x7 x8 x9 x10 x11 x12 x13 x14 x15 x16 x17 x18 x19 x20 x21 x22 : PV) : Option R:=cG 85 [.agg [.p x0,.p x1,.p x2,.p x3,.p x4,.p x5,.p x6,.p x7,.p x8,.p x9],.fn 86 [.ptr 0 0,.ptr 1 0,.ptr 2 0]] ⟨[(0,some [.p x10]),(1,some [.p x11,.p x12]),(2,some [.p x13,.p x14,.p x15,.p x16,.p x17,.p x18,.p x19,.p x20,.p x21,.p x22])],[],0,0,3⟩
noncomputable def iB (x0 x1 x2 x3 x4 x5 x6 x7 x8 x9 x10 x11 x12 x13 x14 x15 x16 x17 x18 x19 x20 x21 x22 x23 x24 x25 : PV) : Option R:=cU 85 3 0 (bF.mode 85) (todoOf Tryz.prog 85 2) [(1,.fn 86 [.ptr 0 0,.ptr 1 0,.ptr 2 0]),(2,.ptr 3 0),(13,.p x0),(14,.p x1),(15,.p x2)] ⟨[(0,some [.p x3]),(1,some [.p x4,.p x5]),(2,some [.p x6,.p x7,.p x8,.p x9,.p x10,.p x11,.p x12,.p x13,.p x14,.p x15]),(3,some [.p x16,.p x17,.p x18,.p x19,.p x20,.p x21,.p x22,.p x23,.p x24,.p x25])],[],0,0,4⟩
noncomputable def iC (x0 x1 x2 x3 x4 x5 x6 x7 x8 x9 x10 x11 x12 x13 x14 x15 x16 x17 x18 x19 x20 x21 x22 x23 x24 x25 x26 x27 x28 : PV) : Option R:=cU 85 3 0 (bF.mode 85) (todoOf Tryz.prog 85 5) [(1,.fn 86 [.ptr 0 0,.ptr 1 0,.ptr 2 0]),(2,.ptr 3 0),(13,.p x0),(14,.p x1),(15,.p x2),(24,.ref 0 []),(25,.p x3),(26,.p x4)] ⟨[(0,some [.p x5]),(1,some [.p x6,.p x7]),(2,some [.p x8,.p x9,.p x10,.p x11,.p x12,.p x13,.p x14,.p x15,.p x16,.p x17]),(3,some [.p x18,.p x19,.p x20,.p x21,.p x22,.p x23,.p x24,.p x25,.p x26,.p x27])],[(0,some ⟨(.own 3 32 true []),x28⟩)],0,0,5⟩
noncomputable def fC (x0 x1 x2 x3 x4 x5 x6 x7 x8 x9 x10 x11 x12 x13 x14 x15 x16 x17 x18 x19 x20 x21 x22 x23 x24 x25 : PV) : Option R:=cU 85 3 0 (bF.mode 85) (todoOf Tryz.prog 85 11) [(1,.fn 86 [.ptr 0 0,.ptr 1 0,.ptr 2 0]),(2,.ptr 3 0),(36,.p x0),(37,.p x1),(38,.p x2)] ⟨[(0,some [.p x3]),(1,some [.p x4,.p x5]),(2,some [.p x6,.p x7,.p x8,.p x9,.p x10,.p x11,.p x12,.p x13,.p x14,.p x15]),(3,some [.p x16,.p x17,.p x18,.p x19,.p x20,.p x21,.p x22,.p x23,.p x24,.p x25])],[],0,0,4⟩
noncomputable def gP (x0 x1 x2 x3 x4 x5 x6 x7 x8 x9 x10 x11 x12 x13 x14 x15 x16 x17 x18 x19 x20 x21 x22 x23 x24 x25 x26 x27 x28 : PV) : Option R:=cU 85 3 0 (bF.mode 85) (todoOf Tryz.prog 85 14) [(1,.fn 86 [.ptr 0 0,.ptr 1 0,.ptr 2 0]),(2,.ptr 3 0),(36,.p x0),(37,.p x1),(38,.p x2),(43,.p x3),(44,.p x4),(45,.p x5)] ⟨[(0,some [.p x6]),(1,some [.p x7,.p x8]),(2,some [.p x9,.p x10,.p x11,.p x12,.p x13,.p x14,.p x15,.p x16,.p x17,.p x18]),(3,some [.p x19,.p x20,.p x21,.p x22,.p x23,.p x24,.p x25,.p x26,.p x27,.p x28])],[],0,0,4⟩
noncomputable def qU (x0 x1 x2 : PV) : Option R:=cG 34 [.p x0,.p x1,.p x2] ⟨[],[],0,0,0⟩
noncomputable def qB (x0 x1 x2 x3 : PV) : Option R:=cG 52 [.ptr 0 0,.p x0] ⟨[(0,some [.p x1,.p x2,.p x3])],[],0,0,1⟩
noncomputable def oR (x0 x1 x2 : PV) : Option R:=cG 53 [.ptr 0 0] ⟨[(0,some [.p x0,.p x1,.p x2])],[],0,0,1⟩
noncomputable def iD (x0 x1 x2 : PV) : Option R:=cG 56 [.ptr 0 0] ⟨[(0,some [.p x0,.p x1,.p x2])],[],0,0,1⟩
noncomputable def qC (x0 : PV) : Option R:=cG 61 [.p x0] ⟨[],[],0,0,0⟩
noncomputable def jK (x0 x1 x2 x3 : PV) : Option R:=cU 61 0 0 (bF.mode 61) (todoOf Tryz.prog 61 3) [(3,.ref 0 []),(7,.p x0),(8,.p x1),(9,.p x2)] ⟨[],[(0,some ⟨(.own 4 64 true [.leaf,.leaf,(.own 3 32 true []),(.own 3 32 true [])]),x3⟩)],0,0,1⟩
noncomputable def uC (x0 : PV) : Option R:=cG 62 [.p x0] ⟨[],[],0,0,0⟩
noncomputable def lO (x0 x1 x2 x3 : PV) : Option R:=cU 62 0 0 (bF.mode 62) (todoOf Tryz.prog 62 3) [(3,.ref 0 []),(7,.p x0),(8,.p x1),(9,.p x2)] ⟨[],[(0,some ⟨(.own 1 24 true [(.own 3 32 true [])]),x3⟩)],0,0,1⟩
noncomputable def gQ (x0 : PV) : Option R:=cG 63 [.p x0] ⟨[],[],0,0,0⟩
noncomputable def aA4 (x0 x1 x2 x3 x4 x5 x6 x7 x8 x9 x10 x11 : PV) : Option R:=cG 64 [.ptr 0 0,.agg [.p x0,.p x1]] ⟨[(0,some [.ref 0 [],.ref 1 [],.p x2,.ref 2 [],.p x3,.p x4,.p x5,.p x6,.p x7,.p x8])],[(0,some ⟨(.own 4 64 true [.leaf,.leaf,(.own 3 32 true []),(.own 3 32 true [])]),x9⟩),(1,some ⟨(.own 1 24 true [(.own 3 32 true [])]),x10⟩),(2,some ⟨(.own 1 16 false []),x11⟩)],0,0,4⟩
noncomputable def jA (x0 x1 x2 x3 x4 x5 x6 x7 x8 x9 x10 x11 x12 x13 x14 x15 x16 : PV) : Option R:=cU 64 1 0 (bF.mode 64) (todoOf Tryz.prog 64 74) [(0,.ptr 0 0),(3,.ptr 1 0),(5,.eptr 0 [] x0 0),(9,.p x1),(10,.ref 3 []),(12,.p x2),(21,.p x3)] ⟨[(0,some [.ref 0 [],.ref 1 [],.p x4,.ref 2 [],.p x5,.p x6,.p x7,.p x8,.p x9,.p x10]),(1,some [.p x11,.p x12])],[(0,some ⟨(.own 4 64 true [.leaf,.leaf,(.own 3 32 true []),(.own 3 32 true [])]),x13⟩),(1,some ⟨(.own 1 24 true [(.own 3 32 true [])]),x14⟩),(2,some ⟨(.own 1 16 false []),x15⟩),(3,some ⟨(.own 3 32 true []),x16⟩)],0,0,6⟩
noncomputable def vX (x0 : PV) : Option R:=aN 101 [x0]
noncomputable def kZ (x0 : PV) : Option R:=aN 102 [x0]
noncomputable def hU (x0 : PV) : Option R:=aN 103 [x0]
noncomputable def yQ (x0 x1 : PV) : Option R:=aN 104 [x0,x1]
noncomputable def aA5 (x0 : PV) : Option R:=aN 105 [x0]
noncomputable def sA (x0 x1 : PV) : Option R:=aN 108 [x0,x1]
noncomputable def aA6 (x0 x1 : PV) : Option R:=aN 130 [x0,x1]
noncomputable def aA7 (x0 x1 : PV) : Option R:=aN 131 [x0,x1]
noncomputable def aA8 (x0 x1 : PV) : Option R:=aN 132 [x0,x1]
noncomputable def yR (x0 x1 : PV) : Option R:=aN 133 [x0,x1]
noncomputable def strconv_Itoa (x0 : PV) : Option R:=aN 134 [x0]
noncomputable def nB (x0 : PV) : Option R:=aN 135 [x0]
noncomputable def rI (x0 x1 x2 : PV) : Option R:=aN 143 [x0,x1,x2]
noncomputable def nV (x0 x1 x2 : PV) : Option R:=aN 144 [x0,x1,x2]
noncomputable def vY (x0 x1 : PV) : Option R:=aN 145 [x0,x1]
noncomputable def vZ (x0 x1 : PV) : Option R:=aN 146 [x0,x1]
noncomputable def wA (x0 x1 : PV) : Option R:=aN 147 [x0,x1]
noncomputable def qD (x0 x1 : PV) : Option R:=aN 148 [x0,x1]
noncomputable def kG (x0 : PV) : Option R:=aN 150 [x0]
noncomputable def lP (x0 : PV) : Option R:=aN 153 [x0]
noncomputable def nW (x0 : PV) : Option R:=cG 92 [.p x0] ⟨[],[],0,0,0⟩
noncomputable def oS (x0 : PV) : Option R:=cG 93 [.p x0] ⟨[],[],0,0,0⟩
noncomputable def iQ (x0 x1 x2 : PV) : Option R:=cU 93 0 0 (bF.mode 93) (todoOf Tryz.prog 93 3) [(0,.p x0),(3,.ref 0 []),(4,.p x1)] ⟨[],[(0,some ⟨(.own 1 24 true [(.own 3 32 true [])]),x2⟩)],0,0,1⟩
noncomputable def gK (x0 x1 x2 x3 x4 x5 x6 x7 x8 x9 x10 x11 x12 x13 : PV) : Option R:=cG 94 [.ptr 0 0,.p x0] ⟨[(0,some [.p x1,.p x2,.ref 0 [],.ref 1 [],.p x3,.ref 2 [],.p x4,.p x5,.p x6,.p x7,.p x8,.p x9,.p x10])],[(0,some ⟨(.own 4 64 true [.leaf,.leaf,(.own 3 32 true []),(.own 3 32 true [])]),x11⟩),(1,some ⟨(.own 1 24 true [(.own 3 32 true [])]),x12⟩),(2,some ⟨(.own 1 16 false []),x13⟩)],0,0,4⟩
noncomputable def bH (x0 x1 x2 x3 x4 x5 x6 x7 x8 x9 x10 x11 x12 x13 x14 x15 : PV) : Option R:=cG 94 [.ptr 0 0,.agg [.p x0,.p x1,.p x2]] ⟨[(0,some [.p x3,.p x4,.ref 0 [],.ref 1 [],.p x5,.ref 2 [],.p x6,.p x7,.p x8,.p x9,.p x10,.p x11,.p x12])],[(0,some ⟨(.own 4 64 true [.leaf,.leaf,(.own 3 32 true []),(.own 3 32 true [])]),x13⟩),(1,some ⟨(.own 1 24 true [(.own 3 32 true [])]),x14⟩),(2,some ⟨(.own 1 16 false []),x15⟩)],0,0,4⟩
noncomputable def aX (x0 x1 x2 x3 x4 x5 x6 x7 x8 x9 x10 x11 x12 : PV) : Option R:=cG 95 [.ptr 0 0] ⟨[(0,some [.p x0,.p x1,.ref 0 [],.ref 1 [],.p x2,.ref 2 [],.p x3,.p x4,.p x5,.p x6,.p x7,.p x8,.p x9])],[(0,some ⟨(.own 4 64 true [.leaf,.leaf,(.own 3 32 true []),(.own 3 32 true [])]),x10⟩),(1,some ⟨(.own 1 24 true [(.own 3 32 true [])]),x11⟩),(2,some ⟨(.own 1 16 false []),x12⟩)],0,0,4⟩
noncomputable def lQ (x0 x1 x2 x3 x4 x5 x6 x7 x8 x9 x10 x11 x12 x13 x14 : PV) : Option R:=cG 98 [.ptr 0 0,.p x0,.p x1] ⟨[(0,some [.p x2,.p x3,.ref 0 [],.ref 1 [],.p x4,.ref 2 [],.p x5,.p x6,.p x7,.p x8,.p x9,.p x10,.p x11])],[(0,some ⟨(.own 4 64 true [.leaf,.leaf,(.own 3 32 true []),(.own 3 32 true [])]),x12⟩),(1,some ⟨(.own 1 24 true [(.own 3 32 true [])]),x13⟩),(2,some ⟨(.own 1 16 false []),x14⟩)],0,0,4⟩
noncomputable def iR (x0 x1 x2 x3 x4 x5 x6 x7 x8 x9 x10 x11 x12 x13 x14 x15 x16 : PV) : Option R:=cU 98 1 0 (bF.mode 98) (todoOf Tryz.prog 98 5) [(0,.ptr 0 0),(1,.p x0),(2,.p x1),(7,.ref 3 []),(8,.p x2)] ⟨[(0,some [.p x3,.p x4,.ref 0 [],.ref 1 [],.p x5,.ref 2 [],.p x6,.p x7,.p x8,.p x9,.p x10,.p x11,.p x12])],[(0,some ⟨(.own 4 64 true [.leaf,.leaf,(.own 3 32 true []),(.own 3 32 true [])]),x13⟩),(1,some ⟨(.own 1 24 true [(.own 3 32 true [])]),x14⟩),(2,some ⟨(.own 1 16 false []),x15⟩),(3,some ⟨(.own 3 32 true []),x16⟩)],0,0,5⟩
noncomputable def iE (x0 x1 x2 x3 x4 x5 x6 x7 x8 x9 x10 x11 x12 x13 x14 : PV) : Option R:=cU 98 1 0 (bF.mode 98) (todoOf Tryz.prog 98 10) [(0,.ptr 0 0),(1,.p x0),(7,.ref 3 [])] ⟨[(0,some [.p x1,.p x2,.ref 0 [],.ref 1 [],.p x3,.ref 2 [],.p x4,.p x5,.p x6,.p x7,.p x8,.p x9,.p x10])],[(0,some ⟨(.own 4 64 true [.leaf,.leaf,(.own 3 32 true []),(.own 3 32 true [])]),x11⟩),(1,some ⟨(.own 1 24 true [(.own 3 32 true [])]),x12⟩),(2,some ⟨(.own 1 16 false []),x13⟩),(3,some ⟨(.own 3 32 true []),x14⟩)],0,0,5⟩
noncomputable def cV (x0 : PV) : Option R:=cG 68 [.p x0] ⟨[],[],0,0,0⟩
noncomputable def bP (x0 x1 x2 x3 x4 : PV) : Option R:=cU 68 0 0 (bF.mode 68) (todoOf Tryz.prog 68 3) [(0,.p x0),(3,.p x1),(9,.p x2),(10,.p x3),(11,.p x4)] ⟨[],[],0,0,0⟩
noncomputable def bO (x0 x1 x2 x3 : PV) : Option R:=cU 68 0 0 (bF.mode 68) (todoOf Tryz.prog 68 11) [(6,.ref 0 []),(25,.p x0),(26,.p x1),(27,.p x2)] ⟨[],[(0,some ⟨(.own 3 32 true []),x3⟩)],0,0,1⟩
noncomputable def pK (x0 x1 x2 x3 x4 x5 x6 x7 x8 x9 x10 x11 x12 x13 x14 x15 : PV) : Option R:=cG 86 [.agg [.p x0,.p x1,.p x2],.ptr 0 0,.ptr 1 0,.ptr 2 0] ⟨[(0,some [.p x3]),(1,some [.p x4,.p x5]),(2,some [.p x6,.p x7,.p x8,.p x9,.p x10,.p x11,.p x12,.p x13,.p x14,.p x15])],[],0,0,3⟩
noncomputable def zQ (x0 : PV) : Option R:=cG 69 [.p x0] ⟨[],[],0,0,0⟩
noncomputable def jL (x0 x1 x2 : PV) : Option R:=cG 89 [.ptr 0 0] ⟨[(0,some [.p x0,.p x1,.p x2])],[],0,0,1⟩
noncomputable def gU (x0 x1 x2 x3 x4 x5 x6 x7 : PV) : Option R:=cU 89 1 0 (bF.mode 89) (todoOf Tryz.prog 89 3) [(0,.ptr 0 0),(2,.ptr 1 0),(3,.ptr 2 0),(4,.p x0)] ⟨[(0,some [.p x1,.p x2,.p x3]),(1,some [.ref 0 [],.ref 1 []]),(2,some [.ref 2 [],.ref 3 []])],[(0,some ⟨(.own 1 16 false []),x4⟩),(1,some ⟨(.own 3 40 true []),x5⟩),(2,some ⟨(.own 1 16 false []),x6⟩),(3,some ⟨(.own 3 40 true []),x7⟩)],0,0,7⟩
noncomputable def eS (x0 x1 x2 x3 x4 x5 x6 x7 x8 : PV) : Option R:=cU 89 1 0 (bF.mode 89) (todoOf Tryz.prog 89 8) [(0,.ptr 0 0),(2,.ptr 1 0),(3,.ptr 2 0),(5,.ref 4 []),(6,.p x0)] ⟨[(0,some [.p x1,.p x2,.p x3]),(1,some [.ref 0 [],.ref 1 []]),(2,some [.ref 2 [],.ref 3 []])],[(0,some ⟨(.own 1 16 false []),x4⟩),(1,some ⟨(.own 3 40 true []),x5⟩),(2,some ⟨(.own 1 16 false []),x6⟩),(3,some ⟨(.own 3 40 true []),x7⟩),(4,some ⟨(.own 3 40 true []),x8⟩)],0,0,8⟩
noncomputable def gE (x0 x1 x2 x3 x4 x5 x6 x7 x8 x9 x10 x11 x12 x13 x14 x15 x16 : PV) : Option R:=cU 89 1 0 (bF.mode 89) (todoOf Tryz.prog 89 15) [(0,.ptr 0 0),(2,.ptr 1 0),(3,.ptr 2 0),(5,.ref 4 []),(6,.p x0),(7,.ptr 3 0),(8,.ptr 4 0)] ⟨[(0,some [.p x1,.p x2,.p x3]),(1,some [.ref 0 [],.ref 1 []]),(2,some [.ref 2 [],.ref 3 []]),(3,some [.p x4,.p x5,.ref 5 []]),(4,some [.ptr 0 0,.ref 6 [],.p x6,.p x7,.p x8,.p x9])],[(0,some ⟨(.own 1 16 false []),x10⟩),(1,some ⟨(.own 3 40 true []),x11⟩),(2,some ⟨(.own 1 16 false []),x12⟩),(3,some ⟨(.own 3 40 true []),x13⟩),(4,some ⟨(.own 3 40 true []),x14⟩),(5,some ⟨(.own 2 16 true []),x15⟩),(6,some ⟨(.own 2 16 true []),x16⟩)],0,0,12⟩
noncomputable def uD (x0 x1 x2 x3 x4 : PV) : Option R:=cG 90 [.ptr 0 0,.agg [.p x0,.p x1]] ⟨[(0,some [.p x2,.p x3,.p x4])],[],0,0,1⟩
noncomputable def kH (x0 x1 x2 x3 x4 x5 x6 : PV) : Option R:=cU 90 1 0 (bF.mode 90) (todoOf Tryz.prog 90 21) [(0,.ptr 0 0),(4,.ptr 1 0),(5,.ptr 2 0)] ⟨[(0,some [.p x0,.p x1,.p x2]),(1,some [.ref 0 [],.ref 1 []]),(2,some [.ref 2 [],.ref 3 []])],[(0,some ⟨(.own 1 16 false []),x3⟩),(1,some ⟨(.own 3 40 true [.leaf,.leaf,(.own 2 16 true [])]),x4⟩),(2,some ⟨(.own 1 16 false []),x5⟩),(3,some ⟨(.own 3 40 true [.leaf,.leaf,(.own 2 16 true [])]),x6⟩)],0,0,7⟩
noncomputable def lR (x0 x1 x2 x3 x4 x5 x6 x7 x8 x9 : PV) : Option R:=cU 90 1 0 (bF.mode 90) (todoOf Tryz.prog 90 6) [(0,.ptr 0 0),(4,.ptr 1 0),(5,.ptr 2 0),(6,.p x0),(8,.ptr 3 0)] ⟨[(0,some [.p x1,.p x2,.p x3]),(1,some [.ref 0 [],.ref 1 []]),(2,some [.ref 2 [],.ref 3 []]),(3,some [.p x4,.p x5])],[(0,some ⟨(.own 1 16 false []),x6⟩),(1,some ⟨(.own 3 40 true [.leaf,.leaf,(.own 2 16 true [])]),x7⟩),(2,some ⟨(.own 1 16 false []),x8⟩),(3,some ⟨(.own 3 40 true [.leaf,.leaf,(.own 2 16 true [])]),x9⟩)],0,0,8⟩
noncomputable def eF (x0 x1 x2 : PV) : Option R:=cG 91 [.ptr 0 0] ⟨[(0,some [.p x0,.p x1,.p x2])],[],0,0,1⟩
noncomputable def bW (x0 : PV) : Option R:=cG 100 [.p x0] ⟨[],[],0,0,0⟩
noncomputable def pE (x0 x1 x2 x3 x4 x5 x6 x7 x8 x9 x10 x11 : PV) : Option R:=cG 106 [.ptr 0 0,.p x0,.p x1] ⟨[(0,some [.ref 0 [],.ref 1 [],.p x2,.ref 2 [],.p x3,.p x4,.p x5,.p x6,.p x7,.p x8])],[(0,some ⟨(.own 4 64 true [.leaf,.leaf,(.own 3 32 true []),(.own 3 32 true [])]),x9⟩),(1,some ⟨(.own 1 24 true [(.own 3 32 true [])]),x10⟩),(2,some ⟨(.own 1 16 false []),x11⟩)],0,0,4⟩
noncomputable def sB (x0 x1 x2 x3 x4 x5 x6 x7 x8 x9 x10 : PV) : Option R:=cG 107 [.ptr 0 0,.p x0] ⟨[(0,some [.ref 0 [],.ref 1 [],.p x1,.ref 2 [],.p x2,.p x3,.p x4,.p x5,.p x6,.p x7])],[(0,some ⟨(.own 4 64 true [.leaf,.leaf,(.own 3 32 true []),(.own 3 32 true [])]),x8⟩),(1,some ⟨(.own 1 24 true [(.own 3 32 true [])]),x9⟩),(2,some ⟨(.own 1 16 false []),x10⟩)],0,0,4⟩
noncomputable def eJ (x0 : PV) : Option R:=cG 111 [.nils,.p x0] ⟨[],[],0,0,0⟩
noncomputable def fD (x0 x1 x2 x3 x4 x5 x6 x7 x8 x9 : PV) : Option R:=cG 119 [.ptr 0 0,.p x0,.p x1] ⟨[(0,some [.ptr 1 0,.ref 0 [],.p x2,.p x3,.p x4,.p x5]),(1,some [.p x6,.p x7,.p x8])],[(0,some ⟨(.own 2 16 true []),x9⟩)],0,0,3⟩
noncomputable def eN (x0 x1 x2 x3 x4 x5 x6 x7 x8 x9 : PV) : Option R:=cU 119 2 0 (bF.mode 119) (todoOf Tryz.prog 119 1) [(0,.ptr 0 0),(1,.p x0),(6,.p x1)] ⟨[(0,some [.ptr 1 0,.ref 0 [],.p x2,.p x3,.p x4,.p x5]),(1,some [.p x6,.p x7,.p x8])],[(0,some ⟨(.own 2 16 true []),x9⟩)],0,0,3⟩
noncomputable def oT (x0 x1 x2 x3 : PV) : Option R:=cG 122 [.ptr 0 0,.p x0] ⟨[(0,some [.p x1,.p x2,.p x3])],[],0,0,1⟩
noncomputable def aO (x0 x1 x2 x3 x4 x5 x6 x7 x8 : PV) : Option R:=cG 120 [.ptr 0 0,.p x0] ⟨[(0,some [.ptr 1 0,.ref 0 [],.p x1,.p x2,.p x3,.p x4]),(1,some [.p x5,.p x6,.p x7])],[(0,some ⟨(.own 2 16 true []),x8⟩)],0,0,3⟩
noncomputable def fH (x0 x1 x2 x3 x4 x5 x6 x7 : PV) : Option R:=cU 120 2 0 (bF.mode 120) (todoOf Tryz.prog 120 2) [(0,.ptr 0 0),(4,.ptr 1 0)] ⟨[(0,some [.ptr 1 0,.ref 0 [],.p x0,.p x1,.p x2,.p x3]),(1,some [.p x4,.p x5,.p x6])],[(0,some ⟨(.own 2 16 true []),x7⟩)],0,0,3⟩
noncomputable def cP (x0 x1 x2 x3 x4 x5 x6 x7 x8 x9 x10 : PV) : Option R:=cU 120 2 0 (bF.mode 120) (todoOf Tryz.prog 120 38) [(0,.ptr 0 0),(1,.p x0),(5,.p x1),(6,.p x2)] ⟨[(0,some [.ptr 1 0,.ref 0 [],.p x3,.p x4,.p x5,.p x6]),(1,some [.p x7,.p x8,.p x9])],[(0,some ⟨(.own 2 16 true []),x10⟩)],0,0,3⟩
noncomputable def eT (x0 x1 x2 x3 x4 x5 x6 x7 x8 x9 : PV) : Option R:=cU 120 2 0 (bF.mode 120) (todoOf Tryz.prog 120 50) [(0,.ptr 0 0),(1,.p x0),(7,.p x1)] ⟨[(0,some [.ptr 1 0,.ref 0 [],.p x2,.p x3,.p x4,.p x5]),(1,some [.p x6,.p x7,.p x8])],[(0,some ⟨(.own 2 16 true []),x9⟩)],0,0,3⟩
noncomputable def dX (x0 x1 x2 x3 x4 x5 x6 x7 x8 x9 x10 : PV) : Option R:=cU 120 2 0 (bF.mode 120) (todoOf Tryz.prog 120 51) [(0,.ptr 0 0),(1,.p x0),(7,.p x1),(8,.p x2)] ⟨[(0,some [.ptr 1 0,.ref 0 [],.p x3,.p x4,.p x5,.p x6]),(1,some [.p x7,.p x8,.p x9])],[(0,some ⟨(.own 2 16 true []),x10⟩)],0,0,3⟩
noncomputable def aI (x0 x1 x2 x3 x4 x5 x6 x7 x8 x9 : PV) : Option R:=cG 121 [.ptr 0 0,.p x0,.p x1] ⟨[(0,some [.ptr 1 0,.ref 0 [],.p x2,.p x3,.p x4,.p x5]),(1,some [.p x6,.p x7,.p x8])],[(0,some ⟨(.own 2 16 true []),x9⟩)],0,0,3⟩
noncomputable def nC (x0 : PV) : Option R:=cG 123 [.p x0] ⟨[],[],0,0,0⟩
noncomputable def gV (x0 x1 x2 x3 x4 x5 x6 : PV) : Option R:=cU 123 0 0 (bF.mode 123) (todoOf Tryz.prog 123 3) [(1,.ptr 0 0),(2,.ptr 1 0),(3,.ptr 2 0),(4,.p x0)] ⟨[(0,some [.p x1,.p x2]),(1,some [.ref 0 [],.ref 1 []]),(2,some [.ref 2 [],.ref 3 []])],[(0,some ⟨(.own 1 16 false []),x3⟩),(1,some ⟨(.own 3 40 true [.leaf,.leaf,(.own 2 16 true [])]),x4⟩),(2,some ⟨(.own 1 16 false []),x5⟩),(3,some ⟨(.own 3 40 true [.leaf,.leaf,(.own 2 16 true [])]),x6⟩)],0,0,7⟩
noncomputable def jB (x0 x1 x2 x3 x4 x5 x6 x7 x8 : PV) : Option R:=cG 139 [.ptr 0 0,.p x0] ⟨[(0,some [.ptr 1 0,.ref 0 [],.p x1,.p x2,.p x3,.p x4]),(1,some [.p x5,.p x6,.p x7])],[(0,some ⟨(.own 2 16 true []),x8⟩)],0,0,3⟩
noncomputable def gA (x0 x1 x2 x3 x4 x5 x6 x7 x8 x9 : PV) : Option R:=cU 139 2 0 (bF.mode 139) (todoOf Tryz.prog 139 7) [(0,.ptr 0 0),(1,.p x0),(4,.ptr 1 0),(6,.p x1)] ⟨[(0,some [.ptr 1 0,.ref 0 [],.p x2,.p x3,.p x4,.p x5]),(1,some [.p x6,.p x7,.p x8])],[(0,some ⟨(.own 2 16 true []),x9⟩)],0,0,3⟩
noncomputable def gR (x0 x1 x2 x3 x4 x5 x6 x7 x8 : PV) : Option R:=cG 140 [.ptr 0 0,.p x0] ⟨[(0,some [.ptr 1 0,.ref 0 [],.p x1,.p x2,.p x3,.p x4]),(1,some [.p x5,.p x6,.p x7])],[(0,some ⟨(.own 2 16 true []),x8⟩)],0,0,3⟩
noncomputable def dY (x0 x1 x2 x3 x4 x5 x6 x7 x8 x9 x10 : PV) : Option R:=cU 140 2 0 (bF.mode 140) (todoOf Tryz.prog 140 3) [(0,.ptr 0 0),(1,.p x0),(4,.p x1),(5,.p x2)] ⟨[(0,some [.ptr 1 0,.ref 0 [],.p x3,.p x4,.p x5,.p x6]),(1,some [.p x7,.p x8,.p x9])],[(0,some ⟨(.own 2 16 true []),x10⟩)],0,0,3⟩
noncomputable def jM (x0 x1 x2 x3 x4 x5 x6 x7 x8 : PV) : Option R:=cG 141 [.ptr 0 0,.p x0] ⟨[(0,some [.ptr 1 0,.ref 0 [],.p x1,.p x2,.p x3,.p x4]),(1,some [.p x5,.p x6,.p x7])],[(0,some ⟨(.own 2 16 true []),x8⟩)],0,0,3⟩
noncomputable def lS (x0 x1 x2 x3 x4 x5 x6 x7 : PV) : Option R:=cG 151 [.ptr 0 0] ⟨[(0,some [.ptr 1 0,.ref 0 [],.p x0,.p x1,.p x2,.p x3]),(1,some [.p x4,.p x5,.p x6])],[(0,some ⟨(.own 2 16 true []),x7⟩)],0,0,3⟩
end Go.Proofs.YtjgleeamiclokaaGreatDoor
namespace Go.Proofs.YtjgleeamiclokaaGreatDoor
open Go
theorem aBW (x0 : PV) : yJ x0 =
 bd (aEW x0) fun r0=>
 PV.ite (hd r0)
 (some [.bool true])
 (bd (vR x0) fun r1=>
 bd (PV.comp (hd r1) 0) fun v2=>
 bd (PV.comp (hd r1) 1) fun v3=>
 bd (PV.comp (hd r1) 2) fun v4=>
 bd (PV.whole 2 v2) fun v5=>
 bd (PV.cell v5 0) fun v6=>
 bd (PV.cell v5 1) fun v7=>
 bd (aAZ (.agg [v6,v7]) v3) fun r8=>
 PV.guardFlat (gd r8 0) (
 PV.guardFlat (gd r8 1) (
 PV.guardFlat (gd r8 2) (
 PV.guardFlat (gd r8 3) (
 PV.guardFlat (gd r8 4) (
 PV.guardFlat (gd r8 5) (
 PV.guardFlat (gd r8 6) (
 PV.guardFlat (gd r8 7) (
 PV.guardOwn (.own 4 64 true [.leaf,.leaf,(.own 3 32 true []),(.own 3 32 true [])]) (gd r8 8) (
 PV.guardOwn (.own 1 24 true [(.own 3 32 true [])]) (gd r8 9) (
 PV.guardOwn (.own 1 16 false []) (gd r8 10) (
 bd (aAW (.agg [v6,v7]) v3) fun r9=>
 bd (PV.comp (hd r9) 0) fun v10=>
 bd (PV.comp (hd r9) 1) fun v11=>
 bd (PV.whole 10 v10) fun v12=>
 bd (PV.cell v12 0) fun v13=>
 bd (PV.cell v12 1) fun v14=>
 bd (PV.cell v12 2) fun v15=>
 bd (PV.cell v12 3) fun v16=>
 bd (PV.cell v12 4) fun v17=>
 bd (PV.cell v12 5) fun v18=>
 bd (PV.cell v12 6) fun v19=>
 bd (PV.cell v12 7) fun v20=>
 bd (PV.cell v12 8) fun v21=>
 bd (PV.cell v12 9) fun v22=>
 bd (PV.beq .neq (gd r8 7) v11) fun v23=>
 PV.ite v23
 (some [.bool false])
 (bd (pI (.agg [(gd r8 8),(gd r8 9),(gd r8 0),(gd r8 10),(gd r8 1),(gd r8 2),(gd r8 3),(gd r8 4),(gd r8 5),(gd r8 6)]) (.agg [v13,v14,v15,v16,v17,v18,v19,v20,v21,v22])) fun r24=>
 bd (PV.not (hd r24)) fun v25=>
 PV.ite v25
 (some [.bool false])
 (bd (tB (.agg [v6,v7])) fun r26=>
 bd (tC (.agg [v6,v7])) fun r27=>
 bd (PV.whole 3 (hd r26)) fun v28=>
 bd (PV.cell v28 0) fun v29=>
 bd (PV.cell v28 1) fun v30=>
 bd (PV.cell v28 2) fun v31=>
 bd (PV.whole 3 (hd r27)) fun v32=>
 bd (PV.cell v32 0) fun v33=>
 bd (PV.cell v32 1) fun v34=>
 bd (PV.cell v32 2) fun v35=>
 bd (PV.ceq [1,1,1] .neq (.agg [v29,v30,v31]) (.agg [v33,v34,v35])) fun v36=>
 PV.ite v36
 (some [.bool false])
 (kB v4 v11 (.int .i64 0) v6 v7 (gd r8 8) (gd r8 9) (gd r8 0) (gd r8 10) (gd r8 1) (gd r8 2) (gd r8 3) (gd r8 4) (gd r8 5) (gd r8 6) v13 v14 v15 v16 v17 v18 v19 v20 v21 v22))))))))))))))):=aP _ _ _ (by kernel_rfl)
theorem pL (x0 x1 x2 x3 x4 x5 x6 x7 x8 x9 x10 x11 x12 x13 x14 x15 x16 x17 x18 x19 x20 x21 x22 x23 x24 : PV) : kB x0 x1 x2 x3 x4 x5 x6 x7 x8 x9 x10 x11 x12 x13 x14 x15 x16 x17 x18 x19 x20 x21 x22 x23 x24 =
 bd (PV.bin .lss x2 x0) fun v0=>
 PV.ite v0
 (bd (PV.bin .lss x2 (.int .i64 250)) fun v1=>
 PV.ite v1
 (PV.ite x1
 (bd (PV.bin .eql x19 (.int .i64 0)) fun v2=>
 PV.ite v2
 (bd (PV.len x15) fun v3=>
 bd (PV.bin .sub v3 (.int .i64 1)) fun v4=>
 bd (PV.at_ 4 true x15 v4) fun v5=>
 bd (PV.whole 4 v5) fun v6=>
 bd (PV.cell v6 0) fun v7=>
 bd (PV.cell v6 1) fun v8=>
 bd (PV.cell v6 2) fun v9=>
 bd (PV.cell v6 3) fun v10=>
 bd (tZ (.agg [x3,x4]) v7) fun r11=>
 bd (PV.len (hd r11)) fun v12=>
 bd (PV.bin .geq v8 v12) fun v13=>
 PV.ite v13
 (some [.bool false])
 (bd (PV.at_ 1 false (hd r11) v8) fun v14=>
 bd (PV.len v10) fun v15=>
 bd (PV.bin .neq v14 v15) fun v16=>
 PV.ite v16
 (some [.bool false])
 (bd (zP (.agg [x3,x4]) (.agg [x15,x16,x17,x18,x19,x20,x21,x22,x23,x24])) fun r17=>
 bd (PV.not (hd r17)) fun v18=>
 PV.ite v18
 (some [.bool false])
 (bd (aCI (.agg [x3,x4]) (.agg [x5,x6,x7,x8,x9,x10,x11,x12,x13,x14])) fun r19=>
 bd (PV.whole 10 (hd r19)) fun v20=>
 bd (PV.cell v20 0) fun v21=>
 bd (PV.cell v20 1) fun v22=>
 bd (PV.cell v20 2) fun v23=>
 bd (PV.cell v20 3) fun v24=>
 bd (PV.cell v20 4) fun v25=>
 bd (PV.cell v20 5) fun v26=>
 bd (PV.cell v20 6) fun v27=>
 bd (PV.cell v20 7) fun v28=>
 bd (PV.cell v20 8) fun v29=>
 bd (PV.cell v20 9) fun v30=>
 bd (aCJ (.agg [x3,x4]) (.agg [x15,x16,x17,x18,x19,x20,x21,x22,x23,x24])) fun r31=>
 bd (PV.whole 10 (hd r31)) fun v32=>
 bd (PV.cell v32 0) fun v33=>
 bd (PV.cell v32 1) fun v34=>
 bd (PV.cell v32 2) fun v35=>
 bd (PV.cell v32 3) fun v36=>
 bd (PV.cell v32 4) fun v37=>
 bd (PV.cell v32 5) fun v38=>
 bd (PV.cell v32 6) fun v39=>
 bd (PV.cell v32 7) fun v40=>
 bd (PV.cell v32 8) fun v41=>
 bd (PV.cell v32 9) fun v42=>
 bd (pI (.agg [v21,v22,v23,v24,v25,v26,v27,v28,v29,v30]) (.agg [v33,v34,v35,v36,v37,v38,v39,v40,v41,v42])) fun r43=>
 bd (PV.not (hd r43)) fun v44=>
 PV.ite v44
 (some [.bool false])
 (bd (PV.bin .add x2 (.int .i64 1)) fun v45=>
 kB x0 x1 v45 x3 x4 v21 v22 v23 v24 v25 v26 v27 v28 v29 v30 v33 v34 v35 v36 v37 v38 v39 v40 v41 v42)))))
 (some [.bool true]))
 (some [.bool true]))
 (some [.bool true]))
 (some [.bool true]):=bD _ _ _ _ _ _ _ _ (by kernel_rfl)
theorem aIA (x0 : PV) : aEW x0=bd (PV.len x0) fun v0=>bd (PV.bin .gtr v0 (.int .i64 1048576)) fun v1=>some [v1]:=aP _ _ _ (by kernel_rfl)
theorem aDH (x0 : PV) : vR x0 =
 bd (vV x0) fun r0=>
 bd (oP (gd r0 0) (gd r0 1) (gd r0 2)) fun r1=>
 bd (PV.whole 2 (gd r1 0)) fun v2=>
 bd (PV.cell v2 0) fun v3=>
 bd (PV.cell v2 1) fun v4=>
 bd (oQ v3 v4 (gd r1 1) (gd r1 2) (gd r1 3)) fun r5=>
 bd (aE (.int .i64 250) (gd r5 1) (gd r5 2) (gd r5 3)) fun r6=>
 bd (cL (.int .i64 25) (gd r6 1) (gd r6 2) (gd r6 3)) fun r7=>
 PV.ite (gd r7 0)
 (bd (aE (.int .i64 4) (gd r7 1) (gd r7 2) (gd r7 3)) fun r8=>
 bd (PV.inb (.lst [(.int .i64 (-1)),(.int .i64 0),(.int .i64 2000),(.int .i64 50001)]) (gd r8 0)) fun v9=>
 bd (PV.at_ 1 false (.lst [(.int .i64 (-1)),(.int .i64 0),(.int .i64 2000),(.int .i64 50001)]) (gd r8 0)) fun v10=>
 mQ (gd r5 0) v10 v3 v4 (.lst []) (.lst []))
 (mQ (gd r5 0) (gd r6 0) v3 v4 (.lst []) (.lst [])):=aP _ _ _ (by kernel_rfl)
theorem aA9 (x0 x1 x2 x3 x4 x5 : PV) : mQ x0 x1 x2 x3 x4 x5=some [(.tup [(.agg [x2,x3]),x0,x1])]:=bD _ _ _ _ _ _ _ _ (by kernel_rfl)
theorem aEX (x0 x1 : PV) : pI x0 x1 =
 bd (PV.whole 10 x0) fun v0=>
 bd (PV.cell v0 0) fun v1=>
 bd (PV.cell v0 1) fun v2=>
 bd (PV.cell v0 2) fun v3=>
 bd (PV.cell v0 3) fun v4=>
 bd (PV.cell v0 4) fun v5=>
 bd (PV.cell v0 5) fun v6=>
 bd (PV.cell v0 6) fun v7=>
 bd (PV.cell v0 7) fun v8=>
 bd (PV.cell v0 8) fun v9=>
 bd (PV.cell v0 9) fun v10=>
 bd (PV.whole 10 x1) fun v11=>
 bd (PV.cell v11 0) fun v12=>
 bd (PV.cell v11 1) fun v13=>
 bd (PV.cell v11 2) fun v14=>
 bd (PV.cell v11 3) fun v15=>
 bd (PV.cell v11 4) fun v16=>
 bd (PV.cell v11 5) fun v17=>
 bd (PV.cell v11 6) fun v18=>
 bd (PV.cell v11 7) fun v19=>
 bd (PV.cell v11 8) fun v20=>
 bd (PV.cell v11 9) fun v21=>
 bd (PV.bin .neq v3 v14) fun v22=>
 PV.ite v22
 (some [.bool false])
 (bd (PV.bin .neq v5 v16) fun v23=>
 PV.ite v23
 (some [.bool false])
 (bd (PV.bin .neq v6 v17) fun v24=>
 PV.ite v24
 (some [.bool false])
 (bd (PV.ceq [1,1,2] .neq (.agg [v7,v8,v9]) (.agg [v18,v19,v20])) fun v25=>
 PV.ite v25
 (some [.bool false])
 (bd (PV.bin .neq v10 v21) fun v26=>
 PV.ite v26
 (some [.bool false])
 (bd (rU v4 v15) fun r27=>
 bd (PV.not (hd r27)) fun v28=>
 PV.ite v28
 (some [.bool false])
 (bd (PV.len v2) fun v29=>
 bd (PV.len v13) fun v30=>
 bd (PV.bin .neq v29 v30) fun v31=>
 PV.ite v31
 (some [.bool false])
 (bd (PV.len v1) fun v32=>
 bd (PV.len v12) fun v33=>
 bd (PV.bin .neq v32 v33) fun v34=>
 PV.ite v34
 (some [.bool false])
 (nR (.int .i64 0) v1 v2 v3 v4 v5 v6 v7 v8 v9 v10 v12 v13 v14 v15 v16 v17 v18 v19 v20 v21)))))))):=aP _ _ _ (by kernel_rfl)
theorem tH (x0 x1 x2 x3 x4 x5 x6 x7 x8 x9 x10 x11 x12 x13 x14 x15 x16 x17 x18 x19 x20 : PV) : nR x0 x1 x2 x3 x4 x5 x6 x7 x8 x9 x10 x11 x12 x13 x14 x15 x16 x17 x18 x19 x20 =
 bd (PV.len x2) fun v0=>
 bd (PV.bin .lss x0 v0) fun v1=>
 PV.ite v1
 (bd (PV.at_ 1 true x2 x0) fun v2=>
 bd (PV.cell v2 0) fun v3=>
 bd (PV.at_ 1 true x12 x0) fun v4=>
 bd (PV.cell v4 0) fun v5=>
 bd (jS v3 v5) fun r6=>
 bd (PV.not (hd r6)) fun v7=>
 PV.ite v7
 (some [.bool false])
 (bd (PV.bin .add x0 (.int .i64 1)) fun v8=>
 nR v8 x1 x2 x3 x4 x5 x6 x7 x8 x9 x10 x11 x12 x13 x14 x15 x16 x17 x18 x19 x20))
 (kP (.int .i64 0) x1 x2 x3 x4 x5 x6 x7 x8 x9 x10 x11 x12 x13 x14 x15 x16 x17 x18 x19 x20):=bD _ _ _ _ _ _ _ _ (by kernel_rfl)
theorem tI (x0 x1 x2 x3 x4 x5 x6 x7 x8 x9 x10 x11 x12 x13 x14 x15 x16 x17 x18 x19 x20 : PV) : kP x0 x1 x2 x3 x4 x5 x6 x7 x8 x9 x10 x11 x12 x13 x14 x15 x16 x17 x18 x19 x20 =
 bd (PV.len x1) fun v0=>
 bd (PV.bin .lss x0 v0) fun v1=>
 PV.ite v1
 (bd (PV.at_ 4 true x1 x0) fun v2=>
 bd (PV.whole 4 v2) fun v3=>
 bd (PV.cell v3 0) fun v4=>
 bd (PV.cell v3 1) fun v5=>
 bd (PV.cell v3 2) fun v6=>
 bd (PV.cell v3 3) fun v7=>
 bd (PV.at_ 4 true x11 x0) fun v8=>
 bd (PV.whole 4 v8) fun v9=>
 bd (PV.cell v9 0) fun v10=>
 bd (PV.cell v9 1) fun v11=>
 bd (PV.cell v9 2) fun v12=>
 bd (PV.cell v9 3) fun v13=>
 bd (PV.bin .neq v4 v10) fun v14=>
 PV.ite v14
 (some [.bool false])
 (bd (PV.bin .neq v5 v11) fun v15=>
 PV.ite v15
 (some [.bool false])
 (bd (jS v6 v12) fun r16=>
 bd (PV.not (hd r16)) fun v17=>
 PV.ite v17
 (some [.bool false])
 (bd (jS v7 v13) fun r18=>
 bd (PV.not (hd r18)) fun v19=>
 PV.ite v19
 (some [.bool false])
 (bd (PV.bin .add x0 (.int .i64 1)) fun v20=>
 kP v20 x1 x2 x3 x4 x5 x6 x7 x8 x9 x10 x11 x12 x13 x14 x15 x16 x17 x18 x19 x20)))))
 (some [.bool true]):=bD _ _ _ _ _ _ _ _ (by kernel_rfl)
theorem aHf (x0 x1 : PV) : aCI x0 x1 =
 bd (PV.whole 2 x0) fun v0=>
 bd (PV.cell v0 0) fun v1=>
 bd (PV.cell v0 1) fun v2=>
 bd (PV.whole 10 x1) fun v3=>
 bd (PV.cell v3 0) fun v4=>
 bd (PV.cell v3 1) fun v5=>
 bd (PV.cell v3 2) fun v6=>
 bd (PV.cell v3 3) fun v7=>
 bd (PV.cell v3 4) fun v8=>
 bd (PV.cell v3 5) fun v9=>
 bd (PV.cell v3 6) fun v10=>
 bd (PV.cell v3 7) fun v11=>
 bd (PV.cell v3 8) fun v12=>
 bd (PV.cell v3 9) fun v13=>
 bd (zP (.agg [v1,v2]) (.agg [v4,v5,v6,v7,v8,v9,v10,v11,v12,v13])) fun r14=>
 bd (PV.not (hd r14)) fun v15=>
 PV.ite v15
 (some [(.agg [(.lst []),(.lst []),(.int .i64 0),(.lst []),(.int .i64 0),(.int .i64 0),(.int .i64 0),(.int .i64 0),(.str (bs [])),(.int .i64 0)])])
 (bd (jX (.agg [v4,v5,v6,v7,v8,v9,v10,v11,v12,v13])) fun r16=>
 PV.guardFlat (gd r16 0) (
 PV.guardFlat (gd r16 1) (
 PV.guardFlat (gd r16 2) (
 PV.guardFlat (gd r16 3) (
 PV.guardFlat (gd r16 4) (
 PV.guardFlat (gd r16 5) (
 PV.guardFlat (gd r16 6) (
 PV.guardOwn (.own 4 64 true [.leaf,.leaf,(.own 3 32 true []),(.own 3 32 true [])]) (gd r16 7) (
 PV.guardOwn (.own 1 24 true [(.own 3 32 true [])]) (gd r16 8) (
 PV.guardOwn (.own 1 16 false []) (gd r16 9) (
 bd (PV.bin .eql (gd r16 1) (.int .i64 0)) fun v17=>
 PV.ite v17
 (bd (PV.bin .lss (gd r16 6) (.int .i64 50000)) fun v18=>
 PV.ite v18
 (bd (vW v1 v2 (gd r16 0) (gd r16 1) (gd r16 2) (gd r16 3) (gd r16 4) (gd r16 5) (gd r16 6) (gd r16 7) (gd r16 8) (gd r16 9)) fun r19=>
 bd (jX (.agg [(gd r19 7),(gd r19 8),(gd r19 0),(gd r19 9),(gd r19 1),(gd r19 2),(gd r19 3),(gd r19 4),(gd r19 5),(gd r19 6)])) fun r20=>
 PV.guardFlat (gd r20 0) (
 PV.guardFlat (gd r20 1) (
 PV.guardFlat (gd r20 2) (
 PV.guardFlat (gd r20 3) (
 PV.guardFlat (gd r20 4) (
 PV.guardFlat (gd r20 5) (
 PV.guardFlat (gd r20 6) (
 PV.guardOwn (.own 4 64 true [.leaf,.leaf,(.own 3 32 true []),(.own 3 32 true [])]) (gd r20 7) (
 PV.guardOwn (.own 1 24 true [(.own 3 32 true [])]) (gd r20 8) (
 PV.guardOwn (.own 1 16 false []) (gd r20 9) (
 some [(.agg [(gd r20 7),(gd r20 8),(gd r20 0),(gd r20 9),(gd r20 1),(gd r20 2),(gd r20 3),(gd r20 4),(gd r20 5),(gd r20 6)])])))))))))))
 (bd (jX (.agg [(gd r16 7),(gd r16 8),(gd r16 0),(gd r16 9),(gd r16 1),(gd r16 2),(gd r16 3),(gd r16 4),(gd r16 5),(gd r16 6)])) fun r21=>
 PV.guardFlat (gd r21 0) (
 PV.guardFlat (gd r21 1) (
 PV.guardFlat (gd r21 2) (
 PV.guardFlat (gd r21 3) (
 PV.guardFlat (gd r21 4) (
 PV.guardFlat (gd r21 5) (
 PV.guardFlat (gd r21 6) (
 PV.guardOwn (.own 4 64 true [.leaf,.leaf,(.own 3 32 true []),(.own 3 32 true [])]) (gd r21 7) (
 PV.guardOwn (.own 1 24 true [(.own 3 32 true [])]) (gd r21 8) (
 PV.guardOwn (.own 1 16 false []) (gd r21 9) (
 some [(.agg [(gd r21 7),(gd r21 8),(gd r21 0),(gd r21 9),(gd r21 1),(gd r21 2),(gd r21 3),(gd r21 4),(gd r21 5),(gd r21 6)])]))))))))))))
 (bd (jX (.agg [(gd r16 7),(gd r16 8),(gd r16 0),(gd r16 9),(gd r16 1),(gd r16 2),(gd r16 3),(gd r16 4),(gd r16 5),(gd r16 6)])) fun r22=>
 PV.guardFlat (gd r22 0) (
 PV.guardFlat (gd r22 1) (
 PV.guardFlat (gd r22 2) (
 PV.guardFlat (gd r22 3) (
 PV.guardFlat (gd r22 4) (
 PV.guardFlat (gd r22 5) (
 PV.guardFlat (gd r22 6) (
 PV.guardOwn (.own 4 64 true [.leaf,.leaf,(.own 3 32 true []),(.own 3 32 true [])]) (gd r22 7) (
 PV.guardOwn (.own 1 24 true [(.own 3 32 true [])]) (gd r22 8) (
 PV.guardOwn (.own 1 16 false []) (gd r22 9) (
 some [(.agg [(gd r22 7),(gd r22 8),(gd r22 0),(gd r22 9),(gd r22 1),(gd r22 2),(gd r22 3),(gd r22 4),(gd r22 5),(gd r22 6)])])))))))))))))))))))))):=aP _ _ _ (by kernel_rfl)
theorem aFP (x0 x1 : PV) : aAW x0 x1 =
 bd (PV.whole 2 x0) fun v0=>
 bd (PV.cell v0 0) fun v1=>
 bd (PV.cell v0 1) fun v2=>
 bd (nS (.agg [v1,v2])) fun r3=>
 bd (PV.not (hd r3)) fun v4=>
 PV.ite v4
 (some [(.tup [(.agg [(.lst []),(.lst []),(.int .i64 0),(.lst []),(.int .i64 0),(.int .i64 0),(.int .i64 0),(.int .i64 0),(.str (bs [])),(.int .i64 0)]),(.bool false)])])
 (bd (PV.len x1) fun v5=>
 bd (PV.at_ 3 true v2 (.int .i64 0)) fun v6=>
 bd (PV.cell v6 0) fun v7=>
 bd (PV.bin .neq v5 v7) fun v8=>
 PV.ite v8
 (some [(.tup [(.agg [(.lst []),(.lst []),(.int .i64 0),(.lst []),(.int .i64 0),(.int .i64 0),(.int .i64 0),(.int .i64 0),(.str (bs [])),(.int .i64 0)]),(.bool false)])])
 (mI x1 (.int .i64 0) v1 v2 (.int .i64 0) (.int .i64 0) (.int .i64 0) (.int .i64 0) (.int .i64 0) (.str (bs [])) (.int .i64 0) (.lst []) (.lst []) (.lst []))):=aP _ _ _ (by kernel_rfl)
theorem uS (x0 x1 x2 x3 x4 x5 x6 x7 x8 x9 x10 x11 x12 x13 : PV) : mI x0 x1 x2 x3 x4 x5 x6 x7 x8 x9 x10 x11 x12 x13 =
 bd (PV.len x0) fun v0=>
 bd (PV.bin .lss x1 v0) fun v1=>
 PV.ite v1
 (bd (PV.at_ 3 true x0 x1) fun v2=>
 bd (rV (.agg [x2,x3]) v2 (.int .i64 0)) fun r3=>
 bd (PV.not (hd r3)) fun v4=>
 PV.ite v4
 (some [(.tup [(.agg [(.lst []),(.lst []),(.int .i64 0),(.lst []),(.int .i64 0),(.int .i64 0),(.int .i64 0),(.int .i64 0),(.str (bs [])),(.int .i64 0)]),(.bool false)])])
 (bd (PV.bin .add x1 (.int .i64 1)) fun v5=>
 mI x0 v5 x2 x3 x4 x5 x6 x7 x8 x9 x10 x11 x12 x13))
 (bd (PV.at_ 3 true x3 (.int .i64 0)) fun v6=>
 bd (PV.cell v6 1) fun v7=>
 bd (PV.zeros 32 (.agg [(.int .i64 0),(.int .i64 0),(.str (bs []))]) v7) fun v8=>
 bd (PV.bin .leq v7 v7) fun v9=>
 PV.ite v9
 (bd (PV.zeros 32 (.agg [(.int .i64 0),(.int .i64 0),(.str (bs []))]) v7) fun v10=>
 kQ x0 (.int .i64 0) x4 x5 x6 x7 x8 x9 x10 (.int .i64 0) (.int .i64 0) x11 x12 x13 v10 (.lst []))
 (none)):=bD _ _ _ _ _ _ _ _ (by kernel_rfl)
theorem tJ (x0 x1 x2 x3 x4 x5 x6 x7 x8 x9 x10 x11 x12 x13 x14 x15 : PV) : kQ x0 x1 x2 x3 x4 x5 x6 x7 x8 x9 x10 x11 x12 x13 x14 x15 =
 bd (PV.len x0) fun v0=>
 bd (PV.bin .lss x1 v0) fun v1=>
 PV.ite v1
 (bd (PV.at_ 3 true x0 x1) fun v2=>
 bd (PV.inb x14 x1) fun v3=>
 bd (PV.setAt 3 true x14 x1 v2) fun v4=>
 bd (PV.bin .add x1 (.int .i64 1)) fun v5=>
 kQ x0 v5 x2 x3 x4 x5 x6 x7 x8 x9 x10 x11 x12 x13 v4 x15)
 (some [(.tup [(.agg [(.lst [(.agg [x9,x10,x14,x15])]),(.lst []),(.int .i64 0),(.lst []),(.int .i64 0),(.int .i64 0),(.int .i64 0),(.int .i64 0),(.str (bs [])),(.int .i64 0)]),(.bool true)])]):=bD _ _ _ _ _ _ _ _ (by kernel_rfl)
theorem aEY (x0 : PV) : tB x0 =
 bd (PV.whole 2 x0) fun v0=>
 bd (PV.cell v0 0) fun v1=>
 bd (PV.cell v0 1) fun v2=>
 bd (pD (.agg [v1,v2])) fun r3=>
 bd (PV.not (hd r3)) fun v4=>
 PV.ite v4
 (some [(.agg [(.int .i64 1),(.int .i64 0),(.int .i64 0)])])
 (bd (PV.len v2) fun v5=>
 kR v5 (.int .i64 0) v1 v2 (.int .i64 0) (.int .i64 0) (.int .i64 0)):=aP _ _ _ (by kernel_rfl)
theorem tK (x0 x1 x2 x3 x4 x5 x6 : PV) : kR x0 x1 x2 x3 x4 x5 x6 =
 bd (PV.bin .lss x1 x0) fun v0=>
 PV.ite v0
 (bd (pJ (.agg [x2,x3]) x1) fun r1=>
 bd (PV.one (hd r1)) fun v2=>
 bd (PV.at_ 3 true x3 x1) fun v3=>
 bd (PV.cell v3 2) fun v4=>
 bd (PV.len v4) fun v5=>
 kS x1 x0 x1 v4 v5 (.int .i64 0) x2 x3 x4 x5 x6 v2)
 (some [(.agg [(.int .i64 0),(.int .i64 0),(.int .i64 0)])]):=bD _ _ _ _ _ _ _ _ (by kernel_rfl)
theorem tL (x0 x1 x2 x3 x4 x5 x6 x7 x8 x9 x10 x11 : PV) : kS x0 x1 x2 x3 x4 x5 x6 x7 x8 x9 x10 x11 =
 bd (PV.bin .lss x5 x4) fun v0=>
 PV.ite v0
 (bd (PV.at_ 2 true x3 x5) fun v1=>
 bd (PV.whole 2 v1) fun v2=>
 bd (PV.cell v2 0) fun v3=>
 bd (PV.cell v2 1) fun v4=>
 bd (PV.at_ 1 false x11 x5) fun v5=>
 bd (PV.bin .lss v5 (.int .i64 0)) fun v6=>
 PV.ite v6
 (bd (PV.bin .add x5 (.int .i64 1)) fun v7=>
 kS x0 x1 x2 x3 x4 v7 x6 x7 x8 x9 x10 x11)
 (bd (PV.at_ 1 false x11 x5) fun v8=>
 bd (tD (.agg [x6,x7]) (.agg [v3,v4]) v8) fun r9=>
 bd (PV.comp (hd r9) 0) fun v10=>
 bd (PV.comp (hd r9) 1) fun v11=>
 bd (PV.one v10) fun v12=>
 bd (PV.not v11) fun v13=>
 PV.ite v13
 (bd (PV.one x0) fun v14=>
 bd (PV.one x5) fun v15=>
 some [(.agg [(.int .i64 2),v14,v15])])
 (bd (qR (.agg [v3,v4]) x5) fun r16=>
 bd (PV.len x11) fun v17=>
 bd (iW (hd r16) v17) fun r18=>
 PV.ite (hd r18)
 (bd (PV.one x0) fun v19=>
 bd (PV.one x5) fun v20=>
 some [(.agg [(.int .i64 3),v19,v20])])
 (bd (gD (hd r16) (.fn 43 [(.bx [x11]),(.bx [v12])])) fun r21=>
 PV.guardFlat (hd r21) (
 PV.ite (hd r21)
 (bd (PV.one x0) fun v22=>
 bd (PV.one x5) fun v23=>
 some [(.agg [(.int .i64 4),v22,v23])])
 (bd (PV.bin .add x5 (.int .i64 1)) fun v24=>
 kS x0 x1 x2 x3 x4 v24 x6 x7 x8 x9 x10 x11))))))
 (bd (PV.bin .add x2 (.int .i64 1)) fun v25=>
 kR x1 v25 x6 x7 x8 x9 x10):=bD _ _ _ _ _ _ _ _ (by kernel_rfl)
theorem aEZ (x0 : PV) : tC x0 =
 bd (PV.whole 2 x0) fun v0=>
 bd (PV.cell v0 0) fun v1=>
 bd (PV.cell v0 1) fun v2=>
 bd (uA (.agg [v1,v2])) fun r3=>
 bd (PV.not (hd r3)) fun v4=>
 PV.ite v4
 (some [(.agg [(.int .i64 1),(.int .i64 0),(.int .i64 0)])])
 (kT (.int .i64 0) v1 v2 (.int .i64 0) (.int .i64 0) (.int .i64 0)):=aP _ _ _ (by kernel_rfl)
theorem tM (x0 x1 x2 x3 x4 x5 : PV) : kT x0 x1 x2 x3 x4 x5 =
 bd (PV.len x2) fun v0=>
 bd (PV.bin .lss x0 v0) fun v1=>
 PV.ite v1
 (bd (PV.at_ 3 true x2 x0) fun v2=>
 bd (PV.cell v2 2) fun v3=>
 bd (kV (.agg [x1,x2]) x0) fun r4=>
 iV x0 v3 (hd r4) (.int .i64 0) x1 x2 x3 x4 x5)
 (some [(.agg [(.int .i64 0),(.int .i64 0),(.int .i64 0)])]):=bD _ _ _ _ _ _ _ _ (by kernel_rfl)
theorem tN (x0 x1 x2 x3 x4 x5 x6 x7 x8 : PV) : iV x0 x1 x2 x3 x4 x5 x6 x7 x8 =
 bd (PV.len x1) fun v0=>
 bd (PV.bin .lss x3 v0) fun v1=>
 PV.ite v1
 (bd (PV.at_ 1 false x2 x3) fun v2=>
 bd (PV.bin .lss v2 (.int .i64 0)) fun v3=>
 PV.ite v3
 (bd (PV.bin .add x3 (.int .i64 1)) fun v4=>
 iV x0 x1 x2 v4 x4 x5 x6 x7 x8)
 (bd (PV.at_ 2 true x1 x3) fun v5=>
 bd (tE (.agg [x4,x5]) v5) fun r6=>
 bd (PV.comp (hd r6) 0) fun v7=>
 bd (PV.comp (hd r6) 1) fun v8=>
 bd (PV.at_ 1 false x2 x3) fun v9=>
 bd (PV.bin .sub v9 v7) fun v10=>
 bd (PV.bin .add v10 v8) fun v11=>
 bd (PV.at_ 1 false x2 x3) fun v12=>
 bd (PV.bin .lss v12 v7) fun v13=>
 PV.ite v13
 (bd (PV.one x0) fun v14=>
 bd (PV.one x3) fun v15=>
 some [(.agg [(.int .i64 2),v14,v15])])
 (bd (PV.bin .gtr v11 (.int .i64 16)) fun v16=>
 PV.ite v16
 (bd (PV.one x0) fun v17=>
 bd (PV.one x3) fun v18=>
 some [(.agg [(.int .i64 2),v17,v18])])
 (bd (PV.at_ 2 true x1 x3) fun v19=>
 bd (qS v19 x3) fun r20=>
 jR x0 x1 x2 x3 v11 (hd r20) (.int .i64 0) x4 x5 x6 x7 x8))))
 (bd (PV.bin .add x0 (.int .i64 1)) fun v21=>
 kT v21 x4 x5 x6 x7 x8):=bD _ _ _ _ _ _ _ _ (by kernel_rfl)
theorem sC (x0 x1 x2 x3 x4 x5 x6 x7 x8 x9 x10 x11 : PV) : jR x0 x1 x2 x3 x4 x5 x6 x7 x8 x9 x10 x11 =
 bd (PV.len x5) fun v0=>
 bd (PV.bin .lss x6 v0) fun v1=>
 PV.ite v1
 (bd (PV.at_ 1 false x5 x6) fun v2=>
 bd (PV.len x1) fun v3=>
 bd (PV.bin .geq v2 v3) fun v4=>
 PV.ite v4
 (bd (PV.one x0) fun v5=>
 bd (PV.one x3) fun v6=>
 some [(.agg [(.int .i64 3),v5,v6])])
 (bd (PV.bin .add x6 (.int .i64 1)) fun v7=>
 jR x0 x1 x2 x3 x4 x5 v7 x7 x8 x9 x10 x11))
 (hH x0 x1 x2 x3 x4 x5 (.int .i64 0) x7 x8 x9 x10 x11):=bD _ _ _ _ _ _ _ _ (by kernel_rfl)
theorem sD (x0 x1 x2 x3 x4 x5 x6 x7 x8 x9 x10 x11 : PV) : hH x0 x1 x2 x3 x4 x5 x6 x7 x8 x9 x10 x11 =
 bd (PV.len x5) fun v0=>
 bd (PV.bin .lss x6 v0) fun v1=>
 PV.ite v1
 (bd (PV.at_ 1 false x5 x6) fun v2=>
 bd (PV.at_ 1 false x2 v2) fun v3=>
 bd (PV.bin .neq v3 x4) fun v4=>
 PV.ite v4
 (bd (PV.one x0) fun v5=>
 bd (PV.one x3) fun v6=>
 some [(.agg [(.int .i64 4),v5,v6])])
 (bd (PV.bin .add x6 (.int .i64 1)) fun v7=>
 hH x0 x1 x2 x3 x4 x5 v7 x7 x8 x9 x10 x11))
 (bd (PV.bin .add x3 (.int .i64 1)) fun v8=>
 iV x0 x1 x2 v8 x7 x8 x9 x10 x11):=bD _ _ _ _ _ _ _ _ (by kernel_rfl)
theorem aCL (x0 x1 : PV) : tZ x0 x1 =
 bd (PV.whole 2 x0) fun v0=>
 bd (PV.cell v0 0) fun v1=>
 bd (PV.cell v0 1) fun v2=>
 bd (pD (.agg [v1,v2])) fun r3=>
 bd (PV.not (hd r3)) fun v4=>
 PV.ite v4
 (some [(.lst [])])
 (bd (PV.len v2) fun v5=>
 bd (cC x1 v5) fun r6=>
 bd (PV.not (hd r6)) fun v7=>
 PV.ite v7
 (some [(.lst [])])
 (bd (pJ (.agg [v1,v2]) x1) fun r8=>
 some [(hd r8)])):=aP _ _ _ (by kernel_rfl)
end Go.Proofs.YtjgleeamiclokaaGreatDoor
namespace Go.Proofs.YtjgleeamiclokaaGreatDoor
open Go
theorem aHg (x0 x1 : PV) : zP x0 x1 =
 bd (PV.whole 2 x0) fun v0=>
 bd (PV.cell v0 0) fun v1=>
 bd (PV.cell v0 1) fun v2=>
 bd (PV.whole 10 x1) fun v3=>
 bd (PV.cell v3 0) fun v4=>
 bd (PV.cell v3 1) fun v5=>
 bd (PV.cell v3 2) fun v6=>
 bd (PV.cell v3 3) fun v7=>
 bd (PV.cell v3 4) fun v8=>
 bd (PV.cell v3 5) fun v9=>
 bd (PV.cell v3 6) fun v10=>
 bd (PV.cell v3 7) fun v11=>
 bd (PV.cell v3 8) fun v12=>
 bd (PV.cell v3 9) fun v13=>
 bd (tF (.agg [v1,v2])) fun r14=>
 PV.ite (hd r14)
 (bd (vT (.agg [v1,v2])) fun r15=>
 bd (aGu (.agg [v1,v2]) (hd r15) (.agg [v4,v5,v6,v7,v8,v9,v10,v11,v12,v13])) fun r16=>
 some [(hd r16)])
 (some [.bool false]):=aP _ _ _ (by kernel_rfl)
theorem aHh (x0 x1 : PV) : aCJ x0 x1 =
 bd (PV.whole 2 x0) fun v0=>
 bd (PV.cell v0 0) fun v1=>
 bd (PV.cell v0 1) fun v2=>
 bd (PV.whole 10 x1) fun v3=>
 bd (PV.cell v3 0) fun v4=>
 bd (PV.cell v3 1) fun v5=>
 bd (PV.cell v3 2) fun v6=>
 bd (PV.cell v3 3) fun v7=>
 bd (PV.cell v3 4) fun v8=>
 bd (PV.cell v3 5) fun v9=>
 bd (PV.cell v3 6) fun v10=>
 bd (PV.cell v3 7) fun v11=>
 bd (PV.cell v3 8) fun v12=>
 bd (PV.cell v3 9) fun v13=>
 bd (aCK (.agg [v1,v2]) (.agg [v4,v5,v6,v7,v8,v9,v10,v11,v12,v13])) fun r14=>
 bd (PV.not (hd r14)) fun v15=>
 PV.ite v15
 (some [(.agg [(.lst []),(.lst []),(.int .i64 0),(.lst []),(.int .i64 0),(.int .i64 0),(.int .i64 0),(.int .i64 0),(.str (bs [])),(.int .i64 0)])])
 (bd (vS (.agg [v1,v2]) (.agg [v4,v5,v6,v7,v8,v9,v10,v11,v12,v13])) fun r16=>
 bd (PV.whole 10 (hd r16)) fun v17=>
 bd (PV.cell v17 0) fun v18=>
 bd (PV.cell v17 1) fun v19=>
 bd (PV.cell v17 2) fun v20=>
 bd (PV.cell v17 3) fun v21=>
 bd (PV.cell v17 4) fun v22=>
 bd (PV.cell v17 5) fun v23=>
 bd (PV.cell v17 6) fun v24=>
 bd (PV.cell v17 7) fun v25=>
 bd (PV.cell v17 8) fun v26=>
 bd (PV.cell v17 9) fun v27=>
 some [(.agg [v18,v19,v20,v21,v22,v23,v24,v25,v26,v27])]):=aP _ _ _ (by kernel_rfl)
theorem aBa (x0 x1 x2 : PV) : aL x0 x1 x2 =
 bd (PV.bin .geq x0 x1) fun v0=>
 PV.ite v0
 (bd (PV.bin .leq x0 x2) fun v1=>
 some [v1])
 (some [.bool false]):=aP _ _ _ (by kernel_rfl)
theorem aDI (x0 x1 : PV) : vS x0 x1 =
 bd (PV.whole 2 x0) fun v0=>
 bd (PV.cell v0 0) fun v1=>
 bd (PV.cell v0 1) fun v2=>
 bd (PV.whole 10 x1) fun v3=>
 bd (PV.cell v3 0) fun v4=>
 bd (PV.cell v3 1) fun v5=>
 bd (PV.cell v3 2) fun v6=>
 bd (PV.cell v3 3) fun v7=>
 bd (PV.cell v3 4) fun v8=>
 bd (PV.cell v3 5) fun v9=>
 bd (PV.cell v3 6) fun v10=>
 bd (PV.cell v3 7) fun v11=>
 bd (PV.cell v3 8) fun v12=>
 bd (PV.cell v3 9) fun v13=>
 bd (PV.bin .neq v8 (.int .i64 0)) fun v14=>
 PV.ite v14
 (bd (jJ (.agg [v4,v5,v6,v7,v8,v9,v10,v11,v12,v13])) fun r15=>
 PV.guardFlat (gd r15 0) (
 PV.guardFlat (gd r15 1) (
 PV.guardFlat (gd r15 2) (
 PV.guardFlat (gd r15 3) (
 PV.guardFlat (gd r15 4) (
 PV.guardFlat (gd r15 5) (
 PV.guardFlat (gd r15 6) (
 PV.guardOwn (.own 4 64 true [.leaf,.leaf,(.own 3 32 true []),(.own 3 32 true [])]) (gd r15 7) (
 PV.guardOwn (.own 1 24 true [(.own 3 32 true [])]) (gd r15 8) (
 PV.guardOwn (.own 1 16 false []) (gd r15 9) (
 some [(.agg [(gd r15 7),(gd r15 8),(gd r15 0),(gd r15 9),(gd r15 1),(gd r15 2),(gd r15 3),(gd r15 4),(gd r15 5),(gd r15 6)])])))))))))))
 (bd (PV.bin .eql v13 (.int .i64 50000)) fun v16=>
 PV.ite v16
 (bd (jJ (.agg [v4,v5,v6,v7,v8,v9,v10,v11,v12,v13])) fun r17=>
 PV.guardFlat (gd r17 0) (
 PV.guardFlat (gd r17 1) (
 PV.guardFlat (gd r17 2) (
 PV.guardFlat (gd r17 3) (
 PV.guardFlat (gd r17 4) (
 PV.guardFlat (gd r17 5) (
 PV.guardFlat (gd r17 6) (
 PV.guardOwn (.own 4 64 true [.leaf,.leaf,(.own 3 32 true []),(.own 3 32 true [])]) (gd r17 7) (
 PV.guardOwn (.own 1 24 true [(.own 3 32 true [])]) (gd r17 8) (
 PV.guardOwn (.own 1 16 false []) (gd r17 9) (
 some [(.agg [(gd r17 7),(gd r17 8),(gd r17 0),(gd r17 9),(gd r17 1),(gd r17 2),(gd r17 3),(gd r17 4),(gd r17 5),(gd r17 6)])])))))))))))
 (bd (jJ (.agg [v4,v5,v6,v7,v8,v9,v10,v11,v12,v13])) fun r18=>
 PV.guardFlat (gd r18 0) (
 PV.guardFlat (gd r18 1) (
 PV.guardFlat (gd r18 2) (
 PV.guardFlat (gd r18 3) (
 PV.guardFlat (gd r18 4) (
 PV.guardFlat (gd r18 5) (
 PV.guardFlat (gd r18 6) (
 PV.guardOwn (.own 4 64 true [.leaf,.leaf,(.own 3 32 true []),(.own 3 32 true [])]) (gd r18 7) (
 PV.guardOwn (.own 1 24 true [(.own 3 32 true [])]) (gd r18 8) (
 PV.guardOwn (.own 1 16 false []) (gd r18 9) (
 bd (dV v1 v2 (gd r18 0) (gd r18 1) (gd r18 2) (gd r18 3) (gd r18 4) (gd r18 5) (gd r18 6) (.int .i64 0) (gd r18 7) (gd r18 8) (gd r18 9)) fun r19=>
 bd (PV.at_ 4 true (gd r19 11) (gd r19 0)) fun v20=>
 bd (PV.cell v20 0) fun v21=>
 bd (PV.at_ 3 true v2 v21) fun v22=>
 bd (PV.cell v22 2) fun v23=>
 bd (PV.at_ 4 true (gd r19 11) (gd r19 0)) fun v24=>
 bd (PV.cell v24 1) fun v25=>
 bd (PV.at_ 2 true v23 v25) fun v26=>
 bd (PV.whole 2 v26) fun v27=>
 bd (PV.cell v27 0) fun v28=>
 bd (PV.cell v27 1) fun v29=>
 bd (PV.at_ 4 true (gd r19 11) (gd r19 0)) fun v30=>
 bd (PV.cell v30 1) fun v31=>
 bd (PV.bin .add v31 (.int .i64 1)) fun v32=>
 bd (PV.one v32) fun v33=>
 bd (PV.setCell 4 (gd r19 11) (gd r19 0) 1 v33) fun v34=>
 bd (rX v28 v29 (gd r19 1) (gd r19 2) (gd r19 3) (gd r19 4) (gd r19 5) (gd r19 6) (gd r19 7) (gd r19 8) (gd r19 9) (gd r19 10) v34 (gd r19 12) (gd r19 13)) fun r35=>
 bd (PV.bin .neq (gd r35 9) (.int .i64 0)) fun v36=>
 PV.ite v36
 (bd (jJ (.agg [v4,v5,v6,v7,v8,v9,v10,v11,v12,v13])) fun r37=>
 PV.guardFlat (gd r37 0) (
 PV.guardFlat (gd r37 1) (
 PV.guardFlat (gd r37 2) (
 PV.guardFlat (gd r37 3) (
 PV.guardFlat (gd r37 4) (
 PV.guardFlat (gd r37 5) (
 PV.guardFlat (gd r37 6) (
 PV.guardOwn (.own 4 64 true [.leaf,.leaf,(.own 3 32 true []),(.own 3 32 true [])]) (gd r37 7) (
 PV.guardOwn (.own 1 24 true [(.own 3 32 true [])]) (gd r37 8) (
 PV.guardOwn (.own 1 16 false []) (gd r37 9) (
 bd (PV.one (gd r35 9)) fun v38=>
 bd (PV.bin .add (gd r37 6) (.int .i64 1)) fun v39=>
 bd (PV.one v39) fun v40=>
 some [(.agg [(gd r37 7),(gd r37 8),(gd r37 0),(gd r37 9),(.int .i64 2),v38,(gd r37 3),(gd r37 4),(gd r37 5),v40])])))))))))))
 (bd (PV.bin .add (gd r35 8) (.int .i64 1)) fun v41=>
 bd (PV.one v41) fun v42=>
 some [(.agg [(gd r35 10),(gd r35 11),(gd r35 2),(gd r35 12),(gd r35 3),(gd r35 4),(gd r35 5),(gd r35 6),(gd r35 7),v42])]))))))))))))):=aP _ _ _ (by kernel_rfl)
theorem aBX (x0 x1 : PV) : rU x0 x1 =
 bd (PV.len x0) fun v0=>
 bd (PV.len x1) fun v1=>
 bd (PV.bin .neq v0 v1) fun v2=>
 PV.ite v2
 (some [.bool false])
 (kC x0 x1 (.int .i64 0)):=aP _ _ _ (by kernel_rfl)
theorem pM (x0 x1 x2 : PV) : kC x0 x1 x2 =
 bd (PV.len x0) fun v0=>
 bd (PV.bin .lss x2 v0) fun v1=>
 PV.ite v1
 (bd (PV.at_ 1 false x0 x2) fun v2=>
 bd (PV.at_ 1 false x1 x2) fun v3=>
 bd (PV.bin .neq v2 v3) fun v4=>
 PV.ite v4
 (some [.bool false])
 (bd (PV.bin .add x2 (.int .i64 1)) fun v5=>
 kC x0 x1 v5))
 (some [.bool true]):=bD _ _ _ _ _ _ _ _ (by kernel_rfl)
theorem aBb (x0 x1 : PV) : jS x0 x1 =
 bd (PV.len x0) fun v0=>
 bd (PV.len x1) fun v1=>
 bd (PV.bin .neq v0 v1) fun v2=>
 PV.ite v2
 (some [.bool false])
 (jI x0 x1 (.int .i64 0)):=aP _ _ _ (by kernel_rfl)
theorem oE (x0 x1 x2 : PV) : jI x0 x1 x2 =
 bd (PV.len x0) fun v0=>
 bd (PV.bin .lss x2 v0) fun v1=>
 PV.ite v1
 (bd (PV.at_ 3 true x0 x2) fun v2=>
 bd (PV.at_ 3 true x1 x2) fun v3=>
 bd (PV.whole 3 v2) fun v4=>
 bd (PV.cell v4 0) fun v5=>
 bd (PV.cell v4 1) fun v6=>
 bd (PV.cell v4 2) fun v7=>
 bd (PV.whole 3 v3) fun v8=>
 bd (PV.cell v8 0) fun v9=>
 bd (PV.cell v8 1) fun v10=>
 bd (PV.cell v8 2) fun v11=>
 bd (PV.ceq [1,1,2] .neq (.agg [v5,v6,v7]) (.agg [v9,v10,v11])) fun v12=>
 PV.ite v12
 (some [.bool false])
 (bd (PV.bin .add x2 (.int .i64 1)) fun v13=>
 jI x0 x1 v13))
 (some [.bool true]):=bD _ _ _ _ _ _ _ _ (by kernel_rfl)
theorem aDJ (x0 : PV) : nS x0 =
 bd (PV.whole 2 x0) fun v0=>
 bd (PV.cell v0 0) fun v1=>
 bd (PV.cell v0 1) fun v2=>
 bd (tC (.agg [v1,v2])) fun r3=>
 bd (PV.cell (hd r3) 0) fun v4=>
 bd (PV.bin .eql v4 (.int .i64 0)) fun v5=>
 some [v5]:=aP _ _ _ (by kernel_rfl)
theorem aFQ (x0 x1 x2 : PV) : rV x0 x1 x2 =
 bd (PV.whole 2 x0) fun v0=>
 bd (PV.cell v0 0) fun v1=>
 bd (PV.cell v0 1) fun v2=>
 bd (PV.whole 3 x1) fun v3=>
 bd (PV.cell v3 0) fun v4=>
 bd (PV.cell v3 1) fun v5=>
 bd (PV.cell v3 2) fun v6=>
 bd (PV.bin .neq v4 (.int .i64 3)) fun v7=>
 PV.ite v7
 (bd (PV.bin .neq v6 (.str (bs []))) fun v8=>
 PV.ite v8
 (some [.bool false])
 (bd (PV.bin .eql v4 (.int .i64 0)) fun v9=>
 PV.ite v9
 (bd (PV.bin .eql v5 (.int .i64 0)) fun v10=>
 some [v10])
 (bd (PV.bin .eql v4 (.int .i64 1)) fun v11=>
 PV.ite v11
 (bd (gG v5) fun r12=>
 some [(hd r12)])
 (bd (PV.bin .eql v4 (.int .i64 2)) fun v13=>
 PV.ite v13
 (bd (aL v5 (.int .i64 0) (.int .i64 1)) fun r14=>
 some [(hd r14)])
 (bd (PV.bin .eql v4 (.int .i64 3)) fun v15=>
 PV.ite v15
 (bd (PV.bin .eql v5 (.int .i64 0)) fun v16=>
 PV.ite v16
 (bd (lN v6) fun r17=>
 some [(hd r17)])
 (some [.bool false]))
 (bd (PV.bin .eql v4 (.int .i64 4)) fun v18=>
 PV.ite v18
 (bd (PV.bin .geq v5 (.int .i64 0)) fun v19=>
 PV.ite v19
 (bd (PV.bin .lss v5 x2) fun v20=>
 some [v20])
 (some [.bool false]))
 (bd (PV.bin .eql v4 (.int .i64 5)) fun v21=>
 PV.ite v21
 (bd (PV.len v2) fun v22=>
 bd (PV.bin .sub v22 (.int .i64 1)) fun v23=>
 bd (aL v5 (.int .i64 0) v23) fun r24=>
 some [(hd r24)])
 (some [.bool false]))))))))
 (bd (PV.bin .eql v4 (.int .i64 0)) fun v25=>
 PV.ite v25
 (bd (PV.bin .eql v5 (.int .i64 0)) fun v26=>
 some [v26])
 (bd (PV.bin .eql v4 (.int .i64 1)) fun v27=>
 PV.ite v27
 (bd (gG v5) fun r28=>
 some [(hd r28)])
 (bd (PV.bin .eql v4 (.int .i64 2)) fun v29=>
 PV.ite v29
 (bd (aL v5 (.int .i64 0) (.int .i64 1)) fun r30=>
 some [(hd r30)])
 (bd (PV.bin .eql v4 (.int .i64 3)) fun v31=>
 PV.ite v31
 (bd (PV.bin .eql v5 (.int .i64 0)) fun v32=>
 PV.ite v32
 (bd (lN v6) fun r33=>
 some [(hd r33)])
 (some [.bool false]))
 (bd (PV.bin .eql v4 (.int .i64 4)) fun v34=>
 PV.ite v34
 (bd (PV.bin .geq v5 (.int .i64 0)) fun v35=>
 PV.ite v35
 (bd (PV.bin .lss v5 x2) fun v36=>
 some [v36])
 (some [.bool false]))
 (bd (PV.bin .eql v4 (.int .i64 5)) fun v37=>
 PV.ite v37
 (bd (PV.len v2) fun v38=>
 bd (PV.bin .sub v38 (.int .i64 1)) fun v39=>
 bd (aL v5 (.int .i64 0) v39) fun r40=>
 some [(hd r40)])
 (some [.bool false]))))))):=aP _ _ _ (by kernel_rfl)
theorem aCM (x0 : PV) : pD x0 =
 bd (PV.whole 2 x0) fun v0=>
 bd (PV.cell v0 0) fun v1=>
 bd (PV.cell v0 1) fun v2=>
 bd (PV.len v2) fun v3=>
 bd (bZ v3 (.int .i64 1) (.int .i64 12)) fun r4=>
 bd (PV.not (hd r4)) fun v5=>
 PV.ite v5
 (some [.bool false])
 (bd (PV.len v1) fun v6=>
 bd (PV.bin .gtr v6 (.int .i64 20)) fun v7=>
 PV.ite v7
 (some [.bool false])
 (bd (dC v1 (.fn 73 [])) fun r8=>
 PV.ite (hd r8)
 (some [.bool false])
 (bd (PV.len v2) fun v9=>
 lK v2 v9 (.int .i64 0) v1 v2))):=aP _ _ _ (by kernel_rfl)
theorem qI (x0 x1 x2 x3 x4 : PV) : lK x0 x1 x2 x3 x4 =
 bd (PV.bin .lss x2 x1) fun v0=>
 PV.ite v0
 (bd (PV.at_ 3 true x0 x2) fun v1=>
 bd (PV.whole 3 v1) fun v2=>
 bd (PV.cell v2 0) fun v3=>
 bd (PV.cell v2 1) fun v4=>
 bd (PV.cell v2 2) fun v5=>
 bd (bZ v3 (.int .i64 0) (.int .i64 6)) fun r6=>
 bd (PV.not (hd r6)) fun v7=>
 PV.ite v7
 (some [.bool false])
 (bd (bZ v4 v3 (.int .i64 12)) fun r8=>
 bd (PV.not (hd r8)) fun v9=>
 PV.ite v9
 (some [.bool false])
 (bd (PV.len v5) fun v10=>
 bd (bZ v10 (.int .i64 1) (.int .i64 120)) fun r11=>
 bd (PV.not (hd r11)) fun v12=>
 PV.ite v12
 (some [.bool false])
 (bd (dQ v5 (.fn 76 [(.bx [x3,x4]),(.bx [v3,v4,v5])])) fun r13=>
 PV.guardFlat (hd r13) (
 PV.ite (hd r13)
 (some [.bool false])
 (bd (PV.bin .add x2 (.int .i64 1)) fun v14=>
 lK x0 x1 v14 x3 x4))))))
 (some [.bool true]):=bD _ _ _ _ _ _ _ _ (by kernel_rfl)
theorem aE0 (x0 x1 : PV) : pJ x0 x1 =
 bd (PV.whole 2 x0) fun v0=>
 bd (PV.cell v0 0) fun v1=>
 bd (PV.cell v0 1) fun v2=>
 bd (PV.at_ 3 true v2 x1) fun v3=>
 bd (PV.cell v3 2) fun v4=>
 bd (PV.len v4) fun v5=>
 bd (jY (.lst [(.int .i64 (-1))]) v5) fun r6=>
 PV.guardOwn (.own 1 8 false []) (gd r6 0) (
 bd (PV.inb (gd r6 0) (.int .i64 0)) fun v7=>
 bd (PV.setAt 1 false (gd r6 0) (.int .i64 0) (.int .i64 0)) fun v8=>
 kU v4 (.bool true) v1 v2 v8):=aP _ _ _ (by kernel_rfl)
theorem kI (x0 x1 x2 x3 x4 : PV) : kU x0 x1 x2 x3 x4 =
 PV.ite x1
 (bd (PV.len x0) fun v0=>
 gM x0 (.bool false) x0 v0 (.int .i64 0) x2 x3 x4)
 (some [x4]):=bD _ _ _ _ _ _ _ _ (by kernel_rfl)
theorem tO (x0 x1 x2 x3 x4 x5 x6 x7 : PV) : gM x0 x1 x2 x3 x4 x5 x6 x7 =
 bd (PV.bin .lss x4 x3) fun v0=>
 PV.ite v0
 (bd (PV.at_ 2 true x2 x4) fun v1=>
 bd (PV.whole 2 v1) fun v2=>
 bd (PV.cell v2 0) fun v3=>
 bd (PV.cell v2 1) fun v4=>
 bd (PV.inb x7 x4) fun v5=>
 bd (PV.at_ 1 false x7 x4) fun v6=>
 bd (PV.bin .lss v6 (.int .i64 0)) fun v7=>
 PV.ite v7
 (bd (PV.bin .add x4 (.int .i64 1)) fun v8=>
 gM x0 x1 x2 x3 v8 x5 x6 x7)
 (bd (PV.inb x7 x4) fun v9=>
 bd (PV.at_ 1 false x7 x4) fun v10=>
 bd (tD (.agg [x5,x6]) (.agg [v3,v4]) v10) fun r11=>
 bd (PV.comp (hd r11) 0) fun v12=>
 bd (PV.comp (hd r11) 1) fun v13=>
 bd (qR (.agg [v3,v4]) x4) fun r14=>
 bd (PV.len (hd r14)) fun v15=>
 eO x0 x1 v12 v13 x2 x3 x4 (hd r14) v15 (.int .i64 0) x5 x6 x7))
 (kU x0 x1 x5 x6 x7):=bD _ _ _ _ _ _ _ _ (by kernel_rfl)
theorem sE (x0 x1 x2 x3 x4 x5 x6 x7 x8 x9 x10 x11 x12 : PV) : eO x0 x1 x2 x3 x4 x5 x6 x7 x8 x9 x10 x11 x12 =
 bd (PV.bin .lss x9 x8) fun v0=>
 PV.ite v0
 (bd (PV.at_ 1 false x7 x9) fun v1=>
 PV.ite x3
 (bd (PV.len x0) fun v2=>
 bd (PV.bin .lss v1 v2) fun v3=>
 PV.ite v3
 (bd (PV.inb x12 v1) fun v4=>
 bd (PV.at_ 1 false x12 v1) fun v5=>
 bd (PV.bin .lss v5 (.int .i64 0)) fun v6=>
 PV.ite v6
 (wW x0 x2 x3 v1 x4 x5 x6 x7 x8 x9 x10 x11 x12)
 (bd (PV.bin .add x9 (.int .i64 1)) fun v7=>
 eO x0 x1 x2 x3 x4 x5 x6 x7 x8 v7 x10 x11 x12))
 (bd (PV.bin .add x9 (.int .i64 1)) fun v8=>
 eO x0 x1 x2 x3 x4 x5 x6 x7 x8 v8 x10 x11 x12))
 (bd (PV.bin .add x9 (.int .i64 1)) fun v9=>
 eO x0 x1 x2 x3 x4 x5 x6 x7 x8 v9 x10 x11 x12))
 (bd (PV.bin .add x6 (.int .i64 1)) fun v10=>
 gM x0 x1 x4 x5 v10 x10 x11 x12):=bD _ _ _ _ _ _ _ _ (by kernel_rfl)
theorem aBc (x0 x1 x2 x3 x4 x5 x6 x7 x8 x9 x10 x11 x12 : PV) : wW x0 x1 x2 x3 x4 x5 x6 x7 x8 x9 x10 x11 x12 =
 bd (PV.inb x12 x3) fun v0=>
 bd (PV.setAt 1 false x12 x3 x1) fun v1=>
 bd (PV.bin .add x9 (.int .i64 1)) fun v2=>
 eO x0 (.bool true) x1 x2 x4 x5 x6 x7 x8 v2 x10 x11 v1:=bD _ _ _ _ _ _ _ _ (by kernel_rfl)
theorem aE1 (x0 x1 x2 : PV) : tD x0 x1 x2 =
 bd (PV.whole 2 x0) fun v0=>
 bd (PV.cell v0 0) fun v1=>
 bd (PV.cell v0 1) fun v2=>
 bd (PV.whole 2 x1) fun v3=>
 bd (PV.cell v3 0) fun v4=>
 bd (PV.cell v3 1) fun v5=>
 bd (tG (.agg [v1,v2]) (.agg [v4,v5])) fun r6=>
 bd (PV.comp (hd r6) 0) fun v7=>
 bd (PV.comp (hd r6) 1) fun v8=>
 bd (PV.bin .sub x2 v7) fun v9=>
 bd (PV.bin .add v9 v8) fun v10=>
 bd (PV.bin .leq v7 x2) fun v11=>
 PV.ite v11
 (bd (PV.bin .leq v10 (.int .i64 16)) fun v12=>
 some [(.tup [v10,v12])])
 (some [(.tup [v10,(.bool false)])]):=aP _ _ _ (by kernel_rfl)
theorem aDK (x0 x1 : PV) : qR x0 x1 =
 bd (PV.whole 2 x0) fun v0=>
 bd (PV.cell v0 0) fun v1=>
 bd (PV.cell v0 1) fun v2=>
 bd (PV.bin .eql v1 (.int .i64 25)) fun v3=>
 PV.ite v3
 (some [(.lst [])])
 (bd (PV.bin .eql v1 (.int .i64 17)) fun v4=>
 PV.ite v4
 (bd (PV.cat 1 8 false (.lst []) (.lst [v2])) fun v5=>
 some [v5])
 (bd (PV.bin .eql v1 (.int .i64 18)) fun v6=>
 PV.ite v6
 (bd (PV.bin .add x1 (.int .i64 1)) fun v7=>
 bd (PV.cat 1 8 false (.lst []) (.lst [v7,v2])) fun v8=>
 some [v8])
 (bd (PV.bin .eql v1 (.int .i64 19)) fun v9=>
 PV.ite v9
 (bd (PV.bin .add x1 (.int .i64 1)) fun v10=>
 bd (PV.cat 1 8 false (.lst []) (.lst [v10,v2])) fun v11=>
 some [v11])
 (bd (PV.bin .add x1 (.int .i64 1)) fun v12=>
 bd (PV.cat 1 8 false (.lst []) (.lst [v12])) fun v13=>
 some [v13])))):=aP _ _ _ (by kernel_rfl)
theorem sF (x0 x1 : PV) : iW x0 x1 =
 bd (kW x0 x1) fun r0=>
 bd (PV.bin .geq (hd r0) (.int .i64 0)) fun v1=>
 some [v1]:=aP _ _ _ (by kernel_rfl)
theorem oU (x0 x1 : PV) : gD x0 x1 =
 bd (mJ x0 x1) fun r0=>
 bd (PV.bin .geq (hd r0) (.int .i64 0)) fun v1=>
 some [v1]:=aP _ _ _ (by kernel_rfl)
theorem aCN (x0 x1 x2 : PV) : aAx x0 x1 x2 =
 bd (PV.deref x1 0) fun v0=>
 bd (PV.at_ 1 false v0 x0) fun v1=>
 bd (PV.deref x2 0) fun v2=>
 bd (PV.bin .neq v1 v2) fun v3=>
 some [v3]:=aP _ _ _ (by kernel_rfl)
theorem aCO (x0 : PV) : uA x0 =
 bd (PV.whole 2 x0) fun v0=>
 bd (PV.cell v0 0) fun v1=>
 bd (PV.cell v0 1) fun v2=>
 bd (PV.len v2) fun v3=>
 bd (aL v3 (.int .i64 1) (.int .i64 12)) fun r4=>
 bd (PV.not (hd r4)) fun v5=>
 PV.ite v5
 (some [.bool false])
 (bd (PV.len v1) fun v6=>
 bd (PV.bin .gtr v6 (.int .i64 20)) fun v7=>
 PV.ite v7
 (some [.bool false])
 (lL (.int .i64 0) v1 v2)):=aP _ _ _ (by kernel_rfl)
theorem qJ (x0 x1 x2 : PV) : lL x0 x1 x2 =
 bd (PV.len x1) fun v0=>
 bd (PV.bin .lss x0 v0) fun v1=>
 PV.ite v1
 (bd (PV.at_ 1 false x1 x0) fun v2=>
 bd (lN v2) fun r3=>
 bd (PV.not (hd r3)) fun v4=>
 PV.ite v4
 (some [.bool false])
 (bd (PV.bin .add x0 (.int .i64 1)) fun v5=>
 lL v5 x1 x2))
 (iX (.int .i64 0) x1 x2):=bD _ _ _ _ _ _ _ _ (by kernel_rfl)
theorem qK (x0 x1 x2 : PV) : iX x0 x1 x2 =
 bd (PV.len x2) fun v0=>
 bd (PV.bin .lss x0 v0) fun v1=>
 PV.ite v1
 (bd (PV.at_ 3 true x2 x0) fun v2=>
 bd (PV.whole 3 v2) fun v3=>
 bd (PV.cell v3 0) fun v4=>
 bd (PV.cell v3 1) fun v5=>
 bd (PV.cell v3 2) fun v6=>
 bd (aL v4 (.int .i64 0) (.int .i64 6)) fun r7=>
 bd (PV.not (hd r7)) fun v8=>
 PV.ite v8
 (some [.bool false])
 (bd (aL v5 v4 (.int .i64 12)) fun r9=>
 bd (PV.not (hd r9)) fun v10=>
 PV.ite v10
 (some [.bool false])
 (bd (PV.len v6) fun v11=>
 bd (aL v11 (.int .i64 1) (.int .i64 120)) fun r12=>
 bd (PV.not (hd r12)) fun v13=>
 PV.ite v13
 (some [.bool false])
 (kD x0 (.int .i64 0) x1 x2 v4 v5 v6))))
 (some [.bool true]):=bD _ _ _ _ _ _ _ _ (by kernel_rfl)
theorem pN (x0 x1 x2 x3 x4 x5 x6 : PV) : kD x0 x1 x2 x3 x4 x5 x6 =
 bd (PV.len x6) fun v0=>
 bd (PV.bin .lss x1 v0) fun v1=>
 PV.ite v1
 (bd (PV.at_ 2 true x6 x1) fun v2=>
 bd (aAX (.agg [x2,x3]) x0 v2) fun r3=>
 bd (PV.not (hd r3)) fun v4=>
 PV.ite v4
 (some [.bool false])
 (bd (PV.bin .add x1 (.int .i64 1)) fun v5=>
 kD x0 v5 x2 x3 x4 x5 x6))
 (bd (PV.bin .add x0 (.int .i64 1)) fun v6=>
 iX v6 x2 x3):=bD _ _ _ _ _ _ _ _ (by kernel_rfl)
theorem aBY (x0 x1 : PV) : kV x0 x1 =
 bd (PV.whole 2 x0) fun v0=>
 bd (PV.cell v0 0) fun v1=>
 bd (PV.cell v0 1) fun v2=>
 bd (PV.at_ 3 true v2 x1) fun v3=>
 bd (PV.cell v3 2) fun v4=>
 kE v4 (.int .i64 0) v1 v2 (.lst []):=aP _ _ _ (by kernel_rfl)
theorem pO (x0 x1 x2 x3 x4 : PV) : kE x0 x1 x2 x3 x4 =
 bd (PV.len x0) fun v0=>
 bd (PV.bin .lss x1 v0) fun v1=>
 PV.ite v1
 (bd (PV.cat 1 8 false x4 (.lst [(.int .i64 (-1))])) fun v2=>
 bd (PV.bin .add x1 (.int .i64 1)) fun v3=>
 kE x0 v3 x2 x3 v2)
 (bd (PV.inb x4 (.int .i64 0)) fun v4=>
 bd (PV.setAt 1 false x4 (.int .i64 0) (.int .i64 0)) fun v5=>
 iA x0 (.bool true) x2 x3 v5):=bD _ _ _ _ _ _ _ _ (by kernel_rfl)
theorem iF (x0 x1 x2 x3 x4 : PV) : iA x0 x1 x2 x3 x4 =
 PV.ite x1
 (dJ x0 (.bool false) (.int .i64 0) x2 x3 x4)
 (some [x4]):=bD _ _ _ _ _ _ _ _ (by kernel_rfl)
theorem oF (x0 x1 x2 x3 x4 x5 : PV) : dJ x0 x1 x2 x3 x4 x5 =
 bd (PV.len x0) fun v0=>
 bd (PV.bin .lss x2 v0) fun v1=>
 PV.ite v1
 (bd (PV.at_ 2 true x0 x2) fun v2=>
 bd (tE (.agg [x3,x4]) v2) fun r3=>
 bd (PV.comp (hd r3) 0) fun v4=>
 bd (PV.comp (hd r3) 1) fun v5=>
 bd (PV.inb x5 x2) fun v6=>
 bd (PV.at_ 1 false x5 x2) fun v7=>
 bd (PV.bin .sub v7 v4) fun v8=>
 bd (PV.bin .add v8 v5) fun v9=>
 bd (PV.inb x5 x2) fun v10=>
 bd (PV.at_ 1 false x5 x2) fun v11=>
 bd (PV.bin .lss v11 v4) fun v12=>
 PV.ite v12
 (bd (PV.bin .add x2 (.int .i64 1)) fun v13=>
 dJ x0 x1 v13 x3 x4 x5)
 (bd (PV.bin .gtr v9 (.int .i64 16)) fun v14=>
 PV.ite v14
 (bd (PV.bin .add x2 (.int .i64 1)) fun v15=>
 dJ x0 x1 v15 x3 x4 x5)
 (bd (PV.at_ 2 true x0 x2) fun v16=>
 bd (qS v16 x2) fun r17=>
 eE x0 x1 x2 v9 (hd r17) (.int .i64 0) x3 x4 x5)))
 (iA x0 x1 x3 x4 x5):=bD _ _ _ _ _ _ _ _ (by kernel_rfl)
theorem oG (x0 x1 x2 x3 x4 x5 x6 x7 x8 : PV) : eE x0 x1 x2 x3 x4 x5 x6 x7 x8 =
 bd (PV.len x4) fun v0=>
 bd (PV.bin .lss x5 v0) fun v1=>
 PV.ite v1
 (bd (PV.at_ 1 false x4 x5) fun v2=>
 bd (PV.len x0) fun v3=>
 bd (PV.bin .lss v2 v3) fun v4=>
 PV.ite v4
 (bd (PV.at_ 1 false x4 x5) fun v5=>
 bd (PV.inb x8 v5) fun v6=>
 bd (PV.at_ 1 false x8 v5) fun v7=>
 bd (PV.bin .lss v7 (.int .i64 0)) fun v8=>
 PV.ite v8
 (rW x0 x2 x3 x4 x5 x6 x7 x8)
 (bd (PV.bin .add x5 (.int .i64 1)) fun v9=>
 eE x0 x1 x2 x3 x4 v9 x6 x7 x8))
 (bd (PV.bin .add x5 (.int .i64 1)) fun v10=>
 eE x0 x1 x2 x3 x4 v10 x6 x7 x8))
 (bd (PV.bin .add x2 (.int .i64 1)) fun v11=>
 dJ x0 x1 v11 x6 x7 x8):=bD _ _ _ _ _ _ _ _ (by kernel_rfl)
theorem xF (x0 x1 x2 x3 x4 x5 x6 x7 : PV) : rW x0 x1 x2 x3 x4 x5 x6 x7 =
 bd (PV.at_ 1 false x3 x4) fun v0=>
 bd (PV.inb x7 v0) fun v1=>
 bd (PV.setAt 1 false x7 v0 x2) fun v2=>
 bd (PV.bin .add x4 (.int .i64 1)) fun v3=>
 eE x0 (.bool true) x1 x2 x3 v3 x5 x6 v2:=bD _ _ _ _ _ _ _ _ (by kernel_rfl)
theorem aE2 (x0 x1 : PV) : tE x0 x1 =
 bd (PV.whole 2 x0) fun v0=>
 bd (PV.cell v0 0) fun v1=>
 bd (PV.cell v0 1) fun v2=>
 bd (PV.whole 2 x1) fun v3=>
 bd (PV.cell v3 0) fun v4=>
 bd (PV.cell v3 1) fun v5=>
 bd (PV.bin .eql v4 (.int .i64 1)) fun v6=>
 PV.ite v6
 (some [(.tup [(.int .i64 0),(.int .i64 1)])])
 (bd (PV.bin .eql v4 (.int .i64 2)) fun v7=>
 PV.ite v7
 (some [(.tup [(.int .i64 0),(.int .i64 1)])])
 (bd (PV.bin .eql v4 (.int .i64 3)) fun v8=>
 PV.ite v8
 (some [(.tup [(.int .i64 0),(.int .i64 1)])])
 (bd (PV.bin .eql v4 (.int .i64 4)) fun v9=>
 PV.ite v9
 (some [(.tup [(.int .i64 0),(.int .i64 1)])])
 (bd (PV.bin .eql v4 (.int .i64 5)) fun v10=>
 PV.ite v10
 (some [(.tup [(.int .i64 0),(.int .i64 1)])])
 (bd (PV.bin .eql v4 (.int .i64 6)) fun v11=>
 PV.ite v11
 (some [(.tup [(.int .i64 0),(.int .i64 1)])])
 (bd (PV.bin .eql v4 (.int .i64 20)) fun v12=>
 PV.ite v12
 (some [(.tup [(.int .i64 0),(.int .i64 1)])])
 (bd (PV.bin .eql v4 (.int .i64 7)) fun v13=>
 PV.ite v13
 (some [(.tup [(.int .i64 1),(.int .i64 0)])])
 (bd (PV.bin .eql v4 (.int .i64 9)) fun v14=>
 PV.ite v14
 (some [(.tup [(.int .i64 1),(.int .i64 0)])])
 (bd (PV.bin .eql v4 (.int .i64 18)) fun v15=>
 PV.ite v15
 (some [(.tup [(.int .i64 1),(.int .i64 0)])])
 (bd (PV.bin .eql v4 (.int .i64 19)) fun v16=>
 PV.ite v16
 (some [(.tup [(.int .i64 1),(.int .i64 0)])])
 (bd (PV.bin .eql v4 (.int .i64 25)) fun v17=>
 PV.ite v17
 (some [(.tup [(.int .i64 1),(.int .i64 0)])])
 (bd (PV.bin .eql v4 (.int .i64 26)) fun v18=>
 PV.ite v18
 (some [(.tup [(.int .i64 1),(.int .i64 0)])])
 (bd (PV.bin .eql v4 (.int .i64 8)) fun v19=>
 PV.ite v19
 (some [(.tup [(.int .i64 1),(.int .i64 2)])])
 (bd (PV.bin .eql v4 (.int .i64 10)) fun v20=>
 PV.ite v20
 (some [(.tup [(.int .i64 2),(.int .i64 2)])])
 (bd (PV.bin .eql v4 (.int .i64 11)) fun v21=>
 PV.ite v21
 (some [(.tup [(.int .i64 2),(.int .i64 1)])])
 (bd (PV.bin .eql v4 (.int .i64 12)) fun v22=>
 PV.ite v22
 (some [(.tup [(.int .i64 2),(.int .i64 1)])])
 (bd (PV.bin .eql v4 (.int .i64 13)) fun v23=>
 PV.ite v23
 (some [(.tup [(.int .i64 2),(.int .i64 1)])])
 (bd (PV.bin .eql v4 (.int .i64 14)) fun v24=>
 PV.ite v24
 (some [(.tup [(.int .i64 2),(.int .i64 1)])])
 (bd (PV.bin .eql v4 (.int .i64 15)) fun v25=>
 PV.ite v25
 (some [(.tup [(.int .i64 2),(.int .i64 1)])])
 (bd (PV.bin .eql v4 (.int .i64 16)) fun v26=>
 PV.ite v26
 (some [(.tup [(.int .i64 1),(.int .i64 1)])])
 (bd (PV.bin .eql v4 (.int .i64 21)) fun v27=>
 PV.ite v27
 (some [(.tup [(.int .i64 1),(.int .i64 1)])])
 (bd (PV.bin .eql v4 (.int .i64 22)) fun v28=>
 PV.ite v28
 (some [(.tup [(.int .i64 2),(.int .i64 0)])])
 (bd (PV.bin .eql v4 (.int .i64 23)) fun v29=>
 PV.ite v29
 (bd (aL v5 (.int .i64 0) (.int .i64 6)) fun r30=>
 PV.ite (hd r30)
 (bd (PV.bin .add v5 (.int .i64 1)) fun v31=>
 some [(.tup [v31,(.int .i64 1)])])
 (some [(.tup [(.int .i64 0),(.int .i64 0)])]))
 (bd (PV.bin .eql v4 (.int .i64 24)) fun v32=>
 PV.ite v32
 (bd (PV.len v2) fun v33=>
 bd (PV.bin .sub v33 (.int .i64 1)) fun v34=>
 bd (aL v5 (.int .i64 0) v34) fun r35=>
 PV.ite (hd r35)
 (bd (PV.at_ 3 true v2 v5) fun v36=>
 bd (PV.cell v36 0) fun v37=>
 some [(.tup [v37,(.int .i64 1)])])
 (some [(.tup [(.int .i64 0),(.int .i64 0)])]))
 (some [(.tup [(.int .i64 0),(.int .i64 0)])]))))))))))))))))))))))))):=aP _ _ _ (by kernel_rfl)
end Go.Proofs.YtjgleeamiclokaaGreatDoor
