/-
  Texts of the proof, part 6: a value-level evaluator and its soundness, what the functions compute, laws about it.
  Conditions: none.
-/
import Derived.Test.YtllmobkkbpdchaaGreatE
import Derived.Lib.Strings
set_option linter.all false
namespace Go.Proofs.YtllmobkkbpdchaaGreat
noncomputable section
open Go Go.IntWalk
attribute [local irreducible] bd PV.ite PV.guardFlat PV.guardOwn PV.whole PV.one PV.cell PV.sub PV.at_ PV.len PV.slen PV.chr PV.beq PV.peq PV.ceq PV.bin PV.neg PV.not PV.conv PV.cut PV.scut PV.cat PV.setAt PV.setCell PV.ncopy PV.copyIn PV.zeros PV.toStr PV.toBytes PV.deref PV.isPtr PV.comp PV.inb PV.off PV.imin PV.imax PV.sel PV.apply PV.isLst PV.isInt PV.ix PV.nilT
inductive aDM where
 | trap (c : Int)
 | next (fr : bV) (hp : List (List bY)) (made : Int) (out : List ByteArray)
 | call (fr : bV) (g : bV)
 | ret (v : bY)
def lJ (v : bY) (hp : List (List bY)) : ByteArray:=
 if v.k=0 then bs [110,105,108] else if v.k=1 then nX v.n else if v.k=2 then (if v.n=1 then bs [116,114,117,101] else bs [102,97,108,115,101]) else if v.k=3 then v.s
 else if v.k=5 then bs [102,117,110]++nX v.n
 else if v.k=4 then bs [123]++nX ((hp[v.n.toNat]?.getD []).length)++bs [125] else bs []
def aDN (fs : List cY) (i : Int) : Int:=(fs[i.toNat]?.map cY.lc).getD 0
def aAp (fs : List cY) (g : Int) (args : List bY) : bV:=⟨g,0,args++List.replicate ((aDN fs g).toNat - args.length) dL,[]⟩
def qP (m : eM) (fr : bV) (took : List bY) (depth : Nat) (hp : List (List bY)) (made : Int) (out : List ByteArray) (x : cG) : aDM:=
 let a:=took.headD dL
 let b:=took.tail.headD dL
 let go : List bY→aDM:=λl=>.next ⟨fr.f,fr.pc,fr.loc,fr.stk++l⟩ hp made out
 let rec_ : List bY:=hp[a.n.toNat]?.getD []
 if x.o=1 then go [aAm x.a]
 else if x.o=2 then go [tD (decide (x.a=1))]
 else if x.o=3 then go [aDD (m.texts[x.a.toNat]?.getD (bs []))]
 else if x.o=4 then go [dL]
 else if x.o=5 then go [aLH x.a]
 else if x.o=6 then go [fr.loc[x.a.toNat]?.getD dL]
 else if x.o=7 then .next ⟨fr.f,fr.pc,fr.loc.set x.a.toNat a,fr.stk⟩ hp made out
 else if x.o=8 then go [a,a]
 else if x.o=9 then go []
 else if x.o=10 then go [b,a]
 else if x.o≤15 then (if (yI x.o a b).2≠0 then .trap (yI x.o a b).2 else go [(yI x.o a b).1])
 else if x.o=16 then (if (aCV a).2≠0 then .trap (aCV a).2 else go [(aCV a).1])
 else if x.o=17 then .next ⟨fr.f,x.a,fr.loc,fr.stk⟩ hp made out
 else if x.o≤19 then (if a.k≠2 then .trap 1 else if (decide (a.n=1)==decide (x.o=18))=true then .next ⟨fr.f,x.a,fr.loc,fr.stk⟩ hp made out else go [])
 else if x.o=20 then (if made=120 then .trap 7 else .next ⟨fr.f,fr.pc,fr.loc,fr.stk++[aPf hp.length]⟩ (hp++[List.replicate x.a.toNat dL]) (made+1) out)
 else if x.o=21 then (if a.k≠4 then .trap 1 else if rec_.length≤x.a then .trap 4 else go [rec_[x.a.toNat]?.getD dL])
 else if x.o=22 then (if a.k≠4 then .trap 1 else if rec_.length≤x.a then .trap 4 else .next fr (hp.set a.n.toNat (rec_.set x.a.toNat b)) made out)
 else if x.o=23 then (if a.k≠5 then .trap 1 else if lI m.funcs a.n≠x.a then .trap 5 else if depth=24 then .trap 6 else .call fr (aAp m.funcs a.n took.tail))
 else if x.o=24 then (if depth=24 then .trap 6 else .call fr (aAp m.funcs x.a took))
 else if x.o=25 then .ret a
 else if out.length=200 then .trap 8 else .next fr hp made (out++[lJ a hp])
theorem aJg {v : bY} {hp : List (List bY)} {nf : Int} (hnf : nf≤1000) (hh : hp.length≤1000) (hr : ∀ r∈hp,r.length≤1000) (hv : cA nf hp.length v=true) :
 Ok (λr=>r = [.str (lJ v hp)]) (uO v.pv (.lst (hp.map aR))):=by
 have hn : -1000000000≤v.n∧v.n≤1000000000∧(v.k=4→0≤v.n∧v.n<hp.length)∧0≤v.k∧v.k≤5:=by
  unfold cA at hv
  repeat' split at hv
  all_goals first
   | (cases hv;done)
   | (simp only [dF,bG,Bool.and_eq_true,decide_eq_true_eq] at hv;omega)
 rw [aDy]
 refine aD rfl (aA rfl (aA rfl (aA rfl ?_)))
 refine aG (aC (λh=>aB ?_) (λh0=>aG (aC (λh=>?_) (λh1=>aG (aC (λh=>?_) (λh2=>aG (aC (λh=>aB ?_) (λh3=>aG (aC (λh=>?_) (λh5=>?_))))))))))
 ·unfold lJ;rw [if_pos h]
 ·refine aI (aA9 (by omega)) (λr hr=>?_)
  subst hr
  refine aB ?_
  unfold lJ;rw [if_neg h0,if_pos h];rfl
 ·refine aG (aC (λh'=>aB ?_) (λh'=>aB ?_))
  ·unfold lJ;rw [if_neg h0,if_neg h1,if_pos h,if_pos h']
  ·unfold lJ;rw [if_neg h0,if_neg h1,if_pos h,if_neg h']
 ·unfold lJ;rw [if_neg h0,if_neg h1,if_neg h2,if_pos h]
 ·refine aI (aA9 (by omega)) (λr hr=>?_)
  subst hr
  have:=aDI v.n
  refine wI (by have e : (bs [102,117,110]).size=3:=rfl
                omega) (aB ?_)
  unfold lJ;rw [if_neg h0,if_neg h1,if_neg h2,if_neg h3,if_pos h]
 ·refine aG (aC (λh4=>?_) (λh4=>by omega))
  refine aE (bE (by omega) (dS ?_))
  rw [show lM v.n 0 (hp.length - 1)=true from bG.2 (by omega)]
  refine bB ?_
  obtain ⟨i,hi⟩:=Int.eq_ofNat_of_zero_le (hn.2.2.1 h4).1
  have hil : i<hp.length:=by omega
  rw [hi]
  have hrl:=hr _ (List.getElem_mem hil)
  refine aK hil (λ_=>rfl) (aA rfl (aX ?_))
  refine aI (aA9 (by omega)) (λr hr=>?_)
  subst hr
  have:=aDI ((hp[i].length : Nat) : Int)
  have e1 : (bs [123]).size=1:=rfl
  have e2 : (bs [125]).size=1:=rfl
  refine wI (by omega) (wI (by rw [ByteArray.size_append];omega) (aB ?_))
  unfold lJ;rw [if_neg h0,if_neg h1,if_neg h2,if_neg h3,if_neg h5,if_pos h4,hi,Int.toNat_natCast,List.getElem?_eq_getElem hil]
  rfl
section
variable {a2 a3 a4 a5 a6 a7 a8 H O T : PV} {A : List PV} {fs : List cY}
theorem aKv {P : R→Prop} {g : Int} {loc : List bY} (hA : A.length≤1000) (h : P [T,.lst (fs.map cY.pv),a2,a3,a4,a5,a6,a7,a8,.int .i64 0,.lst (A++[bV.pv ⟨g,0,loc,[]⟩]),H,O]) :
 Ok P (kA (.int .i64 g) T (.lst (fs.map cY.pv)) a2 a3 a4 a5 a6 a7 a8 (.int .i64 0) (.lst A) H O (aS loc)):=by
 rw [yB]
 refine aV rfl (fF (by simp;omega) (λx hx=>by simp only [List.mem_singleton] at hx;subst hx;rfl) (aB h))
theorem aPl {P : R→Prop} {g f pc : Int} {under : Bool} {loc s s1 : List bY} (hA : A.length≤100) (hs : s.length≤100) (hu : (under=true∧∃ w,s=s1++[w])∨(under=false∧s=s1)) :
 ∀ (j : Nat) (args post pre : List bY),args.length=j→pre.length=j→j+post.length≤50→
 P [T,.lst (fs.map cY.pv),a2,a3,a4,a5,a6,a7,a8,.int .i64 0,.lst (A++[bV.pv ⟨f,pc,loc,s1⟩]++[bV.pv ⟨g,0,args++post,[]⟩]),H,O]→
 Ok P (kR (.int .i64 g) (.bool under) (.int .i64 ((j : Int) - 1)) T (.lst (fs.map cY.pv)) a2 a3 a4 a5 a6 a7 a8 (.int .i64 0) (.lst (A++[bV.pv ⟨f,pc,loc,s++args⟩])) H O (aS (pre++post))):=by
 intro j
 induction j with
 | zero=>
   intro args post pre h1 h2 h3 h
   rw [List.eq_nil_of_length_eq_zero h1,List.nil_append] at h
   rw [List.eq_nil_of_length_eq_zero h1,List.eq_nil_of_length_eq_zero h2,List.append_nil,List.nil_append,qN]
   refine eZ (aC (λh=>by omega) (λ_=>?_))
   rcases hu with ⟨rfl,w,rfl⟩ | ⟨rfl,rfl⟩
   ·refine bB (iD (by omega) (by simp at hs;omega) ?_)
    exact aKv (by simp;omega) h
   ·exact aT (aKv (by simp;omega) h)
 | succ j ih=>
   intro args post pre h1 h2 h3 h
   obtain ⟨args',v,rfl⟩ : ∃ l v,args=l++[v]:=⟨args.dropLast,args.getLast (λe=>by rw [e] at h1;simp at h1),(List.dropLast_concat_getLast _).symm⟩
   obtain ⟨pre',u,rfl⟩ : ∃ l v,pre=l++[v]:=⟨pre.dropLast,pre.getLast (λe=>by rw [e] at h2;simp at h2),(List.dropLast_concat_getLast _).symm⟩
   simp only [List.length_append,List.length_cons,List.length_nil,Nat.zero_add,Nat.add_right_cancel_iff] at h1 h2
   have ej : ((j+1 : Nat) : Int) - 1=j:=by omega
   rw [ej,qN,← List.append_assoc]
   refine eZ (aC (λ_=>?_) (λh=>by omega))
   refine iD (by omega) (by simp;omega) ?_
   have hlen : (pre'++[u]++post).length=j+1+post.length:=by simp;omega
   refine iT (by omega) (by omega) (wJ (by omega) (by omega) (bE (by omega) ?_))
   have e : (pre'++[u]++post).set (j : Int).toNat v=pre'++(v::post):=by
    rw [Int.toNat_natCast,← h2,List.append_assoc,List.set_append_right _ _ (Nat.le_refl _),Nat.sub_self]
    rfl
   rw [e]
   refine ih args' (v::post) pre' h1 h2 (by simp;omega) ?_
   rw [show args'++v::post=args'++[v]++post by simp]
   exact h
theorem aKw {P : R→Prop} {k : R→Option R} {g f pc : Int} {under : Bool} {loc s s1 args : List bY} (hF : fs.length≤1000) (hpar : ∀ f∈fs,0≤f.p∧f.p≤6∧f.p≤f.lc∧f.lc≤12) (hA : A.length≤23) (hs : s.length≤100)
 (hu : (under=true∧∃ w,s=s1++[w])∨(under=false∧s=s1)) (hg : 0≤g∧g<fs.length) (ha : args.length=lI fs g)
 (h1 : A.length=23→Ok P (k [T,.lst (fs.map cY.pv),a2,a3,a4,a5,a6,a7,a8,.int .i64 6,.lst (A++[bV.pv ⟨f,pc,loc,s++args⟩]),H,O]))
 (h2 : A.length≠23→Ok P (k [T,.lst (fs.map cY.pv),a2,a3,a4,a5,a6,a7,a8,.int .i64 0,.lst (A++[bV.pv ⟨f,pc,loc,s1⟩]++[bV.pv (aAp fs g args)]),H,O])) :
 Ok P (bd (nS (.int .i64 g) (.bool under) T (.lst (fs.map cY.pv)) a2 a3 a4 a5 a6 a7 a8 (.int .i64 0) (.lst (A++[bV.pv ⟨f,pc,loc,s++args⟩])) H O) k):=by
 obtain ⟨n,rfl⟩:=Int.eq_ofNat_of_zero_le hg.1
 have hn : n<fs.length:=by omega
 have hp:=hpar _ (List.getElem_mem hn)
 have ep : lI fs (n : Int)=fs[n].p:=by simp [lI,List.getElem?_eq_getElem hn]
 have el : aDN fs (n : Int)=fs[n].lc:=by simp [aDN,List.getElem?_eq_getElem hn]
 rw [ep] at ha
 have hl : ((A++[bV.pv ⟨f,pc,loc,s++args⟩]).length : Int)=A.length+1:=by simp
 refine aI (Q:=λr=>(A.length=23∧r = [T,.lst (fs.map cY.pv),a2,a3,a4,a5,a6,a7,a8,.int .i64 6,.lst (A++[bV.pv ⟨f,pc,loc,s++args⟩]),H,O])∨
  (A.length≠23∧r = [T,.lst (fs.map cY.pv),a2,a3,a4,a5,a6,a7,a8,.int .i64 0,.lst (A++[bV.pv ⟨f,pc,loc,s1⟩]++[bV.pv (aAp fs n args)]),H,O])) ?_ ?_
 ·rw [aBX]
  refine aK hn (λ_=>rfl) (aD rfl (aA rfl (aA rfl (aA rfl (dI ?_)))))
  refine aG (aC (λh=>aB (.inl ⟨by omega,rfl⟩)) (λh=>?_))
  refine aBE (by omega) (by omega) (eO (aC (λ_=>?_) (λh=>by omega)))
  refine aBE (by omega) (by omega) (bE (by omega) ?_)
  have e1 : fs[n].p - 1=((args.length : Int)) - 1:=by omega
  have e2 : List.replicate fs[n].lc.toNat dL=List.replicate args.length dL++List.replicate (fs[n].lc.toNat - args.length) dL:=by
   rw [List.replicate_append_replicate];congr 1;omega
  rw [e1,e2]
  refine aPl (by omega) hs hu args.length args _ _ rfl (by simp) (by simp;omega) (.inr ⟨by omega,?_⟩)
  simp only [aAp,el]
 ·rintro r (⟨h,rfl⟩ | ⟨h,rfl⟩)
  ·exact h1 h
  ·exact h2 h
end
def aFb (v : bY) : List bV→List bV
 | []=>[]
 | [f]=>[⟨f.f,f.pc,f.loc,f.stk++[v]⟩]
 | f::g::r=>f::aFb v (g::r)
theorem aCW (v : bY) : ∀ (l : List bV) (f : bV),aFb v (l++[f])=l++[⟨f.f,f.pc,f.loc,f.stk++[v]⟩]
 | [],_=>rfl
 | [a],f=>rfl
 | a::b::l,f=>by
   show a::aFb v (b::l++[f])=_
   rw [aCW v (b::l) f]
   rfl
def DoR (a0 a1 made a3 a4 a5 a6 a7 a8 H O : PV) (fs0 : List bV) : aDM→R→Prop
 | .trap c,r=>c≠0∧gd r 9 = .int .i64 c
 | .next fr hp made' out,r=>r = [a0,a1,.int .i64 made',a3,a4,a5,a6,a7,a8,.int .i64 0,.lst (fs0.map bV.pv++[fr.pv]),.lst (hp.map aR),.lst (out.map PV.str)]
 | .call fr g,r=>r = [a0,a1,made,a3,a4,a5,a6,a7,a8,.int .i64 0,.lst (fs0.map bV.pv++[fr.pv]++[g.pv]),H,O]
 | .ret v,r=>r=if fs0 = [] then [a0,a1,made,.int .i64 1,a4,.int .i64 v.k,.int .i64 v.n,.str v.s,a8,.int .i64 0,.lst [],H,O]
  else [a0,a1,made,a3,a4,a5,a6,a7,a8,.int .i64 0,.lst ((aFb v fs0).map bV.pv),H,O]
structure aPU (m : eM) (fs0 : List bV) (fr : bV) (took : List bY) (hp : List (List bY)) (made : Int) (out : List ByteArray) : Prop where
 nf : m.funcs.length≤12
 nt : m.texts.length≤20
 par : ∀ f∈m.funcs,0≤f.p∧f.p≤6∧f.p≤f.lc∧f.lc≤12
 n0 : fs0.length≤23
 stks : ∀ f∈fs0,f.stk.length≤16
 nl : fr.loc.length≤12
 ns : fr.stk.length+took.length≤16
 recs : ∀ r∈hp,r.length≤6
 nh : hp.length≤120
 nm : 0≤made∧made≤120
 no : out.length≤200
 aS : ∀ v∈took,cA m.funcs.length hp.length v=true
theorem bM {nf recs : Int} {v : bY} (h : cA nf recs v=true) : v.s.size≤60:=by
 by_cases h3 : v.k=3
 ·unfold cA at h
  rw [if_neg (λe=>e.1 h3),if_neg (by omega),if_neg (by omega),if_neg (by omega),if_pos h3] at h
  simp only [Bool.and_eq_true,dA,decide_eq_true_eq] at h
  omega
 ·unfold cA at h
  split at h
  ·cases h
  ·rename_i hn
   have he : jL v.s (bs [])=true:=by
    cases hs : jL v.s (bs []) with
    | true=>rfl
    | false=>exact absurd ⟨h3,hs⟩ hn
   have e0 : (bs []).toList = []:=by rw [Lib.toList_data];rfl
   unfold jL at he
   rw [e0] at he
   have hl : v.s.toList = []:=by simpa using he
   have hsz : v.s.size=v.s.toList.length:=by
    rw [Lib.toList_data,Array.length_toList]
    rfl
   rw [hsz,hl]
   simp
theorem aIm {nf recs : Int} {v : bY} (h : cA nf recs v=true) (hk : v.k=4) : 0≤v.n∧v.n<recs:=by
 unfold cA at h
 by_cases hc : v.k≠3∧jL v.s (bs [])=false
 ·rw [if_pos hc] at h;cases h
 ·rw [if_neg hc,if_neg (by omega),if_neg (by omega),if_neg (by omega),if_neg (by omega),if_pos hk] at h
  simp only [Bool.and_eq_true,decide_eq_true_eq] at h
  exact h
theorem aIn {nf recs : Int} {v : bY} (h : cA nf recs v=true) (hk : v.k=5) : 0≤v.n∧v.n<nf:=by
 unfold cA at h
 by_cases hc : v.k≠3∧jL v.s (bs [])=false
 ·rw [if_pos hc] at h;cases h
 ·rw [if_neg hc,if_neg (by omega),if_neg (by omega),if_neg (by omega),if_neg (by omega),if_neg (by omega),if_pos hk] at h
  have:=bG.1 h
  omega
theorem aEx {nt nf lc nc : Int} {x : cG} (h : cN nt nf lc nc x.o x.a=true) : (1≤x.o∧x.o≤26)∧(x.o=3→0≤x.a∧x.a<nt)∧((x.o=6∨x.o=7)→0≤x.a∧x.a<lc)∧(x.o=20→0≤x.a∧x.a≤6)∧
 ((x.o=21∨x.o=22)→0≤x.a∧x.a≤5)∧(x.o=23→0≤x.a∧x.a≤6)∧((x.o=5∨x.o=24)→0≤x.a∧x.a<nf)∧((x.o=17∨x.o=18∨x.o=19)→0≤x.a∧x.a<nc)∧(x.o=1→dF x.a=true):=by
 unfold cN at h
 by_cases h1 : x.o=1
 ·rw [if_pos h1] at h
  have h:=bG.1 h
  exact ⟨by omega,λ_=>by omega,λ_=>by omega,λ_=>by omega,λ_=>by omega,λ_=>by omega,λ_=>by omega,λ_=>by omega,λ_=>by first | (unfold dF;exact bG.2 (by omega)) | (exfalso;omega)⟩
 rw [if_neg h1] at h
 by_cases h2 : x.o=2
 ·rw [if_pos h2] at h
  have h:=bG.1 h
  exact ⟨by omega,λ_=>by omega,λ_=>by omega,λ_=>by omega,λ_=>by omega,λ_=>by omega,λ_=>by omega,λ_=>by omega,λ_=>by first | (unfold dF;exact bG.2 (by omega)) | (exfalso;omega)⟩
 rw [if_neg h2] at h
 by_cases h3 : x.o=3
 ·rw [if_pos h3] at h
  have h:=bG.1 h
  exact ⟨by omega,λ_=>by omega,λ_=>by omega,λ_=>by omega,λ_=>by omega,λ_=>by omega,λ_=>by omega,λ_=>by omega,λ_=>by first | (unfold dF;exact bG.2 (by omega)) | (exfalso;omega)⟩
 rw [if_neg h3] at h
 by_cases h5 : x.o=5
 ·rw [if_pos h5] at h
  have h:=bG.1 h
  exact ⟨by omega,λ_=>by omega,λ_=>by omega,λ_=>by omega,λ_=>by omega,λ_=>by omega,λ_=>by omega,λ_=>by omega,λ_=>by first | (unfold dF;exact bG.2 (by omega)) | (exfalso;omega)⟩
 rw [if_neg h5] at h
 by_cases h24 : x.o=24
 ·rw [if_pos h24] at h
  have h:=bG.1 h
  exact ⟨by omega,λ_=>by omega,λ_=>by omega,λ_=>by omega,λ_=>by omega,λ_=>by omega,λ_=>by omega,λ_=>by omega,λ_=>by first | (unfold dF;exact bG.2 (by omega)) | (exfalso;omega)⟩
 rw [if_neg h24] at h
 by_cases h6 : x.o=6
 ·rw [if_pos h6] at h
  have h:=bG.1 h
  exact ⟨by omega,λ_=>by omega,λ_=>by omega,λ_=>by omega,λ_=>by omega,λ_=>by omega,λ_=>by omega,λ_=>by omega,λ_=>by first | (unfold dF;exact bG.2 (by omega)) | (exfalso;omega)⟩
 rw [if_neg h6] at h
 by_cases h7 : x.o=7
 ·rw [if_pos h7] at h
  have h:=bG.1 h
  exact ⟨by omega,λ_=>by omega,λ_=>by omega,λ_=>by omega,λ_=>by omega,λ_=>by omega,λ_=>by omega,λ_=>by omega,λ_=>by first | (unfold dF;exact bG.2 (by omega)) | (exfalso;omega)⟩
 rw [if_neg h7] at h
 by_cases h17 : x.o=17
 ·rw [if_pos h17] at h
  have h:=bG.1 h
  exact ⟨by omega,λ_=>by omega,λ_=>by omega,λ_=>by omega,λ_=>by omega,λ_=>by omega,λ_=>by omega,λ_=>by omega,λ_=>by first | (unfold dF;exact bG.2 (by omega)) | (exfalso;omega)⟩
 rw [if_neg h17] at h
 by_cases h18 : x.o=18
 ·rw [if_pos h18] at h
  have h:=bG.1 h
  exact ⟨by omega,λ_=>by omega,λ_=>by omega,λ_=>by omega,λ_=>by omega,λ_=>by omega,λ_=>by omega,λ_=>by omega,λ_=>by first | (unfold dF;exact bG.2 (by omega)) | (exfalso;omega)⟩
 rw [if_neg h18] at h
 by_cases h19 : x.o=19
 ·rw [if_pos h19] at h
  have h:=bG.1 h
  exact ⟨by omega,λ_=>by omega,λ_=>by omega,λ_=>by omega,λ_=>by omega,λ_=>by omega,λ_=>by omega,λ_=>by omega,λ_=>by first | (unfold dF;exact bG.2 (by omega)) | (exfalso;omega)⟩
 rw [if_neg h19] at h
 by_cases h20 : x.o=20
 ·rw [if_pos h20] at h
  have h:=bG.1 h
  exact ⟨by omega,λ_=>by omega,λ_=>by omega,λ_=>by omega,λ_=>by omega,λ_=>by omega,λ_=>by omega,λ_=>by omega,λ_=>by first | (unfold dF;exact bG.2 (by omega)) | (exfalso;omega)⟩
 rw [if_neg h20] at h
 by_cases h21 : x.o=21
 ·rw [if_pos h21] at h
  have h:=bG.1 h
  exact ⟨by omega,λ_=>by omega,λ_=>by omega,λ_=>by omega,λ_=>by omega,λ_=>by omega,λ_=>by omega,λ_=>by omega,λ_=>by first | (unfold dF;exact bG.2 (by omega)) | (exfalso;omega)⟩
 rw [if_neg h21] at h
 by_cases h22 : x.o=22
 ·rw [if_pos h22] at h
  have h:=bG.1 h
  exact ⟨by omega,λ_=>by omega,λ_=>by omega,λ_=>by omega,λ_=>by omega,λ_=>by omega,λ_=>by omega,λ_=>by omega,λ_=>by first | (unfold dF;exact bG.2 (by omega)) | (exfalso;omega)⟩
 rw [if_neg h22] at h
 by_cases h23 : x.o=23
 ·rw [if_pos h23] at h
  have h:=bG.1 h
  exact ⟨by omega,λ_=>by omega,λ_=>by omega,λ_=>by omega,λ_=>by omega,λ_=>by omega,λ_=>by omega,λ_=>by omega,λ_=>by first | (unfold dF;exact bG.2 (by omega)) | (exfalso;omega)⟩
 rw [if_neg h23] at h
 simp only [Bool.and_eq_true,decide_eq_true_eq,bG] at h
 exact ⟨by omega,λ_=>by omega,λ_=>by omega,λ_=>by omega,λ_=>by omega,λ_=>by omega,λ_=>by omega,λ_=>by omega,λ_=>by first | (unfold dF;exact bG.2 (by omega)) | (exfalso;omega)⟩
variable {a0 a1 a2 a3 a4 a5 a6 a7 a8 : PV}
section
variable {P : R → Prop} {k : PV → Option R} {hp : List (List bY)}
theorem jR {i : Int} (h0 : 0≤i) (h1 : i<hp.length) (h : Ok P (k (aR (hp[i.toNat]?.getD [])))) : Ok P (bd (PV.at_ 1 true (.lst (hp.map aR)) (.int .i64 i)) k):=by
 obtain ⟨n,rfl⟩:=Int.eq_ofNat_of_zero_le h0
 have hn : n<hp.length:=by omega
 rw [Int.toNat_natCast,List.getElem?_eq_getElem hn] at h
 exact aK hn (λ_=>rfl) h
theorem zI {i : Int} (h0 : 0≤i) (h1 : i<hp.length) (h : Ok P (k (.lst (hp.map aR)))) : Ok P (bd (PV.inb (.lst (hp.map aR)) (.int .i64 i)) k):=dC h0 (by rw [List.length_map];exact h1) h
theorem aLJ {i : Int} {r : List bY} (h0 : 0≤i) (h1 : i<hp.length) (h : Ok P (k (.lst ((hp.set i.toNat r).map aR)))) : Ok P (bd (PV.setCell 1 (.lst (hp.map aR)) (.int .i64 i) 0 (aS r)) k):=by
 obtain ⟨n,rfl⟩:=Int.eq_ofNat_of_zero_le h0
 have hn : n<hp.length:=by omega
 refine fR (cs:=[aS hp[n]]) (by omega) (by rw [Int.toNat_natCast,List.getElem?_map,List.getElem?_eq_getElem hn];rfl) rfl (by omega) rfl ?_
 rw [List.map_set] at h
 exact h
theorem aMt {hp : List (List bY)} (h : ∀ r∈hp,r.length≤6) (i : Nat) : (hp[i]?.getD []).length≤6:=by
 cases hx : hp[i]? with
 | none=>simp
 | some r=>exact h r (List.mem_of_getElem? hx)
end
theorem aCX {α : Type} {l : List α} (h : l.length=2) : ∃ a b,l = [a,b]:=by
 match l,h with
 | [a,b],_=>exact ⟨a,b,rfl⟩
theorem aNs {l : List bV} : ∀ x∈l.map bV.pv,x.isEl 4 true=true:=by
 intro x hx
 obtain ⟨a,_,rfl⟩:=List.mem_map.1 hx
 rfl
set_option maxRecDepth 100000 in
set_option maxHeartbeats 4000000 in
theorem aPm {m : eM} {fs0 : List bV} {fr : bV} {took : List bY} {hp : List (List bY)} {made : Int} {out : List ByteArray} {x : cG} {nc : Int}
 (S : aPU m fs0 fr took hp made out) (hx : cN m.texts.length m.funcs.length fr.loc.length nc x.o x.a=true) (hu : (took.length : Int)=(bX m.funcs x).1) :
 Ok (DoR (.lst (m.texts.map PV.str)) (.lst (m.funcs.map cY.pv)) (.int .i64 made) a3 a4 a5 a6 a7 a8 (.lst (hp.map aR)) (.lst (out.map PV.str)) fs0 (qP m fr took (fs0.length+1) hp made out x))
  (uN (.int .i64 x.o) (.int .i64 x.a) (.lst (m.texts.map PV.str)) (.lst (m.funcs.map cY.pv)) (.int .i64 made) a3 a4 a5 a6 a7 a8 (.int .i64 0)
   (.lst (fs0.map bV.pv++[bV.pv ⟨fr.f,fr.pc,fr.loc,fr.stk++took⟩])) (.lst (hp.map aR)) (.lst (out.map PV.str))):=by
 obtain ⟨q26,q3,q67,q20,q2122,q23,q524,qj,q1⟩:=aEx hx
 obtain ⟨nf,nt,par,n0,stks,nl,ns,recs,nh,nm,no,vals0⟩:=S
 have nA : (fs0.map bV.pv).length≤23:=by rw [List.length_map];exact n0
 obtain ⟨ff,fpc,floc,fstk⟩:=fr
 simp only at *
 rw [aDx]
 refine aBf (by omega) ?_
 refine aG (aC (λho=>?_) (λn1=>?_))
 ·have e0 : bX m.funcs x=(0,1):=by unfold bX;repeat (first | rfl | rw [if_pos (by omega)] | rw [if_neg (by omega)])
  rw [e0] at hu
  obtain rfl:=List.eq_nil_of_length_eq_zero (show took.length=0 by omega)
  simp only [List.length_nil,Nat.add_zero,List.append_nil] at ns ⊢
  have e : qP m ⟨ff,fpc,floc,fstk⟩ [] (fs0.length+1) hp made out x = .next ⟨ff,fpc,floc,fstk++[aAm x.a]⟩ hp made out:=by simp only [qP];repeat (first | rfl | rw [if_pos (by omega)] | rw [if_neg (by omega)])
  exact yD (aFK (by omega) (by omega) (aB (by rw [e];rfl)))
 refine aG (aC (λho=>?_) (λn2=>?_))
 ·have e0 : bX m.funcs x=(0,1):=by unfold bX;repeat (first | rfl | rw [if_pos (by omega)] | rw [if_neg (by omega)])
  rw [e0] at hu
  obtain rfl:=List.eq_nil_of_length_eq_zero (show took.length=0 by omega)
  simp only [List.length_nil,Nat.add_zero,List.append_nil] at ns ⊢
  have e : qP m ⟨ff,fpc,floc,fstk⟩ [] (fs0.length+1) hp made out x = .next ⟨ff,fpc,floc,fstk++[tD (decide (x.a=1))]⟩ hp made out:=by simp only [qP];repeat (first | rfl | rw [if_pos (by omega)] | rw [if_neg (by omega)])
  exact aG (pT (aFK (by omega) (by omega) (aB (by rw [e];rfl))))
 refine aG (aC (λho=>?_) (λn3=>?_))
 ·have e0 : bX m.funcs x=(0,1):=by unfold bX;repeat (first | rfl | rw [if_pos (by omega)] | rw [if_neg (by omega)])
  rw [e0] at hu
  obtain rfl:=List.eq_nil_of_length_eq_zero (show took.length=0 by omega)
  simp only [List.length_nil,Nat.add_zero,List.append_nil] at ns ⊢
  have e : qP m ⟨ff,fpc,floc,fstk⟩ [] (fs0.length+1) hp made out x = .next ⟨ff,fpc,floc,fstk++[aDD (m.texts[x.a.toNat]?.getD (bs []))]⟩ hp made out:=by simp only [qP];repeat (first | rfl | rw [if_pos (by omega)] | rw [if_neg (by omega)])
  obtain ⟨i,hi⟩:=Int.eq_ofNat_of_zero_le (q3 ho).1
  have hil : i<m.texts.length:=by have:=q3 ho;omega
  rw [hi] at e ⊢
  rw [Int.toNat_natCast,List.getElem?_eq_getElem hil] at e
  exact aK hil (λ_=>rfl) (aV rfl (jG (by omega) (by omega) (aB (by rw [e];rfl))))
 refine aG (aC (λho=>?_) (λn4=>?_))
 ·have e0 : bX m.funcs x=(0,1):=by unfold bX;repeat (first | rfl | rw [if_pos (by omega)] | rw [if_neg (by omega)])
  rw [e0] at hu
  obtain rfl:=List.eq_nil_of_length_eq_zero (show took.length=0 by omega)
  simp only [List.length_nil,Nat.add_zero,List.append_nil] at ns ⊢
  have e : qP m ⟨ff,fpc,floc,fstk⟩ [] (fs0.length+1) hp made out x = .next ⟨ff,fpc,floc,fstk++[dL]⟩ hp made out:=by simp only [qP];repeat (first | rfl | rw [if_pos (by omega)] | rw [if_neg (by omega)])
  exact jG (by omega) (by omega) (aB (by rw [e];rfl))
 refine aG (aC (λho=>?_) (λn5=>?_))
 ·have e0 : bX m.funcs x=(0,1):=by unfold bX;repeat (first | rfl | rw [if_pos (by omega)] | rw [if_neg (by omega)])
  rw [e0] at hu
  obtain rfl:=List.eq_nil_of_length_eq_zero (show took.length=0 by omega)
  simp only [List.length_nil,Nat.add_zero,List.append_nil] at ns ⊢
  have e : qP m ⟨ff,fpc,floc,fstk⟩ [] (fs0.length+1) hp made out x = .next ⟨ff,fpc,floc,fstk++[aLH x.a]⟩ hp made out:=by simp only [qP];repeat (first | rfl | rw [if_pos (by omega)] | rw [if_neg (by omega)])
  exact aV rfl (jG (by omega) (by omega) (aB (by rw [e];rfl)))
 refine aG (aC (λho=>?_) (λn6=>?_))
 ·have e0 : bX m.funcs x=(0,1):=by unfold bX;repeat (first | rfl | rw [if_pos (by omega)] | rw [if_neg (by omega)])
  rw [e0] at hu
  obtain rfl:=List.eq_nil_of_length_eq_zero (show took.length=0 by omega)
  simp only [List.length_nil,Nat.add_zero,List.append_nil] at ns ⊢
  have e : qP m ⟨ff,fpc,floc,fstk⟩ [] (fs0.length+1) hp made out x = .next ⟨ff,fpc,floc,fstk++[floc[x.a.toNat]?.getD dL]⟩ hp made out:=by simp only [qP];repeat (first | rfl | rw [if_pos (by omega)] | rw [if_neg (by omega)])
  have hq:=q67 (.inl ho)
  refine cO rfl rfl (cO rfl rfl (aA (y:=aS floc) rfl (iT (by omega) (by omega) (cO rfl rfl (aA (y:=aS floc) rfl (zH (by omega) (by omega) (λv hv=>?_)))))))
  rw [hv] at e
  exact aFK (by omega) (by omega) (aB (by rw [e];rfl))
 refine aG (aC (λho=>?_) (λn7=>?_))
 ·have e0 : bX m.funcs x=(1,0):=by unfold bX;repeat (first | rfl | rw [if_pos (by omega)] | rw [if_neg (by omega)])
  rw [e0] at hu
  obtain ⟨a,rfl⟩:=List.length_eq_one_iff.1 (show took.length=1 by omega)
  have va:=vals0 a (by simp)
  have sa:=bM va
  have ns : fstk.length+1≤16:=ns
  have e : qP m ⟨ff,fpc,floc,fstk⟩ [a] (fs0.length+1) hp made out x = .next ⟨ff,fpc,floc.set x.a.toNat a,fstk⟩ hp made out:=by simp only [qP];repeat (first | rfl | rw [if_pos (by omega)] | rw [if_neg (by omega)])
  have hq:=q67 (.inr ho)
  refine iD (by omega) (by first | omega | (simp;omega)) (aD rfl (aA rfl (aA rfl (aA rfl (?_)))))
  refine cO rfl rfl (cO rfl rfl (aA (y:=aS floc) rfl (iT (by omega) (by omega) (cO rfl rfl (aA (y:=aS floc) rfl (cO rfl rfl (aA (y:=aS floc) rfl ?_)))))))
  refine wJ (v:=a) (by omega) (by omega) (cO rfl rfl (aA (y:=aS floc) rfl (gU rfl rfl (by omega) rfl (aB (by rw [e];rfl)))))
 refine aG (aC (λho=>?_) (λn8=>?_))
 ·have e0 : bX m.funcs x=(1,2):=by unfold bX;repeat (first | rfl | rw [if_pos (by omega)] | rw [if_neg (by omega)])
  rw [e0] at hu
  obtain ⟨a,rfl⟩:=List.length_eq_one_iff.1 (show took.length=1 by omega)
  have va:=vals0 a (by simp)
  have sa:=bM va
  have ns : fstk.length+1≤16:=ns
  have e : qP m ⟨ff,fpc,floc,fstk⟩ [a] (fs0.length+1) hp made out x = .next ⟨ff,fpc,floc,fstk++[a,a]⟩ hp made out:=by simp only [qP];repeat (first | rfl | rw [if_pos (by omega)] | rw [if_neg (by omega)])
  refine iD (by omega) (by first | omega | (simp;omega)) (aD rfl (aA rfl (aA rfl (aA rfl (?_)))))
  refine jG (by omega) (by omega) (jG (by omega) (by simp;omega) (aB ?_))
  rw [e]
  show _=_
  simp only [List.append_assoc]
  rfl
 refine aG (aC (λho=>?_) (λn9=>?_))
 ·have e0 : bX m.funcs x=(1,0):=by unfold bX;repeat (first | rfl | rw [if_pos (by omega)] | rw [if_neg (by omega)])
  rw [e0] at hu
  obtain ⟨a,rfl⟩:=List.length_eq_one_iff.1 (show took.length=1 by omega)
  have va:=vals0 a (by simp)
  have sa:=bM va
  have ns : fstk.length+1≤16:=ns
  have e : qP m ⟨ff,fpc,floc,fstk⟩ [a] (fs0.length+1) hp made out x = .next ⟨ff,fpc,floc,fstk++[]⟩ hp made out:=by simp only [qP];repeat (first | rfl | rw [if_pos (by omega)] | rw [if_neg (by omega)])
  refine iD (by omega) (by first | omega | (simp;omega)) (aB ?_)
  rw [e,List.append_nil]
  rfl
 refine aG (aC (λho=>?_) (λn10=>?_))
 ·have e0 : bX m.funcs x=(2,2):=by unfold bX;repeat (first | rfl | rw [if_pos (by omega)] | rw [if_neg (by omega)])
  rw [e0] at hu
  obtain ⟨a,b,rfl⟩:=aCX (show took.length=2 by omega)
  have va:=vals0 a (by simp)
  have vb:=vals0 b (by simp)
  have sa:=bM va
  have sb:=bM vb
  rw [show fstk++[a,b]=fstk++[a]++[b] by simp]
  have ns : fstk.length+2≤16:=ns
  have e : qP m ⟨ff,fpc,floc,fstk⟩ [a,b] (fs0.length+1) hp made out x = .next ⟨ff,fpc,floc,fstk++[b,a]⟩ hp made out:=by simp only [qP];repeat (first | rfl | rw [if_pos (by omega)] | rw [if_neg (by omega)])
  refine iD (by omega) (by first | omega | (simp;omega)) (aD rfl (aA rfl (aA rfl (aA rfl (?_)))))
  refine iD (by omega) (by first | omega | (simp;omega)) (aD rfl (aA rfl (aA rfl (aA rfl (?_)))))
  refine jG (by omega) (by omega) (jG (by omega) (by simp;omega) (aB ?_))
  rw [e]
  show _=_
  simp only [List.append_assoc]
  rfl
 refine aG (aC (λho=>?_) (λn11=>?_))
 ·have e0 : bX m.funcs x=(2,1):=by unfold bX;repeat (first | rfl | rw [if_pos (by omega)] | rw [if_neg (by omega)])
  rw [e0] at hu
  obtain ⟨a,b,rfl⟩:=aCX (show took.length=2 by omega)
  have va:=vals0 a (by simp)
  have vb:=vals0 b (by simp)
  have sa:=bM va
  have sb:=bM vb
  rw [show fstk++[a,b]=fstk++[a]++[b] by simp]
  have ns : fstk.length+2≤16:=ns
  have e : qP m ⟨ff,fpc,floc,fstk⟩ [a,b] (fs0.length+1) hp made out x=if (yI x.o a b).2≠0 then .trap (yI x.o a b).2 else .next ⟨ff,fpc,floc,fstk++[(yI x.o a b).1]⟩ hp made out:=by simp only [qP];repeat (first | rfl | rw [if_pos (by omega)] | rw [if_neg (by omega)])
  refine iD (by omega) (by first | omega | (simp;omega)) (aD rfl (aA rfl (aA rfl (aA rfl (?_)))))
  refine iD (by omega) (by first | omega | (simp;omega)) (aD rfl (aA rfl (aA rfl (aA rfl (?_)))))
  refine qO (aDG (o:=x.o) (a:=a) (b:=b) (by omega) ⟨by omega,by omega⟩) (bF rfl (bF rfl (aD rfl (aA rfl (aA rfl (aA rfl (aV rfl (jG (by omega) (by omega) (aB ?_)))))))))
  by_cases ht : (yI x.o a b).2≠0
  ·rw [e,if_pos ht];exact ⟨ht,rfl⟩
  ·rw [e,if_neg ht]
   have ht : (yI x.o a b).2=0:=by simpa using ht
   rw [ht];rfl
 refine aG (aC (λho=>?_) (λn12=>?_))
 ·have e0 : bX m.funcs x=(2,1):=by unfold bX;repeat (first | rfl | rw [if_pos (by omega)] | rw [if_neg (by omega)])
  rw [e0] at hu
  obtain ⟨a,b,rfl⟩:=aCX (show took.length=2 by omega)
  have va:=vals0 a (by simp)
  have vb:=vals0 b (by simp)
  have sa:=bM va
  have sb:=bM vb
  rw [show fstk++[a,b]=fstk++[a]++[b] by simp]
  have ns : fstk.length+2≤16:=ns
  have e : qP m ⟨ff,fpc,floc,fstk⟩ [a,b] (fs0.length+1) hp made out x=if (yI x.o a b).2≠0 then .trap (yI x.o a b).2 else .next ⟨ff,fpc,floc,fstk++[(yI x.o a b).1]⟩ hp made out:=by simp only [qP];repeat (first | rfl | rw [if_pos (by omega)] | rw [if_neg (by omega)])
  refine iD (by omega) (by first | omega | (simp;omega)) (aD rfl (aA rfl (aA rfl (aA rfl (?_)))))
  refine iD (by omega) (by first | omega | (simp;omega)) (aD rfl (aA rfl (aA rfl (aA rfl (?_)))))
  refine qO (aDG (o:=x.o) (a:=a) (b:=b) (by omega) ⟨by omega,by omega⟩) (bF rfl (bF rfl (aD rfl (aA rfl (aA rfl (aA rfl (aV rfl (jG (by omega) (by omega) (aB ?_)))))))))
  by_cases ht : (yI x.o a b).2≠0
  ·rw [e,if_pos ht];exact ⟨ht,rfl⟩
  ·rw [e,if_neg ht]
   have ht : (yI x.o a b).2=0:=by simpa using ht
   rw [ht];rfl
 refine aG (aC (λho=>?_) (λn13=>?_))
 ·have e0 : bX m.funcs x=(2,1):=by unfold bX;repeat (first | rfl | rw [if_pos (by omega)] | rw [if_neg (by omega)])
  rw [e0] at hu
  obtain ⟨a,b,rfl⟩:=aCX (show took.length=2 by omega)
  have va:=vals0 a (by simp)
  have vb:=vals0 b (by simp)
  have sa:=bM va
  have sb:=bM vb
  rw [show fstk++[a,b]=fstk++[a]++[b] by simp]
  have ns : fstk.length+2≤16:=ns
  have e : qP m ⟨ff,fpc,floc,fstk⟩ [a,b] (fs0.length+1) hp made out x=if (yI x.o a b).2≠0 then .trap (yI x.o a b).2 else .next ⟨ff,fpc,floc,fstk++[(yI x.o a b).1]⟩ hp made out:=by simp only [qP];repeat (first | rfl | rw [if_pos (by omega)] | rw [if_neg (by omega)])
  refine iD (by omega) (by first | omega | (simp;omega)) (aD rfl (aA rfl (aA rfl (aA rfl (?_)))))
  refine iD (by omega) (by first | omega | (simp;omega)) (aD rfl (aA rfl (aA rfl (aA rfl (?_)))))
  refine qO (aDG (o:=x.o) (a:=a) (b:=b) (by omega) ⟨by omega,by omega⟩) (bF rfl (bF rfl (aD rfl (aA rfl (aA rfl (aA rfl (aV rfl (jG (by omega) (by omega) (aB ?_)))))))))
  by_cases ht : (yI x.o a b).2≠0
  ·rw [e,if_pos ht];exact ⟨ht,rfl⟩
  ·rw [e,if_neg ht]
   have ht : (yI x.o a b).2=0:=by simpa using ht
   rw [ht];rfl
 refine aG (aC (λho=>?_) (λn14=>?_))
 ·have e0 : bX m.funcs x=(2,1):=by unfold bX;repeat (first | rfl | rw [if_pos (by omega)] | rw [if_neg (by omega)])
  rw [e0] at hu
  obtain ⟨a,b,rfl⟩:=aCX (show took.length=2 by omega)
  have va:=vals0 a (by simp)
  have vb:=vals0 b (by simp)
  have sa:=bM va
  have sb:=bM vb
  rw [show fstk++[a,b]=fstk++[a]++[b] by simp]
  have ns : fstk.length+2≤16:=ns
  have e : qP m ⟨ff,fpc,floc,fstk⟩ [a,b] (fs0.length+1) hp made out x=if (yI x.o a b).2≠0 then .trap (yI x.o a b).2 else .next ⟨ff,fpc,floc,fstk++[(yI x.o a b).1]⟩ hp made out:=by simp only [qP];repeat (first | rfl | rw [if_pos (by omega)] | rw [if_neg (by omega)])
  refine iD (by omega) (by first | omega | (simp;omega)) (aD rfl (aA rfl (aA rfl (aA rfl (?_)))))
  refine iD (by omega) (by first | omega | (simp;omega)) (aD rfl (aA rfl (aA rfl (aA rfl (?_)))))
  refine qO (aDG (o:=x.o) (a:=a) (b:=b) (by omega) ⟨by omega,by omega⟩) (bF rfl (bF rfl (aD rfl (aA rfl (aA rfl (aA rfl (aV rfl (jG (by omega) (by omega) (aB ?_)))))))))
  by_cases ht : (yI x.o a b).2≠0
  ·rw [e,if_pos ht];exact ⟨ht,rfl⟩
  ·rw [e,if_neg ht]
   have ht : (yI x.o a b).2=0:=by simpa using ht
   rw [ht];rfl
 refine aG (aC (λho=>?_) (λn15=>?_))
 ·have e0 : bX m.funcs x=(2,1):=by unfold bX;repeat (first | rfl | rw [if_pos (by omega)] | rw [if_neg (by omega)])
  rw [e0] at hu
  obtain ⟨a,b,rfl⟩:=aCX (show took.length=2 by omega)
  have va:=vals0 a (by simp)
  have vb:=vals0 b (by simp)
  have sa:=bM va
  have sb:=bM vb
  rw [show fstk++[a,b]=fstk++[a]++[b] by simp]
  have ns : fstk.length+2≤16:=ns
  have e : qP m ⟨ff,fpc,floc,fstk⟩ [a,b] (fs0.length+1) hp made out x=if (yI x.o a b).2≠0 then .trap (yI x.o a b).2 else .next ⟨ff,fpc,floc,fstk++[(yI x.o a b).1]⟩ hp made out:=by simp only [qP];repeat (first | rfl | rw [if_pos (by omega)] | rw [if_neg (by omega)])
  refine iD (by omega) (by first | omega | (simp;omega)) (aD rfl (aA rfl (aA rfl (aA rfl (?_)))))
  refine iD (by omega) (by first | omega | (simp;omega)) (aD rfl (aA rfl (aA rfl (aA rfl (?_)))))
  refine qO (aDG (o:=x.o) (a:=a) (b:=b) (by omega) ⟨by omega,by omega⟩) (bF rfl (bF rfl (aD rfl (aA rfl (aA rfl (aA rfl (aV rfl (jG (by omega) (by omega) (aB ?_)))))))))
  by_cases ht : (yI x.o a b).2≠0
  ·rw [e,if_pos ht];exact ⟨ht,rfl⟩
  ·rw [e,if_neg ht]
   have ht : (yI x.o a b).2=0:=by simpa using ht
   rw [ht];rfl
 refine aG (aC (λho=>?_) (λn16=>?_))
 ·have e0 : bX m.funcs x=(1,1):=by unfold bX;repeat (first | rfl | rw [if_pos (by omega)] | rw [if_neg (by omega)])
  rw [e0] at hu
  obtain ⟨a,rfl⟩:=List.length_eq_one_iff.1 (show took.length=1 by omega)
  have va:=vals0 a (by simp)
  have sa:=bM va
  have ns : fstk.length+1≤16:=ns
  have e : qP m ⟨ff,fpc,floc,fstk⟩ [a] (fs0.length+1) hp made out x=if (aCV a).2≠0 then .trap (aCV a).2 else .next ⟨ff,fpc,floc,fstk++[(aCV a).1]⟩ hp made out:=by simp only [qP];repeat (first | rfl | rw [if_pos (by omega)] | rw [if_neg (by omega)])
  refine iD (by omega) (by first | omega | (simp;omega)) (?_)
  refine qO (aOf (v:=a)) (bF rfl (bF rfl (aD rfl (aA rfl (aA rfl (aA rfl (aV rfl (jG (by omega) (by omega) (aB ?_)))))))))
  by_cases ht : (aCV a).2≠0
  ·rw [e,if_pos ht];exact ⟨ht,rfl⟩
  ·rw [e,if_neg ht]
   have ht : (aCV a).2=0:=by simpa using ht
   rw [ht];rfl
 refine aG (aC (λho=>?_) (λn17=>?_))
 ·have e0 : bX m.funcs x=(0,0):=by unfold bX;repeat (first | rfl | rw [if_pos (by omega)] | rw [if_neg (by omega)])
  rw [e0] at hu
  obtain rfl:=List.eq_nil_of_length_eq_zero (show took.length=0 by omega)
  simp only [List.length_nil,Nat.add_zero,List.append_nil] at ns ⊢
  have e : qP m ⟨ff,fpc,floc,fstk⟩ [] (fs0.length+1) hp made out x = .next ⟨ff,x.a,floc,fstk⟩ hp made out:=by simp only [qP];repeat (first | rfl | rw [if_pos (by omega)] | rw [if_neg (by omega)])
  exact aV rfl (gU rfl rfl (by omega) rfl (aB (by rw [e];rfl)))
 refine aG (aC (λho=>?_) (λn18=>?_))
 ·have e0 : bX m.funcs x=(1,0):=by unfold bX;repeat (first | rfl | rw [if_pos (by omega)] | rw [if_neg (by omega)])
  rw [e0] at hu
  obtain ⟨a,rfl⟩:=List.length_eq_one_iff.1 (show took.length=1 by omega)
  have va:=vals0 a (by simp)
  have sa:=bM va
  have ns : fstk.length+1≤16:=ns
  have e : qP m ⟨ff,fpc,floc,fstk⟩ [a] (fs0.length+1) hp made out x=if a.k≠2 then .trap 1 else if (decide (a.n=1)==decide (x.o=18))=true then .next ⟨ff,x.a,floc,fstk⟩ hp made out else .next ⟨ff,fpc,floc,fstk++[]⟩ hp made out:=by simp only [qP];repeat (first | rfl | rw [if_pos (by omega)] | rw [if_neg (by omega)])
  refine iD (by omega) (by first | omega | (simp;omega)) (aD rfl (aA rfl (aA rfl (aA rfl (?_)))))
  refine bQ (aO (λh=>aB (by rw [e,if_pos h];exact ⟨by omega,rfl⟩)) (λh=>?_))
  rw [if_neg (by simpa using h)] at e
  refine aG (aG (aFP (aQ (λhb=>?_) (λhb=>?_))))
  ·rw [if_pos hb] at e
   exact aV rfl (gU rfl rfl (by omega) rfl (aB (by rw [e];rfl)))
  ·rw [if_neg (by rw [hb];simp)] at e
   exact aB (by rw [e,List.append_nil];rfl)
 refine aG (aC (λho=>?_) (λn19=>?_))
 ·have e0 : bX m.funcs x=(1,0):=by unfold bX;repeat (first | rfl | rw [if_pos (by omega)] | rw [if_neg (by omega)])
  rw [e0] at hu
  obtain ⟨a,rfl⟩:=List.length_eq_one_iff.1 (show took.length=1 by omega)
  have va:=vals0 a (by simp)
  have sa:=bM va
  have ns : fstk.length+1≤16:=ns
  have e : qP m ⟨ff,fpc,floc,fstk⟩ [a] (fs0.length+1) hp made out x=if a.k≠2 then .trap 1 else if (decide (a.n=1)==decide (x.o=18))=true then .next ⟨ff,x.a,floc,fstk⟩ hp made out else .next ⟨ff,fpc,floc,fstk++[]⟩ hp made out:=by simp only [qP];repeat (first | rfl | rw [if_pos (by omega)] | rw [if_neg (by omega)])
  refine iD (by omega) (by first | omega | (simp;omega)) (aD rfl (aA rfl (aA rfl (aA rfl (?_)))))
  refine bQ (aO (λh=>aB (by rw [e,if_pos h];exact ⟨by omega,rfl⟩)) (λh=>?_))
  rw [if_neg (by simpa using h)] at e
  refine aG (aG (aFP (aQ (λhb=>?_) (λhb=>?_))))
  ·rw [if_pos hb] at e
   exact aV rfl (gU rfl rfl (by omega) rfl (aB (by rw [e];rfl)))
  ·rw [if_neg (by rw [hb];simp)] at e
   exact aB (by rw [e,List.append_nil];rfl)
 refine aG (aC (λho=>?_) (λn20=>?_))
 ·have e0 : bX m.funcs x=(0,1):=by unfold bX;repeat (first | rfl | rw [if_pos (by omega)] | rw [if_neg (by omega)])
  rw [e0] at hu
  obtain rfl:=List.eq_nil_of_length_eq_zero (show took.length=0 by omega)
  simp only [List.length_nil,Nat.add_zero,List.append_nil] at ns ⊢
  have e : qP m ⟨ff,fpc,floc,fstk⟩ [] (fs0.length+1) hp made out x=if made=120 then .trap 7 else .next ⟨ff,fpc,floc,fstk++[aPf hp.length]⟩ (hp++[List.replicate x.a.toNat dL]) (made+1) out:=by simp only [qP];repeat (first | rfl | rw [if_pos (by omega)] | rw [if_neg (by omega)])
  have hq:=q20 ho
  refine aG (aC (λh=>aB (by rw [e,if_pos h];exact ⟨by omega,rfl⟩)) (λh=>?_))
  rw [if_neg h] at e
  refine aE (aV rfl (jG (by omega) (by omega) (?_)))
  refine aBE (by omega) (by omega) (eO (aC (λ_=>?_) (λh=>by omega)))
  refine aBE (by omega) (by omega) (fF (by simp;omega) (λx hx=>by simp only [List.mem_singleton] at hx;subst hx;rfl) (aL (by omega) (aV rfl (aB ?_))))
  rw [e]
  show _=_
  rw [List.map_append]
  rfl
 refine aG (aC (λho=>?_) (λn21=>?_))
 ·have e0 : bX m.funcs x=(1,1):=by unfold bX;repeat (first | rfl | rw [if_pos (by omega)] | rw [if_neg (by omega)])
  rw [e0] at hu
  obtain ⟨a,rfl⟩:=List.length_eq_one_iff.1 (show took.length=1 by omega)
  have va:=vals0 a (by simp)
  have sa:=bM va
  have ns : fstk.length+1≤16:=ns
  have e : qP m ⟨ff,fpc,floc,fstk⟩ [a] (fs0.length+1) hp made out x=if a.k≠4 then .trap 1 else if (hp[a.n.toNat]?.getD []).length≤x.a then .trap 4 else .next ⟨ff,fpc,floc,fstk++[(hp[a.n.toNat]?.getD [])[x.a.toNat]?.getD dL]⟩ hp made out:=by simp only [qP];repeat (first | rfl | rw [if_pos (by omega)] | rw [if_neg (by omega)])
  refine iD (by omega) (by first | omega | (simp;omega)) (aD rfl (aA rfl (aA rfl (aA rfl (?_)))))
  have hq:=q2122 (.inl ho)
  refine bQ (aO (λh=>aB (by rw [e,if_pos h];exact ⟨by omega,rfl⟩)) (λh=>?_))
  rw [if_neg (by simpa using h)] at e
  have hr:=aIm va h
  have hlen:=aMt recs a.n.toNat
  refine zI (by omega) (by omega) (jR (by omega) (by omega) (jR (by omega) (by omega) (aA rfl (aX ?_))))
  refine eZ (aC (λh=>aB (by rw [e,if_pos h];exact ⟨by omega,rfl⟩)) (λh=>?_))
  rw [if_neg h] at e
  refine zI (by omega) (by omega) (jR (by omega) (by omega) (jR (by omega) (by omega) (aA rfl (iT (by omega) (by omega) (jR (by omega) (by omega) (aA rfl ?_))))))
  refine zH (by omega) (by omega) (λv hv=>?_)
  rw [hv] at e
  exact aFK (by omega) (by omega) (aB (by rw [e];rfl))
 refine aG (aC (λho=>?_) (λn22=>?_))
 ·have e0 : bX m.funcs x=(2,0):=by unfold bX;repeat (first | rfl | rw [if_pos (by omega)] | rw [if_neg (by omega)])
  rw [e0] at hu
  obtain ⟨a,b,rfl⟩:=aCX (show took.length=2 by omega)
  have va:=vals0 a (by simp)
  have vb:=vals0 b (by simp)
  have sa:=bM va
  have sb:=bM vb
  rw [show fstk++[a,b]=fstk++[a]++[b] by simp]
  have ns : fstk.length+2≤16:=ns
  have e : qP m ⟨ff,fpc,floc,fstk⟩ [a,b] (fs0.length+1) hp made out x=if a.k≠4 then .trap 1 else if (hp[a.n.toNat]?.getD []).length≤x.a then .trap 4 else .next ⟨ff,fpc,floc,fstk⟩ (hp.set a.n.toNat ((hp[a.n.toNat]?.getD []).set x.a.toNat b)) made out:=by simp only [qP];repeat (first | rfl | rw [if_pos (by omega)] | rw [if_neg (by omega)])
  refine iD (by omega) (by first | omega | (simp;omega)) (aD rfl (aA rfl (aA rfl (aA rfl (?_)))))
  refine iD (by omega) (by first | omega | (simp;omega)) (aD rfl (aA rfl (aA rfl (aA rfl (?_)))))
  have hq:=q2122 (.inr ho)
  refine bQ (aO (λh=>aB (by rw [e,if_pos h];exact ⟨by omega,rfl⟩)) (λh=>?_))
  rw [if_neg (by simpa using h)] at e
  have hr:=aIm va h
  have hlen:=aMt recs a.n.toNat
  refine zI (by omega) (by omega) (jR (by omega) (by omega) (jR (by omega) (by omega) (aA rfl (aX ?_))))
  refine eZ (aC (λh=>aB (by rw [e,if_pos h];exact ⟨by omega,rfl⟩)) (λh=>?_))
  rw [if_neg h] at e
  refine zI (by omega) (by omega) (jR (by omega) (by omega) (jR (by omega) (by omega) (aA rfl (iT (by omega) (by omega) (jR (by omega) (by omega) (aA rfl ?_))))))
  refine jR (by omega) (by omega) (aA rfl (wJ (v:=b) (by omega) (by omega) (jR (by omega) (by omega) (aA rfl (aLJ (by omega) (by omega) (aB (by rw [e];rfl)))))))
 refine aG (aC (λho=>?_) (λn23=>?_))
 ·have hq:=q23 ho
  have e0 : bX m.funcs x=(x.a+1,1):=by unfold bX;repeat (first | rfl | rw [if_pos (by omega)] | rw [if_neg (by omega)])
  rw [e0] at hu
  obtain ⟨a,args,rfl⟩ : ∃ a l,took=a::l:=by
   cases took with
   | nil=>simp at hu;omega
   | cons a l=>exact ⟨a,l,rfl⟩
  have va:=vals0 a (by simp)
  have sa:=bM va
  have ns : fstk.length+(args.length+1)≤16:=ns
  have hu : ((args.length+1 : Nat) : Int)=x.a+1:=hu
  have e : qP m ⟨ff,fpc,floc,fstk⟩ (a::args) (fs0.length+1) hp made out x=if a.k≠5 then .trap 1 else if lI m.funcs a.n≠x.a then .trap 5 else if fs0.length+1=24 then .trap 6 else .call ⟨ff,fpc,floc,fstk⟩ (aAp m.funcs a.n args):=by simp only [qP];repeat (first | rfl | rw [if_pos (by omega)] | rw [if_neg (by omega)])
  have hlen : (fstk++a::args).length=fstk.length+args.length+1:=by simp;omega
  refine cO rfl rfl (cO rfl rfl (cO rfl rfl (aA (y:=aS (fstk++a::args)) rfl (aX (bE (by omega) (bE (by omega) ?_))))))
  have ei : ((fstk++a::args).length : Int) - 1 - x.a=fstk.length:=by omega
  rw [ei]
  refine cO rfl rfl (aA (y:=aS (fstk++a::args)) rfl (iT (by omega) (by omega) (cO rfl rfl (aA (y:=aS (fstk++a::args)) rfl (zH (by omega) (by omega) (λv hv=>?_))))))
  rw [Int.toNat_natCast,List.getElem?_append_right (Nat.le_refl _),Nat.sub_self] at hv
  cases hv
  refine aD rfl (aA rfl (aA rfl (aA rfl (?_))))
  refine bQ (aO (λh=>aB (by rw [e,if_pos h];exact ⟨by omega,rfl⟩)) (λh=>?_))
  rw [if_neg (by simpa using h)] at e
  have hr:=aIn va h
  refine aLG (by omega) (by omega) (by omega) (λ_ _=>aA rfl ?_)
  refine bQ (aO (λh=>aB (by rw [e,if_pos h];exact ⟨by omega,rfl⟩)) (λh=>?_))
  rw [if_neg (by simpa using h)] at e
  rw [show fstk++a::args=fstk++[a]++args by simp]
  refine aKw (under:=true) (s1:=fstk) (by omega) par nA (by simp;omega) (.inl ⟨rfl,a,rfl⟩) hr (by omega) (λhd=>aB ?_) (λhd=>aB ?_)
  ·rw [e,if_pos (by rw [List.length_map] at hd;omega)];exact ⟨by omega,rfl⟩
  ·rw [e,if_neg (by rw [List.length_map] at hd;omega)];rfl
 refine aG (aC (λho=>?_) (λn24=>?_))
 ·have hq:=q524 (.inr ho)
  have e0 : bX m.funcs x=(lI m.funcs x.a,1):=by unfold bX;repeat (first | rfl | rw [if_pos (by omega)] | rw [if_neg (by omega)])
  rw [e0] at hu
  have e : qP m ⟨ff,fpc,floc,fstk⟩ took (fs0.length+1) hp made out x=if fs0.length+1=24 then .trap 6 else .call ⟨ff,fpc,floc,fstk⟩ (aAp m.funcs x.a took):=by simp only [qP];repeat (first | rfl | rw [if_pos (by omega)] | rw [if_neg (by omega)])
  refine aKw (under:=false) (s1:=fstk) (by omega) par nA (by omega) (.inr ⟨rfl,rfl⟩) hq (by omega) (λhd=>aB ?_) (λhd=>aB ?_)
  ·rw [e,if_pos (by rw [List.length_map] at hd;omega)];exact ⟨by omega,rfl⟩
  ·rw [e,if_neg (by rw [List.length_map] at hd;omega)];rfl
 refine aG (aC (λho=>?_) (λn25=>?_))
 ·have e0 : bX m.funcs x=(1,0):=by unfold bX;repeat (first | rfl | rw [if_pos (by omega)] | rw [if_neg (by omega)])
  rw [e0] at hu
  obtain ⟨a,rfl⟩:=List.length_eq_one_iff.1 (show took.length=1 by omega)
  have va:=vals0 a (by simp)
  have sa:=bM va
  have ns : fstk.length+1≤16:=ns
  have e : qP m ⟨ff,fpc,floc,fstk⟩ [a] (fs0.length+1) hp made out x = .ret a:=by simp only [qP];repeat (first | rfl | rw [if_pos (by omega)] | rw [if_neg (by omega)])
  refine iD (by omega) (by first | omega | (simp;omega)) (aD rfl (aA rfl (aA rfl (aA rfl (?_)))))
  have e1 : ((fs0.map bV.pv++[bV.pv ⟨ff,fpc,floc,fstk⟩]).length : Int) - 1=fs0.length:=by simp
  have hel : ∀ y∈fs0.map bV.pv++[bV.pv ⟨ff,fpc,floc,fstk⟩],y.isEl 4 true=true:=λy hy=>(List.mem_append.1 hy).elim (aNs y) (λh=>by simp only [List.mem_singleton] at h;subst h;rfl)
  refine dI (bE (by simp;omega) ?_)
  rw [e1]
  have e2 : ((fs0.map bV.pv++[bV.pv ⟨ff,fpc,floc,fstk⟩]).take (fs0.length : Int).toNat).drop (0 : Int).toNat=fs0.map bV.pv:=by
   rw [Int.toNat_natCast,Int.toNat_zero,List.drop_zero,List.take_left' (by simp)]
  refine aCh (by omega) (by omega) (by simp;omega) hel ?_
  refine aCh (by omega) (by omega) (by simp;omega) hel ?_
  rw [e2]
  refine aE (aG (aC (λh=>aB ?_) (λh=>?_)))
  ·rw [e]
   have : fs0 = []:=List.eq_nil_of_length_eq_zero (by omega)
   subst this
   rfl
  ·obtain ⟨l,g,rfl⟩ : ∃ l g,fs0=l++[g]:=⟨fs0.dropLast,fs0.getLast (λe=>by rw [e] at h;simp at h),(List.dropLast_concat_getLast _).symm⟩
   have hg:=stks g (by simp)
   obtain ⟨gf,gpc,gloc,gstk⟩:=g
   simp only at hg
   rw [List.map_append]
   refine jG (by rw [List.length_map];simp at n0;omega) (by omega) (aB ?_)
   rw [e]
   show _=_
   rw [if_neg (by simp),aCW,List.map_append]
   rfl
 refine aG (aC (λho=>?_) (λn26=>?_))
 ·have e0 : bX m.funcs x=(1,0):=by unfold bX;repeat (first | rfl | rw [if_pos (by omega)] | rw [if_neg (by omega)])
  rw [e0] at hu
  obtain ⟨a,rfl⟩:=List.length_eq_one_iff.1 (show took.length=1 by omega)
  have va:=vals0 a (by simp)
  have sa:=bM va
  have ns : fstk.length+1≤16:=ns
  have e : qP m ⟨ff,fpc,floc,fstk⟩ [a] (fs0.length+1) hp made out x=if out.length=200 then .trap 8 else .next ⟨ff,fpc,floc,fstk⟩ hp made (out++[lJ a hp]):=by simp only [qP];repeat (first | rfl | rw [if_pos (by omega)] | rw [if_neg (by omega)])
  refine iD (by omega) (by first | omega | (simp;omega)) (aD rfl (aA rfl (aA rfl (aA rfl (?_)))))
  refine aE (aG (aC (λh=>aB (by rw [e,if_pos (by omega)];exact ⟨by omega,rfl⟩)) (λh=>?_)))
  rw [if_neg (by omega)] at e
  refine aI (aJg (v:=a) (hp:=hp) (nf:=m.funcs.length) (by omega) (by omega) (λr hr=>by have:=recs r hr;omega) va) (λr hr=>?_)
  subst hr
  refine eK rfl (iO (by simp) (λx hx=>by simp only [List.mem_singleton] at hx;subst hx;rfl) (fF (by simp;omega) (λx hx=>by simp only [List.mem_singleton] at hx;subst hx;rfl) (aB ?_)))
  rw [e]
  show _=_
  rw [List.map_append]
  rfl
 omega
structure eB where
 fr : List bV
 hp : List (List bY)
 made : Int
 out : List ByteArray
 st : Int
 tr : Int
 val : bY
 steps : Int
def eB.pv (v : eB) : PV:=.agg [.lst (v.fr.map bV.pv),.lst (v.hp.map aR),.int .i64 v.made,.lst (v.out.map PV.str),.int .i64 v.st,.int .i64 v.tr,.int .i64 v.val.k,.int .i64 v.val.n,.str v.val.s,.int .i64 v.steps]
def dO (v : eB) : R:=[.int .i64 v.made,.int .i64 v.st,.int .i64 v.tr,.int .i64 v.val.k,.int .i64 v.val.n,.str v.val.s,.int .i64 v.steps,.lst (v.fr.map bV.pv),.lst (v.hp.map aR),.lst (v.out.map PV.str)]
structure Sz (v : eB) : Prop where
 f : v.fr.length≤1000
 h : v.hp.length≤1000
 o : v.out.length≤1000
 fl : ∀ f∈v.fr,f.loc.length≤1000∧f.stk.length≤1000
 hl : ∀ r∈v.hp,r.length≤1000
theorem aBF (l : List bY) : PV.flatEs true [] (l.map bY.pv)=true:=by
 induction l with
 | nil=>simp [PV.flatEs]
 | cons x r ih=>simp [PV.flatEs,PV.flatE,PV.flatCs,PV.flat,bY.pv,ih]
theorem pH (l : List bY) : PV.flatO (.own 3 32 true []) (aS l)=true:=aBF l
theorem aBg (l : List bV) : PV.flatO (.own 4 64 true [.leaf,.leaf,(.own 3 32 true []),(.own 3 32 true [])]) (.lst (l.map bV.pv))=true:=by
 show PV.flatEs true _ (l.map bV.pv)=true
 induction l with
 | nil=>simp [PV.flatEs]
 | cons x r ih=>
   simp only [List.map_cons,PV.flatEs,Bool.and_eq_true]
   refine ⟨?_,ih⟩
   simp [bV.pv,PV.flatE,PV.flatCs,PV.flat,aS,aBF]
theorem aBG (l : List (List bY)) : PV.flatO (.own 1 24 true [(.own 3 32 true [])]) (.lst (l.map aR))=true:=by
 show PV.flatEs true _ (l.map aR)=true
 induction l with
 | nil=>simp [PV.flatEs]
 | cons x r ih=>
   simp only [List.map_cons,PV.flatEs,Bool.and_eq_true]
   refine ⟨?_,ih⟩
   simp [aR,PV.flatE,PV.flatCs,aS,aBF]
theorem aEy (l : List ByteArray) : PV.flatO (.own 1 16 false []) (.lst (l.map PV.str))=true:=by
 show PV.flatEs false [] (l.map PV.str)=true
 induction l with
 | nil=>simp [PV.flatEs]
 | cons x r ih=>simp [PV.flatEs,PV.flatE,PV.flat,ih]
theorem aMu {l : List ByteArray} : ∀ x∈l.map PV.str,x.isEl 1 false=true:=by
 intro x hx
 obtain ⟨a,_,rfl⟩:=List.mem_map.1 hx
 rfl
theorem aHR {hp : List (List bY)} (h : hp.length≤1000) (hl : ∀ r∈hp,r.length≤1000) : Ok (λr=>r = [.lst (hp.map aR)]) (rL (.lst (hp.map aR))):=by
 rw [aBT]
 refine cJ (n:=hp.length) (P:=λ_ r=>r = [.lst (hp.map aR)]) (F:=λi=>kQ (.lst (hp.map aR)) (.int .i64 i) (.lst ((hp.take i).map aR))) ?_ ?_ 0 (by omega)
 ·rw [qL]
  refine aE (aH (aC (λh=>by omega) (λ_=>aB ?_)))
  rw [List.take_length]
 ·intro i hi ih
  rw [qL]
  have:=hl _ (List.getElem_mem hi)
  refine aE (aH (aC (λ_=>?_) (λh=>by omega)))
  refine aK hi (λ_=>rfl) (aA rfl (iO (by rw [List.length_map];omega) rX ?_))
  refine fF (by simp;omega) (λx hx=>by simp only [List.mem_singleton] at hx;subst hx;rfl) (aL (by omega) ?_)
  have e : (hp.take i).map aR++[PV.agg [.lst (hp[i].map bY.pv)]]=(hp.take (i+1)).map aR:=by
   rw [List.take_add_one,List.getElem?_eq_getElem hi,List.map_append];rfl
  rw [e]
  exact ih
theorem aGW {f : bV} (h : f.loc.length≤1000∧f.stk.length≤1000) : Ok (λr=>r = [.int .i64 f.f,.int .i64 f.pc,aS f.loc,aS f.stk]) (qD f.pv):=by
 rw [aA5]
 refine aD rfl (aA rfl (aA rfl (aA rfl (aA rfl ?_))))
 exact iO (by rw [List.length_map];omega) rX (iO (by rw [List.length_map];omega) rX (aB rfl))
theorem aNt {v : eB} (z : Sz v) : Ok (λr=>r=dO v) (jZ v.pv):=by
 obtain ⟨zf,zh,zo,zfl,zhl⟩:=z
 rw [aFu]
 refine aD rfl (aA rfl (aA rfl (aA rfl (aA rfl (aA rfl (aA rfl (aA rfl (aA rfl (aA rfl (aA rfl ?_))))))))))
 refine cJ (n:=v.fr.length) (P:=λ_ r=>r=dO v) (F:=λi=>pA (.int .i64 i) (.lst (v.fr.map bV.pv)) (.lst (v.hp.map aR)) (.int .i64 v.made) (.lst (v.out.map PV.str)) (.int .i64 v.st) (.int .i64 v.tr) (.int .i64 v.val.k) (.int .i64 v.val.n) (.str v.val.s) (.int .i64 v.steps) (.int .i64 0) (.int .i64 0) (.int .i64 0) (.int .i64 0) (.int .i64 0) (.str (bs [])) (.int .i64 0) (.lst []) (.lst []) (.lst []) (.lst ((v.fr.take i).map bV.pv))) ?_ ?_ 0 (by omega)
 ·rw [uX]
  refine aE (aH (aC (λh=>by omega) (λ_=>?_)))
  refine aI (aHR zh zhl) (λr hr=>?_)
  subst hr
  refine kH (aBG _) (iO (by rw [List.length_map];omega) aMu (aB ?_))
  rw [List.take_length]
  rfl
 ·intro i hi ih
  rw [uX]
  refine aE (aH (aC (λ_=>?_) (λh=>by omega)))
  refine aK hi (λ_=>rfl) (aI (aGW (zfl _ (List.getElem_mem hi))) (λr hr=>?_))
  subst hr
  refine eK rfl (eK rfl (kH (pH _) (kH (pH _) ?_)))
  refine fF (by simp;omega) (λx hx=>by simp only [List.mem_singleton] at hx;subst hx;rfl) (aL (by omega) ?_)
  have e : (v.fr.take i).map bV.pv++[PV.agg [.int .i64 v.fr[i].f,.int .i64 v.fr[i].pc,aS v.fr[i].loc,aS v.fr[i].stk]]=(v.fr.take (i+1)).map bV.pv:=by
   rw [List.take_add_one,List.getElem?_eq_getElem hi,List.map_append];rfl
  exact e▸ih
theorem aDO {P : R→Prop} {k : R→Option R} {v : eB} (z : Sz v) (h : Ok P (k (dO v))) : Ok P (bd (jZ v.pv) k):=aI (aNt z) (λr hr=>by rw [hr];exact h)
theorem gA {P : R→Prop} {v : eB} {o : Option R} (h : Ok P o) :
 Ok P (PV.guardFlat (gd (dO v) 0) (PV.guardFlat (gd (dO v) 1) (PV.guardFlat (gd (dO v) 2) (PV.guardFlat (gd (dO v) 3) (PV.guardFlat (gd (dO v) 4) (PV.guardFlat (gd (dO v) 5) (PV.guardFlat (gd (dO v) 6)
  (PV.guardOwn (.own 4 64 true [.leaf,.leaf,(.own 3 32 true []),(.own 3 32 true [])]) (gd (dO v) 7) (PV.guardOwn (.own 1 24 true [(.own 3 32 true [])]) (gd (dO v) 8) (PV.guardOwn (.own 1 16 false []) (gd (dO v) 9) o)))))))))):=
 eK rfl (eK rfl (eK rfl (eK rfl (eK rfl (eK rfl (eK rfl (kH (aBg _) (kH (aBG _) (kH (aEy _) h)))))))))
def dB (fs : List cY) (i : Int) : List cG:=(fs[i.toNat]?.map cY.code).getD []
def nH (fs : List cY) (f : bV) : cG:=(dB fs f.f)[f.pc.toNat]?.getD ⟨0,0⟩
def aFz (_m : eM) (v : eB) (fs0 : List bV) : aDM→eB
 | .trap c=>⟨v.fr,v.hp,v.made,v.out,2,c,v.val,v.steps+1⟩
 | .next fr hp made out=>⟨fs0++[fr],hp,made,out,v.st,v.tr,v.val,v.steps+1⟩
 | .call fr g=>⟨fs0++[fr,g],v.hp,v.made,v.out,v.st,v.tr,v.val,v.steps+1⟩
 | .ret a=>if fs0 = [] then ⟨[],v.hp,v.made,v.out,1,v.tr,a,v.steps+1⟩ else ⟨aFb a fs0,v.hp,v.made,v.out,v.st,v.tr,v.val,v.steps+1⟩
def aDP (m : eM) (v : eB) (fs0 : List bV) (f : bV) : aDM:=
 let x:=nH m.funcs f
 let b:=f.stk.length - (bX m.funcs x).1.toNat
 qP m ⟨f.f,f.pc+1,f.loc,f.stk.take b⟩ (f.stk.drop b) (fs0.length+1) v.hp v.made v.out x
def oT (m : eM) (v : eB) : eB:=
 if v.st≠0 then v else if v.steps=50000 then v
 else match v.fr.getLast? with
 | none=>v
 | some f=>aFz m v v.fr.dropLast (aDP m v v.fr.dropLast f)
theorem aEz {m : eM} {v : eB} {fs0 : List bV} {f : bV} (h1 : v.st=0) (h2 : v.steps≠50000) (h3 : v.fr=fs0++[f]) : oT m v=aFz m v fs0 (aDP m v fs0 f):=by
 unfold oT
 rw [if_neg (by omega),if_neg h2,h3]
 simp
structure aPV (m : eM) (v : eB) (fs0 : List bV) (f : bV) : Prop where
 fr : v.fr=fs0++[f]
 fi : 0≤f.f∧f.f<m.funcs.length
 pc : 0≤f.pc∧f.pc<(dB m.funcs f.f).length
 nc : (dB m.funcs f.f).length≤120
 ins : cN m.texts.length m.funcs.length f.loc.length (dB m.funcs f.f).length (nH m.funcs f).o (nH m.funcs f).a=true
 us : 0≤(bX m.funcs (nH m.funcs f)).1∧(bX m.funcs (nH m.funcs f)).1≤f.stk.length
 small : ∀ b,aPU m fs0 ⟨f.f,f.pc+1,f.loc,f.stk.take b⟩ (f.stk.drop b) v.hp v.made v.out
end
noncomputable section
open Go
attribute [local irreducible] bd PV.ite PV.guardFlat PV.guardOwn PV.whole PV.one PV.cell PV.sub PV.at_ PV.len PV.slen PV.chr PV.beq PV.peq PV.ceq PV.bin PV.neg PV.not PV.conv PV.cut PV.scut PV.cat PV.setAt PV.setCell PV.ncopy PV.copyIn PV.zeros PV.toStr PV.toBytes PV.deref PV.isPtr PV.comp PV.inb PV.off PV.imin PV.imax PV.sel PV.apply PV.isLst PV.isInt PV.ix PV.nilT
def aDQ (fs : List cY) (code : List cG) (d : List Int) (pc : Nat) : Option Int:=
 match code[pc]? with
 | none=>none
 | some x=>
   if d[pc]?.getD 0<0 then none
   else if can fs x (d[pc]?.getD 0)=false then some 2
   else if (hU x pc).any (λt=>decide ((code.length : Int)≤t))=true then some 3
   else if (hU x pc).any (λt=>!decide (d[t.toNat]?.getD 0=jM fs x (d[pc]?.getD 0)))=true then some 4
   else none
def aCe (fs : List cY) (code : List cG) (f pc : Nat) : Option (Int × Nat × Nat):=(aDQ fs code (kK fs code) pc).map λc=>(c,f,pc)
def aIo (fs : List cY) (f : Nat) : Option (Int × Nat × Nat):=match fs[f]? with
 | some x=>(List.range' 0 x.code.length).findSome? (aCe fs x.code f)
 | none=>none
def bad (fs : List cY) : Option (Int × Nat × Nat):=(List.range' 0 fs.length).findSome? (aIo fs)
def aLK : Option (Int × Nat × Nat)→PV
 | some (c,f,pc)=>.agg [.int .i64 c,.int .i64 f,.int .i64 pc]
 | none=>.agg [.int .i64 0,.int .i64 0,.int .i64 0]
def eM.verify (m : eM) : PV:=if m.okB then aLK (bad m.funcs) else .agg [.int .i64 1,.int .i64 0,.int .i64 0]
theorem aFL {n : Nat} {F : Nat→Option R} {P : R→Prop} (I : Nat→Prop) (he : I n→Ok P (F n)) (hs : ∀ i,i<n→I i→(I (i+1)→Ok P (F (i+1)))→Ok P (F i)) (h0 : I 0) : Ok P (F 0):=
 uZ (σ:=Unit) (F:=λi _=>F i) (λi _=>I i) (λ_ h=>he h) (λi _ hi hI ih=>hs i hi hI (λh=>ih () h)) 0 () (by omega) h0
theorem aDR {α : Type} {xs : List α} {i : Nat} (hi : i<xs.length) (p : α→Bool) : (xs.drop i).any p=(p xs[i]||(xs.drop (i+1)).any p):=by
 rw [List.drop_eq_getElem_cons hi,List.any_cons]
section
variable {fs : List cY} {code : List cG} {T x3 x4 x5 : PV} (F : Fit fs code) {f : Nat} (hf : f < fs.length)
include F hf
theorem aLL {P : R→Prop} {pc : Nat} (hpc : pc<code.length) {d : List Int} (hd : d.length=code.length) {left : Int} {ts : List Int} (hts : ∀ t∈ts,0≤t∧t<code.length) (hn : ts.length≤10)
 (h4 : ts.any (λt=>!decide (d[t.toNat]?.getD 0=left))=true→P [.agg [.int .i64 4,.int .i64 f,.int .i64 pc]])
 (hgo : ts.any (λt=>!decide (d[t.toNat]?.getD 0=left))=false→Ok P (lB (.int .i64 f) (.lst (code.map cG.pv)) (bI d) (.int .i64 ((pc : Int)+1)) T (.lst (fs.map cY.pv)) x3 x4 x5)) :
 Ok P (jP (.int .i64 f) (.lst (code.map cG.pv)) (bI d) (.int .i64 pc) (.int .i64 left) (bI ts) (.int .i64 0) T (.lst (fs.map cY.pv)) x3 x4 x5):=by
 have hn2:=F.n2
 refine aFL (n:=ts.length) (F:=λi=>jP (.int .i64 f) (.lst (code.map cG.pv)) (bI d) (.int .i64 pc) (.int .i64 left) (bI ts) (.int .i64 i) T (.lst (fs.map cY.pv)) x3 x4 x5)
  (λi=>(ts.drop i).any (λt=>!decide (d[t.toNat]?.getD 0=left))=ts.any (λt=>!decide (d[t.toNat]?.getD 0=left))) ?_ ?_ (by rw [List.drop_zero])
 ·intro hI
  rw [List.drop_length] at hI
  rw [uR]
  exact cU (aH (aC (λh=>by omega) (λ_=>aL (by omega) (hgo hI.symm))))
 ·intro i hi hI ih
  rw [aDR hi] at hI
  have ht:=hts ts[i] (List.getElem_mem _)
  rw [uR]
  refine cU (aH (aC (λ_=>?_) (λh=>by omega)))
  refine cW hi (nG (by omega) (by omega) (λv hv=>?_))
  have hv' : d[ts[i].toNat]?.getD 0=v:=by rw [hv];rfl
  rw [hv'] at hI
  refine bQ (aO (λh=>?_) (λh=>?_))
  ·rw [decide_eq_false h] at hI
   exact aV rfl (aV rfl (aB (h4 hI.symm)))
  ·rw [decide_eq_true h] at hI
   exact aL (by omega) (ih hI)
theorem aNu {P : R→Prop} {pc : Nat} (hpc : pc<code.length) {d : List Int} (hd : d.length=code.length) {left : Int} {ts : List Int} (hts : ∀ t∈ts,0≤t∧t≤code.length) (hn : ts.length≤10)
 (h3 : ts.any (λt=>decide ((code.length : Int)≤t))=true→P [.agg [.int .i64 3,.int .i64 f,.int .i64 pc]])
 (hgo : ts.any (λt=>decide ((code.length : Int)≤t))=false→Ok P (jP (.int .i64 f) (.lst (code.map cG.pv)) (bI d) (.int .i64 pc) (.int .i64 left) (bI ts) (.int .i64 0) T (.lst (fs.map cY.pv)) x3 x4 x5)) :
 Ok P (lZ (.int .i64 f) (.lst (code.map cG.pv)) (bI d) (.int .i64 pc) (.int .i64 left) (bI ts) (.int .i64 0) T (.lst (fs.map cY.pv)) x3 x4 x5):=by
 have hn2:=F.n2
 refine aFL (n:=ts.length) (F:=λi=>lZ (.int .i64 f) (.lst (code.map cG.pv)) (bI d) (.int .i64 pc) (.int .i64 left) (bI ts) (.int .i64 i) T (.lst (fs.map cY.pv)) x3 x4 x5)
  (λi=>(ts.drop i).any (λt=>decide ((code.length : Int)≤t))=ts.any (λt=>decide ((code.length : Int)≤t))) ?_ ?_ (by rw [List.drop_zero])
 ·intro hI
  rw [List.drop_length] at hI
  rw [uQ]
  exact cU (aH (aC (λh=>by omega) (λ_=>hgo hI.symm)))
 ·intro i hi hI ih
  rw [aDR hi] at hI
  rw [uQ]
  refine cU (aH (aC (λ_=>?_) (λh=>by omega)))
  refine cW hi (aE (eZ (aC (λh=>?_) (λh=>?_))))
  ·rw [decide_eq_true h] at hI
   exact aV rfl (aV rfl (aB (h3 hI.symm)))
  ·rw [decide_eq_false h] at hI
   exact aL (by omega) (ih hI)
theorem aMv {ts : List Int} {n : Int} (h : ts.any (λt=>decide (n≤t))=false) : ∀ t∈ts,t<n:=by
 clear F hf
 intro t ht
 rw [List.any_eq_false] at h
 have:=h t ht
 simp at this
 omega
theorem aLM {rest : Option (Int × Nat × Nat)} (hnext : Ok (λr=>r = [aLK rest]) (mY (.int .i64 ((f : Int)+1)) T (.lst (fs.map cY.pv)) x3 x4 x5)) : ∀ pc,pc≤code.length→
 Ok (λr=>r = [aLK (((List.range' pc (code.length - pc)).findSome? (aCe fs code f)).or rest)]) (lB (.int .i64 f) (.lst (code.map cG.pv)) (bI (kK fs code)) (.int .i64 pc) T (.lst (fs.map cY.pv)) x3 x4 x5):=by
 have hn2:=F.n2
 have hnf:=F.nf
 have hg:=zG F
 generalize hd : kK fs code=d at hg
 refine cJ ?_ ?_
 ·rw [vZ,aDC]
  exact aE (aH (aC (λh=>by omega) (λ_=>aL (by omega) hnext)))
 ·intro pc hpc ih
  have hx : code[pc]? = some code[pc]:=List.getElem?_eq_getElem hpc
  have hm : code[pc]∈code:=List.getElem_mem _
  have hu:=F.u code[pc] hm
  have hil : pc<d.length:=by rw [hg.1];exact hpc
  have hv:=hg.at pc
  have e2 : d[pc]=d[pc]?.getD 0:=aFJ hil
  rw [aBB hpc]
  have eb : aCe fs code f pc=(aDQ fs code d pc).map λc=>(c,f,pc):=by unfold aCe;rw [hd]
  rw [eb]
  have ec : aDQ fs code d pc=if d[pc]?.getD 0<0 then none
   else if can fs code[pc] (d[pc]?.getD 0)=false then some 2
   else if (hU code[pc] pc).any (λt=>decide ((code.length : Int)≤t))=true then some 3
   else if (hU code[pc] pc).any (λt=>!decide (d[t.toNat]?.getD 0=jM fs code[pc] (d[pc]?.getD 0)))=true then some 4
   else none:=by
   conv=>lhs;unfold aDQ
   rw [hx]
  generalize hw : d[pc]?.getD 0=w at *
  generalize aDQ fs code d pc=ch at *
  rw [vZ]
  refine aE (aH (aC (λ_=>?_) (λh=>by omega)))
  refine cW hil ?_
  rw [e2]
  refine aH (aC (λh1=>?_) (λh1=>?_))
  ·rw [if_pos h1] at ec
   subst ec
   exact aL (by omega) ih
  rw [if_neg h1] at ec
  refine aK hpc (λ_=>rfl) (aI (aIg (T:=T) (by omega)) (λr hr=>?_))
  subst hr
  refine bF rfl (bF rfl (cW hil ?_))
  rw [e2]
  refine bE (by omega) (aL (by omega) (cW hil ?_))
  rw [e2]
  refine aH (aC (λh2=>?_) (λh2=>?_))
  ·have hc : can fs code[pc] w=false:=by simp only [can];rw [decide_eq_false (by omega)];rfl
   rw [if_pos hc] at ec
   subst ec
   exact aV rfl (aV rfl (aB rfl))
  refine cK (aC (λh3=>?_) (λh3=>?_))
  ·have hc : can fs code[pc] w=false:=by simp only [can];rw [decide_eq_false (p:=jM fs code[pc] w≤16) (by unfold jM;omega),Bool.and_false]
   rw [if_pos hc] at ec
   subst ec
   exact aV rfl (aV rfl (aB rfl))
  have hc : can fs code[pc] w=true:=by simp only [can];rw [decide_eq_true (by omega),decide_eq_true (p:=jM fs code[pc] w≤16) (by unfold jM;omega)];rfl
  rw [hc,if_neg (by simp)] at ec
  refine aK hpc (λ_=>rfl) (aI (aIh (by omega)) (λr hr=>?_))
  subst hr
  have hnx:=aBa F hm hpc
  have hl10 : (hU code[pc] pc).length≤10:=by unfold hU;repeat' split<;>simp
  refine aNu F hf hpc hg.1 (left:=jM fs code[pc] w) hnx hl10 (λh=>?_) (λh=>?_)
  ·rw [if_pos h] at ec
   subst ec
   rfl
  rw [if_neg (by rw [h];simp)] at ec
  refine aLL F hf hpc hg.1 (left:=jM fs code[pc] w) (λt ht=>⟨(hnx t ht).1,aMv F hf h t ht⟩) hl10 (λh=>?_) (λh=>?_)
  ·rw [if_pos h] at ec
   subst ec
   rfl
  ·rw [if_neg (by rw [h];simp)] at ec
   subst ec
   exact ih
end
theorem aGX {fs : List cY} {f : Nat} (hf : f<fs.length) : aIo fs f=(List.range' 0 fs[f].code.length).findSome? (aCe fs fs[f].code f):=by
 unfold aIo
 rw [List.getElem?_eq_getElem hf]
theorem aKx {m : eM} (h : m.sized) : Ok (λr=>r = [m.verify]) (aAP m.pv):=by
 rw [aGG]
 refine aD rfl (aA rfl (aA rfl (aI (aHP h) (λr hr=>?_))))
 subst hr
 unfold eM.verify
 refine bC (aQ (λhb=>aB ?_) (λhb=>?_))
 ·have : m.okB=false:=by simpa using hb
  rw [this];rfl
 have hb : m.okB=true:=by simpa using hb
 rw [hb,if_pos rfl]
 obtain ⟨h1,h2,h3⟩:=eM.okB_fit hb
 have key:=cJ (n:=m.funcs.length) (P:=λf r=>r = [aLK ((List.range' f (m.funcs.length - f)).findSome? (aIo m.funcs))])
  (F:=λf=>mY (.int .i64 f) (.lst (m.texts.map PV.str)) (.lst (m.funcs.map cY.pv)) (.int .i64 0) (.int .i64 0) (.int .i64 0)) ?_ ?_ 0 (by omega)
 ·exact key
 ·rw [vY,aDC]
  exact aE (aH (aC (λh=>by omega) (λ_=>aB rfl)))
 ·intro f hf ih
  have F:=(h3 m.funcs[f] (List.getElem_mem _)).1
  rw [vY,aBB hf,aGX hf]
  refine aE (aH (aC (λ_=>?_) (λh=>by omega)))
  refine aK hf (λ_=>rfl) (aA rfl (aI (aBb F hf rfl) (λr hr=>?_)))
  subst hr
  exact aLM F hf ih 0 (by omega)
section
variable {P : R → Prop} {k : R → Option R}
theorem aNv {xs : List Int} (hx : xs.length≤1000000000) (y : Int) : Ok (λr=>∃ n : Int,r = [.int .i64 n]∧(0≤n↔xs.any (λx=>decide (y=x))=true)) (fM (bI xs) (.int .i64 y)):=by
 rw [pQ]
 refine cU ?_
 refine aFL (n:=xs.length) (F:=λi=>fN (bI xs) (.int .i64 y) (.int .i64 xs.length) (.int .i64 i)) (λi=>(xs.drop i).any (λx=>decide (y=x))=xs.any (λx=>decide (y=x))) ?_ ?_ (by rw [List.drop_zero])
 ·intro hI
  rw [List.drop_length] at hI
  rw [fW]
  refine aH (aC (λh=>by omega) (λ_=>aB ⟨-1,rfl,?_⟩))
  rw [← hI];simp
 ·intro i hi hI ih
  rw [aDR hi] at hI
  rw [fW]
  refine aH (aC (λ_=>?_) (λh=>by omega))
  refine cW hi (aG (aC (λh=>aB ⟨i,rfl,?_⟩) (λh=>?_)))
  ·rw [← hI,decide_eq_true h];simp
  ·rw [decide_eq_false h] at hI
   exact aL (by omega) (ih hI)
theorem aEA {xs : List Int} (hx : xs.length≤1000000000) {y : Int} (h : Ok P (k [.bool (xs.any (λx=>decide (y=x)))])) : Ok P (bd (fL (bI xs) (.int .i64 y)) k):=by
 refine aI (Q:=λr=>r = [.bool (xs.any (λx=>decide (y=x)))]) ?_ (λr hr=>by rw [hr];exact h)
 rw [uV]
 refine aI (aNv hx y) ?_
 rintro r ⟨n,rfl,hn⟩
 refine eZ (aB ?_)
 by_cases h0 : 0≤n
 ·rw [decide_eq_true h0,hn.1 h0]
 ·rw [decide_eq_false h0]
  cases h2 : xs.any (λx=>decide (y=x)) with
  | false=>rfl
  | true=>exact absurd (hn.2 h2) h0
theorem aNw {f : Nat} {caps : List PV} {xs : List Int} (hx : xs.length≤1000000000) (p : Int→Bool) (hp : ∀ x∈xs,Ok (λr=>r = [.bool (p x)]) (aZ f ([.int .i64 x]++caps))) (h : Ok P (k [.bool (xs.any p)])) :
 Ok P (bd (iP (bI xs) (.fn f caps)) k):=by
 refine aI (Q:=λr=>r = [.bool (xs.any p)]) ?_ (λr hr=>by rw [hr];exact h)
 rw [rN]
 refine aI (Q:=λr=>∃ n : Int,r = [.int .i64 n]∧(0≤n↔xs.any p=true)) ?_ ?_
 ·rw [tJ]
  refine cU ?_
  refine aFL (n:=xs.length) (F:=λi=>fO (bI xs) (.fn f caps) (.int .i64 xs.length) (.int .i64 i)) (λi=>(xs.drop i).any p=xs.any p) ?_ ?_ (by rw [List.drop_zero])
  ·intro hI
   rw [List.drop_length] at hI
   rw [lH]
   refine aH (aC (λh=>by omega) (λ_=>aB ⟨-1,rfl,?_⟩))
   rw [← hI];simp
  ·intro i hi hI ih
   rw [aDR hi] at hI
   rw [lH]
   refine aH (aC (λ_=>?_) (λh=>by omega))
   refine cW hi (tV rfl (hp _ (List.getElem_mem _)) (λr hr=>?_))
   subst hr
   refine aQ (λh=>aB ⟨i,rfl,?_⟩) (λh=>?_)
   ·rw [← hI,h];simp
   ·rw [h,Bool.false_or] at hI
    exact aL (by omega) (ih hI)
 ·rintro r ⟨n,rfl,hn⟩
  refine eZ (aB ?_)
  by_cases h0 : 0≤n
  ·rw [decide_eq_true h0,hn.1 h0]
  ·rw [decide_eq_false h0]
   cases h2 : xs.any p with
   | false=>rfl
   | true=>exact absurd (hn.2 h2) h0
end
theorem aPn {ts : List Int} {n : Int} (h : ∀ t∈ts,t≤n) : ts.any (λx=>decide (n=x))=ts.any (λt=>decide (n≤t)):=by
 induction ts with
 | nil=>rfl
 | cons t r ih=>
   rw [List.any_cons,List.any_cons,ih (λx hx=>h x (List.mem_cons_of_mem _ hx))]
   have:=h t List.mem_cons_self
   congr 1
   by_cases h1 : n=t
   ·rw [decide_eq_true h1,decide_eq_true (by omega)]
   ·rw [decide_eq_false h1,decide_eq_false (by omega)]
section
variable {fs : List cY} {code : List cG} {T x3 x4 x5 : PV} (F : Fit fs code) {f : Nat} (hf : f < fs.length)
include F hf
theorem aLN {rest : Option (Int × Nat × Nat)} (hnext : Ok (λr=>r = [aLK rest]) (mZ (.int .i64 fs.length) (.int .i64 ((f : Int)+1)) T (.lst (fs.map cY.pv)) x3 x4 x5)) : ∀ pc,pc≤code.length→
 Ok (λr=>r = [aLK (((List.range' pc (code.length - pc)).findSome? (aCe fs code f)).or rest)])
  (nB (.int .i64 f) (.int .i64 fs.length) (.int .i64 f) (.lst (code.map cG.pv)) (.int .i64 code.length) (.int .i64 pc) T (.lst (fs.map cY.pv)) x3 x4 x5 (bI (kK fs code))):=by
 have hn2:=F.n2
 have hnf:=F.nf
 have hg:=zG F
 generalize hd : kK fs code=d at hg
 refine cJ ?_ ?_
 ·rw [wD,aDC]
  exact aH (aC (λh=>by omega) (λ_=>aL (by omega) hnext))
 ·intro pc hpc ih
  have hx : code[pc]? = some code[pc]:=List.getElem?_eq_getElem hpc
  have hm : code[pc]∈code:=List.getElem_mem _
  have hu:=F.u code[pc] hm
  have hil : pc<d.length:=by rw [hg.1];exact hpc
  have hv:=hg.at pc
  have e2 : d[pc]=d[pc]?.getD 0:=aFJ hil
  rw [aBB hpc]
  have eb : aCe fs code f pc=(aDQ fs code d pc).map λc=>(c,f,pc):=by unfold aCe;rw [hd]
  rw [eb]
  have ec : aDQ fs code d pc=if d[pc]?.getD 0<0 then none
   else if can fs code[pc] (d[pc]?.getD 0)=false then some 2
   else if (hU code[pc] pc).any (λt=>decide ((code.length : Int)≤t))=true then some 3
   else if (hU code[pc] pc).any (λt=>!decide (d[t.toNat]?.getD 0=jM fs code[pc] (d[pc]?.getD 0)))=true then some 4
   else none:=by
   conv=>lhs;unfold aDQ
   rw [hx]
  generalize hw : d[pc]?.getD 0=w at *
  generalize aDQ fs code d pc=ch at *
  rw [wD]
  refine aH (aC (λ_=>?_) (λh=>by omega))
  refine aK hpc (λ_=>rfl) (aD rfl (aA rfl (aA rfl (cW hil ?_))))
  rw [e2]
  refine aH (aC (λh1=>?_) (λh1=>?_))
  ·rw [if_pos h1] at ec
   subst ec
   exact aL (by omega) ih
  rw [if_neg h1] at ec
  refine cW hil ?_
  rw [e2]
  refine aI (aIl (T:=T) F hm hv) (λr hr=>?_)
  subst hr
  refine bF rfl (bF rfl (aV rfl (bC (aQ (λhc=>?_) (λhc=>?_)))))
  ·have hc : can fs code[pc] w=false:=by simpa using hc
   rw [if_pos hc] at ec
   subst ec
   exact aV rfl (aV rfl (aB rfl))
  have hc : can fs code[pc] w=true:=by simpa using hc
  rw [hc,if_neg (by simp)] at ec
  refine aI (aIi (x:=code[pc]) (by omega)) (λr hr=>?_)
  subst hr
  have hnx:=aBa F hm hpc
  have hl10 : (hU code[pc] pc).length≤10:=by unfold hU;repeat' split<;>simp
  refine cU (aEA (by omega) ?_)
  rw [hg.1,aPn (λt ht=>(hnx t ht).2)]
  refine aQ (λh=>?_) (λh=>?_)
  ·rw [if_pos h] at ec
   subst ec
   exact aV rfl (aV rfl (aB rfl))
  rw [if_neg (by rw [h];simp)] at ec
  refine aNw (by omega) (λt=>!decide (d[t.toNat]?.getD 0=jM fs code[pc] w)) (λt ht=>?_) ?_
  ·have:=hnx t ht
   have:=aMv F hf h t ht
   show Ok _ (aCa _ _ _)
   rw [aEl]
   refine tW rfl (nG (by omega) (by rw [hg.1];omega) (λv hv=>tW rfl (bQ (aB ?_))))
   rw [hv];rfl
  ·refine eK rfl (aQ (λh=>?_) (λh=>?_))
   ·rw [if_pos h] at ec
    subst ec
    exact aV rfl (aV rfl (aB rfl))
   ·rw [if_neg (by rw [h];simp)] at ec
    subst ec
    exact aL (by omega) ih
end
theorem aKy {m : eM} (h : m.sized) : Ok (λr=>r = [m.verify]) (aAQ m.pv):=by
 rw [aGH]
 refine aD rfl (aA rfl (aA rfl (aI (aHQ h) (λr hr=>?_))))
 subst hr
 unfold eM.verify
 refine bC (aQ (λhb=>aB ?_) (λhb=>?_))
 ·have : m.okB=false:=by simpa using hb
  rw [this];rfl
 have hb : m.okB=true:=by simpa using hb
 rw [hb,if_pos rfl]
 obtain ⟨h1,h2,h3⟩:=eM.okB_fit hb
 refine aE ?_
 have key:=cJ (n:=m.funcs.length) (P:=λf r=>r = [aLK ((List.range' f (m.funcs.length - f)).findSome? (aIo m.funcs))])
  (F:=λf=>mZ (.int .i64 m.funcs.length) (.int .i64 f) (.lst (m.texts.map PV.str)) (.lst (m.funcs.map cY.pv)) (.int .i64 0) (.int .i64 0) (.int .i64 0)) ?_ ?_ 0 (by omega)
 ·exact key
 ·rw [wC,aDC]
  exact aH (aC (λh=>by omega) (λ_=>aB rfl))
 ·intro f hf ih
  have F:=(h3 m.funcs[f] (List.getElem_mem _)).1
  rw [wC,aBB hf,aGX hf]
  refine aH (aC (λ_=>?_) (λh=>by omega))
  refine aI (aBe F hf rfl) (λr hr=>?_)
  subst hr
  refine aV rfl (aK hf (λ_=>rfl) (aA rfl (aE ?_)))
  exact aLN F hf ih 0 (by omega)
theorem aNx {fs : List cY} {code : List cG} {d : List Int} {pc : Nat} (hpc : pc<code.length) (h : aDQ fs code d pc=none) (h0 : ¬ d[pc]?.getD 0<0) :
 can fs code[pc] (d[pc]?.getD 0)=true∧∀ t∈hU code[pc] pc,t<code.length∧d[t.toNat]?.getD 0=jM fs code[pc] (d[pc]?.getD 0):=by
 unfold aDQ at h
 rw [List.getElem?_eq_getElem hpc] at h
 simp only at h
 rw [if_neg h0] at h
 split at h
 ·cases h
 rename_i h1
 split at h
 ·cases h
 rename_i h2
 split at h
 ·cases h
 rename_i h3
 refine ⟨by simpa using h1,λt ht=>?_⟩
 rw [Bool.not_eq_true,List.any_eq_false] at h2 h3
 have g2:=h2 t ht
 have g3:=h3 t ht
 simp at g2 g3
 exact ⟨by omega,g3⟩
theorem aOl {fs : List cY} (h : bad fs=none) {f : Nat} (hf : f<fs.length) {pc : Nat} (hpc : pc<fs[f].code.length) : aDQ fs fs[f].code (kK fs fs[f].code) pc=none:=by
 unfold bad at h
 rw [List.findSome?_eq_none_iff] at h
 have h1:=h f (by rw [List.mem_range'_1];omega)
 rw [aGX hf,List.findSome?_eq_none_iff] at h1
 have h2:=h1 pc (by rw [List.mem_range'_1];omega)
 simpa [aCe] using h2
end
noncomputable section
open Go Go.IntWalk
attribute [local irreducible] bd PV.ite PV.guardFlat PV.guardOwn PV.whole PV.one PV.cell PV.sub PV.at_ PV.len PV.slen PV.chr PV.beq PV.peq PV.ceq PV.bin PV.neg PV.not PV.conv PV.cut PV.scut PV.cat PV.setAt PV.setCell PV.ncopy PV.copyIn PV.zeros PV.toStr PV.toBytes PV.deref PV.isPtr PV.comp PV.inb PV.off PV.imin PV.imax PV.sel PV.apply PV.isLst PV.isInt PV.ix PV.nilT
structure eN (m : eM) : Prop where
 sz : m.sized
 ok : m.okB=true
 bad : bad m.funcs=none
def dAt (m : eM) (f pc : Int) : Int:=(kK m.funcs (dB m.funcs f))[pc.toNat]?.getD 0
def sK (m : eM) (f pc : Int) : cG:=(dB m.funcs f)[pc.toNat]?.getD ⟨0,0⟩
abbrev kV (m : eM) (n : Int) (v : bY) : Prop:=cA m.funcs.length n v=true
theorem aBh : jL (bs []) (bs [])=true:=aGT _
theorem nY {nf n : Int} : cA nf n dL=true:=by simp [cA,dL,aBh]
theorem aMw {nf n x : Int} (h : dF x=true) : cA nf n (aAm x)=true:=by simp [cA,aAm,aBh,h]
theorem aDS {nf n : Int} {b : Bool} : cA nf n (tD b)=true:=by cases b<;>simp [cA,tD,aBh,lM]
theorem aKz {nf n : Int} {s : ByteArray} (h : dA s=true) : cA nf n (aDD s)=true:=by simp [cA,aDD,h]
theorem aPo {nf n i : Int} (h : 0≤i∧i<n) : cA nf n (aPf i)=true:=by simp [cA,aPf,aBh,h]
theorem aPp {nf n i : Int} (h : 0≤i∧i<nf) : cA nf n (aLH i)=true:=by
 have : i≤nf - 1:=by omega
 simp [cA,aLH,aBh,lM,h,this]
theorem rO {nf n n' : Int} (hn : n≤n') {v : bY} (h : cA nf n v=true) : cA nf n' v=true:=by
 unfold cA at *
 split at h
 ·cases h
 rename_i h0
 rw [if_neg h0]
 split at h
 ·rename_i h1;rw [if_pos h1];exact h
 rename_i h1
 rw [if_neg h1]
 split at h
 ·rename_i h1;rw [if_pos h1];exact h
 rename_i h2
 rw [if_neg h2]
 split at h
 ·rename_i h1;rw [if_pos h1];exact h
 rename_i h3
 rw [if_neg h3]
 split at h
 ·rename_i h1;rw [if_pos h1];exact h
 rename_i h4
 rw [if_neg h4]
 split at h
 ·rename_i h1
  rw [if_pos h1]
  simp only [Bool.and_eq_true,decide_eq_true_eq] at *
  omega
 rename_i h5
 rw [if_neg h5]
 exact h
theorem aPq {a b : ByteArray} (ha : dA a=true) (hb : dA b=true) (h : ¬ (60 : Int)<a.size+b.size) : dA (a++b)=true:=by
 simp only [dA,Bool.and_eq_true,decide_eq_true_eq,List.all_eq_true] at *
 refine ⟨by rw [ByteArray.size_append];omega,λx hx=>?_⟩
 rw [ByteArray.data_append,Array.toList_append,List.mem_append] at hx
 rcases hx with hx | hx
 ·exact ha.2 x hx
 ·exact hb.2 x hx
theorem aEB {nf n : Int} {v : bY} (h : cA nf n v=true) (hk : v.k=3) : dA v.s=true:=by
 unfold cA at h
 rw [if_neg (λe=>e.1 hk),if_neg (by omega),if_neg (by omega),if_neg (by omega),if_pos hk] at h
 simp only [Bool.and_eq_true] at h
 exact h.2
theorem aJh {nf n o : Int} {a b : bY} : cA nf n (aDF o a b).1=true:=by
 unfold aDF
 repeat' split
 all_goals first
  | exact nY
  | (rename_i h;exact aMw (by simpa using h))
theorem aQc {nf n o : Int} {a b : bY} (ha : cA nf n a=true) (hb : cA nf n b=true) : cA nf n (yI o a b).1=true:=by
 unfold yI
 split
 ·split
  ·rename_i h
   split
   ·exact nY
   ·rename_i h2
    exact aKz (aPq (aEB ha h.1) (aEB hb h.2) h2)
  ·exact aJh
 split
 ·exact aJh
 split
 ·exact aJh
 split
 ·repeat' split
  all_goals first
   | exact nY
   | exact aDS
 ·exact aDS
theorem eN.fit {m : eM} (g : eN m) : 1≤m.funcs.length∧m.funcs.length≤12∧∀ f∈m.funcs,Fit m.funcs f.code∧0≤f.p∧f.p≤6∧f.p≤f.lc∧f.lc≤12:=eM.okB_fit g.ok
theorem eN.code {m : eM} (g : eN m) {f : Int} (h : 0≤f∧f<m.funcs.length) : ∃ i : Nat,∃ hi : i<m.funcs.length,f=i∧dB m.funcs f=m.funcs[i].code∧Fit m.funcs m.funcs[i].code∧0≤m.funcs[i].p∧m.funcs[i].p≤6∧m.funcs[i].p≤m.funcs[i].lc∧m.funcs[i].lc≤12∧aDN m.funcs f=m.funcs[i].lc∧lI m.funcs f=m.funcs[i].p∧
 ∀ x∈m.funcs[i].code,cN m.texts.length m.funcs.length m.funcs[i].lc m.funcs[i].code.length x.o x.a=true:=by
 obtain ⟨i,hi⟩:=Int.eq_ofNat_of_zero_le h.1
 have hl : i<m.funcs.length:=by omega
 have hm : m.funcs[i]∈m.funcs:=List.getElem_mem _
 obtain ⟨F,p1,p2,p3,p4⟩:=g.fit.2.2 _ hm
 refine ⟨i,hl,hi,by simp [dB,hi,List.getElem?_eq_getElem hl],F,p1,p2,p3,p4,by simp [aDN,hi,List.getElem?_eq_getElem hl],by simp [lI,hi,List.getElem?_eq_getElem hl],λx hx=>?_⟩
 have h:=g.ok
 simp only [eM.okB,Bool.and_eq_true,bG,decide_eq_true_eq,List.all_eq_true,uY] at h
 exact (h.2.2.2 _ hm).2.2.2 x hx
theorem eN.at_ {m : eM} (g : eN m) {f pc : Int} (h : 0≤f∧f<m.funcs.length) (hp : 0≤pc∧pc<(dB m.funcs f).length) (hd : 0≤dAt m f pc) :
 cN m.texts.length m.funcs.length (aDN m.funcs f) (dB m.funcs f).length (sK m f pc).o (sK m f pc).a=true∧
 (0≤(bX m.funcs (sK m f pc)).1∧(bX m.funcs (sK m f pc)).1≤dAt m f pc∧0≤(bX m.funcs (sK m f pc)).2∧(bX m.funcs (sK m f pc)).2≤2)∧dAt m f pc≤16∧jM m.funcs (sK m f pc) (dAt m f pc)≤16∧
 ∀ t∈hU (sK m f pc) pc,(0≤t∧t<(dB m.funcs f).length)∧dAt m f t=jM m.funcs (sK m f pc) (dAt m f pc):=by
 obtain ⟨i,hi,rfl,hc,F,p1,p2,p3,p4,hlc,hpar,hins⟩:=g.code h
 obtain ⟨j,rfl⟩:=Int.eq_ofNat_of_zero_le hp.1
 have hj : j<m.funcs[i].code.length:=by rw [hc] at hp;omega
 have hx : sK m i j=m.funcs[i].code[j]:=by simp [sK,hc,List.getElem?_eq_getElem hj]
 have hm : m.funcs[i].code[j]∈m.funcs[i].code:=List.getElem_mem _
 have hu:=F.u _ hm
 have hdd : ∀ t : Int,dAt m i t=(kK m.funcs m.funcs[i].code)[t.toNat]?.getD 0:=λt=>by rw [dAt,hc]
 have hb:=(zG F).at j
 have hck:=aNx hj (aOl g.bad hi hj)
 have hnx:=aBa F hm hj
 rw [hx,hc,hlc]
 rw [hdd,Int.toNat_natCast] at hd ⊢
 obtain ⟨hcan,hall⟩:=hck (by omega)
 simp only [can,Bool.and_eq_true,decide_eq_true_eq] at hcan
 refine ⟨hins _ hm,⟨hu.1,hcan.1,hu.2.2⟩,hb.2,hcan.2,λt ht=>?_⟩
 obtain ⟨q1,q2⟩:=hall t ht
 exact ⟨⟨(hnx t ht).1,q1⟩,by rw [hdd];exact q2⟩
structure FrI (m : eM) (n : Int) (f : bV) : Prop where
 fi : 0≤f.f∧f.f<m.funcs.length
 pc : 0≤f.pc∧f.pc<(dB m.funcs f.f).length
 loc : (f.loc.length : Int)=aDN m.funcs f.f
 d : 0≤dAt m f.f f.pc
 vl : ∀ v∈f.loc,kV m n v
 vs : ∀ v∈f.stk,kV m n v
structure aHS (m : eM) (n : Int) (f : bV) : Prop extends FrI m n f where
 h : (f.stk.length : Int)=dAt m f.f f.pc
structure aFB (m : eM) (n : Int) (f : bV) : Prop extends FrI m n f where
 low : 1≤f.pc∧0≤dAt m f.f (f.pc - 1)∧((sK m f.f (f.pc - 1)).o=23∨(sK m f.f (f.pc - 1)).o=24)
 h : (f.stk.length : Int)=dAt m f.f f.pc - 1
structure HpI (m : eM) (hp : List (List bY)) (made : Int) (out : List ByteArray) : Prop where
 made : hp.length≤made∧made≤120
 recs : ∀ r∈hp,r.length≤6∧∀ v∈r,kV m hp.length v
 out : out.length≤200
structure VmI (m : eM) (v : eB) : Prop where
 hp : HpI m v.hp v.made v.out
 steps : 0≤v.steps∧v.steps≤50000
 nfr : v.fr.length≤24
 run : v.st=0→v.fr≠[]
 top : ∀ fs0 f,v.fr=fs0++[f]→aHS m v.hp.length f∧∀ g∈fs0,aFB m v.hp.length g
theorem FrI.mono {m : eM} {n n' : Int} (hn : n≤n') {f : bV} (h : FrI m n f) : FrI m n' f:=
 ⟨h.fi,h.pc,h.loc,h.d,λv hv=>rO hn (h.vl v hv),λv hv=>rO hn (h.vs v hv)⟩
theorem aFB.mono {m : eM} {n n' : Int} (hn : n≤n') {f : bV} (h : aFB m n f) : aFB m n' f:=⟨h.toFrI.mono hn,h.low,h.h⟩
theorem FrI.small {m : eM} (g : eN m) {n : Int} {f : bV} (h : FrI m n f) : f.loc.length≤12:=by
 obtain ⟨i,hi,he,hc,F,p1,p2,p3,p4,hlc,hpar,hins⟩:=g.code h.fi
 have:=h.loc
 omega
theorem FrI.dle {m : eM} (g : eN m) {n : Int} {f : bV} (h : FrI m n f) : dAt m f.f f.pc≤16:=(g.at_ h.fi h.pc h.d).2.2.1
theorem VmI.sz {m : eM} (g : eN m) {v : eB} (h : VmI m v) : Sz v:=by
 have:=h.hp.made
 have:=h.hp.out
 have:=h.nfr
 refine ⟨by omega,by omega,by omega,λf hf=>?_,λr hr=>by have:=(h.hp.recs r hr).1;omega⟩
 rcases List.eq_nil_or_concat v.fr with h0 | ⟨fs0,f0,h0⟩
 ·rw [h0] at hf;cases hf
 ·obtain ⟨t,l⟩:=h.top fs0 f0 (by rw [h0];simp)
  rw [h0] at hf
  simp only [List.concat_eq_append,List.mem_append,List.mem_singleton] at hf
  rcases hf with hf | rfl
  ·have:=(l f hf).toFrI.small g
   have:=(l f hf).toFrI.dle g
   have:=(l f hf).h
   omega
  ·have:=t.toFrI.small g
   have:=t.toFrI.dle g
   have:=t.h
   omega
theorem VmI.goes {m : eM} (g : eN m) {v : eB} (h : VmI m v) (h0 : v.st=0) : ∃ fs0 f,aPV m v fs0 f:=by
 rcases List.eq_nil_or_concat v.fr with e | ⟨fs0,f,e⟩
 ·exact absurd e (h.run h0)
 rw [List.concat_eq_append] at e
 refine ⟨fs0,f,?_⟩
 obtain ⟨t,l⟩:=h.top fs0 f e
 obtain ⟨i,hi,he,hc,F,p1,p2,p3,p4,hlc,hpar,hins⟩:=g.code t.fi
 obtain ⟨a1,a2,a3,a4,a5⟩:=g.at_ t.fi t.pc t.d
 have hx : nH m.funcs f=sK m f.f f.pc:=rfl
 have hh:=t.h
 have hm:=h.hp.made
 have hn:=h.nfr
 rw [e,List.length_append,List.length_singleton] at hn
 refine ⟨e,t.fi,t.pc,by rw [hc];exact F.n2,by rw [hx,t.loc];exact a1,by rw [hx,hh];exact ⟨a2.1,a2.2.1⟩,λb=>?_⟩
 refine ⟨g.fit.2.1,?_,λf hf=>?_,by omega,λf hf=>?_,by have:=t.toFrI.small g;exact this,?_,λr hr=>(h.hp.recs r hr).1,by omega,by omega,h.hp.out,λv hv=>t.vs v (List.mem_of_mem_drop hv)⟩
 ·have h:=g.ok
  simp only [eM.okB,Bool.and_eq_true,bG,decide_eq_true_eq] at h
  omega
 ·have:=g.fit.2.2 f hf
  exact this.2
 ·have:=(l f hf).toFrI.dle g
  have:=(l f hf).h
  omega
 ·simp only [List.length_take,List.length_drop]
  omega
def fD (L : List Int) (v : bY) : List Int:=if v.k=4∧v.n∉L then L++[v.n] else L
def fE (L : List Int) (l : List bY) : List Int:=l.foldl fD L
def nI (L : List Int) (f : bV) : List Int:=fE (fE L f.loc) f.stk
def xK (v : eB) : List Int:=fD (v.fr.foldl nI []) v.val
def cD (hp : List (List bY)) (i : Int) : List bY:=hp[i.toNat]?.getD []
def iE (hp : List (List bY)) : Nat→Nat→List Int→List Int
 | 0,_,L=>L
 | d+1,i,L=>if i<L.length then iE hp d (i+1) (fE L (cD hp (L[i]?.getD 0))) else L
def fJ (v : eB) : List Int:=iE v.hp v.hp.length 0 (xK v)
def aBi (H : Nat) (v : bY) : Prop:=v.k=4→0≤v.n∧v.n<H
structure xL (H : Nat) (L : List Int) : Prop where
 nd : L.Nodup
 lt : ∀ x∈L,0≤x∧x<H
theorem aMx {m : eM} {H : Nat} {v : bY} (h : kV m H v) : aBi H v:=λhk=>by
 unfold kV cA at h
 split at h
 ·cases h
 ·rw [if_neg (by omega),if_neg (by omega),if_neg (by omega),if_neg (by omega)] at h
  try rw [if_pos hk] at h
  simp only [Bool.and_eq_true,decide_eq_true_eq] at h
  exact h
theorem xL.len {H : Nat} {L : List Int} (h : xL H L) : L.length≤H:=by
 have:=List.Nodup.length_le_of_subset h.nd (l₂:=(List.range H).map Int.ofNat) (λx hx=>by
  obtain ⟨h1,h2⟩:=h.lt x hx
  rw [List.mem_map]
  exact ⟨x.toNat,List.mem_range.2 (by omega),by show ((x.toNat : Nat) : Int)=x;omega⟩)
 simpa using this
theorem aEC {L : List Int} {v : bY} {x : Int} (h : x∈L) : x∈fD L v:=by
 unfold fD;split
 ·exact List.mem_append_left _ h
 ·exact h
theorem aBH {L : List Int} {v : bY} (h : v.k=4) : v.n∈fD L v:=by
 unfold fD;split
 ·simp
 ·rename_i hn
  exact Classical.not_not.1 (λk=>hn ⟨h,k⟩)
theorem aGY {H : Nat} {L : List Int} {v : bY} (hL : xL H L) (hv : aBi H v) : xL H (fD L v):=by
 unfold fD;split
 ·rename_i h
  refine ⟨List.nodup_append.2 ⟨hL.nd,by simp,λa ha b hb=>?_⟩,λx hx=>?_⟩
  ·simp at hb;subst hb;rintro rfl;exact h.2 ha
  ·rcases List.mem_append.1 hx with hx | hx
   ·exact hL.lt x hx
   ·simp at hx;subst hx;exact hv h.1
 ·exact hL
theorem rP {x : Int} : ∀ {l : List bY} {L : List Int},x∈L→x∈fE L l
 | [],_,h=>h
 | v::r,_,h=>rP (l:=r) (aEC h)
theorem aBI {v : bY} (hk : v.k=4) : ∀ {l : List bY} {L : List Int},v∈l→v.n∈fE L l
 | a::r,L,h=>by
   rcases List.mem_cons.1 h with rfl | h
   ·exact rP (l:=r) (aBH hk)
   ·exact aBI hk (l:=r) h
theorem mA {H : Nat} : ∀ {l : List bY} {L : List Int},xL H L→(∀ v∈l,aBi H v)→xL H (fE L l)
 | [],_,h,_=>h
 | v::r,_,h,hv=>mA (l:=r) (aGY h (hv v List.mem_cons_self)) (λx hx=>hv x (List.mem_cons_of_mem _ hx))
theorem zJ {hp : List (List bY)} {x : Int} : ∀ {d i : Nat} {L : List Int},x∈L→x∈iE hp d i L
 | 0,_,_,h=>h
 | d+1,i,L,h=>by
   unfold iE;split
   ·exact zJ (rP h)
   ·exact h
theorem aIp {H : Nat} {hp : List (List bY)} (hh : ∀ r∈hp,∀ v∈r,aBi H v) : ∀ {d i : Nat} {L : List Int},xL H L→xL H (iE hp d i L)
 | 0,_,_,h=>h
 | d+1,i,L,h=>by
   unfold iE;split
   ·refine aIp hh (mA h (λv hv=>?_))
    unfold cD at hv
    cases hq : hp[(L[i]?.getD 0).toNat]? with
    | none=>rw [hq] at hv;cases hv
    | some r=>rw [hq] at hv;exact hh r (List.mem_of_getElem? hq) v hv
   ·exact h
def aMy (hp : List (List bY)) (L : List Int) (n : Nat) : Prop:=∀ j : Nat,j<n→j<L.length→∀ v∈cD hp (L[j]?.getD 0),v.k=4→v.n∈L
theorem aNy {l : List bY} : ∀ {L : List Int} {j : Nat},j<L.length→(fE L l)[j]? = L[j]?:=by
 induction l with
 | nil=>intro L j _;rfl
 | cons v r ih=>
   intro L j hj
   show (fE (fD L v) r)[j]? = _
   have h2 : j<(fD L v).length:=by
    unfold fD;split
    ·simp;omega
    ·exact hj
   rw [ih h2]
   unfold fD;split
   ·rw [List.getElem?_append_left hj]
   ·rfl
theorem aCf {H : Nat} {hp : List (List bY)} (hh : ∀ r∈hp,∀ v∈r,aBi H v) : ∀ {d i : Nat} {L : List Int},xL H L→H≤i+d→aMy hp L i→aMy hp (iE hp d i L) (iE hp d i L).length
 | 0,i,L,h,hd,hc=>λj hj hl=>hc j (by have:=h.len;have : j<L.length:=hj;omega) hl
 | d+1,i,L,h,hd,hc=>by
   unfold iE;split
   ·rename_i hi
    have hvv : ∀ v∈cD hp (L[i]?.getD 0),aBi H v:=λv hv=>by
     unfold cD at hv
     cases hq : hp[(L[i]?.getD 0).toNat]? with
     | none=>rw [hq] at hv;cases hv
     | some r=>rw [hq] at hv;exact hh r (List.mem_of_getElem? hq) v hv
    refine aCf hh (mA h hvv) (by omega) (λj hj hl v hv hk=>?_)
    have hjL : j<L.length:=by omega
    rw [aNy hjL] at hv
    rcases Nat.lt_or_ge j i with h1 | h1
    ·exact rP (hc j h1 hjL v hv hk)
    ·have : j=i:=by omega
     subst this
     exact aBI hk hv
   ·rename_i hi
    exact λj hj hl=>hc j (by omega) hl
def aKA (H : Nat) (L : List Int) : List Nat:=(List.range H).filter λ(i : Nat)=>decide ((i : Int)∈L)
def aQx (L : List Int) (i : Nat) : Int:=(aKA i L).length
def aOm (L : List Int) (v : bY) : bY:=if v.k=4 then ⟨v.k,aQx L v.n.toNat,v.s⟩ else v
def aQQ (L : List Int) (f : bV) : bV:=⟨f.f,f.pc,f.loc.map (aOm L),f.stk.map (aOm L)⟩
def aQy (v : eB) (L : List Int) : eB:=
 { v with fr:=v.fr.map (aQQ L),hp:=(aKA v.hp.length L).map λi=>(v.hp[i]?.getD []).map (aOm L),val:=aOm L v.val}
def aQz (v : eB) : eB:=aQy v (fJ v)
section
variable {P : R → Prop} {k : R → Option R}
theorem aHT {n : Int} (h : Ok P (k [.bool (dF n)])) : Ok P (bd (uK (.int .i64 n)) k):=by
 refine aI (Q:=λr=>r = [.bool (dF n)]) ?_ (λr hr=>by rw [hr];exact h)
 rw [aCd]
 exact fC (aB rfl)
def aRf (f : PV) (g : Int→Int→Int) : Prop:=∀ {a b : Int} {P : R→Prop} {k : R→Option R},dF a=true→dF b=true→Ok P (k [.int .i64 (g a b)])→Ok P (bd (PV.apply aZ f [.int .i64 a,.int .i64 b]) k)
theorem aJi {a b : bY} {k : PV→Option R} (h : Ok P (k (.bool (decide (a.k=b.k)&&(decide (a.n=b.n)&&jL a.s b.s))))) : Ok P (bd (PV.ceq [1,1,2] .eql (.agg [.int .i64 a.k,.int .i64 a.n,.str a.s]) (.agg [.int .i64 b.k,.int .i64 b.n,.str b.s])) k):=
 dM _ (by simp [PV.ceq,PV.eqCells,PV.eqScalar,PV.eqOr,jL];rfl) h
end
section
variable {P : R → Prop} {k : R → Option R}
theorem aPr {s : ByteArray} (hs : s.size≤2097152) (h : Ok P (k [.bool (dA s)])) : Ok P (bd (pN (.str s)) k):=aI (aBA hs) (λr hr=>by rw [hr];exact h)
theorem aGZ {v : bY} {nf recs : Int} (hs : v.s.size≤2097152) (hn : -1000000000≤nf∧nf≤1000000000) (hr : -1000000000≤recs∧recs≤1000000000) : Ok (λr=>r = [.bool (cA nf recs v)]) (yY v.pv (.int .i64 nf) (.int .i64 recs)):=by
 rw [aFw]
 refine aD rfl (aA rfl (aA rfl (aA rfl ?_)))
 refine aG (aC (λh0=>?_) (λh0=>?_))
 rotate_left
 refine aG (aC (λh1=>aHT ?_) (λh1=>?_))
 rotate_left
 refine aG (aC (λh2=>fC ?_) (λh2=>?_))
 rotate_left
 refine aG (aC (λh3=>aG ?_) (λh3=>?_))
 rotate_left
 refine aG (aC (λh4=>gT hr ?_) (λh4=>?_))
 rotate_left
 refine aG (aC (λh5=>gT hn ?_) (λh5=>aB ?_))
 rotate_right 5
 ·refine aJi (a:=v) (b:=⟨0,0,bs []⟩) (aB ?_)
  unfold cA
  cases hse : jL v.s (bs []) with
  | false=>rw [if_pos ⟨by omega,rfl⟩];simp [hse]
  | true=>rw [if_neg (by simp),if_pos h0];simp [h0,hse]
 all_goals unfold cA
 ·cases hse : jL v.s (bs []) with
  | false=>
    rw [if_pos ⟨by omega,rfl⟩]
    cases dF v.n
    ·exact aT (aB rfl)
    ·exact bB (tM (aB (by rw [hse])))
  | true=>
    rw [if_neg (by simp),if_neg h0,if_pos h1]
    cases dF v.n
    ·exact aT (aB rfl)
    ·exact bB (tM (aB (by rw [hse])))
 ·cases hse : jL v.s (bs []) with
  | false=>
    rw [if_pos ⟨by omega,rfl⟩]
    cases lM v.n 0 1
    ·exact aT (aB rfl)
    ·exact bB (tM (aB (by rw [hse])))
  | true=>
    rw [if_neg (by simp),if_neg h0,if_neg h1,if_pos h2]
    cases lM v.n 0 1
    ·exact aT (aB rfl)
    ·exact bB (tM (aB (by rw [hse])))
 ·rw [if_neg (λh=>h.1 h3),if_neg h0,if_neg h1,if_neg h2,if_pos h3]
  refine aC (λh6=>aPr hs (aB ?_)) (λh6=>aB ?_)
  ·rw [decide_eq_true h6];rfl
  ·rw [decide_eq_false h6];rfl
 ·have e : lM v.n 0 (recs - 1)=(decide (0≤v.n)&&decide (v.n<recs)):=by
   unfold lM
   congr 1
   exact decide_eq_decide.2 (by omega)
  rw [e]
  cases hse : jL v.s (bs []) with
  | false=>
    rw [if_pos ⟨by omega,rfl⟩]
    cases (decide (0≤v.n)&&decide (v.n<recs))
    ·exact aT (aB rfl)
    ·exact bB (tM (aB (by rw [hse])))
  | true=>
    rw [if_neg (by simp),if_neg h0,if_neg h1,if_neg h2,if_neg h3,if_pos h4]
    cases (decide (0≤v.n)&&decide (v.n<recs))
    ·exact aT (aB rfl)
    ·exact bB (tM (aB (by rw [hse])))
 ·cases hse : jL v.s (bs []) with
  | false=>
    rw [if_pos ⟨by omega,rfl⟩]
    cases lM v.n 0 (nf - 1)
    ·exact aT (aB rfl)
    ·exact bB (tM (aB (by rw [hse])))
  | true=>
    rw [if_neg (by simp),if_neg h0,if_neg h1,if_neg h2,if_neg h3,if_neg h4,if_pos h5]
    cases lM v.n 0 (nf - 1)
    ·exact aT (aB rfl)
    ·exact bB (tM (aB (by rw [hse])))
 ·by_cases hse : jL v.s (bs [])=false
  ·rw [if_pos ⟨by omega,hse⟩]
  ·rw [if_neg (λh=>hse h.2),if_neg h0,if_neg h1,if_neg h2,if_neg h3,if_neg h4,if_neg h5]
end
section
variable {P : R → Prop} {k : R → Option R}
theorem zK {l : List bY} (hl : l.length≤2097152) (h : Ok P (k [aS l])) : Ok P (bd (cE (aS l)) k):=by
 refine aI (Q:=λr=>r = [aS l]) ?_ (λr hr=>by rw [hr];exact h)
 rw [nW]
 refine aJF (aMb (λe=>aB ?_) ?_)
 ·have : l = []:=List.map_eq_nil_iff.1 e
  subst this;rfl
 ·exact sJ (l:=[]) (m:=l) (by simp;omega) (aB (by simp))
theorem aLO {l : List ByteArray} (hl : l.length≤2097152) (h : Ok P (k [.lst (l.map PV.str)])) : Ok P (bd (jE (.lst (l.map PV.str))) k):=by
 refine aI (Q:=λr=>r = [.lst (l.map PV.str)]) ?_ (λr hr=>by rw [hr];exact h)
 rw [sF]
 refine aJF (aMb (λe=>aB ?_) ?_)
 ·have : l = []:=List.map_eq_nil_iff.1 e
  subst this;rfl
 ·exact iO (by simp;omega) aMu (aB rfl)
theorem aPs {n : Int} (h0 : 0≤n) (h1 : n≤4194304) (h : Ok P (k [.lst []])) : Ok P (bd (fP (.int .i64 n)) k):=by
 refine aI (Q:=λr=>r = [.lst []]) ?_ (λr hr=>by rw [hr];exact h)
 rw [oE]
 unfold tX
 simp only
 rw [if_pos (by omega)]
 exact aB rfl
theorem aMz {a b : List bY} (ha : a.length≤2097152) (hb : b.length≤2097152) (h : Ok P (k [aS (a++b)])) : Ok P (bd (fA (.lst [aS a,aS b])) k):=by
 refine aI (Q:=λr=>r = [aS (a++b)]) ?_ (λr hr=>by rw [hr];exact h)
 have at0 : ∀ {P : R→Prop} {k : PV→Option R},Ok P (k (aS a))→Ok P (bd (PV.at_ 1 false (.lst [aS a,aS b]) (.int .i64 0)) k):=λh=>rA (by omega) rfl rfl h
 have at1 : ∀ {P : R→Prop} {k : PV→Option R},Ok P (k (aS b))→Ok P (bd (PV.at_ 1 false (.lst [aS a,aS b]) (.int .i64 1)) k):=λh=>rA (by omega) rfl rfl h
 rw [nF]
 refine dI ?_
 show Ok _ (bW _ (.int .i64 0) _ (.int .i64 2) (.int .i64 0))
 rw [dT]
 refine aH (bB (at0 (aX (aL (by omega) (aH (aC (λh=>by omega) (λ_=>aL (by omega) ?_)))))))
 show Ok _ (bW _ _ _ (.int .i64 2) (.int .i64 1))
 rw [dT]
 refine aH (bB (at1 (aX (aL (by omega) (aH (aC (λh=>by omega) (λ_=>aL (by omega) ?_)))))))
 show Ok _ (bW _ _ _ (.int .i64 2) (.int .i64 2))
 rw [dT]
 refine aH (aT (aPs (by omega) (by omega) (dI ?_)))
 show Ok _ (bU _ (.int .i64 2) (.int .i64 0) (aS []))
 rw [dR]
 refine aH (bB (at0 (sJ (by simp;omega) (aL (by omega) ?_))))
 show Ok _ (bU _ (.int .i64 2) (.int .i64 1) _)
 rw [dR]
 refine aH (bB (at1 (sJ (by simp;omega) (aL (by omega) ?_))))
 show Ok _ (bU _ (.int .i64 2) (.int .i64 2) _)
 rw [dR]
 refine aH (aT (aB ?_))
 simp
theorem aLP {fs : List cY} {i : Int} {k : PV→Option R} (h0 : 0≤i) (h1 : i<fs.length) (h : ∀ f : cY,fs[i.toNat]? = some f→Ok P (k f.pv)) : Ok P (bd (PV.at_ 3 true (.lst (fs.map cY.pv)) (.int .i64 i)) k):=by
 obtain ⟨n,rfl⟩:=Int.eq_ofNat_of_zero_le h0
 refine aK (by omega) (λ_=>rfl) (h _ ?_)
 rw [Int.toNat_natCast,List.getElem?_eq_getElem (by omega)]
theorem aKB {hp : List (List bY)} (h : hp.length≤1000) (hl : ∀ r∈hp,r.length≤1000) : Ok (λr=>r = [.lst (hp.map aR)]) (wZ (.lst (hp.map aR))):=by
 rw [aEq]
 have e : (hp.map aR).length=hp.length:=List.length_map ..
 refine dI ?_
 rw [e]
 refine (cJ (n:=hp.length) (F:=λi=>nR (.lst (hp.map aR)) (.int .i64 hp.length) (.int .i64 i) (.lst ((hp.take i).map aR))) (P:=λ_ r=>r = [.lst (hp.map aR)]) ?_ (λi hi ih=>?_) 0 (Nat.zero_le _))
 ·rw [tB]
  refine aH ?_
  rw [decide_eq_false (by omega)]
  refine aT (aB ?_)
  rw [List.take_length]
 ·rw [tB]
  refine aH ?_
  rw [decide_eq_true (by omega)]
  refine bB (aK hi (λ_=>rfl) (aD rfl (aA rfl (zK (by have:=hl _ (List.getElem_mem hi);omega) (kH (pH _) ?_)))))
  refine fF (by simp;omega) (λx hx=>by simp at hx;subst hx;rfl) (aL (by omega) ?_)
  have e : (hp.take (i+1)).map aR=(hp.take i).map aR++[PV.agg [aS hp[i]]]:=by
   rw [List.take_add_one,List.getElem?_eq_getElem hi,List.map_append];rfl
  rw [e] at ih
  exact ih
theorem aHU {fr : List bV} (h : fr.length≤1000) (hl : ∀ f∈fr,f.loc.length≤1000∧f.stk.length≤1000) : Ok (λr=>r = [.lst (fr.map bV.pv)]) (sS (.lst (fr.map bV.pv))):=by
 rw [aCR]
 have e : (fr.map bV.pv).length=fr.length:=List.length_map ..
 refine dI ?_
 rw [e]
 refine (cJ (n:=fr.length) (F:=λi=>lR (.lst (fr.map bV.pv)) (.int .i64 fr.length) (.int .i64 i) (.lst ((fr.take i).map bV.pv))) (P:=λ_ r=>r = [.lst (fr.map bV.pv)]) ?_ (λi hi ih=>?_) 0 (Nat.zero_le _))
 ·rw [qZ]
  refine aH ?_
  rw [decide_eq_false (by omega)]
  refine aT (aB ?_)
  rw [List.take_length]
 ·rw [qZ]
  refine aH ?_
  rw [decide_eq_true (by omega)]
  have hb:=hl _ (List.getElem_mem hi)
  refine bB (aK hi (λ_=>rfl) (aD rfl (aA rfl (aA rfl (aA rfl (aA rfl (zK (by omega) (kH (pH _) (zK (by omega) (kH (pH _) ?_))))))))))
  refine fF (by simp;omega) (λx hx=>by simp at hx;subst hx;rfl) (aL (by omega) ?_)
  have e : (fr.take (i+1)).map bV.pv=(fr.take i).map bV.pv++[fr[i].pv]:=by
   rw [List.take_add_one,List.getElem?_eq_getElem hi,List.map_append];rfl
  rw [e] at ih
  exact ih
theorem aOn {v : eB} (z : Sz v) (h : Ok P (k (dO v))) : Ok P (bd (wX v.pv) k):=by
 refine aI (Q:=λr=>r=dO v) ?_ (λr hr=>by rw [hr];exact h)
 rw [aEo]
 refine aD rfl (aA rfl (aA rfl (aA rfl (aA rfl (aA rfl (aA rfl (aA rfl (aA rfl (aA rfl (aA rfl ?_))))))))))
 refine aI (aHU z.f z.fl) (λr hr=>?_)
 rw [hr]
 refine kH (aBg _) (aI (aKB z.h z.hl) (λr hr=>?_))
 rw [hr]
 refine kH (aBG _) (aLO (by have:=z.o;omega) (kH (aEy _) (aB rfl)))
end
def DoI (made a3 a4 a5 a6 a7 a8 F H O : PV) (fs0 : List bV) : aDM→R→Prop
 | .trap c,r=>c≠0∧r = [.int .i64 c,made,a3,a4,a5,a6,a7,a8,F,H,O]
 | .next fr hp made' out,r=>r = [.int .i64 0,.int .i64 made',a3,a4,a5,a6,a7,a8,.lst (fs0.map bV.pv++[fr.pv]),.lst (hp.map aR),.lst (out.map PV.str)]
 | .call fr g,r=>r = [.int .i64 0,made,a3,a4,a5,a6,a7,a8,.lst (fs0.map bV.pv++[fr.pv]++[g.pv]),H,O]
 | .ret v,r=>r=if fs0 = [] then [.int .i64 0,made,.int .i64 1,a4,.int .i64 v.k,.int .i64 v.n,.str v.s,a8,.lst [],H,O]
  else [.int .i64 0,made,a3,a4,a5,a6,a7,a8,.lst ((aFb v fs0).map bV.pv),H,O]
section
variable {P : R → Prop} {k : R → Option R} {A : List PV}
end
structure aKC (m : eM) (v : eB) (f : bV) (x : cG) (fr : bV) (hp : List (List bY)) (made : Int) (out : List ByteArray) : Prop where
 ff : fr.f=f.f
 pc : fr.pc∈hU x f.pc
 loc : fr.loc.length=f.loc.length
 len : (fr.stk.length : Int)=jM m.funcs x f.stk.length
 vl : ∀ y∈fr.loc,kV m hp.length y
 vs : ∀ y∈fr.stk,kV m hp.length y
 n : v.hp.length≤hp.length
 hpI : HpI m hp made out
structure aPW (m : eM) (v : eB) (fs0 : List bV) (f : bV) (x : cG) (fr g : bV) : Prop where
 n : fs0.length+1<24
 o : x.o=23∨x.o=24
 frr : fr=⟨f.f,f.pc+1,f.loc,f.stk.take (f.stk.length - (bX m.funcs x).1.toNat)⟩
 gg : ∃ i args,g=aAp m.funcs i args∧(0≤i∧i<m.funcs.length)∧(args.length : Int)=lI m.funcs i∧∀ y∈args,kV m v.hp.length y
def aQA (m : eM) (v : eB) (fs0 : List bV) (f : bV) (x : cG) : aDM→Prop
 | .trap _=>True
 | .next fr hp made out=>aKC m v f x fr hp made out
 | .call fr g=>aPW m v fs0 f x fr g
 | .ret a=>kV m v.hp.length a
theorem aMA {m : eM} {n : Int} {l : List bY} (h : ∀ y∈l,kV m n y) (i : Nat) : kV m n (l[i]?.getD dL):=by
 cases hx : l[i]? with
 | none=>exact nY
 | some y=>exact h y (List.mem_of_getElem? hx)
theorem aJj {m : eM} {v : eB} (h : HpI m v.hp v.made v.out) (i : Nat) : (v.hp[i]?.getD []).length≤6∧∀ y∈v.hp[i]?.getD [],kV m v.hp.length y:=by
 cases hx : v.hp[i]? with
 | none=>simp
 | some y=>exact h.recs y (List.mem_of_getElem? hx)
theorem aOo {m : eM} {n : Int} {l : List bY} (h : ∀ y∈l,kV m n y) {y : bY} (hy : kV m n y) (i : Nat) : ∀ z∈l.set i y,kV m n z:=by
 intro z hz
 rcases List.mem_or_eq_of_mem_set hz with h1 | rfl
 ·exact h z h1
 ·exact hy
theorem aJk {m : eM} {n : Int} {a b : List bY} (h : ∀ y∈a,kV m n y) (h' : ∀ y∈b,kV m n y) : ∀ y∈a++b,kV m n y:=by
 intro y hy
 rcases List.mem_append.1 hy with h1 | h1
 ·exact h y h1
 ·exact h' y h1
theorem aIq {x : cG} {pc : Int} (h : x.o≠17∧x.o≠25) : pc+1∈hU x pc:=by simp [hU,h]
theorem aG0 {x : cG} {pc : Int} (h : x.o=17∨x.o=18∨x.o=19) : x.a∈hU x pc:=by unfold hU;rw [if_pos h];simp
section
variable {m : eM} {v : eB} {fs0 : List bV} {f : bV} {x : cG}
theorem aOp (g : eN m) (h : VmI m v) (t : aHS m v.hp.length f) (hx : nH m.funcs f=x) (hn : fs0.length+1≤24) : aQA m v fs0 f x (aDP m v fs0 f):=by
 obtain ⟨a1,a2,a3,a4,a5⟩:=g.at_ t.fi t.pc t.d
 have hi : sK m f.f f.pc=x:=hx
 rw [hi] at a1 a2 a4 a5
 have hh:=t.h
 rw [← hh] at a2 a3 a4
 rw [← t.loc] at a1
 have ib:=aEx a1
 show aQA m v fs0 f x (qP m ⟨f.f,f.pc+1,f.loc,f.stk.take (f.stk.length - (bX m.funcs (nH m.funcs f)).1.toNat)⟩ (f.stk.drop (f.stk.length - (bX m.funcs (nH m.funcs f)).1.toNat)) (fs0.length+1) v.hp v.made v.out (nH m.funcs f))
 rw [hx]
 generalize hb : f.stk.length - (bX m.funcs x).1.toNat=b
 have hlt : ((f.stk.take b).length : Int)=f.stk.length - (bX m.funcs x).1:=by rw [List.length_take];omega
 have hld : ((f.stk.drop b).length : Int)=(bX m.funcs x).1:=by rw [List.length_drop];omega
 have kt : ∀ y∈f.stk.take b,kV m v.hp.length y:=λy hy=>t.vs y (List.mem_of_mem_take hy)
 have kd : ∀ y∈f.stk.drop b,kV m v.hp.length y:=λy hy=>t.vs y (List.mem_of_mem_drop hy)
 have hlef : jM m.funcs x f.stk.length=f.stk.length - (bX m.funcs x).1+(bX m.funcs x).2:=rfl
 generalize htk : f.stk.take b=T at *
 generalize hdr : f.stk.drop b=D at *
 have ka : kV m v.hp.length (D.headD dL):=by
  cases D with
  | nil=>exact nY
  | cons y r=>exact kd y (by simp)
 have kb : kV m v.hp.length (D.tail.headD dL):=by
  cases D with
  | nil=>exact nY
  | cons y r=>cases r with
    | nil=>exact nY
    | cons z r=>exact kd z (by simp)
 have ktl : ∀ y∈D.tail,kV m v.hp.length y:=λy hy=>kd y (List.mem_of_mem_tail hy)
 have go : ∀ (l : List bY) (pc : Int),pc∈hU x f.pc→(∀ y∈l,kV m v.hp.length y)→(l.length : Int)=(bX m.funcs x).2→aKC m v f x ⟨f.f,pc,f.loc,T++l⟩ v.hp v.made v.out:=λl pc hpc hl hn=>
  ⟨rfl,hpc,rfl,by rw [hlef,List.length_append];omega,t.vl,aJk kt hl,Nat.le_refl _,h.hp⟩
 have go0 : ∀ pc : Int,pc∈hU x f.pc→(bX m.funcs x).2=0→aKC m v f x ⟨f.f,pc,f.loc,T⟩ v.hp v.made v.out:=λpc hpc hn=>by
  have:=go [] pc hpc (by simp) (by simp [hn])
  simpa using this
 have one : ∀ y,kV m v.hp.length y→∀ z∈[y],kV m v.hp.length z:=λy hy z hz=>by rw [List.mem_singleton] at hz;rw [hz];exact hy
 have two : ∀ y y',kV m v.hp.length y→kV m v.hp.length y'→∀ z∈[y,y'],kV m v.hp.length z:=λy y' hy hy' z hz=>by
  simp only [List.mem_cons,List.not_mem_nil,or_false] at hz
  rcases hz with rfl | rfl
  ·exact hy
  ·exact hy'
 obtain ⟨⟨o1,o2⟩,i3,i67,i20,i21,i23,i5,ij,i1⟩:=ib
 have inc : x.o≠17→x.o≠25→f.pc+1∈hU x f.pc:=λh1 h2=>aIq ⟨h1,h2⟩
 unfold qP
 simp only
 by_cases h1 : x.o=1
 ·rw [if_pos h1]
  exact go _ _ (inc (by omega) (by omega)) (one _ (aMw (i1 h1))) (by simp [bX,h1])
 rw [if_neg h1]
 by_cases h2 : x.o=2
 ·rw [if_pos h2]
  exact go _ _ (inc (by omega) (by omega)) (one _ aDS) (by simp [bX,h2])
 rw [if_neg h2]
 by_cases h3 : x.o=3
 ·rw [if_pos h3]
  refine go _ _ (inc (by omega) (by omega)) (one _ (aKz ?_)) (by simp [bX,h3])
  have hok:=g.ok
  simp only [eM.okB,Bool.and_eq_true,bG,decide_eq_true_eq,List.all_eq_true] at hok
  have:=i3 h3
  rw [List.getElem?_eq_getElem (by omega)]
  exact hok.2.2.1 _ (List.getElem_mem _)
 rw [if_neg h3]
 by_cases h4 : x.o=4
 ·rw [if_pos h4]
  exact go _ _ (inc (by omega) (by omega)) (one _ nY) (by simp [bX,h4])
 rw [if_neg h4]
 by_cases h5 : x.o=5
 ·rw [if_pos h5]
  exact go _ _ (inc (by omega) (by omega)) (one _ (aPp (i5 (.inl h5)))) (by simp [bX,h5])
 rw [if_neg h5]
 by_cases h6 : x.o=6
 ·rw [if_pos h6]
  exact go _ _ (inc (by omega) (by omega)) (one _ (aMA t.vl _)) (by simp [bX,h6])
 rw [if_neg h6]
 by_cases h7 : x.o=7
 ·rw [if_pos h7]
  exact ⟨rfl,inc (by omega) (by omega),by simp,by rw [hlef];simp only;rw [hlt];simp [bX,h7],aOo t.vl ka _,kt,Nat.le_refl _,h.hp⟩
 rw [if_neg h7]
 by_cases h8 : x.o=8
 ·rw [if_pos h8]
  exact go _ _ (inc (by omega) (by omega)) (two _ _ ka ka) (by simp [bX,h8])
 rw [if_neg h8]
 by_cases h9 : x.o=9
 ·rw [if_pos h9]
  exact go _ _ (inc (by omega) (by omega)) (by simp) (by simp [bX,h9])
 rw [if_neg h9]
 by_cases h10 : x.o=10
 ·rw [if_pos h10]
  exact go _ _ (inc (by omega) (by omega)) (two _ _ kb ka) (by simp [bX,h10])
 rw [if_neg h10]
 by_cases h15 : x.o≤15
 ·rw [if_pos h15]
  have hu : (bX m.funcs x).2=1:=by
   have : x.o=11∨x.o=12∨x.o=13∨x.o=14∨x.o=15:=by omega
   rcases this with h | h | h | h | h<;>simp [bX,h]
  split
  ·trivial
  ·exact go _ _ (inc (by omega) (by omega)) (one _ (aQc ka kb)) (by rw [hu];rfl)
 rw [if_neg h15]
 by_cases h16 : x.o=16
 ·rw [if_pos h16]
  split
  ·trivial
  ·refine go _ _ (inc (by omega) (by omega)) (one _ ?_) (by simp [bX,h16])
   unfold aCV
   split
   ·exact nY
   ·exact aDS
 rw [if_neg h16]
 by_cases h17 : x.o=17
 ·rw [if_pos h17]
  exact go0 _ (aG0 (.inl h17)) (by simp [bX,h17])
 rw [if_neg h17]
 by_cases h19 : x.o≤19
 ·rw [if_pos h19]
  have h89 : x.o=18∨x.o=19:=by omega
  have hu : (bX m.funcs x).2=0:=by rcases h89 with h | h<;>simp [bX,h]
  split
  ·trivial
  split
  ·exact go0 _ (aG0 (.inr h89)) hu
  ·exact go _ _ (inc (by omega) (by omega)) (by simp) (by rw [hu];rfl)
 rw [if_neg h19]
 by_cases h20 : x.o=20
 ·rw [if_pos h20]
  split
  ·trivial
  rename_i hm
  have hm0:=h.hp.made
  have hl : (v.hp++[List.replicate x.a.toNat dL]).length=v.hp.length+1:=by simp
  refine ⟨rfl,inc (by omega) (by omega),rfl,?_,λy hy=>rO (by rw [hl];omega) (t.vl y hy),aJk (λy hy=>rO (by rw [hl];omega) (kt y hy)) (λy hy=>?_),by rw [hl];omega,⟨by rw [hl];omega,λr hr=>?_,h.hp.out⟩⟩
  ·rw [hlef];simp only [List.length_append,List.length_singleton]
   have hu : (bX m.funcs x).2=1:=by simp [bX,h20]
   omega
  ·rw [List.mem_singleton] at hy
   rw [hy]
   exact aPo (by rw [hl];omega)
  ·rcases List.mem_append.1 hr with hr | hr
   ·exact ⟨(h.hp.recs r hr).1,λy hy=>rO (by rw [hl];omega) ((h.hp.recs r hr).2 y hy)⟩
   ·rw [List.mem_singleton] at hr
    rw [hr]
    have:=i20 h20
    refine ⟨by rw [List.length_replicate];omega,λy hy=>?_⟩
    rw [List.eq_of_mem_replicate hy]
    exact nY
 rw [if_neg h20]
 by_cases h21 : x.o=21
 ·rw [if_pos h21]
  split
  ·trivial
  split
  ·trivial
  exact go _ _ (inc (by omega) (by omega)) (one _ (aMA (aJj h.hp _).2 _)) (by simp [bX,h21])
 rw [if_neg h21]
 by_cases h22 : x.o=22
 ·rw [if_pos h22]
  split
  ·trivial
  split
  ·trivial
  have hl : ∀ r,(v.hp.set (D.headD dL).n.toNat r).length=v.hp.length:=λr=>List.length_set
  refine ⟨rfl,inc (by omega) (by omega),rfl,by rw [hlef];simp only;rw [hlt];simp [bX,h22],λy hy=>by rw [kV,hl];exact t.vl y hy,λy hy=>by rw [kV,hl];exact kt y hy,by rw [hl];omega,⟨by rw [hl];exact h.hp.made,λr hr=>?_,h.hp.out⟩⟩
  rw [hl]
  rcases List.mem_or_eq_of_mem_set hr with hr | hr
  ·exact h.hp.recs r hr
  ·rw [hr]
   exact ⟨by rw [List.length_set];exact (aJj h.hp _).1,aOo (aJj h.hp _).2 kb _⟩
 rw [if_neg h22]
 by_cases h23 : x.o=23
 ·rw [if_pos h23]
  have hxa:=i23 h23
  have hu : bX m.funcs x=(x.a+1,1):=by
   have : 0≤x.a∧x.a≤6:=hxa
   simp [bX,h23,this]
  rw [hu] at hld hb
  simp only at hld hb
  split
  ·trivial
  rename_i hk
  have hk : (D.headD dL).k=5:=by omega
  split
  ·trivial
  rename_i hp
  have hp : lI m.funcs (D.headD dL).n=x.a:=by omega
  split
  ·trivial
  rename_i hd
  refine ⟨?_,.inl h23,?_,_,_,rfl,aIn ka hk,by rw [List.length_tail,hp];omega,ktl⟩
  ·omega
  ·rw [← htk,← hb,hu]
 rw [if_neg h23]
 by_cases h24 : x.o=24
 ·rw [if_pos h24]
  have hxa:=i5 (.inr h24)
  have hu : bX m.funcs x=(lI m.funcs x.a,1):=by
   have : 0≤x.a∧x.a<m.funcs.length:=hxa
   simp [bX,h24,this]
  rw [hu] at hld hb
  simp only at hld hb
  split
  ·trivial
  rename_i hd
  refine ⟨?_,.inr h24,?_,_,_,rfl,hxa,hld,kd⟩
  ·omega
  ·rw [← htk,← hb,hu]
 rw [if_neg h24]
 by_cases h25 : x.o=25
 ·rw [if_pos h25]
  exact ka
 rw [if_neg h25]
 have h26 : x.o=26:=by omega
 split
 ·trivial
 rename_i ho
 have:=h.hp.out
 exact ⟨rfl,inc (by omega) (by omega),rfl,by rw [hlef];simp only;rw [hlt];simp [bX,h26],t.vl,kt,Nat.le_refl _,⟨h.hp.made,h.hp.recs,by simp;omega⟩⟩
end
theorem aDT {α : Type} {a b : List α} {x y : α} (h : a++[x]=b++[y]) : a=b∧x=y:=by
 have:=List.append_inj' h rfl
 exact ⟨this.1,by simpa using this.2⟩
theorem aFB.top {m : eM} {n : Int} {f : bV} {a : bY} (h : aFB m n f) (ha : kV m n a) : aHS m n ⟨f.f,f.pc,f.loc,f.stk++[a]⟩:=
 ⟨⟨h.fi,h.pc,h.loc,h.d,h.vl,aJk h.vs (λy hy=>by rw [List.mem_singleton] at hy;rw [hy];exact ha)⟩,by
   have:=h.h
   simp only [List.length_append,List.length_singleton]
   omega⟩
theorem aKD {m : eM} (g : eN m) {n i : Int} {args : List bY} (hi : 0≤i∧i<m.funcs.length) (hn : (args.length : Int)=lI m.funcs i) (ha : ∀ y∈args,kV m n y) : aHS m n (aAp m.funcs i args):=by
 obtain ⟨k,hk,he,hc,F,p1,p2,p3,p4,hlc,hpar,hins⟩:=g.code hi
 have h0 : dAt m i 0=0:=by
  rw [dAt,hc,Int.toNat_zero,aKr F];rfl
 refine ⟨⟨hi,?_,?_,?_,?_,λy hy=>by cases hy⟩,?_⟩
 ·show (0 : Int)≤0∧0<((dB m.funcs i).length : Int)
  have:=F.n1
  rw [hc];omega
 ·show ((args++List.replicate ((aDN m.funcs i).toNat - args.length) dL).length : Int)=aDN m.funcs i
  rw [List.length_append,List.length_replicate]
  omega
 ·show 0≤dAt m i 0
  omega
 ·refine aJk ha (λy hy=>?_)
  rw [List.eq_of_mem_replicate hy]
  exact nY
 ·show ((0 : Nat) : Int)=dAt m i 0
  omega
theorem VmI.step {m : eM} (g : eN m) {v : eB} (h : VmI m v) : VmI m (oT m v):=by
 by_cases h0 : v.st≠0
 ·have : oT m v=v:=by unfold oT;rw [if_pos h0]
  rw [this];exact h
 have h0 : v.st=0:=by omega
 by_cases h5 : v.steps=50000
 ·have : oT m v=v:=by unfold oT;rw [if_neg (by omega),if_pos h5]
  rw [this];exact h
 obtain ⟨fs0,f,G⟩:=h.goes g h0
 obtain ⟨t,low⟩:=h.top fs0 f G.fr
 have hnf:=h.nfr
 rw [G.fr,List.length_append,List.length_singleton] at hnf
 have hst:=h.steps
 rw [aEz h0 h5 G.fr]
 have A:=aOp (fs0:=fs0) g h t rfl hnf
 obtain ⟨a1,a2,a3,a4,a5⟩:=g.at_ t.fi t.pc t.d
 have hh:=t.h
 have hx : sK m f.f f.pc=nH m.funcs f:=rfl
 rw [hx] at a1 a2 a4 a5
 cases ha : aDP m v fs0 f with
 | trap c=>
   exact ⟨h.hp,by show 0≤v.steps+1∧v.steps+1≤50000;omega,h.nfr,λh=>absurd h (by show (2 : Int)≠0;omega),h.top⟩
 | next fr hp made out=>
   rw [ha] at A
   have A : aKC m v f (nH m.funcs f) fr hp made out:=A
   obtain ⟨b1,b2⟩:=a5 _ A.pc
   refine ⟨A.hpI,by show 0≤v.steps+1∧v.steps+1≤50000;omega,by show (fs0++[fr]).length≤24;rw [List.length_append,List.length_singleton];exact hnf,λ_=>by show fs0++[fr]≠[];simp,λfs1 f1 he=>?_⟩
   obtain ⟨rfl,rfl⟩:=aDT (show fs0++[fr]=fs1++[f1] from he)
   refine ⟨⟨⟨by rw [A.ff];exact t.fi,by rw [A.ff];exact b1,by rw [A.ff,A.loc];exact t.loc,by rw [A.ff,b2];have:=A.len;rw [hh] at this;omega,A.vl,A.vs⟩,by rw [A.len,A.ff,b2,hh]⟩,λf hf=>(low f hf).mono (n':=(hp.length : Int)) (by have:=A.n;omega)⟩
 | call fr gg=>
   rw [ha] at A
   have A : aPW m v fs0 f (nH m.funcs f) fr gg:=A
   obtain ⟨i,args,rfl,hi,hn,hv⟩:=A.gg
   have hnx : f.pc+1∈hU (nH m.funcs f) f.pc:=aIq (by have:=A.o;omega)
   obtain ⟨b1,b2⟩:=a5 _ hnx
   have hu2 : (bX m.funcs (nH m.funcs f)).2=1:=by
    have ib:=aEx a1
    rcases A.o with ho | ho
    ·have:=ib.2.2.2.2.2.1 ho
     simp [bX,ho,this]
    ·have:=ib.2.2.2.2.2.2.1 (.inr ho)
     simp [bX,ho,this]
   have hlef : jM m.funcs (nH m.funcs f) (dAt m f.f f.pc)=dAt m f.f f.pc - (bX m.funcs (nH m.funcs f)).1+(bX m.funcs (nH m.funcs f)).2:=rfl
   refine ⟨h.hp,by show 0≤v.steps+1∧v.steps+1≤50000;omega,by show (fs0++[fr,aAp m.funcs i args]).length≤24;rw [List.length_append];have:=A.n;simp only [List.length_cons,List.length_nil];omega,λ_=>by show fs0++[fr,aAp m.funcs i args]≠[];simp,λfs1 f1 he=>?_⟩
   have he : fs0++[fr,aAp m.funcs i args]=fs1++[f1]:=he
   rw [show fs0++[fr,aAp m.funcs i args]=(fs0++[fr])++[aAp m.funcs i args] by simp] at he
   obtain ⟨rfl,rfl⟩:=aDT he
   refine ⟨aKD g hi hn hv,λy hy=>?_⟩
   rcases List.mem_append.1 hy with hy | hy
   ·exact low y hy
   ·rw [List.mem_singleton] at hy
    rw [hy,A.frr]
    refine ⟨⟨t.fi,b1,t.loc,by show 0≤dAt m f.f (f.pc+1);rw [b2];omega,t.vl,λy hy=>t.vs y (List.mem_of_mem_take hy)⟩,?_,?_⟩
    ·show 1≤f.pc+1∧0≤dAt m f.f (f.pc+1 - 1)∧((sK m f.f (f.pc+1 - 1)).o=23∨(sK m f.f (f.pc+1 - 1)).o=24)
     rw [show f.pc+1 - 1=f.pc by omega]
     exact ⟨by have:=t.pc;omega,t.d,A.o⟩
    ·show ((f.stk.take (f.stk.length - (bX m.funcs (nH m.funcs f)).1.toNat)).length : Int)=dAt m f.f (f.pc+1) - 1
     rw [b2,List.length_take]
     omega
 | ret a=>
   rw [ha] at A
   have A : kV m v.hp.length a:=A
   by_cases hf : fs0 = []
   ·have e : aFz m v fs0 (.ret a)=⟨[],v.hp,v.made,v.out,1,v.tr,a,v.steps+1⟩:=if_pos hf
    rw [e]
    exact ⟨h.hp,by show 0≤v.steps+1∧v.steps+1≤50000;omega,by simp,λh=>absurd h (by show (1 : Int)≠0;omega),λfs1 f1 he=>by simp at he⟩
   ·have e : aFz m v fs0 (.ret a)=⟨aFb a fs0,v.hp,v.made,v.out,v.st,v.tr,v.val,v.steps+1⟩:=if_neg hf
    rw [e]
    rcases List.eq_nil_or_concat fs0 with e0 | ⟨fs1,f1,e1⟩
    ·exact absurd e0 hf
    rw [List.concat_eq_append] at e1
    subst e1
    rw [aCW]
    simp only [List.length_append,List.length_singleton] at hnf
    refine ⟨h.hp,by show 0≤v.steps+1∧v.steps+1≤50000;omega,by simp only [List.length_append,List.length_singleton];omega,λ_=>by simp,λfs2 f2 he=>?_⟩
    obtain ⟨rfl,rfl⟩:=aDT he
    exact ⟨(low f1 (by simp)).top A,λy hy=>low y (by simp [hy])⟩
end
noncomputable section
open Go
attribute [local irreducible] bd PV.ite PV.guardFlat PV.guardOwn PV.whole PV.one PV.cell PV.sub PV.at_ PV.len PV.slen PV.chr PV.beq PV.peq PV.ceq PV.bin PV.neg PV.not PV.conv PV.cut PV.scut PV.cat PV.setAt PV.setCell PV.ncopy PV.copyIn PV.zeros PV.toStr PV.toBytes PV.deref PV.isPtr PV.comp PV.inb PV.off PV.imin PV.imax PV.sel PV.apply PV.isLst PV.isInt PV.ix PV.nilT
def aQB (x : PV) : Prop:=∃ o a : Int,x = .agg [.int .i64 o,.int .i64 a]∧(-9223372036854775808≤o∧o≤9223372036854775807)∧(-9223372036854775808≤a∧a≤9223372036854775807)
def Cd (cs : List PV) : Prop:=∀ x∈cs,aQB x
theorem Cd.el {cs : List PV} (h : Cd cs) : ∀ x∈cs,x.isEl 2 true=true:=by
 intro x hx
 obtain ⟨o,a,rfl,_⟩:=h x hx
 rfl
theorem Cd.nil : Cd []:=λx hx=>by cases hx
theorem Cd.append {a b : List PV} (h : Cd a) (k : Cd b) : Cd (a++b):=λx hx=>(List.mem_append.1 hx).elim (h x) (k x)
theorem Cd.one {o a : Int} (h : -9223372036854775808≤o∧o≤9223372036854775807) (k : -9223372036854775808≤a∧a≤9223372036854775807) : Cd [.agg [.int .i64 o,.int .i64 a]]:=by
 intro x hx
 simp only [List.mem_singleton] at hx
 exact ⟨o,a,hx,h,k⟩
section
variable {P : R → Prop} {k : R → Option R}
theorem oF {o x : Int} {F T L M C A S : PV} {cs : List PV} (ho : -9223372036854775808≤o∧o≤9223372036854775807) (hx : -9223372036854775808≤x∧x≤9223372036854775807) (hc : Cd cs) (hl : (cs.length : Int)≤1000000000)
 (h : ∀ cs' : List PV,Cd cs'→(cs'.length : Int)=cs.length+1→Ok P (k [F,T,L,M,C,A,S,.lst cs'])) : Ok P (bd (aJ (.int .i64 o) (.int .i64 x) F T L M C A S (.lst cs)) k):=by
 refine aI (Q:=λr=>r = [F,T,L,M,C,A,S,.lst (cs++[.agg [.int .i64 o,.int .i64 x]])]) ?_ (λr hr=>?_)
 ·rw [aCS]
  refine aV rfl (aV rfl (fF ?_ (Cd.one ho hx).el (aB rfl)))
  simp only [List.length_cons,List.length_nil]
  omega
 ·rw [hr]
  exact h _ (hc.append (Cd.one ho hx)) (by simp)
theorem vC {x : Int} {F T L M C A S D : PV} (hx : 0≤x∧x≤1000000000) (h : Ok P (k [.int .i64 (x+1),F,T,L,M,C,A,S,D])) : Ok P (bd (lS (.int .i64 x) F T L M C A S D) k):=by
 refine aI (Q:=λr=>r = [.int .i64 (x+1),F,T,L,M,C,A,S,D]) ?_ (λr hr=>by rw [hr];exact h)
 rw [aAl]
 refine aL (by omega) (aB rfl)
end
def aLQ : PV→Bool
 | .int .i64 n=>decide (-1000000000≤n)&&decide (n≤1000000000)
 | _=>false
theorem aG1 {x : PV} (h : aLQ x=true) : ∃ n : Int,x = .int .i64 n∧-1000000000≤n∧n≤1000000000:=by
 unfold aLQ at h
 split at h
 ·rename_i n
  simp only [Bool.and_eq_true,decide_eq_true_eq] at h
  exact ⟨n,rfl,h⟩
 ·cases h
theorem pC {P : R→Prop} {k : PV→Option R} {xs : List PV} {i : Int} (hx : xs.all aLQ=true) (h0 : 0≤i) (h1 : i<xs.length) (h : ∀ x : Int,-1000000000≤x∧x≤1000000000→Ok P (k (.int .i64 x))) : Ok P (bd (PV.at_ 1 false (.lst xs) (.int .i64 i)) k):=by
 rw [List.all_eq_true] at hx
 refine tU h0 h1 (λx hm=>?_) (λx hm _=>?_)
 ·obtain ⟨n,rfl,_⟩:=aG1 (hx x hm);rfl
 ·obtain ⟨n,rfl,hn⟩:=aG1 (hx x hm);exact h n hn
theorem eH {P : R→Prop} {k : PV→Option R} {cs : List PV} {m n : Int} (hc : Cd cs) (h0 : 0≤m) (h1 : m≤n) (h2 : n≤cs.length) (h : ∀ cs' : List PV,Cd cs'→(cs'.length : Int)=n - m→Ok P (k (.lst cs'))) :
 Ok P (bd (PV.cut 2 true (.lst cs) (.int .i64 m) (.int .i64 n)) k):=by
 refine aCh h0 h1 h2 hc.el (h _ (λx hx=>hc x (List.mem_of_mem_take (List.mem_of_mem_drop hx))) ?_)
 rw [List.length_drop,List.length_take]
 omega
theorem iF {P : R→Prop} {k : PV→Option R} {cs : List PV} {i n : Int} (hc : Cd cs) (h0 : 0≤i) (h1 : i<cs.length) (hn : -9223372036854775808≤n∧n≤9223372036854775807) (h : ∀ cs' : List PV,Cd cs'→(cs'.length : Int)=cs.length→Ok P (k (.lst cs'))) :
 Ok P (bd (PV.setCell 2 (.lst cs) (.int .i64 i) 1 (.int .i64 n)) k):=by
 have hlt : i.toNat<cs.length:=by omega
 have hx : cs[i.toNat]? = some cs[i.toNat]:=List.getElem?_eq_getElem hlt
 obtain ⟨o,a,he,ho,ha⟩:=hc _ (List.mem_of_getElem? hx)
 rw [he] at hx
 refine fR h0 hx rfl (by omega) rfl (h _ (λx hm=>?_) (by rw [List.length_set]))
 rcases List.mem_or_eq_of_mem_set hm with h | h
 ·exact hc x h
 ·exact ⟨o,n,h,ho,hn⟩
def lU (x : PV) : Prop:=∃ p lc : Int,∃ cs : List PV,x = .agg [.int .i64 p,.int .i64 lc,.lst cs]∧(0≤p∧p≤2)∧(0≤lc∧lc≤100)∧Cd cs∧1≤(cs.length : Int)∧(cs.length : Int)≤100000000
structure Asm (l : List Int) (fs : List PV) (t lc : Int) : Prop where
 hl : Bts l
 hf : ∀ x∈fs,lU x
 hn : fs.length≤1000
 ht : 0≤t∧t≤1000
 hlc : 1≤lc∧lc≤1000
theorem lU.el {fs : List PV} (h : ∀ x∈fs,lU x) : ∀ x∈fs,x.isEl 3 true=true:=by
 intro x hx
 obtain ⟨p,lc,cs,rfl,_⟩:=h x hx
 rfl
def aQC (l : List Int) (fs : List PV) (t lc : Int) (mn : PV) (A B0 B : Int) (r : R) : Prop:=∃ a s : Int,∃ cs : List PV,r = [.lst fs,.int .i64 t,.int .i64 lc,mn,bH l,.int .i64 a,.int .i64 s,.lst cs]∧0≤a∧a≤A∧0≤s∧s<65521∧B0≤cs.length∧(cs.length : Int)≤B∧Cd cs
def oB (l : List Int) (fs : List PV) (t lc : Int) (mn : PV) (c : Int) (f : PV→PV→PV→PV→PV→PV→PV→PV→Option R) : Prop:=
 ∀ (a s : Int) (cs : List PV),0≤a∧a+c≤1000000000∧0≤s∧s<65521→(cs.length : Int)+c≤1000000000→Cd cs→
   Ok (aQC l fs t lc mn (a+c) cs.length (cs.length+c)) (f (.lst fs) (.int .i64 t) (.int .i64 lc) mn (bH l) (.int .i64 a) (.int .i64 s) (.lst cs))
section
variable {P : R → Prop} {k : R → Option R} {l : List Int} {fs : List PV} {t lc : Int} {mn : PV}
theorem kL {c : Int} {f : PV→PV→PV→PV→PV→PV→PV→PV→Option R} (H : oB l fs t lc mn c f) {a s : Int} {cs : List PV} (h0 : 0≤a∧a+c≤1000000000∧0≤s∧s<65521) (hl : (cs.length : Int)+c≤1000000000) (hc : Cd cs)
 (h : ∀ (a' s' : Int) (cs' : List PV),0≤a'∧a'≤a+c∧0≤s'∧s'<65521∧(cs.length : Int)≤cs'.length∧(cs'.length : Int)≤cs.length+c→Cd cs'→
  Ok P (k [.lst fs,.int .i64 t,.int .i64 lc,mn,bH l,.int .i64 a',.int .i64 s',.lst cs'])) :
 Ok P (bd (f (.lst fs) (.int .i64 t) (.int .i64 lc) mn (bH l) (.int .i64 a) (.int .i64 s) (.lst cs)) k):=
 aI (H a s cs h0 hl hc) (λr ⟨a',s',cs',hr,h1,h2,h3,h4,h5,h6,h7⟩=>by rw [hr];exact h a' s' cs' ⟨h1,h2,h3,h4,h5,h6⟩ h7)
theorem oB.mono {c c' : Int} {f : PV→PV→PV→PV→PV→PV→PV→PV→Option R} (H : oB l fs t lc mn c f) (hc : 0≤c∧c≤c') : oB l fs t lc mn c' f:=by
 intro a s cs h0 hl hcs
 refine (H a s cs (by omega) (by omega) hcs).mono ?_
 rintro r ⟨a',s',cs',hr,h1,h2,h3,h4,h5,h6,h7⟩
 exact ⟨a',s',cs',hr,h1,by omega,h3,h4,h5,by omega,h7⟩
theorem aKE (H : Asm l fs t lc) : oB l fs t lc mn 3 (λF T L M C A S D=>gS F T L M C A S D):=by
 intro a s cs h0 hl hc
 obtain ⟨hb,hfs,hfl,ht,hlc⟩:=H
 show Ok _ (gS _ _ _ _ _ _ _ _)
 rw [yA]
 repeat' (first | refine oF (by omega) (by omega) (by assumption) (by omega) (λ_ _ _=>?_) | refine bJ hb (by omega) (by omega) (λ_ _ _ _=>?_) | refine kU hb (by omega) (by omega) (λ_ _ _ _=>?_) | refine dC (by omega) (by first | omega | (simp;omega)) ?_ | refine pC rfl (by omega) (by first | omega | (simp;omega)) (λ_ _=>?_) | refine iF (by assumption) (by omega) (by omega) (by omega) (λ_ _ _=>?_) | refine vC (by omega) ?_ | refine eH (by assumption) (by omega) (by omega) (by omega) (λ_ _ _=>?_) | refine aH ?_ | refine eO ?_ | refine cK ?_ | refine eZ ?_ | refine aG ?_ | refine bQ ?_ | (refine aC (λ_=>?_) (λ_=>?_)) | (refine aO (λ_=>?_) (λ_=>?_)) | refine aQ (λ_=>?_) (λ_=>?_) | refine aL (by omega) ?_ | refine bE (by omega) ?_ | refine iW (by omega) (by omega) ?_ | refine kY (by omega) (by omega) (by omega) ?_ | refine kX (by omega) ?_ | refine jN (by omega) ?_ | refine cC ?_ | refine dI ?_ | refine eR ?_ | refine bC ?_ | refine kG (by omega) ?_ | refine aV rfl ?_ | refine aA rfl ?_ | refine bF rfl ?_ | refine aD rfl ?_ | exact aB ⟨_,_,_,rfl,by omega,by omega,by omega,by omega,by omega,by omega,by assumption⟩)
theorem nZ {c : Int} {f : PV→PV→PV→PV→PV→PV→PV→PV→Option R} (H : oB l fs t lc mn c f) {a s A B0 B : Int} {cs : List PV} (h0 : 0≤a∧a+c≤1000000000∧0≤s∧s<65521) (hl : (cs.length : Int)+c≤1000000000) (hc : Cd cs)
 (hA : a+c≤A) (hB0 : B0≤cs.length) (hB : cs.length+c≤B) :
 Ok (aQC l fs t lc mn A B0 B) (f (.lst fs) (.int .i64 t) (.int .i64 lc) mn (bH l) (.int .i64 a) (.int .i64 s) (.lst cs)):=by
 refine (H a s cs h0 hl hc).mono ?_
 rintro r ⟨a',s',cs',hr,h1,h2,h3,h4,h5,h6,h7⟩
 exact ⟨a',s',cs',hr,h1,by omega,h3,h4,by omega,by omega,h7⟩
def aKF (l : List Int) (fs : List PV) (t lc : Int) (mn : PV) (n c : Int) : Prop:=∀ d : Int,-1000≤d→d≤n→oB l fs t lc mn c (λF T L M C A S D=>aP (.int .i64 d) F T L M C A S D)
theorem aMB (H : Asm l fs t lc) : aKF l fs t lc mn 0 3:=by
 intro d hd1 hd2 a s cs h0 hl hc
 show Ok _ (aP _ _ _ _ _ _ _ _ _)
 rw [sG]
 refine eO (aC (λ_=>?_) (λh=>absurd hd2 h))
 exact aKE H a s cs h0 hl hc
section
variable {n c : Int} (V : aKF l fs t lc mn n c) (H : Asm l fs t lc) (hc0 : 0 ≤ c ∧ c ≤ 2097152 ∧ 0 ≤ n ∧ n ≤ 100)
include V H hc0
theorem wK (m : Int) (hm : 1≤m∧m≤3) (K : Int) (hK : 4≤K∧K≤1000000000) (j : Int) (hj : 0≤j∧j≤10) (ih : ∀ d i : Int,-500≤d→d≤n+1→0≤i→i<j→oB l fs t lc mn K (λF T L M C A S D=>eY (.int .i64 d) (.int .i64 m) (.int .i64 i) F T L M C A S D)) :
 ∀ d i : Int,-500≤d→d≤n+1→0≤i→i≤j→oB l fs t lc mn (K+c+4) (λF T L M C A S D=>eY (.int .i64 d) (.int .i64 m) (.int .i64 i) F T L M C A S D):=by
 intro d i hd1 hd2 hi1 hi2 a s cs h0 hl hc
 obtain ⟨hb,hfs,hfl,ht,hlc⟩:=H
 show Ok _ (eY _ _ _ _ _ _ _ _ _ _ _)
 rw [xJ]
 refine cK (aC (λ_=>?_) (λ_=>?_))
 ·refine oF (by omega) (by omega) (by assumption) (by omega) (λ_ _ _=>?_)
  refine bE (by omega) ?_
  refine kL (V _ (by omega) (by omega)) (by omega) (by omega) (by assumption) (λ_ _ _ _ _=>?_)
  refine bJ hb (by omega) (by omega) (λ_ _ _ _=>?_)
  refine oF (by omega) (by omega) (by assumption) (by omega) (λ_ _ _=>?_)
  refine bE (by omega) ?_
  exact nZ (ih d _ hd1 hd2 (by omega) (by omega)) (by omega) (by omega) (by assumption) (by omega) (by omega) (by omega)
 ·repeat' (first | refine oF (by omega) (by omega) (by assumption) (by omega) (λ_ _ _=>?_) | refine bJ hb (by omega) (by omega) (λ_ _ _ _=>?_) | refine kU hb (by omega) (by omega) (λ_ _ _ _=>?_) | refine dC (by omega) (by first | omega | (simp;omega)) ?_ | refine pC rfl (by omega) (by first | omega | (simp;omega)) (λ_ _=>?_) | refine iF (by assumption) (by omega) (by omega) (by omega) (λ_ _ _=>?_) | refine vC (by omega) ?_ | refine eH (by assumption) (by omega) (by omega) (by omega) (λ_ _ _=>?_) | refine aH ?_ | refine eO ?_ | refine cK ?_ | refine eZ ?_ | refine aG ?_ | refine bQ ?_ | (refine aC (λ_=>?_) (λ_=>?_)) | (refine aO (λ_=>?_) (λ_=>?_)) | refine aQ (λ_=>?_) (λ_=>?_) | refine aL (by omega) ?_ | refine bE (by omega) ?_ | refine iW (by omega) (by omega) ?_ | refine kY (by omega) (by omega) (by omega) ?_ | refine kX (by omega) ?_ | refine jN (by omega) ?_ | refine cC ?_ | refine dI ?_ | refine eR ?_ | refine bC ?_ | refine kG (by omega) ?_ | refine aV rfl ?_ | refine aA rfl ?_ | refine bF rfl ?_ | refine aD rfl ?_ | exact aB ⟨_,_,_,rfl,by omega,by omega,by omega,by omega,by omega,by omega,by assumption⟩)
theorem aNz : ∀ d : Int,-500≤d→d≤n+1→oB l fs t lc mn (4*c+40) (λF T L M C A S D=>jF (.int .i64 d) F T L M C A S D):=by
 intro d hd1 hd2 a s cs h0 hl hc
 have H':=H
 obtain ⟨hb,hfs,hfl,ht,hlc⟩:=H
 show Ok _ (jF _ _ _ _ _ _ _ _ _)
 rw [aAk]
 refine bJ hb (by omega) (by omega) (λv _ _ _=>?_)
 refine aL (by omega) ?_
 refine oF (by omega) (by omega) (by assumption) (by omega) (λ_ _ _=>?_)
 refine aL (by omega) ?_
 refine bJ hb (by omega) (by omega) (λw _ _ _=>?_)
 have L0:=wK V H' hc0 (1+v) (by omega) 4 (by omega) 0 (by omega) (λd i _ _ h1 h2=>by omega)
 have L1:=wK V H' hc0 (1+v) (by omega) (4+c+4) (by omega) 1 (by omega) (λd i g1 g2 h1 h2=>L0 d i g1 g2 h1 (by omega))
 have L2:=wK V H' hc0 (1+v) (by omega) (4+c+4+c+4) (by omega) 2 (by omega) (λd i g1 g2 h1 h2=>L1 d i g1 g2 h1 (by omega))
 have L3:=wK V H' hc0 (1+v) (by omega) (4+c+4+c+4+c+4) (by omega) 3 (by omega) (λd i g1 g2 h1 h2=>L2 d i g1 g2 h1 (by omega))
 exact nZ (L3 d w hd1 hd2 (by omega) (by omega)) (by omega) (by omega) (by assumption) (by omega) (by omega) (by omega)
def Par (fs : List PV) (i p : Int) : Prop:=0≤i∧i<fs.length∧(0≤p∧p≤2)∧∃ q r : PV,fs[i.toNat]? = some (.agg [.int .i64 p,q,r])
omit V H hc0 in
theorem aJl (H : Asm l fs t lc) {P : R→Prop} {k : PV→Option R} {i p : Int} (hp : Par fs i p) (h : ∀ q r : PV,Ok P (k (.agg [.int .i64 p,q,r]))) : Ok P (bd (PV.at_ 3 true (.lst fs) (.int .i64 i)) k):=by
 obtain ⟨h0,h1,_,q,r,hq⟩:=hp
 refine tU h0 h1 (lU.el H.hf) (λx _ hx=>?_)
 rw [hq] at hx
 cases hx
 exact h q r
omit V H hc0 in
theorem aOq (H : Asm l fs t lc) {i : Int} (h0 : 0≤i) (h1 : i<fs.length) : ∃ p,Par fs i p:=by
 have hlt : i.toNat<fs.length:=by omega
 have hx : fs[i.toNat]? = some fs[i.toNat]:=List.getElem?_eq_getElem hlt
 obtain ⟨p,lc,cs,he,hp,_⟩:=H.hf _ (List.mem_of_getElem? hx)
 exact ⟨p,h0,h1,hp,.int .i64 lc,.lst cs,by rw [hx,he]⟩
theorem aBj (f p : Int) (hp : Par fs f p) (K : Int) (hK : 1≤K∧K≤100000000) (j : Int) (ih : ∀ d i : Int,-500≤d→d≤n+1→0≤i→i≤p→p - i<j→oB l fs t lc mn K (λF T L M C A S D=>dH (.int .i64 d) (.int .i64 f) (.int .i64 i) F T L M C A S D)) :
 ∀ d i : Int,-500≤d→d≤n+1→0≤i→i≤p→p - i≤j→oB l fs t lc mn (K+c) (λF T L M C A S D=>dH (.int .i64 d) (.int .i64 f) (.int .i64 i) F T L M C A S D):=by
 intro d i hd1 hd2 hi1 hi2 hi3 a s cs h0 hl hc
 have H':=H
 obtain ⟨hb,hfs,hfl,ht,hlc⟩:=H
 have hp':=hp.2.2.1
 have hf1:=hp.1
 have hf2:=hp.2.1
 show Ok _ (dH _ _ _ _ _ _ _ _ _ _ _)
 rw [xG]
 refine aJl H' hp (λq r=>aA rfl (aH (aC (λ_=>?_) (λ_=>?_))))
 ·refine bE (by omega) ?_
  refine kL (V _ (by omega) (by omega)) (by omega) (by omega) (by assumption) (λ_ _ _ _ _=>?_)
  refine aL (by omega) ?_
  exact nZ (ih d _ hd1 hd2 (by omega) (by omega) (by omega)) (by omega) (by omega) (by assumption) (by omega) (by omega) (by omega)
 ·repeat' (first | refine oF (by omega) (by omega) (by assumption) (by omega) (λ_ _ _=>?_) | refine bJ hb (by omega) (by omega) (λ_ _ _ _=>?_) | refine kU hb (by omega) (by omega) (λ_ _ _ _=>?_) | refine dC (by omega) (by first | omega | (simp;omega)) ?_ | refine pC rfl (by omega) (by first | omega | (simp;omega)) (λ_ _=>?_) | refine iF (by assumption) (by omega) (by omega) (by omega) (λ_ _ _=>?_) | refine vC (by omega) ?_ | refine eH (by assumption) (by omega) (by omega) (by omega) (λ_ _ _=>?_) | refine aH ?_ | refine eO ?_ | refine cK ?_ | refine eZ ?_ | refine aG ?_ | refine bQ ?_ | (refine aC (λ_=>?_) (λ_=>?_)) | (refine aO (λ_=>?_) (λ_=>?_)) | refine aQ (λ_=>?_) (λ_=>?_) | refine aL (by omega) ?_ | refine bE (by omega) ?_ | refine iW (by omega) (by omega) ?_ | refine kY (by omega) (by omega) (by omega) ?_ | refine kX (by omega) ?_ | refine jN (by omega) ?_ | refine cC ?_ | refine dI ?_ | refine eR ?_ | refine bC ?_ | refine kG (by omega) ?_ | refine aV rfl ?_ | refine aA rfl ?_ | refine bF rfl ?_ | refine aD rfl ?_ | exact aB ⟨_,_,_,rfl,by omega,by omega,by omega,by omega,by omega,by omega,by assumption⟩)
theorem aNA (f : Int) (hf : 0≤f∧f<fs.length) : ∀ d : Int,-500≤d→d≤n+1→oB l fs t lc mn (3*c+10) (λF T L M C A S D=>dH (.int .i64 d) (.int .i64 f) (.int .i64 0) F T L M C A S D):=by
 intro d hd1 hd2
 obtain ⟨p,hp⟩:=aOq H hf.1 hf.2
 have hp':=hp.2.2.1
 have L0:=aBj V H hc0 f p hp 1 (by omega) 0 (λd i _ _ h1 h2 h3=>by omega)
 have L1:=aBj V H hc0 f p hp (1+c) (by omega) 1 (λd i g1 g2 h1 h2 h3=>L0 d i g1 g2 h1 h2 (by omega))
 have L2:=aBj V H hc0 f p hp (1+c+c) (by omega) 2 (λd i g1 g2 h1 h2 h3=>L1 d i g1 g2 h1 h2 (by omega))
 exact (L2 d 0 hd1 hd2 (by omega) (by omega) (by omega)).mono (by omega)
theorem aED (f p : Int) (hp : Par fs f p) (K : Int) (hK : 1≤K∧K≤100000000) (j : Int) (ih : ∀ d i : Int,-500≤d→d≤n+1→0≤i→i≤p→p - i<j→oB l fs t lc mn K (λF T L M C A S D=>eX (.int .i64 d) (.int .i64 f) (.int .i64 i) F T L M C A S D)) :
 ∀ d i : Int,-500≤d→d≤n+1→0≤i→i≤p→p - i≤j→oB l fs t lc mn (K+c) (λF T L M C A S D=>eX (.int .i64 d) (.int .i64 f) (.int .i64 i) F T L M C A S D):=by
 intro d i hd1 hd2 hi1 hi2 hi3 a s cs h0 hl hc
 have H':=H
 obtain ⟨hb,hfs,hfl,ht,hlc⟩:=H
 have hp':=hp.2.2.1
 have hf1:=hp.1
 have hf2:=hp.2.1
 show Ok _ (eX _ _ _ _ _ _ _ _ _ _ _)
 rw [xI]
 refine aJl H' hp (λq r=>aA rfl (aH (aC (λ_=>?_) (λ_=>?_))))
 ·refine bE (by omega) ?_
  refine kL (V _ (by omega) (by omega)) (by omega) (by omega) (by assumption) (λ_ _ _ _ _=>?_)
  refine aL (by omega) ?_
  exact nZ (ih d _ hd1 hd2 (by omega) (by omega) (by omega)) (by omega) (by omega) (by assumption) (by omega) (by omega) (by omega)
 ·refine aJl H' hp (λq r=>aA rfl ?_)
  repeat' (first | refine oF (by omega) (by omega) (by assumption) (by omega) (λ_ _ _=>?_) | refine bJ hb (by omega) (by omega) (λ_ _ _ _=>?_) | refine kU hb (by omega) (by omega) (λ_ _ _ _=>?_) | refine dC (by omega) (by first | omega | (simp;omega)) ?_ | refine pC rfl (by omega) (by first | omega | (simp;omega)) (λ_ _=>?_) | refine iF (by assumption) (by omega) (by omega) (by omega) (λ_ _ _=>?_) | refine vC (by omega) ?_ | refine eH (by assumption) (by omega) (by omega) (by omega) (λ_ _ _=>?_) | refine aH ?_ | refine eO ?_ | refine cK ?_ | refine eZ ?_ | refine aG ?_ | refine bQ ?_ | (refine aC (λ_=>?_) (λ_=>?_)) | (refine aO (λ_=>?_) (λ_=>?_)) | refine aQ (λ_=>?_) (λ_=>?_) | refine aL (by omega) ?_ | refine bE (by omega) ?_ | refine iW (by omega) (by omega) ?_ | refine kY (by omega) (by omega) (by omega) ?_ | refine kX (by omega) ?_ | refine jN (by omega) ?_ | refine cC ?_ | refine dI ?_ | refine eR ?_ | refine bC ?_ | refine kG (by omega) ?_ | refine aV rfl ?_ | refine aA rfl ?_ | refine bF rfl ?_ | refine aD rfl ?_ | exact aB ⟨_,_,_,rfl,by omega,by omega,by omega,by omega,by omega,by omega,by assumption⟩)
theorem aPt (f : Int) (hf : 0≤f∧f<fs.length) : ∀ d : Int,-500≤d→d≤n+1→oB l fs t lc mn (3*c+10) (λF T L M C A S D=>gF (.int .i64 d) (.int .i64 f) F T L M C A S D):=by
 intro d hd1 hd2 a s cs h0 hl hc
 obtain ⟨p,hp⟩:=aOq H hf.1 hf.2
 have hp':=hp.2.2.1
 have L0:=aED V H hc0 f p hp 1 (by omega) 0 (λd i _ _ h1 h2 h3=>by omega)
 have L1:=aED V H hc0 f p hp (1+c) (by omega) 1 (λd i g1 g2 h1 h2 h3=>L0 d i g1 g2 h1 h2 (by omega))
 have L2:=aED V H hc0 f p hp (1+c+c) (by omega) 2 (λd i g1 g2 h1 h2 h3=>L1 d i g1 g2 h1 h2 (by omega))
 show Ok _ (gF _ _ _ _ _ _ _ _ _ _)
 rw [xH]
 exact nZ (L2 d 0 hd1 hd2 (by omega) (by omega) (by omega)) (by omega) (by omega) (by assumption) (by omega) (by omega) (by omega)
set_option maxRecDepth 100000 in
set_option maxHeartbeats 4000000 in
theorem aG2 : aKF l fs t lc mn (n+1) (4*c+50):=by
 intro d hd1 hd2 a s cs h0 hl hc
 have RO:=aNz V H hc0
 have IK:=aNA V H hc0
 have CO:=aPt V H hc0
 have C2:=aKE (mn:=mn) H
 obtain ⟨hb,hfs,hfl,ht,hlc⟩:=H
 show Ok _ (aP _ _ _ _ _ _ _ _ _)
 rw [sG]
 repeat' (first | refine kL (V _ (by omega) (by omega)) (by omega) (by omega) (by assumption) (λ_ _ _ _ _=>?_) | refine kL (RO _ (by omega) (by omega)) (by omega) (by omega) (by assumption) (λ_ _ _ _ _=>?_) | exact nZ C2 (by omega) (by omega) (by assumption) (by omega) (by omega) (by omega) | exact nZ (IK _ (by omega) _ (by omega) (by omega)) (by omega) (by omega) (by assumption) (by omega) (by omega) (by omega) | exact nZ (CO _ (by omega) _ (by omega) (by omega)) (by omega) (by omega) (by assumption) (by omega) (by omega) (by omega) | refine oF (by omega) (by omega) (by assumption) (by omega) (λ_ _ _=>?_) | refine bJ hb (by omega) (by omega) (λ_ _ _ _=>?_) | refine kU hb (by omega) (by omega) (λ_ _ _ _=>?_) | refine dC (by omega) (by first | omega | (simp;omega)) ?_ | refine pC rfl (by omega) (by first | omega | (simp;omega)) (λ_ _=>?_) | refine iF (by assumption) (by omega) (by omega) (by omega) (λ_ _ _=>?_) | refine vC (by omega) ?_ | refine eH (by assumption) (by omega) (by omega) (by omega) (λ_ _ _=>?_) | refine aH ?_ | refine eO ?_ | refine cK ?_ | refine eZ ?_ | refine aG ?_ | refine bQ ?_ | (refine aC (λ_=>?_) (λ_=>?_)) | (refine aO (λ_=>?_) (λ_=>?_)) | refine aQ (λ_=>?_) (λ_=>?_) | refine aL (by omega) ?_ | refine bE (by omega) ?_ | refine iW (by omega) (by omega) ?_ | refine kY (by omega) (by omega) (by omega) ?_ | refine kX (by omega) ?_ | refine jN (by omega) ?_ | refine cC ?_ | refine dI ?_ | refine eR ?_ | refine bC ?_ | refine kG (by omega) ?_ | refine aV rfl ?_ | refine aA rfl ?_ | refine bF rfl ?_ | refine aD rfl ?_ | exact aB ⟨_,_,_,rfl,by omega,by omega,by omega,by omega,by omega,by omega,by assumption⟩)
end
end
section
variable {l : List Int} {fs : List PV} {t lc : Int} {mn : PV}
theorem aDU (H : Asm l fs t lc) : aKF l fs t lc mn 1 62:=aG2 (aMB H) H (by omega)
theorem aJm (H : Asm l fs t lc) : aKF l fs t lc mn 2 298:=aG2 (aDU H) H (by omega)
theorem aPu (H : Asm l fs t lc) : oB l fs t lc mn 100 (λF T L M C A S D=>nT F T L M C A S D):=by
 intro a s cs h0 hl hc
 have V1:=aDU (mn:=mn) H
 have V0:=aMB (mn:=mn) H
 obtain ⟨hb,hfs,hfl,ht,hlc⟩:=H
 show Ok _ (nT _ _ _ _ _ _ _ _)
 rw [aBY]
 refine kL (V1 _ (by omega) (by omega)) (by omega) (by omega) (by assumption) (λ_ _ _ _ _=>?_)
 refine kL (V0 _ (by omega) (by omega)) (by omega) (by omega) (by assumption) (λ_ _ _ _ _=>?_)
 repeat' (first | refine oF (by omega) (by omega) (by assumption) (by omega) (λ_ _ _=>?_) | refine bJ hb (by omega) (by omega) (λ_ _ _ _=>?_) | refine kU hb (by omega) (by omega) (λ_ _ _ _=>?_) | refine dC (by omega) (by first | omega | (simp;omega)) ?_ | refine pC rfl (by omega) (by first | omega | (simp;omega)) (λ_ _=>?_) | refine iF (by assumption) (by omega) (by omega) (by omega) (λ_ _ _=>?_) | refine vC (by omega) ?_ | refine eH (by assumption) (by omega) (by omega) (by omega) (λ_ _ _=>?_) | refine aH ?_ | refine eO ?_ | refine cK ?_ | refine eZ ?_ | refine aG ?_ | refine bQ ?_ | (refine aC (λ_=>?_) (λ_=>?_)) | (refine aO (λ_=>?_) (λ_=>?_)) | refine aQ (λ_=>?_) (λ_=>?_) | refine aL (by omega) ?_ | refine bE (by omega) ?_ | refine iW (by omega) (by omega) ?_ | refine kY (by omega) (by omega) (by omega) ?_ | refine kX (by omega) ?_ | refine jN (by omega) ?_ | refine cC ?_ | refine dI ?_ | refine eR ?_ | refine bC ?_ | refine kG (by omega) ?_ | refine aV rfl ?_ | refine aA rfl ?_ | refine bF rfl ?_ | refine aD rfl ?_ | exact aB ⟨_,_,_,rfl,by omega,by omega,by omega,by omega,by omega,by omega,by assumption⟩)
def aLS (l : List Int) (fs : List PV) (t lc : Int) (mn : PV) (n c : Int) : Prop:=∀ d : Int,-100≤d→d≤n→oB l fs t lc mn c (λF T L M C A S D=>lG (.int .i64 d) F T L M C A S D)
def aJn (l : List Int) (fs : List PV) (t lc : Int) (mn : PV) (n q c : Int) : Prop:=∀ d : Int,-100≤d→d≤n→oB l fs t lc mn c (λF T L M C A S D=>gN (.int .i64 d) (.int .i64 q) F T L M C A S D)
set_option maxRecDepth 100000 in
set_option maxHeartbeats 4000000 in
theorem aQd (H : Asm l fs t lc) : aLS l fs t lc mn 0 500:=by
 intro d hd1 hd2 a s cs h0 hl hc
 have V1:=aDU (mn:=mn) H
 have V2:=aJm (mn:=mn) H
 obtain ⟨hb,hfs,hfl,ht,hlc⟩:=H
 show Ok _ (lG _ _ _ _ _ _ _ _ _)
 rw [tC]
 repeat' (first | (exfalso;omega) | (first | refine kL (V1 _ (by omega) (by omega)) (by omega) (by omega) (by assumption) (λ_ _ _ _ _=>?_) | refine kL (V2 _ (by omega) (by omega)) (by omega) (by omega) (by assumption) (λ_ _ _ _ _=>?_) | refine kL TE (by omega) (by omega) (by assumption) (λ_ _ _ _ _=>?_) | refine kL (L _ (by omega) (by omega)) (by omega) (by omega) (by assumption) (λ_ _ _ _ _=>?_) | exact nZ (C7 _ _ (by omega) (by omega) (by omega)) (by omega) (by omega) (by assumption) (by omega) (by omega) (by omega) | refine oF (by omega) (by omega) (by assumption) (by omega) (λ_ _ _=>?_) | refine bJ hb (by omega) (by omega) (λ_ _ _ _=>?_) | refine kU hb (by omega) (by omega) (λ_ _ _ _=>?_) | refine dC (by omega) (by first | omega | (simp;omega)) ?_ | refine pC rfl (by omega) (by first | omega | (simp;omega)) (λ_ _=>?_) | refine iF (by assumption) (by omega) (by omega) (by omega) (λ_ _ _=>?_) | refine vC (by omega) ?_ | refine eH (by assumption) (by omega) (by omega) (by omega) (λ_ _ _=>?_) | refine aH ?_ | refine eO ?_ | refine cK ?_ | refine eZ ?_ | refine aG ?_ | refine bQ ?_ | (refine aC (λ_=>?_) (λ_=>?_)) | (refine aO (λ_=>?_) (λ_=>?_)) | refine aQ (λ_=>?_) (λ_=>?_) | refine aL (by omega) ?_ | refine bE (by omega) ?_ | refine iW (by omega) (by omega) ?_ | refine kY (by omega) (by omega) (by omega) ?_ | refine kX (by omega) ?_ | refine jN (by omega) ?_ | refine cC ?_ | refine dI ?_ | refine eR ?_ | refine bC ?_ | refine kG (by omega) ?_ | refine aV rfl ?_ | refine aA rfl ?_ | refine bF rfl ?_ | refine aD rfl ?_ | exact aB ⟨_,_,_,rfl,by omega,by omega,by omega,by omega,by omega,by omega,by assumption⟩))
section
variable {n c : Int} (L : aJn l fs t lc mn n 2 c) (H : Asm l fs t lc) (hc0 : 0 ≤ c ∧ c ≤ 100000 ∧ 0 ≤ n ∧ n ≤ 50)
include L H hc0
set_option maxRecDepth 100000 in
set_option maxHeartbeats 4000000 in
theorem aPv : ∀ d x : Int,1≤d→d≤n+1→0≤x∧x≤1000→oB l fs t lc mn (c+100) (λF T L M C A S D=>iL (.int .i64 d) (.int .i64 x) F T L M C A S D):=by
 intro d x hd1 hd2 hx a s cs h0 hl hc
 obtain ⟨hb,hfs,hfl,ht,hlc⟩:=H
 show Ok _ (iL _ _ _ _ _ _ _ _ _ _)
 rw [zD]
 repeat' (first | refine kL (L _ (by omega) (by omega)) (by omega) (by omega) (by assumption) (λ_ _ _ _ _=>?_) | (first | refine oF (by omega) (by omega) (by assumption) (by omega) (λ_ _ _=>?_) | refine bJ hb (by omega) (by omega) (λ_ _ _ _=>?_) | refine kU hb (by omega) (by omega) (λ_ _ _ _=>?_) | refine dC (by omega) (by first | omega | (simp;omega)) ?_ | refine pC rfl (by omega) (by first | omega | (simp;omega)) (λ_ _=>?_) | refine iF (by assumption) (by omega) (by omega) (by omega) (λ_ _ _=>?_) | refine vC (by omega) ?_ | refine eH (by assumption) (by omega) (by omega) (by omega) (λ_ _ _=>?_) | refine aH ?_ | refine eO ?_ | refine cK ?_ | refine eZ ?_ | refine aG ?_ | refine bQ ?_ | (refine aC (λ_=>?_) (λ_=>?_)) | (refine aO (λ_=>?_) (λ_=>?_)) | refine aQ (λ_=>?_) (λ_=>?_) | refine aL (by omega) ?_ | refine bE (by omega) ?_ | refine iW (by omega) (by omega) ?_ | refine kY (by omega) (by omega) (by omega) ?_ | refine kX (by omega) ?_ | refine jN (by omega) ?_ | refine cC ?_ | refine dI ?_ | refine eR ?_ | refine bC ?_ | refine kG (by omega) ?_ | refine aV rfl ?_ | refine aA rfl ?_ | refine bF rfl ?_ | refine aD rfl ?_ | exact aB ⟨_,_,_,rfl,by omega,by omega,by omega,by omega,by omega,by omega,by assumption⟩))
set_option maxRecDepth 100000 in
set_option maxHeartbeats 4000000 in
theorem aIr : aLS l fs t lc mn (n+1) (c+600):=by
 intro d hd1 hd2 a s cs h0 hl hc
 have V1:=aDU (mn:=mn) H
 have V2:=aJm (mn:=mn) H
 have TE:=aPu (mn:=mn) H
 have C7:=aPv L H hc0
 obtain ⟨hb,hfs,hfl,ht,hlc⟩:=H
 show Ok _ (lG _ _ _ _ _ _ _ _ _)
 rw [tC]
 repeat' (first | refine kL (V1 _ (by omega) (by omega)) (by omega) (by omega) (by assumption) (λ_ _ _ _ _=>?_) | refine kL (V2 _ (by omega) (by omega)) (by omega) (by omega) (by assumption) (λ_ _ _ _ _=>?_) | refine kL TE (by omega) (by omega) (by assumption) (λ_ _ _ _ _=>?_) | refine kL (L _ (by omega) (by omega)) (by omega) (by omega) (by assumption) (λ_ _ _ _ _=>?_) | exact nZ (C7 _ _ (by omega) (by omega) (by omega)) (by omega) (by omega) (by assumption) (by omega) (by omega) (by omega) | refine oF (by omega) (by omega) (by assumption) (by omega) (λ_ _ _=>?_) | refine bJ hb (by omega) (by omega) (λ_ _ _ _=>?_) | refine kU hb (by omega) (by omega) (λ_ _ _ _=>?_) | refine dC (by omega) (by first | omega | (simp;omega)) ?_ | refine pC rfl (by omega) (by first | omega | (simp;omega)) (λ_ _=>?_) | refine iF (by assumption) (by omega) (by omega) (by omega) (λ_ _ _=>?_) | refine vC (by omega) ?_ | refine eH (by assumption) (by omega) (by omega) (by omega) (λ_ _ _=>?_) | refine aH ?_ | refine eO ?_ | refine cK ?_ | refine eZ ?_ | refine aG ?_ | refine bQ ?_ | (refine aC (λ_=>?_) (λ_=>?_)) | (refine aO (λ_=>?_) (λ_=>?_)) | refine aQ (λ_=>?_) (λ_=>?_) | refine aL (by omega) ?_ | refine bE (by omega) ?_ | refine iW (by omega) (by omega) ?_ | refine kY (by omega) (by omega) (by omega) ?_ | refine kX (by omega) ?_ | refine jN (by omega) ?_ | refine cC ?_ | refine dI ?_ | refine eR ?_ | refine bC ?_ | refine kG (by omega) ?_ | refine aV rfl ?_ | refine aA rfl ?_ | refine bF rfl ?_ | refine aD rfl ?_ | exact aB ⟨_,_,_,rfl,by omega,by omega,by omega,by omega,by omega,by omega,by assumption⟩)
end
section
variable {n c : Int} (S : aLS l fs t lc mn n c) (H : Asm l fs t lc) (hc0 : 0 ≤ c ∧ c ≤ 100000 ∧ 0 ≤ n ∧ n ≤ 50)
include S H hc0
theorem rQ (K : Int) (hK : 0≤K∧K≤10000000) (j : Int) (hj : 0≤j∧j≤100) (ih : ∀ d i : Int,-100≤d→d≤n→0≤i→i<j→oB l fs t lc mn K (λF T L M C A S D=>fZ (.int .i64 d) (.int .i64 i) F T L M C A S D)) :
 ∀ d i : Int,-100≤d→d≤n→0≤i→i≤j→oB l fs t lc mn (K+c) (λF T L M C A S D=>fZ (.int .i64 d) (.int .i64 i) F T L M C A S D):=by
 intro d i hd1 hd2 hi1 hi2 a s cs h0 hl hc
 obtain ⟨hb,hfs,hfl,ht,hlc⟩:=H
 show Ok _ (fZ _ _ _ _ _ _ _ _ _ _)
 rw [zC]
 refine cK (aC (λ_=>?_) (λ_=>?_))
 ·refine dI (aH (aC (λ_=>?_) (λ_=>?_)))
  ·refine kL (S _ hd1 hd2) (by omega) (by omega) (by assumption) (λ_ _ _ _ _=>?_)
   refine bE (by omega) ?_
   exact nZ (ih d _ hd1 hd2 (by omega) (by omega)) (by omega) (by omega) (by assumption) (by omega) (by omega) (by omega)
  ·repeat' (first | refine oF (by omega) (by omega) (by assumption) (by omega) (λ_ _ _=>?_) | refine bJ hb (by omega) (by omega) (λ_ _ _ _=>?_) | refine kU hb (by omega) (by omega) (λ_ _ _ _=>?_) | refine dC (by omega) (by first | omega | (simp;omega)) ?_ | refine pC rfl (by omega) (by first | omega | (simp;omega)) (λ_ _=>?_) | refine iF (by assumption) (by omega) (by omega) (by omega) (λ_ _ _=>?_) | refine vC (by omega) ?_ | refine eH (by assumption) (by omega) (by omega) (by omega) (λ_ _ _=>?_) | refine aH ?_ | refine eO ?_ | refine cK ?_ | refine eZ ?_ | refine aG ?_ | refine bQ ?_ | (refine aC (λ_=>?_) (λ_=>?_)) | (refine aO (λ_=>?_) (λ_=>?_)) | refine aQ (λ_=>?_) (λ_=>?_) | refine aL (by omega) ?_ | refine bE (by omega) ?_ | refine iW (by omega) (by omega) ?_ | refine kY (by omega) (by omega) (by omega) ?_ | refine kX (by omega) ?_ | refine jN (by omega) ?_ | refine cC ?_ | refine dI ?_ | refine eR ?_ | refine bC ?_ | refine kG (by omega) ?_ | refine aV rfl ?_ | refine aA rfl ?_ | refine bF rfl ?_ | refine aD rfl ?_ | exact aB ⟨_,_,_,rfl,by omega,by omega,by omega,by omega,by omega,by omega,by assumption⟩)
 ·repeat' (first | refine oF (by omega) (by omega) (by assumption) (by omega) (λ_ _ _=>?_) | refine bJ hb (by omega) (by omega) (λ_ _ _ _=>?_) | refine kU hb (by omega) (by omega) (λ_ _ _ _=>?_) | refine dC (by omega) (by first | omega | (simp;omega)) ?_ | refine pC rfl (by omega) (by first | omega | (simp;omega)) (λ_ _=>?_) | refine iF (by assumption) (by omega) (by omega) (by omega) (λ_ _ _=>?_) | refine vC (by omega) ?_ | refine eH (by assumption) (by omega) (by omega) (by omega) (λ_ _ _=>?_) | refine aH ?_ | refine eO ?_ | refine cK ?_ | refine eZ ?_ | refine aG ?_ | refine bQ ?_ | (refine aC (λ_=>?_) (λ_=>?_)) | (refine aO (λ_=>?_) (λ_=>?_)) | refine aQ (λ_=>?_) (λ_=>?_) | refine aL (by omega) ?_ | refine bE (by omega) ?_ | refine iW (by omega) (by omega) ?_ | refine kY (by omega) (by omega) (by omega) ?_ | refine kX (by omega) ?_ | refine jN (by omega) ?_ | refine cC ?_ | refine dI ?_ | refine eR ?_ | refine bC ?_ | refine kG (by omega) ?_ | refine aV rfl ?_ | refine aA rfl ?_ | refine bF rfl ?_ | refine aD rfl ?_ | exact aB ⟨_,_,_,rfl,by omega,by omega,by omega,by omega,by omega,by omega,by assumption⟩)
theorem aJo (q : Int) (hq : 1≤q∧q≤6) : aJn l fs t lc mn n q (7*c+2):=by
 intro d hd1 hd2 a s cs h0 hl hc
 have L0:=rQ S H hc0 0 (by omega) 0 (by omega) (λd i _ _ h1 h2=>by omega)
 have L1:=rQ S H hc0 (0+c) (by omega) 1 (by omega) (λd i g1 g2 h1 h2=>L0 d i g1 g2 h1 (by omega))
 have L2:=rQ S H hc0 (0+c+c) (by omega) 2 (by omega) (λd i g1 g2 h1 h2=>L1 d i g1 g2 h1 (by omega))
 have L3:=rQ S H hc0 (0+c+c+c) (by omega) 3 (by omega) (λd i g1 g2 h1 h2=>L2 d i g1 g2 h1 (by omega))
 have L4:=rQ S H hc0 (0+c+c+c+c) (by omega) 4 (by omega) (λd i g1 g2 h1 h2=>L3 d i g1 g2 h1 (by omega))
 have L5:=rQ S H hc0 (0+c+c+c+c+c) (by omega) 5 (by omega) (λd i g1 g2 h1 h2=>L4 d i g1 g2 h1 (by omega))
 have hb:=H.hl
 show Ok _ (gN _ _ _ _ _ _ _ _ _ _)
 rw [aBU]
 refine bJ hb (by omega) (by omega) (λv _ _ _=>?_)
 refine aL (by omega) ?_
 by_cases hv : 1+v≤5
 ·exact nZ ((L5 d (1+v) hd1 hd2 (by omega) hv)) (by omega) (by omega) (by assumption) (by omega) (by omega) (by omega)
 ·have L6:=rQ S H hc0 (0+c+c+c+c+c+c) (by omega) 6 (by omega) (λd i g1 g2 h1 h2=>L5 d i g1 g2 h1 (by omega))
  exact nZ ((L6 d (1+v) hd1 hd2 (by omega) (by omega))) (by omega) (by omega) (by assumption) (by omega) (by omega) (by omega)
end
theorem aOr (H : Asm l fs t lc) : aJn l fs t lc mn 1 2 30000:=λd h1 h2=>
 (aJo (aIr (aJo (aQd (mn:=mn) H) H (by omega) 2 (by omega)) H (by omega)) H (by omega) 2 (by omega) d h1 (by omega)).mono (by omega)
theorem aQe (H : Asm l fs t lc) (q : Int) (hq : 1≤q∧q≤6) : aJn l fs t lc mn 2 q 500000:=λd h1 h2=>
 (aJo (aIr (aOr (mn:=mn) H) H (by omega)) H (by omega) q hq d h1 (by omega)).mono (by omega)
end
def kM (x : PV) : Prop:=∃ b : ByteArray,x = .str b∧b.size≤1000
theorem kM.el {ts : List PV} (h : ∀ x∈ts,kM x) : ∀ x∈ts,x.isEl 1 false=true:=by
 intro x hx
 obtain ⟨b,rfl,_⟩:=h x hx
 rfl
def aG3 (l : List Int) (A : Int) (r : R) : Prop:=∃ a s : Int,∃ ts fs : List PV,r = [.agg [.lst ts,.lst fs],bH l,.int .i64 a,.int .i64 s]∧0≤a∧a≤A∧0≤s∧s<65521∧(∀ x∈ts,kM x)∧ts.length≤10∧(∀ x∈fs,lU x)∧1≤fs.length∧fs.length≤10
section
variable {l : List Int} (hl : Bts l) {ts : List PV} (hts : ∀ x ∈ ts, kM x) (htn : ts.length ≤ 10)
include hl hts htn
set_option maxRecDepth 100000 in
set_option maxHeartbeats 4000000 in
theorem aMC {a s : Int} {hs : List PV} {x4 x5 x7 : PV} (h0 : 0≤a∧a+2097152≤900000000∧0≤s∧s<65521) (hh : ∀ x∈hs,lU x) (hn : hs.length≤3) :
 Ok (aG3 l (a+2097152)) (gE (.int .i64 0) (bH l) (.int .i64 a) (.int .i64 s) x4 x5 (.lst ts) x7 (.lst hs)):=by
 rw [oR]
 refine cK (aC (λh=>by omega) (λ_=>?_))
 refine bJ hl (by omega) (by omega) (λp a1 s1 h1=>?_)
 refine bJ hl (by omega) (by omega) (λq a2 s2 h2=>?_)
 refine aL (by omega) (aV rfl (aV rfl (dI (aV rfl (aV rfl ?_)))))
 have H : Asm l hs (ts.length : Int) (3+q):=⟨hl,hh,by omega,by omega,by omega⟩
 refine aPb hl (by omega) (by omega) (λw a3 s3 h3=>?_)
 refine aL (by omega) ?_
 refine kL (aQe (mn:=.bool true) H (1+w) (by omega) 2 (by omega) (by omega)) (by omega) (by simp) Cd.nil (λa4 s4 c4 h4 k4=>?_)
 simp only [List.length_nil,Int.natCast_zero] at h4
 refine kL (aDU (mn:=.bool true) H 1 (by omega) (by omega)) (by omega) (by omega) k4 (λa5 s5 c5 h5 k5=>?_)
 refine oF (by omega) (by omega) k5 (by omega) (λc6 k6 h6=>?_)
 refine fF (by simp;omega) (lU.el hh) ?_
 refine aB ⟨a5,s5,ts,_,rfl,by omega,by omega,by omega,by omega,hts,htn,?_,by simp,by simp;omega⟩
 intro x hx
 rcases List.mem_append.1 hx with hx | hx
 ·simp only [List.mem_singleton] at hx
  exact ⟨p,3+q,c6,hx,by omega,by omega,k6,by omega,by omega⟩
 ·exact hh x hx
set_option maxRecDepth 100000 in
set_option maxHeartbeats 4000000 in
theorem aG4 (x4 x5 x7 : PV) : ∀ (j : Nat) (k a s : Int) (hs : List PV),0≤k→k≤j→(0≤a∧a+2097152+100000*k≤900000000∧0≤s∧s<65521)→(∀ x∈hs,lU x)→(hs.length : Int)+k≤3→
 Ok (aG3 l (a+2097152+100000*k)) (gE (.int .i64 k) (bH l) (.int .i64 a) (.int .i64 s) x4 x5 (.lst ts) x7 (.lst hs)):=by
 intro j
 induction j with
 | zero=>
   intro k a s hs hk1 hk2 h0 hh hn
   have : k=0:=by omega
   subst this
   refine (aMC hl hts htn (by omega) hh (by omega)).mono ?_
   rintro r ⟨a',s',ts',fs',hr,h1,h2,h3⟩
   exact ⟨a',s',ts',fs',hr,h1,by omega,h3⟩
 | succ j ih=>
   intro k a s hs hk1 hk2 h0 hh hn
   by_cases hk : k=0
   ·subst hk
    refine (aMC hl hts htn (by omega) hh (by omega)).mono ?_
    rintro r ⟨a',s',ts',fs',hr,h1,h2,h3⟩
    exact ⟨a',s',ts',fs',hr,h1,by omega,h3⟩
   rw [oR]
   refine cK (aC (λ_=>?_) (λh=>by omega))
   refine bJ hl (by omega) (by omega) (λp a1 s1 h1=>?_)
   refine aV rfl (aL (by omega) ?_)
   refine bJ hl (by omega) (by omega) (λq a2 s2 h2=>?_)
   refine aL (by omega) (aV rfl (dI ?_))
   refine iO (by omega) (lU.el hh) (aV rfl (aV rfl ?_))
   have H : Asm l hs (ts.length : Int) (1+p+q):=⟨hl,hh,by omega,by omega,by omega⟩
   have C15 : ∀ (a s : Int) (cs : List PV),(0≤a∧a+2097152+100000*(k - 1)+1000≤900000000∧0≤s∧s<65521)→Cd cs→(cs.length : Int)≤2097152→
    Ok (aG3 l (a+2097152+100000*(k - 1)+1000)) (iQ (.int .i64 k) (bH l) (.int .i64 a) (.int .i64 s) (.int .i64 p) (.int .i64 (1+p+q)) (.lst hs) (.int .i64 ts.length) (.int .i64 (1+p+q)) (.bool false) x4 x5 (.lst ts) x7 (.lst hs) (.lst []) (.lst cs)):=by
    intro a s cs h0 hc hcl
    rw [vH]
    refine kL (aJm (mn:=.bool false) H 2 (by omega) (by omega)) (by omega) (by omega) hc (λa5 s5 c5 h5 k5=>?_)
    refine oF (by omega) (by omega) k5 (by omega) (λc6 k6 h6=>?_)
    have hnew : ∀ x∈[PV.agg [.int .i64 p,.int .i64 (1+p+q),.lst c6]],lU x:=by
     intro x hx
     simp only [List.mem_singleton] at hx
     exact ⟨p,1+p+q,c6,hx,by omega,by omega,k6,by omega,by omega⟩
    refine fF (by simp;omega) (lU.el hnew) (bE (by omega) ?_)
    refine (ih (k - 1) a5 s5 (hs++[.agg [.int .i64 p,.int .i64 (1+p+q),.lst c6]]) (by omega) (by omega) (by omega) (λx hx=>(List.mem_append.1 hx).elim (hh x) (hnew x)) (by simp;omega)).mono ?_
    rintro r ⟨a',s',ts',fs',hr,h1,h2,h3⟩
    exact ⟨a',s',ts',fs',hr,h1,by omega,h3⟩
   refine kU hl (by omega) (by omega) (λb a3 s3 h3=>?_)
   refine aQ (λ_=>?_) (λ_=>?_)
   ·refine kL (aOr (mn:=.bool false) H 1 (by omega) (by omega)) (by omega) (by simp) Cd.nil (λa4 s4 c4 h4 k4=>?_)
    simp only [List.length_nil,Int.natCast_zero] at h4
    refine (C15 a4 s4 c4 (by omega) k4 (by omega)).mono ?_
    rintro r ⟨a',s',ts',fs',hr,h1,h2,h3⟩
    exact ⟨a',s',ts',fs',hr,h1,by omega,h3⟩
   ·refine (C15 a3 s3 [] (by omega) Cd.nil (by simp)).mono ?_
    rintro r ⟨a',s',ts',fs',hr,h1,h2,h3⟩
    exact ⟨a',s',ts',fs',hr,h1,by omega,h3⟩
end
theorem aKG : ∀ x∈[PV.str (bs []),PV.str (bs [97]),PV.str (bs [98,99]),PV.str (bs [104,101,108,108,111,32,119,111,114,108,100]),PV.str (bs [120,32,121])],kM x:=by
 intro x hx
 simp only [List.mem_cons,List.not_mem_nil,or_false] at hx
 rcases hx with rfl | rfl | rfl | rfl | rfl<;>exact ⟨_,rfl,Nat.le_of_ble_eq_true rfl⟩
theorem aOs {l : List Int} (hl : Bts l) (x4 x5 : PV) : ∀ (j : Nat) (k a s : Int) (ts : List PV),0≤k→k≤j→(0≤a∧a+2500000+k≤900000000∧0≤s∧s<65521)→(∀ x∈ts,kM x)→(ts.length : Int)+k≤10→
 Ok (aG3 l (a+2500000+k)) (jH (.int .i64 k) (bH l) (.int .i64 a) (.int .i64 s) x4 x5 (.lst ts) (.lst [])):=by
 intro j
 induction j with
 | zero=>
   intro k a s ts hk1 hk2 h0 ht hn
   rw [oQ]
   refine cK (aC (λh=>by omega) (λ_=>?_))
   refine bJ hl (by omega) (by omega) (λp a1 s1 h1=>?_)
   refine (aG4 hl ht (by omega) x4 x5 (.lst []) 3 p a1 s1 [] (by omega) (by omega) (by omega) (λx hx=>by cases hx) (by simp;omega)).mono ?_
   rintro r ⟨a',s',ts',fs',hr,h1,h2,h3⟩
   exact ⟨a',s',ts',fs',hr,h1,by omega,h3⟩
 | succ j ih=>
   intro k a s ts hk1 hk2 h0 ht hn
   rw [oQ]
   refine cK (aC (λ_=>?_) (λ_=>?_))
   ·refine bJ hl (by omega) (by omega) (λp a1 s1 h1=>?_)
    refine dC (by omega) (by simp;omega) ?_
    refine tU (by omega) (by simp;omega) (kM.el aKG) (λx hx _=>?_)
    have hone : ∀ y∈[x],kM y:=λy hy=>by simp only [List.mem_singleton] at hy;rw [hy];exact aKG x hx
    refine iO (by simp) (kM.el hone) ?_
    refine fF (by simp;omega) (kM.el hone) (bE (by omega) ?_)
    refine (ih (k - 1) a1 s1 (ts++[x]) (by omega) (by omega) (by omega) (λy hy=>(List.mem_append.1 hy).elim (ht y) (hone y)) (by simp;omega)).mono ?_
    rintro r ⟨a',s',ts',fs',hr,h1,h2,h3⟩
    exact ⟨a',s',ts',fs',hr,h1,by omega,h3⟩
   ·refine bJ hl (by omega) (by omega) (λp a1 s1 h1=>?_)
    refine (aG4 hl ht (by omega) x4 x5 (.lst []) 3 p a1 s1 [] (by omega) (by omega) (by omega) (λx hx=>by cases hx) (by simp;omega)).mono ?_
    rintro r ⟨a',s',ts',fs',hr,h1,h2,h3⟩
    exact ⟨a',s',ts',fs',hr,h1,by omega,h3⟩
theorem aCg {l : List Int} (hl : Bts l) {a s : Int} (h0 : 0≤a∧a≤800000000∧0≤s∧s<65521) : Ok (aG3 l (a+3000000)) (lQ (bH l) (.int .i64 a) (.int .i64 s)):=by
 rw [aAi]
 refine bJ hl (by omega) (by omega) (λp a1 s1 h1=>?_)
 refine (aOs hl (.lst []) (.lst []) 2 p a1 s1 [] (by omega) (by omega) (by omega) (λx hx=>by cases hx) (by simp;omega)).mono ?_
 rintro r ⟨a',s',ts',fs',hr,h1,h2,h3⟩
 exact ⟨a',s',ts',fs',hr,h1,by omega,h3⟩
theorem aNB {ts fs : List PV} (hf : ∀ x∈fs,lU x) (hn : fs.length≤100) (x3 x4 : PV) : ∀ (j i : Nat),fs.length - i=j→i≤fs.length→
 Ok (λr=>r = [.lst ts,.lst fs]) (jI (.int .i64 i) (.lst ts) (.lst fs) x3 x4 (.lst ts) (.lst (fs.take i))):=by
 intro j
 induction j with
 | zero=>
   intro i h1 h2
   rw [oS]
   have : i=fs.length:=by omega
   subst this
   refine dI (aH (aC (λh=>by omega) (λ_=>aB ?_)))
   rw [List.take_length]
 | succ j ih=>
   intro i h1 h2
   rw [oS]
   refine dI (aH (aC (λ_=>?_) (λh=>by omega)))
   refine tU (by omega) (by omega) (lU.el hf) (λx hx hi=>?_)
   obtain ⟨p,lc,cs,rfl,hp,hlc,hc,hc1,hc2⟩:=hf x hx
   refine aD rfl (aA rfl (aA rfl (aA rfl ?_)))
   refine iO (by omega) hc.el (aV rfl (aV rfl ?_))
   have hone : ∀ y∈[PV.agg [.int .i64 p,.int .i64 lc,.lst cs]],lU y:=λy hy=>by
    simp only [List.mem_singleton] at hy
    exact ⟨p,lc,cs,hy,hp,hlc,hc,hc1,hc2⟩
   refine fF (by simp;omega) (lU.el hone) (aL (by omega) ?_)
   have htk : fs.take i++[PV.agg [.int .i64 p,.int .i64 lc,.lst cs]]=fs.take (i+1):=by
    have hi' : fs[i]? = some (.agg [.int .i64 p,.int .i64 lc,.lst cs]):=by simpa using hi
    rw [List.take_add_one,hi'];rfl
   rw [htk]
   exact ih (i+1) (by omega) (by omega)
theorem aPw {ts fs : List PV} (ht : ∀ x∈ts,kM x) (htn : ts.length≤10) (hf : ∀ x∈fs,lU x) (hn : fs.length≤100) :
 Ok (λr=>r = [.lst ts,.lst fs]) (pF (.agg [.lst ts,.lst fs])):=by
 rw [aAj]
 refine aD rfl (aA rfl (aA rfl ?_))
 refine iO (by omega) (kM.el ht) ?_
 have:=aNB (ts:=ts) hf hn (.lst []) (.lst []) fs.length 0 (by omega) (by omega)
 exact this
def mR (x : PV) : Prop:=∃ p lc : Int,∃ cs : List PV,x = .agg [.int .i64 p,.int .i64 lc,.lst cs]∧(-9223372036854775808≤p∧p≤9223372036854775807)∧(-9223372036854775808≤lc∧lc≤9223372036854775807)∧Cd cs∧(cs.length : Int)≤200000000
theorem lU.toFun {x : PV} (h : lU x) : mR x:=by
 obtain ⟨p,lc,cs,rfl,h1,h2,h3,h4,h5⟩:=h
 exact ⟨p,lc,cs,rfl,by omega,by omega,h3,by omega⟩
theorem mR.el {fs : List PV} (h : ∀ x∈fs,mR x) : ∀ x∈fs,x.isEl 3 true=true:=by
 intro x hx
 obtain ⟨p,lc,cs,rfl,_⟩:=h x hx
 rfl
def aPx (l : List Int) (A : Int) (r : R) : Prop:=∃ a s : Int,∃ ts fs : List PV,r = [.agg [.lst ts,.lst fs],bH l,.int .i64 a,.int .i64 s]∧0≤a∧a≤A∧0≤s∧s<65521∧(∀ x∈ts,kM x)∧ts.length≤100∧(∀ x∈fs,mR x)∧fs.length≤100∧1≤fs.length
theorem aIs : ∀ {ts : List PV},(∀ x∈ts,kM x)→PV.flatEs false [] ts=true
 | [],_=>by simp [PV.flatEs]
 | x::r,h=>by
   obtain ⟨b,rfl,_⟩:=h x List.mem_cons_self
   simp [PV.flatEs,PV.flatE,PV.flat,aIs (λy hy=>h y (List.mem_cons_of_mem _ hy))]
theorem aIt : ∀ {cs : List PV},Cd cs→PV.flatEs true [] cs=true
 | [],_=>by simp [PV.flatEs]
 | x::r,h=>by
   obtain ⟨o,a,rfl,_⟩:=h x List.mem_cons_self
   simp [PV.flatEs,PV.flatE,PV.flatCs,PV.flat,aIt (λy hy=>h y (List.mem_cons_of_mem _ hy))]
theorem aIu : ∀ {fs : List PV},(∀ x∈fs,mR x)→PV.flatEs true [.leaf,.leaf,.own 2 16 true []] fs=true
 | [],_=>by simp [PV.flatEs]
 | x::r,h=>by
   obtain ⟨p,lc,cs,rfl,_,_,hc,_⟩:=h x List.mem_cons_self
   simp [PV.flatEs,PV.flatE,PV.flatCs,PV.flat,aIt hc,aIu (λy hy=>h y (List.mem_cons_of_mem _ hy))]
theorem fX {fs : List PV} (hf : ∀ x∈fs,mR x) {P : R→Prop} {k : PV→Option R} {i : Int} {x : PV} (h0 : 0≤i) (hx : fs[i.toNat]? = some x) (h : Ok P (k x)) : Ok P (bd (PV.at_ 3 true (.lst fs) (.int .i64 i)) k):=by
 refine tU h0 (by have:=(List.getElem?_eq_some_iff.1 hx).1;omega) (mR.el hf) (λy _ hy=>?_)
 rw [hx] at hy
 cases hy
 exact h
theorem aOt {P : R→Prop} {k : PV→Option R} {cs : List PV} {i n : Int} (hc : Cd cs) (h0 : 0≤i) (h1 : i<cs.length) (hn : -9223372036854775808≤n∧n≤9223372036854775807) (h : ∀ cs' : List PV,Cd cs'→(cs'.length : Int)=cs.length→Ok P (k (.lst cs'))) :
 Ok P (bd (PV.setCell 2 (.lst cs) (.int .i64 i) 0 (.int .i64 n)) k):=by
 have hlt : i.toNat<cs.length:=by omega
 have hx : cs[i.toNat]? = some cs[i.toNat]:=List.getElem?_eq_getElem hlt
 obtain ⟨o,a,he,ho,ha⟩:=hc _ (List.mem_of_getElem? hx)
 rw [he] at hx
 refine fR h0 hx rfl (by omega) rfl (h _ (λx hm=>?_) (by rw [List.length_set]))
 rcases List.mem_or_eq_of_mem_set hm with h | h
 ·exact hc x h
 ·exact ⟨n,a,h,hn,ha⟩
theorem mR.set {fs : List PV} (hf : ∀ x∈fs,mR x) {i : Nat} {y : PV} (hy : mR y) : ∀ x∈fs.set i y,mR x:=by
 intro x hx
 rcases List.mem_or_eq_of_mem_set hx with h | h
 ·exact hf x h
 ·rw [h];exact hy
section
variable {l : List Int} (hl : Bts l) {ts : List PV} (ht : ∀ x ∈ ts, kM x) (htn : ts.length ≤ 20)
include hl ht htn
theorem aNC (x3 x4 : PV) : ∀ (j : Nat) (a s : Int) (fs : List PV),13 - fs.length≤j→(0≤a∧a+j+1≤900000000∧0≤s∧s<65521)→(∀ x∈fs,mR x)→fs.length≤50→
 Ok (aPx l (a+j+1)) (mO (bH l) (.int .i64 a) (.int .i64 s) x3 x4 (.lst ts) (.lst fs)):=by
 intro j
 induction j with
 | zero=>
   intro a s fs hj h0 hf hn
   rw [sE]
   refine dI (bJ hl (by omega) (by omega) (λp a1 s1 h1=>?_))
   refine aL (by omega) (aH (aC (λ_=>by omega) (λ_=>?_)))
   exact aB ⟨a1,s1,ts,fs,rfl,by omega,by omega,by omega,by omega,ht,by omega,hf,by omega⟩
 | succ j ih=>
   intro a s fs hj h0 hf hn
   rw [sE]
   refine dI (bJ hl (by omega) (by omega) (λp a1 s1 h1=>?_))
   refine aL (by omega) (aH (aC (λ_=>?_) (λ_=>?_)))
   ·have hone : ∀ y∈[PV.agg [.int .i64 0,.int .i64 0,.lst [.agg [.int .i64 4,.int .i64 0],.agg [.int .i64 25,.int .i64 0]]]],mR y:=λy hy=>by
     simp only [List.mem_singleton] at hy
     exact ⟨0,0,_,hy,by omega,by omega,(Cd.one (by omega) (by omega)).append (Cd.one (by omega) (by omega)),by simp⟩
    refine fF (by simp;omega) (mR.el hone) ?_
    refine (ih a1 s1 _ (by simp;omega) (by omega) (λx hx=>(List.mem_append.1 hx).elim (hf x) (hone x)) (by simp;omega)).mono ?_
    rintro r ⟨a',s',ts',fs',hr,h1,h2,h3⟩
    exact ⟨a',s',ts',fs',hr,h1,by omega,h3⟩
   ·exact aB ⟨a1,s1,ts,fs,rfl,by omega,by omega,by omega,by omega,ht,by omega,hf,by omega⟩
theorem aOu (x3 x4 : PV) (f o i : Int) (hf0 : 0≤f) (ho : -9223372036854775808≤o∧o≤9223372036854775807) (hi : -9223372036854775808≤i∧i≤9223372036854775807) :
 ∀ (j : Nat) (a s : Int) (fs : List PV) (p lc : Int) (cs : List PV),fs[f.toNat]? = some (.agg [.int .i64 p,.int .i64 lc,.lst cs])→121 - cs.length≤j→(0≤a∧a+j+1≤900000000∧0≤s∧s<65521)→(∀ x∈fs,mR x)→fs.length≤50→
 Ok (aPx l (a+j+1)) (nQ (.int .i64 f) (bH l) (.int .i64 a) (.int .i64 s) (.int .i64 o) (.int .i64 i) x3 x4 (.lst ts) (.lst fs)):=by
 intro j
 induction j with
 | zero=>
   intro a s fs p lc cs hx hj h0 hf hn
   rw [tA]
   have hlt:=(List.getElem?_eq_some_iff.1 hx).1
   refine dC hf0 (by omega) (fX hf hf0 hx (fX hf hf0 hx (aA rfl (dI (bJ hl (by omega) (by omega) (λq a1 s1 h1=>?_))))))
   refine aL (by omega) (aH (aC (λ_=>by omega) (λ_=>?_)))
   exact aB ⟨a1,s1,ts,fs,rfl,by omega,by omega,by omega,by omega,ht,by omega,hf,by omega⟩
 | succ j ih=>
   intro a s fs p lc cs hx hj h0 hf hn
   rw [tA]
   have hlt:=(List.getElem?_eq_some_iff.1 hx).1
   obtain ⟨p',lc',cs',he,hp,hlc,hc,hcl⟩:=hf _ (List.mem_of_getElem? hx)
   cases he
   refine dC hf0 (by omega) (fX hf hf0 hx (fX hf hf0 hx (aA rfl (dI (bJ hl (by omega) (by omega) (λq a1 s1 h1=>?_))))))
   refine aL (by omega) (aH (aC (λ_=>?_) (λ_=>?_)))
   ·refine dC hf0 (by omega) (fX hf hf0 hx (fX hf hf0 hx (aA rfl (fX hf hf0 hx (aA rfl ?_)))))
    refine fR hf0 hx rfl (by omega) rfl ?_
    refine fF (by simp;omega) (Cd.one ho hi).el ?_
    refine dC hf0 (by rw [List.length_set];omega) ?_
    refine fR (cs:=[.int .i64 p,.int .i64 lc,.hole]) hf0 (List.getElem?_set_self hlt) rfl (by omega) rfl ?_
    rw [List.set_set]
    have hcode : Cd (cs++[.agg [.int .i64 o,.int .i64 i]]):=hc.append (Cd.one ho hi)
    refine (ih a1 s1 _ p lc (cs++[.agg [.int .i64 o,.int .i64 i]]) (List.getElem?_set_self hlt) (by simp;omega) (by omega) (mR.set hf ⟨p,lc,_,rfl,hp,hlc,hcode,by simp;omega⟩) (by rw [List.length_set];exact hn)).mono ?_
    rintro r ⟨a',s',ts',fs',hr,h1,h2,h3⟩
    exact ⟨a',s',ts',fs',hr,h1,by omega,h3⟩
   ·exact aB ⟨a1,s1,ts,fs,rfl,by omega,by omega,by omega,by omega,ht,by omega,hf,by omega⟩
end
theorem aIv : ∀ x∈[PV.str (bs [113,34]),PV.str (bs [10]),PV.str (bs [48,49,50,51,52,53,54,55,56,57,48,49,50,51,52,53,54,55,56,57,48,49,50,51,52,53,54,55,56,57,48,49,50,51,52,53,54,55,56,57,48,49,50,51,52,53,54,55,56,57,48,49,50,51,52,53,54,55,56,57,48]),PV.str (bs [195,169])],kM x:=by
 intro x hx
 simp only [List.mem_cons,List.not_mem_nil,or_false] at hx
 rcases hx with rfl | rfl | rfl | rfl<;>exact ⟨_,rfl,Nat.le_of_ble_eq_true rfl⟩
set_option maxRecDepth 100000 in
set_option maxHeartbeats 4000000 in
theorem aOv {l : List Int} (hl : Bts l) {ts fs : List PV} (ht : ∀ x∈ts,kM x) (htn : ts.length≤10) (hh : ∀ x∈fs,lU x) (hn1 : 1≤fs.length) (hn : fs.length≤10) {a s : Int} (h0 : 0≤a∧a≤850000000∧0≤s∧s<65521) :
 Ok (aPx l (a+1000)) (wY (.lst ts) (.lst fs) (bH l) (.int .i64 a) (.int .i64 s)):=by
 have hf : ∀ x∈fs,mR x:=λx hx=>(hh x hx).toFun
 rw [aEp]
 refine aI (aPw ht htn hh (by omega)) (λr hr=>?_)
 subst hr
 refine kH (aIs ht) (kH (aIu hf) ?_)
 refine dI (bJ hl (by omega) (by omega) (λf a1 s1 h1=>?_))
 have hlt : f.toNat<fs.length:=by omega
 have hx : fs[f.toNat]? = some fs[f.toNat]:=List.getElem?_eq_getElem hlt
 obtain ⟨p,lc,cs,he,hp,hlc,hc,hc1,hcl⟩:=hh _ (List.mem_of_getElem? hx)
 rw [he] at hx
 refine dC (by omega) (by omega) (fX hf (by omega) hx (fX hf (by omega) hx (aA rfl (dI (bJ hl (by omega) (by omega) (λi a2 s2 h2=>?_))))))
 refine bJ hl (by omega) (by omega) (λq a3 s3 h3=>?_)
 have hset : ∀ cs' : List PV,Cd cs'→(cs'.length : Int)≤cs.length→∀ x∈fs.set f.toNat (.agg [.int .i64 p,.int .i64 lc,.lst cs']),mR x:=λcs' h1 h2=>mR.set hf ⟨p,lc,cs',rfl,by omega,by omega,h1,by omega⟩
 refine aG (aC (λ_=>?_) (λ_=>?_))
 ·refine dC (by omega) (by omega) (fX hf (by omega) hx (bJ hl (by omega) (by omega) (λw a4 s4 h4=>?_)))
  refine bE (by omega) (fX hf (by omega) hx (aA rfl (dC (by omega) (by omega) (fX hf (by omega) hx (aA rfl (aV rfl (fX hf (by omega) hx (aA rfl ?_))))))))
  refine aOt hc (by omega) (by omega) (by omega) (λcs' hc' hl'=>fX hf (by omega) hx (aA rfl ?_))
  refine fR (by omega) hx rfl (by omega) rfl ?_
  exact aB ⟨a4,s4,ts,_,rfl,by omega,by omega,by omega,by omega,ht,by omega,hset cs' hc' (by omega),by rw [List.length_set];omega⟩
 refine aG (aC (λ_=>?_) (λ_=>?_))
 ·refine dC (by omega) (by omega) (fX hf (by omega) hx (aEt hl (by omega) (λw a4 s4 h4=>?_)))
  refine fX hf (by omega) hx (aA rfl (dC (by omega) (by omega) (fX hf (by omega) hx (aA rfl (aV rfl (fX hf (by omega) hx (aA rfl ?_)))))))
  refine iF hc (by omega) (by omega) (by omega) (λcs' hc' hl'=>fX hf (by omega) hx (aA rfl ?_))
  refine fR (by omega) hx rfl (by omega) rfl ?_
  exact aB ⟨a4,s4,ts,_,rfl,by omega,by omega,by omega,by omega,ht,by omega,hset cs' hc' (by omega),by rw [List.length_set];omega⟩
 refine aG (aC (λ_=>?_) (λ_=>?_))
 ·refine bJ hl (by omega) (by omega) (λw a4 s4 h4=>?_)
  refine bE (by omega) (dC (by omega) (by omega) (aV rfl ?_))
  refine fR (by omega) hx rfl (by omega) rfl ?_
  exact aB ⟨a4,s4,ts,_,rfl,by omega,by omega,by omega,by omega,ht,by omega,mR.set hf ⟨w - 1,lc,cs,rfl,by omega,by omega,hc,by omega⟩,by rw [List.length_set];omega⟩
 refine aG (aC (λ_=>?_) (λ_=>?_))
 ·refine bJ hl (by omega) (by omega) (λw a4 s4 h4=>?_)
  refine dC (by omega) (by simp;omega) (pC rfl (by omega) (by simp;omega) (λy hy=>?_))
  refine dC (by omega) (by omega) (aV rfl ?_)
  refine fR (by omega) hx rfl (by omega) rfl ?_
  exact aB ⟨a4,s4,ts,_,rfl,by omega,by omega,by omega,by omega,ht,by omega,mR.set hf ⟨p,y,cs,rfl,by omega,by omega,hc,by omega⟩,by rw [List.length_set];omega⟩
 refine aG (aC (λ_=>?_) (λ_=>?_))
 ·refine bJ hl (by omega) (by omega) (λw a4 s4 h4=>?_)
  refine dC (by omega) (by simp;omega) (tU (by omega) (by simp;omega) (kM.el aIv) (λy hy _=>?_))
  have hone : ∀ z∈[y],kM z:=λz hz=>by simp only [List.mem_singleton] at hz;rw [hz];exact aIv y hy
  refine iO (by simp) (kM.el hone) (fF (by simp;omega) (kM.el hone) ?_)
  exact aB ⟨a4,s4,_,fs,rfl,by omega,by omega,by omega,by omega,λz hz=>(List.mem_append.1 hz).elim (ht z) (hone z),by simp;omega,hf,by omega⟩
 refine aG (aC (λ_=>?_) (λ_=>?_))
 ·refine dC (by omega) (by omega) (fX hf (by omega) hx (fX hf (by omega) hx (aA rfl (eH hc (by omega) (by omega) (by omega) (λc1 k1 e1=>?_)))))
  refine dC (by omega) (by omega) (fX hf (by omega) hx (aL (by omega) (fX hf (by omega) hx (aA rfl (dI (eH hc (by omega) (by omega) (by omega) (λc2 k2 e2=>?_)))))))
  refine fX hf (by omega) hx (aA rfl (fX hf (by omega) hx (aA rfl (eH hc (by omega) (by omega) (by omega) (λc3 k3 e3=>?_)))))
  refine eH hc (by omega) (by omega) (by omega) (λc4 k4 e4=>fX hf (by omega) hx (aA rfl ?_))
  refine fR (by omega) hx rfl (by omega) rfl ?_
  refine fF (by omega) k3.el ?_
  refine dC (by omega) (by rw [List.length_set];omega) ?_
  refine fR (cs:=[.int .i64 p,.int .i64 lc,.hole]) (by omega) (List.getElem?_set_self hlt) rfl (by omega) rfl ?_
  rw [List.set_set]
  exact aB ⟨a3,s3,ts,_,rfl,by omega,by omega,by omega,by omega,ht,by omega,hset _ (k4.append k3) (by rw [List.length_append];omega),by rw [List.length_set];omega⟩
 refine aG (aC (λ_=>?_) (λ_=>?_))
 ·refine (aNC hl ht (by omega) (.lst []) (.lst []) 13 a3 s3 fs (by omega) (by omega) hf (by omega)).mono ?_
  rintro r ⟨a',s',ts',fs',hr,h1,h2,h3⟩
  exact ⟨a',s',ts',fs',hr,h1,by omega,h3⟩
 ·refine dC (by omega) (by omega) (fX hf (by omega) hx (fX hf (by omega) hx (aA rfl (dC (by omega) (by omega) (fX hf (by omega) hx (aA rfl ?_))))))
  refine tU (by omega) (by omega) hc.el (λy hy _=>?_)
  obtain ⟨o,b,rfl,ho,hb⟩:=hc y hy
  refine aD rfl (aA rfl (aA rfl ?_))
  refine (aOu hl ht (by omega) (.lst []) (.lst []) f o b (by omega) ho hb 121 a3 s3 fs p lc cs hx (by omega) (by omega) hf (by omega)).mono ?_
  rintro r ⟨a',s',ts',fs',hr,h1,h2,h3⟩
  exact ⟨a',s',ts',fs',hr,h1,by omega,h3⟩
theorem aLT {l : List Int} (hl : Bts l) {n a s : Int} (hn : 1≤n∧n≤1000) (h0 : 0≤a∧a≤800000000∧0≤s∧s<65521) : Ok (aPx l (a+4000000)) (sR (.int .i64 n) (bH l) (.int .i64 a) (.int .i64 s)):=by
 rw [aCQ]
 refine aI (aCg hl h0) ?_
 rintro r ⟨a1,s1,ts,fs,rfl,h1,h2,h3,h4,ht,htn,hf,hn1,hn2⟩
 refine aD rfl (aA rfl (aA rfl ?_))
 refine kU hl (by omega) (by omega) (λb a2 s2 h5=>aQ (λ_=>?_) (λ_=>?_))
 ·refine aI (aOv hl ht htn hf hn1 hn2 (by omega)) ?_
  rintro r ⟨a3,s3,ts3,fs3,rfl,g1,g2,g3,g4,g5,g6,g7,g8⟩
  refine aD rfl (aA rfl (aA rfl ?_))
  exact aB ⟨a3,s3,ts3,fs3,rfl,by omega,by omega,by omega,by omega,g5,g6,g7,g8⟩
 ·exact aB ⟨a2,s2,ts,fs,rfl,by omega,by omega,by omega,by omega,ht,by omega,λx hx=>(hf x hx).toFun,by omega⟩
theorem aPy {l : List Int} (hl : Bts l) {P : R→Prop} {k : R→Option R} (h : ∀ s : Int,0≤s∧s<65521→Ok P (k [bH l,.int .i64 0,.int .i64 s])) : Ok P (bd (yX (bH l)) k):=by
 refine aI (Q:=λr=>∃ s : Int,r = [bH l,.int .i64 0,.int .i64 s]∧0≤s∧s<65521) ?_ (λr ⟨s,hr,hs⟩=>by rw [hr];exact h s hs)
 rw [aFt]
 refine cC (iW (by omega) (by omega) (aL (by omega) (aV rfl (aV rfl (aB ⟨_,rfl,by omega,by omega⟩)))))
def aQU (x : PV) : Prop:=∃ ts fs : List PV,x = .agg [.lst ts,.lst fs]∧(∀ x∈ts,kM x)∧ts.length≤100∧(∀ x∈fs,mR x)∧fs.length≤100∧1≤fs.length
def Byt (l : List Int) : Prop:=∀ x∈l,0≤x∧x≤255
theorem aMD : ∀ {ts : List PV},(∀ x∈ts,kM x)→∃ l : List ByteArray,ts=l.map PV.str∧∀ t∈l,t.size≤1000
 | [],_=>⟨[],rfl,λt ht=>by cases ht⟩
 | x::r,h=>by
   obtain ⟨b,rfl,hb⟩:=h x List.mem_cons_self
   obtain ⟨l,rfl,hl⟩:=aMD (λy hy=>h y (List.mem_cons_of_mem _ hy))
   refine ⟨b::l,rfl,λt ht=>?_⟩
   rcases List.mem_cons.1 ht with rfl | ht
   ·exact hb
   ·exact hl t ht
theorem aME : ∀ {cs : List PV},Cd cs→∃ l : List cG,cs=l.map cG.pv
 | [],_=>⟨[],rfl⟩
 | x::r,h=>by
   obtain ⟨o,a,rfl,_⟩:=h x List.mem_cons_self
   obtain ⟨l,rfl⟩:=aME (λy hy=>h y (List.mem_cons_of_mem _ hy))
   exact ⟨⟨o,a⟩::l,rfl⟩
theorem aMF : ∀ {fs : List PV},(∀ x∈fs,mR x)→∃ l : List cY,fs=l.map cY.pv∧∀ f∈l,f.code.length≤1000000000
 | [],_=>⟨[],rfl,λt ht=>by cases ht⟩
 | x::r,h=>by
   obtain ⟨p,lc,cs,rfl,_,_,hc,hl⟩:=h x List.mem_cons_self
   obtain ⟨l,rfl,hl2⟩:=aMF (λy hy=>h y (List.mem_cons_of_mem _ hy))
   obtain ⟨c,rfl⟩:=aME hc
   refine ⟨⟨p,lc,c⟩::l,rfl,λt ht=>?_⟩
   rcases List.mem_cons.1 ht with rfl | ht
   ·rw [List.length_map] at hl
    show c.length≤_
    omega
   ·exact hl2 t ht
theorem aQf {l : List Int} (hb : Byt l) {P : R→Prop} {k : R→Option R} (h1 : Bts l→Ok P (k [.bool false])) (h2 : Ok P (k [.bool true])) : Ok P (bd (aGB (bH l)) k):=by
 refine aI (Q:=λr=>r = [.bool (decide ((1048576 : Int)<l.length))]) ?_ (λr hr=>?_)
 ·rw [aKl]
  exact cC (cK (aB rfl))
 ·subst hr
  by_cases h : (1048576 : Int)<l.length
  ·rw [decide_eq_true h];exact h2
  ·rw [decide_eq_false h];exact h1 ⟨hb,by omega⟩
end
noncomputable section
open Go Go.IntWalk
attribute [local irreducible] bd PV.ite PV.guardFlat PV.guardOwn PV.whole PV.one PV.cell PV.sub PV.at_ PV.len PV.slen PV.chr PV.beq PV.peq PV.ceq PV.bin PV.neg PV.not PV.conv PV.cut PV.scut PV.cat PV.setAt PV.setCell PV.ncopy PV.copyIn PV.zeros PV.toStr PV.toBytes PV.deref PV.isPtr PV.comp PV.inb PV.off PV.imin PV.imax PV.sel PV.apply PV.isLst PV.isInt PV.ix PV.nilT
def aAe (m : eM) : Bool:=m.okB&&(bad m.funcs).isNone
theorem zL {m : eM} (hs : m.sized) (h : aAe m=true) : eN m:=by
 simp only [aAe,Bool.and_eq_true,Option.isNone_iff_eq_none] at h
 exact ⟨hs,h.1,h.2⟩
theorem aND {fs : List cY} {code : List cG} {d : List Int} {pc : Nat} {c : Int} (h : aDQ fs code d pc=some c) : c≠0:=by
 unfold aDQ at h
 repeat' split at h
 all_goals first
  | (cases h;done)
  | (injection h with h;omega)
theorem aKH {fs : List cY} {c : Int} {f pc : Nat} (h : bad fs=some (c,f,pc)) : c≠0:=by
 unfold bad at h
 obtain ⟨i,_,h⟩:=List.exists_of_findSome?_eq_some h
 unfold aIo at h
 split at h
 ·obtain ⟨j,_,h⟩:=List.exists_of_findSome?_eq_some h
  unfold aCe at h
  simp only [Option.map_eq_some_iff] at h
  obtain ⟨c',h1,h2⟩:=h
  injection h2 with h2 h3
  rw [← h2]
  exact aND h1
 ·cases h
section
variable {P : R → Prop} {k : R → Option R}
theorem aFM {m : eM} (hs : m.sized) (h : Ok P (k [.bool (aAe m)])) : Ok P (bd (qA m.pv) k):=by
 refine aI (Q:=λr=>r = [.bool (aAe m)]) ?_ (λr hr=>by rw [hr];exact h)
 rw [aFl]
 refine aD rfl (aA rfl (aA rfl (aI (aKx hs) (λr hr=>?_))))
 subst hr
 show Ok _ (bd (PV.cell m.verify 0) _)
 unfold eM.verify aAe
 cases ho : m.okB with
 | false=>exact aA (y:=.int .i64 1) rfl (aG (aB rfl))
 | true=>
   simp only [if_true,Bool.true_and]
   cases hb : bad m.funcs with
   | none=>exact aA (y:=.int .i64 0) rfl (aG (aB rfl))
   | some p=>
     obtain ⟨c,f,pc⟩:=p
     have:=aKH hb
     refine aA (y:=.int .i64 c) rfl (aG (aB ?_))
     rw [decide_eq_false this];rfl
theorem aKI {m : eM} (hs : m.sized) (h : Ok P (k [.bool (aAe m)])) : Ok P (bd (aAN m.pv) k):=by
 refine aI (Q:=λr=>r = [.bool (aAe m)]) ?_ (λr hr=>by rw [hr];exact h)
 rw [aGE]
 refine aD rfl (aA rfl (aA rfl (aI (aKy hs) (λr hr=>?_))))
 subst hr
 show Ok _ (bd (PV.whole 3 m.verify) _)
 have eq : ∀ a b c : Int,(PV.ceq [1,1,1] .eql (.agg [.int .i64 a,.int .i64 b,.int .i64 c]) (.agg [.int .i64 0,.int .i64 0,.int .i64 0]))=some (.bool (decide (a=0)&&(decide (b=0)&&decide (c=0)))):=by
  intro a b c
  simp [PV.ceq,PV.eqCells,PV.eqScalar,PV.eqOr]
  rfl
 unfold eM.verify aAe
 cases ho : m.okB with
 | false=>exact aD (cs:=[.int .i64 1,.int .i64 0,.int .i64 0]) rfl (aA rfl (aA rfl (aA rfl (dM _ (eq _ _ _) (aB rfl)))))
 | true=>
   simp only [if_true,Bool.true_and]
   cases hb : bad m.funcs with
   | none=>exact aD (cs:=[.int .i64 0,.int .i64 0,.int .i64 0]) rfl (aA rfl (aA rfl (aA rfl (dM _ (eq _ _ _) (aB rfl)))))
   | some p=>
     obtain ⟨c,f,pc⟩:=p
     have:=aKH hb
     refine aD (cs:=[.int .i64 c,.int .i64 f,.int .i64 pc]) rfl (aA rfl (aA rfl (aA rfl (dM _ (eq _ _ _) (aB ?_)))))
     rw [decide_eq_false this];rfl
end
section
variable {P : R → Prop} {m : eM}
theorem aKJ {kp : PV→Option R} {i : Int} (h0 : 0≤i∧i<m.funcs.length) (h : ∀ lc,Ok P (kp (.agg [.int .i64 (lI m.funcs i),lc,.lst ((dB m.funcs i).map cG.pv)]))) : Ok P (bd (PV.at_ 3 true (.lst (m.funcs.map cY.pv)) (.int .i64 i)) kp):=by
 obtain ⟨j,rfl⟩:=Int.eq_ofNat_of_zero_le h0.1
 have hj : j<m.funcs.length:=by omega
 refine aK hj (λ_=>rfl) ?_
 have:=h (.int .i64 m.funcs[j].lc)
 have e1 : dB m.funcs j=m.funcs[j].code:=by simp [dB,List.getElem?_eq_getElem hj]
 have e2 : lI m.funcs j=m.funcs[j].p:=by simp [lI,List.getElem?_eq_getElem hj]
 rw [e1,e2] at this
 exact this
theorem rR {kp : PV→Option R} {i : Int} (h0 : 0≤i∧i<m.funcs.length) (h : Ok P (kp (.agg [.int .i64 (lI m.funcs i),.int .i64 (aDN m.funcs i),.lst ((dB m.funcs i).map cG.pv)]))) : Ok P (bd (PV.at_ 3 true (.lst (m.funcs.map cY.pv)) (.int .i64 i)) kp):=by
 obtain ⟨j,rfl⟩:=Int.eq_ofNat_of_zero_le h0.1
 have hj : j<m.funcs.length:=by omega
 refine aK hj (λ_=>rfl) ?_
 have e1 : dB m.funcs j=m.funcs[j].code:=by simp [dB,List.getElem?_eq_getElem hj]
 have e2 : lI m.funcs j=m.funcs[j].p:=by simp [lI,List.getElem?_eq_getElem hj]
 have e3 : aDN m.funcs j=m.funcs[j].lc:=by simp [aDN,List.getElem?_eq_getElem hj]
 rw [e1,e2,e3] at h
 exact h
def vmZ : eB:=⟨[],[],0,[],0,0,dL,0⟩
end
def aKK (m : eM) : Nat→eB→eB
 | 0,v=>v
 | n+1,v=>aKK m n (oT m v)
def lK (m : eM) (args : List bY) : eB:=⟨[aAp m.funcs 0 args],[],0,[],0,0,dL,0⟩
def qQ (m : eM) (args : List bY) : Bool:=aAe m&&(decide ((args.length : Int)=lI m.funcs 0)&&args.all (cA m.funcs.length 0))
def aJp (m : eM) (args : List bY) (fuel : Int) : Bool:=qQ m args&&lM fuel 0 50000
def aG5 (m : eM) (args : List bY) (fuel : Int) : eB:=if aJp m args fuel then aKK m fuel.toNat (lK m args) else vmZ
theorem aG6 {m : eM} {v : eB} (h : v.st≠0) : oT m v=v:=by unfold oT;rw [if_pos h]
theorem aIw {m : eM} {v : eB} (h : v.st≠0) : ∀ n,aKK m n v=v
 | 0=>rfl
 | n+1=>by rw [aKK,aG6 h,aIw h n]
theorem aLU {m : eM} {v : eB} {fs0 : List bV} (a : aDM) : (aFz m v fs0 a).steps=v.steps+1:=by
 cases a with
 | ret x=>simp only [aFz];split<;>rfl
 | _=>rfl
theorem aKL {m : eM} {v : eB} (hs : v.steps≤50000) : v.steps≤(oT m v).steps∧(oT m v).steps≤v.steps+1:=by
 unfold oT
 split
 ·omega
 ·split
  ·omega
  ·split
   ·omega
   ·rw [aLU];omega
section
variable {P : R → Prop} {k : R → Option R}
theorem aIx {m : eM} {args : List bY} (hs : m.sized) (h : qQ m args=true) : eN m∧VmI m (lK m args):=by
 simp only [qQ,Bool.and_eq_true,decide_eq_true_eq,List.all_eq_true] at h
 have g:=zL hs h.1
 obtain ⟨f1,f2,ff⟩:=g.fit
 have h0 : (0 : Int)≤0∧(0 : Int)<m.funcs.length:=by omega
 refine ⟨g,⟨by simp [lK],by simp [lK],by simp [lK]⟩,by simp [lK],by simp [lK],by simp [lK],λfs0 f hf=>?_⟩
 obtain ⟨rfl,rfl⟩:=aDT (a:=[]) (show []++[aAp m.funcs 0 args]=fs0++[f] from hf)
 exact ⟨aKD g h0 h.2.1 h.2.2,by simp⟩
end
section
variable {P : R → Prop} {k : R → Option R}
end
section
variable {P : R → Prop} {k : R → Option R}
end
def TC (a : ByteArray) : Prop:=a.data.toList.all chB=true
theorem aCY {a b : ByteArray} (ha : TC a) (hb : TC b) : TC (a++b):=by
 unfold TC at *
 rw [ByteArray.data_append,Array.toList_append,List.all_append,ha,hb];rfl
theorem aLV : ∀ n : Nat,n<10→TC (dig n):=by
 intro n h
 have : ∀ n : Fin 10,(dig (n.val : Int)).data.toList.all chB=true:=by decide
 exact this ⟨n,h⟩
theorem aMG : ∀ (j n : Nat),n<10 ^ (j+1)→TC (aA8 j n)
 | 0,n,h=>aLV n (by simpa using h)
 | j+1,n,h=>by
   unfold aA8
   split
   ·exact aLV n (by omega)
   ·have e1 : (n : Int) / 10=((n / 10 : Nat) : Int):=by omega
    have e2 : (n : Int) % 10=((n % 10 : Nat) : Int):=by omega
    rw [e1,e2]
    exact aCY (aMG j (n / 10) (by rw [Nat.pow_succ] at h;omega)) (aLV _ (by omega))
theorem aJq {n : Int} (h0 : 0≤n) (h : n≤1000000000) : TC (aA8 18 n):=by
 obtain ⟨k,rfl⟩:=Int.eq_ofNat_of_zero_le h0
 exact aMG 18 k (by omega)
theorem aEF {n : Int} (h : -1000000000≤n∧n≤1000000000) : TC (nX n):=by
 have m45 : TC (bs [45]):=by unfold TC;decide
 unfold nX
 split
 ·rename_i h1
  split
  ·refine aCY (aCY m45 (aJq ?_ ?_)) (aJq ?_ ?_)
   ·have:=Int.tdiv_eq_ediv_of_nonneg (a:=-n) (b:=10) (by omega)
    rw [Int.neg_tdiv] at this
    omega
   ·have:=Int.tdiv_eq_ediv_of_nonneg (a:=-n) (b:=10) (by omega)
    rw [Int.neg_tdiv] at this
    omega
   ·have:=Int.tmod_eq_emod_of_nonneg (a:=-n) (b:=10) (by omega)
    rw [Int.neg_tmod] at this
    omega
   ·have:=Int.tmod_eq_emod_of_nonneg (a:=-n) (b:=10) (by omega)
    rw [Int.neg_tmod] at this
    omega
  ·exact aCY m45 (aJq (by omega) (by omega))
 ·exact aJq (by omega) (by omega)
theorem aBk (n : Int) : (nX n).size≤50:=by
 unfold nX
 have:=λn=>hX 18 n
 split
 ·split
  ·have:=hX 18 (-(n.tdiv 10))
   have:=hX 18 (-(n.tmod 10))
   have e : (bs [45]).size=1:=rfl
   rw [ByteArray.size_append,ByteArray.size_append];omega
  ·have:=hX 18 (-n)
   have e : (bs [45]).size=1:=rfl
   rw [ByteArray.size_append];omega
 ·have:=hX 18 n
  omega
theorem aLW {nf : Int} {v : bY} {hp : List (List bY)} (hr : ∀ i : Nat,(hp[i]?.getD []).length≤6) (hf : nf≤1000) (h : cA nf hp.length v=true) : dA (lJ v hp)=true:=by
 have mk : ∀ s : ByteArray,s.size≤60→TC s→dA s=true:=λs h1 h2=>by
  unfold dA
  rw [decide_eq_true (by omega),h2];rfl
 have hn : (v.k=1→-1000000000≤v.n∧v.n≤1000000000)∧(v.k=5→0≤v.n∧v.n≤nf - 1):=by
  have hv:=h
  unfold cA at hv
  repeat' split at hv
  all_goals first
   | (cases hv;done)
   | (simp only [dF,bG,Bool.and_eq_true,decide_eq_true_eq] at hv;omega)
 unfold lJ
 split
 ·decide
 rename_i k0
 split
 ·rename_i k1
  exact mk _ (by have:=aBk v.n;omega) (aEF (hn.1 k1))
 rename_i k1
 split
 ·split<;>decide
 rename_i k2
 split
 ·rename_i k3
  exact aEB h k3
 rename_i k3
 split
 ·rename_i k5
  have h':=hn.2 k5
  refine mk _ ?_ (aCY (by unfold TC;decide) (aEF (by omega)))
  have:=aBk v.n
  have e : (bs [102,117,110]).size=3:=rfl
  rw [ByteArray.size_append];omega
 rename_i k5
 split
 ·have:=hr v.n.toNat
  refine mk _ ?_ (aCY (aCY (by unfold TC;decide) (aEF (by omega))) (by unfold TC;decide))
  have:=aBk ((hp[v.n.toNat]?.getD []).length : Int)
  have e : (bs [123]).size=1:=rfl
  have e' : (bs [125]).size=1:=rfl
  rw [ByteArray.size_append,ByteArray.size_append];omega
 ·decide
def aNE : aDM→Prop
 | .trap c=>1≤c∧c≤8
 | .next _ _ _ out=>∀ s∈out,dA s=true
 | _=>True
theorem aNF (o : Int) (a b : bY) : 0≤(aDF o a b).2∧(aDF o a b).2≤8:=by
 unfold aDF
 repeat' split
 all_goals simp
theorem aOw (o : Int) (a b : bY) : 0≤(yI o a b).2∧(yI o a b).2≤8:=by
 unfold yI
 repeat' split
 all_goals first
  | exact aNF _ _ _
  | simp
theorem aNG (a : bY) : 0≤(aCV a).2∧(aCV a).2≤8:=by
 unfold aCV
 split<;>simp
theorem ifk {c : Prop} [Decidable c] {a b : aDM} (h1 : c→aNE a) (h2 : ¬ c→aNE b) : aNE (if c then a else b):=by
 split
 ·exact h1 (by assumption)
 ·exact h2 (by assumption)
theorem aQD {m : eM} {fr : bV} {took : List bY} {depth : Nat} {hp : List (List bY)} {made : Int} {out : List ByteArray} {x : cG} (ho : ∀ s∈out,dA s=true) (ha : dA (lJ (took.headD dL) hp)=true) :
 aNE (qP m fr took depth hp made out x):=by
 have t : ∀ c : Int,1≤c→c≤8→aNE (.trap c):=λc h1 h2=>⟨h1,h2⟩
 unfold qP
 simp only
 repeat' (refine ifk (λ_=>?_) (λ_=>?_))
 all_goals first
  | exact ho
  | exact True.intro
  | exact t _ (by omega) (by omega)
  | (have:=aOw x.o (took.headD dL) (took.tail.headD dL);exact t _ (by omega) (by omega))
  | (have:=aNG (took.headD dL);exact t _ (by omega) (by omega))
  | (refine (?_ : ∀ s∈out++[_],dA s=true)
     intro s hs
     rcases List.mem_append.1 hs with hs | hs
     ·exact ho s hs
     ·rw [List.mem_singleton] at hs
      rw [hs];exact ha)
structure VmK (m : eM) (v : eB) : Prop extends VmI m v where
 outs : ∀ s∈v.out,dA s=true
 vok : kV m v.hp.length v.val
 end_ : (v.st=0∧v.tr=0∧v.val=dL)∨(v.st=2∧1≤v.tr∧v.tr≤8∧v.val=dL∧v.fr≠[])∨(v.st=1∧v.tr=0∧v.fr = [])
theorem VmK.step {m : eM} (g : eN m) {v : eB} (h : VmK m v) : VmK m (oT m v):=by
 by_cases h0 : v.st≠0
 ·rw [aG6 h0];exact h
 have h0 : v.st=0:=by omega
 by_cases h5 : v.steps=50000
 ·have : oT m v=v:=by unfold oT;rw [if_neg (by omega),if_pos h5]
  rw [this];exact h
 have I':=h.toVmI.step g
 obtain ⟨fs0,f,G⟩:=h.goes g h0
 obtain ⟨t,low⟩:=h.top fs0 f G.fr
 have hnf:=h.nfr
 rw [G.fr,List.length_append,List.length_singleton] at hnf
 have A:=aOp (fs0:=fs0) g h.toVmI t rfl hnf
 have K : aNE (aDP m v fs0 f):=by
  refine aQD h.outs (aLW (nf:=m.funcs.length) (λi=>(aJj h.hp i).1) (by have:=g.fit.2.1;omega) ?_)
  generalize hd : f.stk.drop (f.stk.length - (bX m.funcs (nH m.funcs f)).1.toNat)=D
  cases D with
  | nil=>exact nY
  | cons y r=>exact t.vs y (List.mem_of_mem_drop (by rw [hd];simp))
 obtain ⟨e1,e2⟩ : v.tr=0∧v.val=dL:=by
  rcases h.end_ with e | e | e
  ·exact e.2
  ·omega
  ·omega
 have hst:=aEz h0 h5 G.fr (m:=m)
 rw [hst] at I' ⊢
 cases ha : aDP m v fs0 f with
 | trap c=>
   rw [ha] at K I'
   exact ⟨I',h.outs,h.vok,.inr (.inl ⟨rfl,K.1,K.2,e2,by show v.fr≠[];rw [G.fr];simp⟩)⟩
 | next fr hp made out=>
   rw [ha] at K I' A
   have A : aKC m v f _ fr hp made out:=A
   exact ⟨I',K,rO (n:=v.hp.length) (by have:=A.n;show (v.hp.length : Int)≤hp.length;omega) h.vok,.inl ⟨h0,e1,e2⟩⟩
 | call fr gg=>
   rw [ha] at I'
   exact ⟨I',h.outs,h.vok,.inl ⟨h0,e1,e2⟩⟩
 | ret a=>
   rw [ha] at A I'
   have A : kV m v.hp.length a:=A
   by_cases hf : fs0 = []
   ·have e : aFz m v fs0 (.ret a)=⟨[],v.hp,v.made,v.out,1,v.tr,a,v.steps+1⟩:=if_pos hf
    rw [e] at I' ⊢
    exact ⟨I',h.outs,A,.inr (.inr ⟨rfl,e1,rfl⟩)⟩
   ·have e : aFz m v fs0 (.ret a)=⟨aFb a fs0,v.hp,v.made,v.out,v.st,v.tr,v.val,v.steps+1⟩:=if_neg hf
    rw [e] at I' ⊢
    exact ⟨I',h.outs,h.vok,.inl ⟨h0,e1,e2⟩⟩
theorem VmK.runs {m : eM} (g : eN m) : ∀ (n : Nat) {v : eB},VmK m v→VmK m (aKK m n v)
 | 0,_,h=>h
 | n+1,_,h=>VmK.runs g n (h.step g)
theorem aPz {m : eM} {args : List bY} (hs : m.sized) (h : qQ m args=true) : eN m∧VmK m (lK m args):=by
 obtain ⟨g,I⟩:=aIx hs h
 exact ⟨g,⟨I,λs hs=>(by cases hs),nY,.inl ⟨rfl,rfl,rfl⟩⟩⟩
def aG7 (m : eM) (v : eB) : R:=[.bool true,.lst (m.texts.map PV.str),.lst (m.funcs.map cY.pv),.lst (v.fr.map bV.pv),.lst (v.hp.map aR),.int .i64 v.made,.lst (v.out.map PV.str),.int .i64 v.st,.int .i64 v.tr,.int .i64 v.val.k,.int .i64 v.val.n,.str v.val.s,.int .i64 v.steps]
def aHV (m : eM) : PV:=.lst (m.funcs.map λf=>bI (kK m.funcs f.code))
section
variable {P : R → Prop} {k : R → Option R} {m : eM}
theorem eN.b (g : eN m) : aAe m=true:=by simp [aAe,g.ok,g.bad]
theorem aG8 (g : eN m) : Ok (λr=>r = [aHV m]) (yV m.pv):=by
 obtain ⟨f1,f2,ff⟩:=g.fit
 rw [aFm]
 refine aD rfl (aA rfl (aA rfl (aE ?_)))
 have loop : ∀ i,i≤m.funcs.length→Ok (λr=>r = [aHV m]) (lY (.int .i64 m.funcs.length) (.int .i64 i) (.lst (m.texts.map PV.str)) (.lst (m.funcs.map cY.pv)) (.lst ((m.funcs.take i).map λf=>bI (kK m.funcs f.code)))):=by
  refine cJ (n:=m.funcs.length) (F:=λi=>lY (.int .i64 m.funcs.length) (.int .i64 i) (.lst (m.texts.map PV.str)) (.lst (m.funcs.map cY.pv)) (.lst ((m.funcs.take i).map λf=>bI (kK m.funcs f.code)))) (P:=λ_ r=>r = [aHV m]) ?_ (λi hi ih=>?_)
  ·rw [uP,List.take_length]
   exact aH (aC (λh=>by omega) (λ_=>aB rfl))
  ·rw [uP]
   refine aH (aC (λ_=>?_) (λh=>by omega))
   refine aI (aBe (T:=(.lst (m.texts.map PV.str))) (ff _ (List.getElem_mem hi)).1 hi rfl) (λr hr=>?_)
   rw [hr]
   refine fF (by simp) (λx hx=>by simp only [hd,List.nil_append,List.mem_singleton] at hx;subst hx;rfl) (fF (by simp;omega) (λx hx=>by simp only [hd,List.nil_append,List.mem_singleton] at hx;subst hx;rfl) (aL (by omega) ?_))
   rw [List.take_add_one,List.getElem?_eq_getElem hi,Option.toList_some,List.map_append] at ih
   exact ih
 exact loop 0 (by omega)
theorem aKM {hp : List (List bY)} (hn : hp.length≤120) (hr : ∀ r∈hp,r.length≤6) : Ok (λr=>r = [.bool true]) (vR (.lst (hp.map aR))):=by
 have loop : ∀ i,i≤hp.length→Ok (λr=>r = [.int .i64 (-1)]) (bP (.lst (hp.map aR)) (.fn 164 []) (.int .i64 hp.length) (.int .i64 i)):=by
  refine cJ (n:=hp.length) (F:=λi=>bP (.lst (hp.map aR)) (.fn 164 []) (.int .i64 hp.length) (.int .i64 i)) (P:=λ_ r=>r = [.int .i64 (-1)]) ?_ (λi hi ih=>?_)
  ·rw [cT]
   exact aH (aC (λh=>by omega) (λ_=>aB rfl))
  ·rw [cT]
   refine aH (aC (λ_=>?_) (λh=>by omega))
   refine aK hi (λ_=>rfl) (tV (o:=wV (aR hp[i])) (Q:=λr=>r = [.bool false]) rfl ?_ (λr hr=>?_))
   ·rw [xY]
    have:=hr _ (List.getElem_mem hi)
    exact aD rfl (aA rfl (aX (cK (aB (by rw [decide_eq_false (by omega)])))))
   ·rw [hr]
    exact aT (aL (by omega) ih)
 rw [aAY]
 refine aE (eO (aC (λ_=>?_) (λh=>by omega)))
 refine aI (Q:=λr=>r = [.bool false]) ?_ (λr hr=>by rw [hr];exact bC (aB rfl))
 rw [gG]
 refine aI (Q:=λr=>r = [.int .i64 (-1)]) ?_ (λr hr=>by rw [hr];exact eZ (aB rfl))
 rw [hJ]
 exact aE (loop 0 (by omega))
theorem aLX {v : eB} {x : bY} (hf : m.funcs.length≤1000) (hh : v.hp.length≤1000) (hx : kV m v.hp.length x) : Ok (λr=>r=aG7 m v) (pP (.int .i64 x.k) (.int .i64 x.n) (.str x.s) (.bool true) (.lst (m.texts.map PV.str)) (.lst (m.funcs.map cY.pv)) (.lst (v.fr.map bV.pv)) (.lst (v.hp.map aR)) (.int .i64 v.made) (.lst (v.out.map PV.str)) (.int .i64 v.st) (.int .i64 v.tr) (.int .i64 v.val.k) (.int .i64 v.val.n) (.str v.val.s) (.int .i64 v.steps)):=by
 have hs:=bM hx
 rw [aA3]
 refine bB (aE (aE (aI (aGZ (v:=x) (nf:=m.funcs.length) (recs:=v.hp.length) (by omega) (by omega) (by omega)) (λr hr=>?_))))
 rw [hr,hx]
 exact aV rfl (aB rfl)
theorem aNH (g : eN m) {v : eB} (h : VmK m v) : Ok (λr=>r=aG7 m v) (qC (.lst (v.fr.map bV.pv)) (.lst (v.hp.map aR)) (.int .i64 v.made) (.lst (v.out.map PV.str)) (.int .i64 v.st) (.int .i64 v.tr) (.int .i64 v.val.k) (.int .i64 v.val.n) (.str v.val.s) (.int .i64 v.steps) (.bool true) (.lst (m.texts.map PV.str)) (.lst (m.funcs.map cY.pv)) (.lst (v.fr.map bV.pv)) (.lst (v.hp.map aR)) (.int .i64 v.made) (.lst (v.out.map PV.str)) (.int .i64 v.st) (.int .i64 v.tr) (.int .i64 v.val.k) (.int .i64 v.val.n) (.str v.val.s) (.int .i64 v.steps)):=by
 have hf:=g.fit.2.1
 have z:=h.toVmI.sz g
 have zf:=z.f
 have zh:=z.h
 have inv : ∀ f∈v.fr,(∀ y∈f.loc++f.stk,kV m v.hp.length y)∧(f.loc++f.stk).length≤2000:=λf hf=>by
  have:=z.fl f hf
  refine ⟨λy hy=>?_,by rw [List.length_append];omega⟩
  rcases List.eq_nil_or_concat v.fr with h0 | ⟨fs0,f0,h0⟩
  ·rw [h0] at hf;cases hf
  ·obtain ⟨t,l⟩:=h.top fs0 f0 (by rw [h0];simp)
   rw [h0] at hf
   simp only [List.concat_eq_append,List.mem_append,List.mem_singleton] at hf
   rcases hf with hf | rfl
   ·rcases List.mem_append.1 hy with hy | hy
    ·exact (l f hf).vl y hy
    ·exact (l f hf).vs y hy
   ·rcases List.mem_append.1 hy with hy | hy
    ·exact t.vl y hy
    ·exact t.vs y hy
 have last : Ok (λr=>r=aG7 m v) (dP (.lst (v.hp.map aR)) (.int .i64 v.hp.length) (.int .i64 v.hp.length) (.bool true) (.lst (m.texts.map PV.str)) (.lst (m.funcs.map cY.pv)) (.lst (v.fr.map bV.pv)) (.lst (v.hp.map aR)) (.int .i64 v.made) (.lst (v.out.map PV.str)) (.int .i64 v.st) (.int .i64 v.tr) (.int .i64 v.val.k) (.int .i64 v.val.n) (.str v.val.s) (.int .i64 v.steps) (.lst (v.fr.map bV.pv)) (.lst (v.hp.map aR)) (.int .i64 v.made) (.lst (v.out.map PV.str)) (.int .i64 v.st) (.int .i64 v.tr) (.int .i64 v.val.k) (.int .i64 v.val.n) (.str v.val.s) (.int .i64 v.steps)):=by
  rw [jJ]
  refine aH (aC (λh=>by omega) (λ_=>aI (aLX (by omega) zh h.vok) (λr hr=>?_)))
  rw [hr]
  exact aB rfl
 have heap : ∀ i,i≤v.hp.length→Ok (λr=>r=aG7 m v) (dP (.lst (v.hp.map aR)) (.int .i64 v.hp.length) (.int .i64 i) (.bool true) (.lst (m.texts.map PV.str)) (.lst (m.funcs.map cY.pv)) (.lst (v.fr.map bV.pv)) (.lst (v.hp.map aR)) (.int .i64 v.made) (.lst (v.out.map PV.str)) (.int .i64 v.st) (.int .i64 v.tr) (.int .i64 v.val.k) (.int .i64 v.val.n) (.str v.val.s) (.int .i64 v.steps) (.lst (v.fr.map bV.pv)) (.lst (v.hp.map aR)) (.int .i64 v.made) (.lst (v.out.map PV.str)) (.int .i64 v.st) (.int .i64 v.tr) (.int .i64 v.val.k) (.int .i64 v.val.n) (.str v.val.s) (.int .i64 v.steps)):=by
  refine cJ (n:=v.hp.length) (F:=λi=>dP (.lst (v.hp.map aR)) (.int .i64 v.hp.length) (.int .i64 i) (.bool true) (.lst (m.texts.map PV.str)) (.lst (m.funcs.map cY.pv)) (.lst (v.fr.map bV.pv)) (.lst (v.hp.map aR)) (.int .i64 v.made) (.lst (v.out.map PV.str)) (.int .i64 v.st) (.int .i64 v.tr) (.int .i64 v.val.k) (.int .i64 v.val.n) (.str v.val.s) (.int .i64 v.steps) (.lst (v.fr.map bV.pv)) (.lst (v.hp.map aR)) (.int .i64 v.made) (.lst (v.out.map PV.str)) (.int .i64 v.st) (.int .i64 v.tr) (.int .i64 v.val.k) (.int .i64 v.val.n) (.str v.val.s) (.int .i64 v.steps)) (P:=λ_ r=>r=aG7 m v) last (λi hi ih=>?_)
  obtain ⟨q1,q2⟩:=h.hp.recs _ (List.getElem_mem hi)
  rw [jJ]
  refine aH (aC (λ_=>?_) (λh=>by omega))
  refine aK hi (λ_=>rfl) (aD rfl (aA rfl (aX ?_)))
  have inner : ∀ j,j≤v.hp[i].length→Ok (λr=>r=aG7 m v) (fI (.lst (v.hp.map aR)) (.int .i64 v.hp.length) (.int .i64 i) (aS v.hp[i]) (.int .i64 v.hp[i].length) (.int .i64 j) (.bool true) (.lst (m.texts.map PV.str)) (.lst (m.funcs.map cY.pv)) (.lst (v.fr.map bV.pv)) (.lst (v.hp.map aR)) (.int .i64 v.made) (.lst (v.out.map PV.str)) (.int .i64 v.st) (.int .i64 v.tr) (.int .i64 v.val.k) (.int .i64 v.val.n) (.str v.val.s) (.int .i64 v.steps) (.lst (v.fr.map bV.pv)) (.lst (v.hp.map aR)) (.int .i64 v.made) (.lst (v.out.map PV.str)) (.int .i64 v.st) (.int .i64 v.tr) (.int .i64 v.val.k) (.int .i64 v.val.n) (.str v.val.s) (.int .i64 v.steps)):=by
   refine cJ (n:=v.hp[i].length) (F:=λj=>fI (.lst (v.hp.map aR)) (.int .i64 v.hp.length) (.int .i64 i) (aS v.hp[i]) (.int .i64 v.hp[i].length) (.int .i64 j) (.bool true) (.lst (m.texts.map PV.str)) (.lst (m.funcs.map cY.pv)) (.lst (v.fr.map bV.pv)) (.lst (v.hp.map aR)) (.int .i64 v.made) (.lst (v.out.map PV.str)) (.int .i64 v.st) (.int .i64 v.tr) (.int .i64 v.val.k) (.int .i64 v.val.n) (.str v.val.s) (.int .i64 v.steps) (.lst (v.fr.map bV.pv)) (.lst (v.hp.map aR)) (.int .i64 v.made) (.lst (v.out.map PV.str)) (.int .i64 v.st) (.int .i64 v.tr) (.int .i64 v.val.k) (.int .i64 v.val.n) (.str v.val.s) (.int .i64 v.steps)) (P:=λ_ r=>r=aG7 m v) ?_ (λj hj ih'=>?_)
   ·rw [jK]
    exact aH (aC (λh=>by omega) (λ_=>aL (by omega) ih))
   ·rw [jK]
    refine aH (aC (λ_=>?_) (λh=>by omega))
    refine aK hj (λ_=>rfl) (aD rfl (aA rfl (aA rfl (aA rfl (aI (aLX (by omega) zh (q2 _ (List.getElem_mem hj))) (λr hr=>?_))))))
    rw [hr]
    exact aL (by omega) ih'
  exact inner 0 (by omega)
 have frames : ∀ i,i≤v.fr.length→Ok (λr=>r=aG7 m v) (fU (.lst (v.fr.map bV.pv)) (.int .i64 v.fr.length) (.int .i64 i) (.bool true) (.lst (m.texts.map PV.str)) (.lst (m.funcs.map cY.pv)) (.lst (v.fr.map bV.pv)) (.lst (v.hp.map aR)) (.int .i64 v.made) (.lst (v.out.map PV.str)) (.int .i64 v.st) (.int .i64 v.tr) (.int .i64 v.val.k) (.int .i64 v.val.n) (.str v.val.s) (.int .i64 v.steps) (.lst (v.fr.map bV.pv)) (.lst (v.hp.map aR)) (.int .i64 v.made) (.lst (v.out.map PV.str)) (.int .i64 v.st) (.int .i64 v.tr) (.int .i64 v.val.k) (.int .i64 v.val.n) (.str v.val.s) (.int .i64 v.steps)):=by
  refine cJ (n:=v.fr.length) (F:=λi=>fU (.lst (v.fr.map bV.pv)) (.int .i64 v.fr.length) (.int .i64 i) (.bool true) (.lst (m.texts.map PV.str)) (.lst (m.funcs.map cY.pv)) (.lst (v.fr.map bV.pv)) (.lst (v.hp.map aR)) (.int .i64 v.made) (.lst (v.out.map PV.str)) (.int .i64 v.st) (.int .i64 v.tr) (.int .i64 v.val.k) (.int .i64 v.val.n) (.str v.val.s) (.int .i64 v.steps) (.lst (v.fr.map bV.pv)) (.lst (v.hp.map aR)) (.int .i64 v.made) (.lst (v.out.map PV.str)) (.int .i64 v.st) (.int .i64 v.tr) (.int .i64 v.val.k) (.int .i64 v.val.n) (.str v.val.s) (.int .i64 v.steps)) (P:=λ_ r=>r=aG7 m v) ?_ (λi hi ih=>?_)
  ·rw [kE]
   exact aH (aC (λh=>by omega) (λ_=>aE (heap 0 (by omega))))
  obtain ⟨q2,q1⟩:=inv _ (List.getElem_mem hi)
  have zz:=z.fl _ (List.getElem_mem hi)
  rw [kE]
  refine aH (aC (λ_=>?_) (λh=>by omega))
  refine aK hi (λ_=>rfl) (aD rfl (aA rfl (aA rfl (aA rfl (aA rfl ?_)))))
  refine fF (by simp) (λx hx=>by simp only [List.nil_append,List.mem_cons,List.not_mem_nil,or_false] at hx;rcases hx with rfl | rfl<;>rfl) ?_
  refine aMz (by omega) (by omega) (kH (pH _) (aX ?_))
  generalize hl : v.fr[i].loc++v.fr[i].stk=l at q1 q2
  have inner : ∀ j,j≤l.length→Ok (λr=>r=aG7 m v) (fV (.lst (v.fr.map bV.pv)) (.int .i64 v.fr.length) (.int .i64 i) (.int .i64 l.length) (.int .i64 j) (.bool true) (.lst (m.texts.map PV.str)) (.lst (m.funcs.map cY.pv)) (.lst (v.fr.map bV.pv)) (.lst (v.hp.map aR)) (.int .i64 v.made) (.lst (v.out.map PV.str)) (.int .i64 v.st) (.int .i64 v.tr) (.int .i64 v.val.k) (.int .i64 v.val.n) (.str v.val.s) (.int .i64 v.steps) (.lst (v.fr.map bV.pv)) (.lst (v.hp.map aR)) (.int .i64 v.made) (.lst (v.out.map PV.str)) (.int .i64 v.st) (.int .i64 v.tr) (.int .i64 v.val.k) (.int .i64 v.val.n) (.str v.val.s) (.int .i64 v.steps) (aS l)):=by
   refine cJ (n:=l.length) (F:=λj=>fV (.lst (v.fr.map bV.pv)) (.int .i64 v.fr.length) (.int .i64 i) (.int .i64 l.length) (.int .i64 j) (.bool true) (.lst (m.texts.map PV.str)) (.lst (m.funcs.map cY.pv)) (.lst (v.fr.map bV.pv)) (.lst (v.hp.map aR)) (.int .i64 v.made) (.lst (v.out.map PV.str)) (.int .i64 v.st) (.int .i64 v.tr) (.int .i64 v.val.k) (.int .i64 v.val.n) (.str v.val.s) (.int .i64 v.steps) (.lst (v.fr.map bV.pv)) (.lst (v.hp.map aR)) (.int .i64 v.made) (.lst (v.out.map PV.str)) (.int .i64 v.st) (.int .i64 v.tr) (.int .i64 v.val.k) (.int .i64 v.val.n) (.str v.val.s) (.int .i64 v.steps) (aS l)) (P:=λ_ r=>r=aG7 m v) ?_ (λj hj ih'=>?_)
   ·rw [kF]
    exact aH (aC (λh=>by omega) (λ_=>aL (by omega) ih))
   ·rw [kF]
    refine aH (aC (λ_=>?_) (λh=>by omega))
    refine iT (by omega) (by omega) (aK hj (λ_=>rfl) (aD rfl (aA rfl (aA rfl (aA rfl (aI (aLX (by omega) zh (q2 _ (List.getElem_mem hj))) (λr hr=>?_)))))))
    rw [hr]
    exact aL (by omega) ih'
  exact inner 0 (by omega)
 rw [wG]
 exact aE (frames 0 (by omega))
end
section
variable {P : R → Prop} {m : eM}
theorem xM {k : PV→Option R} {f : Int} (hf : 0≤f∧f<m.funcs.length) (h : Ok P (k (bI (kK m.funcs (dB m.funcs f))))) : Ok P (bd (PV.at_ 1 false (aHV m) (.int .i64 f)) k):=by
 obtain ⟨i,rfl⟩:=Int.eq_ofNat_of_zero_le hf.1
 have hi : i<m.funcs.length:=by omega
 have : dB m.funcs i=m.funcs[i].code:=by simp [dB,List.getElem?_eq_getElem hi]
 rw [this] at h
 exact aK hi (λ_=>rfl) h
theorem hY (g : eN m) {k : PV→Option R} {f pc : Int} (hf : 0≤f∧f<m.funcs.length) (hp : 0≤pc∧pc<(dB m.funcs f).length) (h : Ok P (k (.int .i64 (dAt m f pc)))) :
 Ok P (bd (PV.at_ 1 false (bI (kK m.funcs (dB m.funcs f))) (.int .i64 pc)) k):=by
 obtain ⟨i,hi,he,hc,F,_⟩:=g.code hf
 have hl : (kK m.funcs (dB m.funcs f)).length=(dB m.funcs f).length:=by rw [hc];exact (zG F).1
 refine nG hp.1 (by omega) (λx hx=>?_)
 have : dAt m f pc=x:=by unfold dAt;rw [hx];rfl
 rw [← this];exact h
theorem aOx (g : eN m) {n : Int} {f : bV} {top : Bool} (h : FrI m n f) (h1 : top=true→aHS m n f) (h2 : top=false→aFB m n f) :
 Ok (λr=>r = [.bool true]) (tG m.pv (aHV m) (.int .i64 f.f) (.int .i64 f.pc) (.int .i64 f.loc.length) (.int .i64 f.stk.length) (.bool top)):=by
 obtain ⟨hf,hpc,hloc,hd,_,_⟩:=h
 obtain ⟨f1,f2,ff⟩:=g.fit
 obtain ⟨i,hi,he,hc,F,_⟩:=g.code hf
 have nc:=F.n2
 rw [← hc] at nc
 rw [aAd]
 refine aD rfl (aA rfl (aA rfl (aE (gT (by omega) ?_))))
 rw [bG.2 (show 0≤f.f∧f.f≤(m.funcs.length : Int) - 1 by omega)]
 refine bC (aT (aLP hf.1 hf.2 (λfn hfn=>aA rfl (bQ (aO (λh=>?_) (λ_=>?_))))))
 ·exact absurd (by rw [hloc];unfold aDN;rw [hfn];rfl) h
 refine aLP hf.1 hf.2 (λfn' hfn'=>aA rfl (aE ?_))
 have hcf : dB m.funcs f.f=fn'.code:=by unfold dB;rw [hfn'];rfl
 rw [← hcf]
 refine gT (by omega) ?_
 rw [bG.2 (show 0≤f.pc∧f.pc≤((dB m.funcs f.f).length : Int) - 1 by omega)]
 refine bC (aT (xM hf (hY g hf hpc (aH (aC (λh=>by omega) (λ_=>?_))))))
 cases top with
 | true=>
   have t:=(h1 rfl).h
   refine bB (xM hf (hY g hf hpc (aG (aB ?_))))
   rw [decide_eq_true t]
 | false=>
   have l:=(h2 rfl).h
   obtain ⟨l1,l2,l3⟩:=(h2 rfl).low
   refine aT (aG (aC (λh=>by omega) (λ_=>xM hf (bE (by omega) (hY g hf (by omega) (aH (aC (λh=>by omega) (λ_=>?_))))))))
   refine aLP hf.1 hf.2 (λfn2 hfn2=>aA rfl (bE (by omega) ?_))
   have hcf2 : dB m.funcs f.f=fn2.code:=by unfold dB;rw [hfn2];rfl
   have hin : (fn2.code.map cG.pv)[(f.pc - 1).toNat]? = some (sK m f.f (f.pc - 1)).pv:=by
    rw [List.getElem?_map,← hcf2]
    unfold sK
    rw [List.getElem?_eq_getElem (by omega)];rfl
   refine rA (by omega) hin rfl (aA rfl (aG (aC (λ_=>?_) (λh=>aG (aC (λ_=>?_) (λh=>by omega))))))
   ·refine xM hf (hY g hf hpc (bE (by have:=(h2 rfl).toFrI.dle g;omega) (aG (aB ?_))))
    rw [decide_eq_true l]
   ·refine xM hf (hY g hf hpc (bE (by have:=(h2 rfl).toFrI.dle g;omega) (aG (aB ?_))))
    rw [decide_eq_true l]
theorem aNI : jL dL.s dL.s=true:=aGT _
theorem aKN (g : eN m) {v : eB} (h : VmK m v) : ∀ i,i≤v.fr.length→Ok (λr=>r = [.bool true]) (jV (aHV m) (.lst (v.fr.map bV.pv)) (.int .i64 v.fr.length) (.int .i64 i) (.lst (m.texts.map PV.str)) (.lst (m.funcs.map cY.pv)) (.lst (v.fr.map bV.pv)) (.lst (v.hp.map aR)) (.int .i64 v.made) (.lst (v.out.map PV.str)) (.int .i64 v.st) (.int .i64 v.tr) (.int .i64 v.val.k) (.int .i64 v.val.n) (.str v.val.s) (.int .i64 v.steps) (.bool true)):=by
 have z:=h.toVmI.sz g
 have zf:=z.f
 refine cJ (n:=v.fr.length) (F:=λi=>jV (aHV m) (.lst (v.fr.map bV.pv)) (.int .i64 v.fr.length) (.int .i64 i) (.lst (m.texts.map PV.str)) (.lst (m.funcs.map cY.pv)) (.lst (v.fr.map bV.pv)) (.lst (v.hp.map aR)) (.int .i64 v.made) (.lst (v.out.map PV.str)) (.int .i64 v.st) (.int .i64 v.tr) (.int .i64 v.val.k) (.int .i64 v.val.n) (.str v.val.s) (.int .i64 v.steps) (.bool true)) (P:=λ_ r=>r = [.bool true]) ?_ (λi hi ih=>?_)
 ·rw [pB]
  have hn:=h.nfr
  refine aH (aC (λh=>by omega) (λ_=>aE (fC (vA (λh1=>?_) (λh1=>?_)))))
  ·have hne : v.fr≠[]:=λe=>by rw [e] at h1;simp at h1
   have key : ∀ {k : PV→Option R},v.val=dL→Ok (λr=>r = [.bool true]) (k (.bool true))→Ok (λr=>r = [.bool true]) (bd (PV.ceq [1,1,2] .eql (.agg [.int .i64 v.val.k,.int .i64 v.val.n,.str v.val.s]) (.agg [(.int .i64 0),(.int .i64 0),(.str (bs []))])) k):=λe hk=>by
    refine aJi (a:=v.val) (b:=dL) ?_
    rw [e,decide_eq_true rfl,decide_eq_true rfl,aNI]
    exact hk
   rcases h.end_ with e | e | e
   ·refine key e.2.2 (aG ?_)
    rw [decide_eq_true e.1]
    refine bB (bB (bB (aG (aB ?_))))
    rw [decide_eq_true e.2.1]
   ·refine key e.2.2.2.1 (aG ?_)
    rw [decide_eq_false (by omega)]
    refine aT (aG ?_)
    rw [decide_eq_true e.1]
    refine bB (bB (bB (fC (aB ?_))))
    rw [bG.2 (by omega)];rfl
   ·exact absurd e.2.2 hne
  ·have he : v.fr = []:=by
    cases hq : v.fr with
    | nil=>rfl
    | cons a l=>exfalso;rw [hq] at h1 hn;simp at h1 hn;omega
   rcases h.end_ with e | e | e
   ·exact absurd he (h.run e.1)
   ·exact absurd he e.2.2.2.2
   ·refine aG ?_
    rw [decide_eq_false (by omega)]
    refine aT (aG ?_)
    rw [decide_eq_false (by omega)]
    refine aT (aG ?_)
    rw [decide_eq_true e.1]
    refine bB (bB (aE (aG ?_)))
    rw [he,decide_eq_true (show ((([] : List bV).length : Nat) : Int)=0 from rfl)]
    refine bB (aG (aB ?_))
    rw [decide_eq_true e.2.1]
 ·rw [pB]
  refine aH (aC (λ_=>?_) (λh=>by omega))
  refine aK hi (λ_=>rfl) (aD rfl (aA rfl (aA rfl (aA rfl (aA rfl (bB (aX (aX (aE (bE (by omega) (aG ?_)))))))))))
  rcases List.eq_nil_or_concat v.fr with e | ⟨fs0,f,e⟩
  ·rw [e] at hi;simp at hi
  rw [List.concat_eq_append] at e
  obtain ⟨t,l⟩:=h.top fs0 f e
  have hlen : v.fr.length=fs0.length+1:=by rw [e];simp
  have fr : (i : Int)=(v.fr.length : Int) - 1→v.fr[i]=f:=λh=>by
   have : i=fs0.length:=by omega
   subst this
   simp [e]
  have lo : ¬ (i : Int)=(v.fr.length : Int) - 1→v.fr[i]∈fs0:=λh=>by
   have hi' : i<fs0.length:=by omega
   have : v.fr[i]=fs0[i]:=by simp only [e];exact List.getElem_append_left hi'
   rw [this];exact List.getElem_mem hi'
  refine aI (aOx g (n:=v.hp.length) (f:=v.fr[i]) ?_ (λht=>?_) (λht=>?_)) (λr hr=>?_)
  ·by_cases hc : (i : Int)=(v.fr.length : Int) - 1
   ·rw [fr hc];exact t.toFrI
   ·exact (l _ (lo hc)).toFrI
  ·rw [fr (of_decide_eq_true ht)];exact t
  ·exact l _ (lo (of_decide_eq_false ht))
  ·rw [hr]
   exact aV rfl (aL (by omega) ih)
theorem aJr (g : eN m) {v : eB} (h : VmK m v) : Ok (λr=>r = [.bool true]) (pM m.pv v.pv):=by
 have z:=h.toVmI.sz g
 have hm:=h.hp.made
 have ho:=h.hp.out
 have hst:=h.steps
 rw [aDr]
 refine aD rfl (aA rfl (aA rfl (aD rfl (aA rfl (aA rfl (aA rfl (aA rfl (aA rfl (aA rfl (aA rfl (aA rfl (aA rfl (aA rfl (aKI g.sz ?_))))))))))))))
 rw [g.b]
 refine bB (aI (aG8 g) (λr hr=>?_))
 rw [hr]
 refine aI (Q:=λr=>r = [.bool true]) ?_ (λr hr=>by rw [hr];exact aB rfl)
 rw [aDt]
 refine aD rfl (aA rfl (aA rfl (aD rfl (aA rfl (aA rfl (aA rfl (aA rfl (aA rfl (aA rfl (aA rfl (aA rfl (aA rfl (aA rfl ?_)))))))))))))
 refine aI (aKM (by omega) (λr hr=>(h.hp.recs r hr).1)) (λr hr=>?_)
 rw [hr]
 refine bC (aT (aE (fC ?_)))
 rw [bG.2 hm]
 refine bC (aT (aE (cK (aC (λh=>by omega) (λ_=>fC ?_)))))
 rw [bG.2 hst]
 refine bC (aT (aEv (by omega) (λs=>!dA s) (λx hx=>?_) ?_))
 ·show Ok _ (aAR _)
  rw [aAZ]
  have ht:=h.outs x hx
  refine aI (aBA (s:=x) (by simp only [dA,Bool.and_eq_true,decide_eq_true_eq] at ht;omega)) (λr hr=>?_)
  rw [hr]
  exact bC (aB rfl)
 ·have : v.out.any (λs=>!dA s)=false:=by
   rw [List.any_eq_false]
   intro s hs
   rw [h.outs s hs];simp
  rw [this]
  refine aT (aI (aNH g h) (λr hr=>?_))
  rw [hr]
  exact aE (aKN g h 0 (by omega))
end
section
variable {P : R → Prop} {m : eM}
theorem aBl (g : eN m) {l : List bY} {n : Nat} (hl : l.length≤1000) (h : ∀ y∈l,kV m n y) : Ok (λr=>r = [.bool true]) (lC m.pv (aS l) (.int .i64 n)):=by
 have hf:=g.fit.2.1
 rw [wA]
 refine aD rfl (aA rfl (aA rfl ?_))
 refine cJ (n:=l.length) (F:=λi=>jW (aS l) (.int .i64 n) (.int .i64 i) (.lst (m.texts.map PV.str)) (.lst (m.funcs.map cY.pv))) (P:=λ_ r=>r = [.bool true]) ?_ (λi hi ih=>?_) 0 (by omega)
 ·rw [kB]
  exact aX (aH (aC (λh=>by omega) (λ_=>aB rfl)))
 ·rw [kB]
  have hv:=h _ (List.getElem_mem hi)
  have hs:=bM hv
  refine aX (aH (aC (λ_=>?_) (λh=>by omega)))
  refine aK hi (λ_=>rfl) (aI (vB (T:=(.lst (m.texts.map PV.str))) (fs:=m.funcs) (v:=l[i]) (recs:=n) (by omega) (by omega)) (λr hr=>?_))
  rw [hr,hv]
  exact bC (aT (aL (by omega) ih))
theorem aNJ (g : eN m) {n : Nat} {f : bV} {top : Bool} (h : FrI m n f) (hs : f.loc.length≤1000∧f.stk.length≤1000) (h1 : top=true→aHS m n f) (h2 : top=false→aFB m n f) :
 Ok (λr=>r = [.bool true]) (oW m.pv f.pv (.int .i64 n) (.bool top)):=by
 obtain ⟨hf,hpc,hloc,hd,hvl,hvs⟩:=h
 obtain ⟨f1,f2,ff⟩:=g.fit
 obtain ⟨i,hi,he,hc,F,_⟩:=g.code hf
 have nc:=F.n2
 rw [← hc] at nc
 have hdep : Ok (λr=>r = [bI (kK m.funcs (dB m.funcs f.f))]) (lE m.pv (.int .i64 f.f)):=by
  rw [hc,he]
  exact aBb F hi rfl
 rw [uT]
 refine aD rfl (aA rfl (aA rfl (aD rfl (aA rfl (aA rfl (aA rfl (aA rfl (aE (bE (by omega) (dS ?_))))))))))
 rw [bG.2 (show 0≤f.f∧f.f≤(m.funcs.length : Int) - 1 by omega)]
 refine bC (aT (rR hf (aD rfl (aA rfl (aA rfl (aA rfl (aI hdep (λr hr=>?_))))))))
 rw [hr]
 refine aX (bQ (aO (λh=>absurd hloc h) (λ_=>aE (bE (by omega) (dS ?_)))))
 rw [bG.2 (show 0≤f.pc∧f.pc≤((dB m.funcs f.f).length : Int) - 1 by omega)]
 refine bC (aT (hY g hf hpc (aH (aC (λh=>by omega) (λ_=>aI (aBl g hs.1 hvl) (λr hr=>?_))))))
 rw [hr]
 refine bC (aT (aI (aBl g hs.2 hvs) (λr hr=>?_)))
 rw [hr]
 refine bC (aT ?_)
 cases top with
 | true=>
   have t:=(h1 rfl).h
   refine bB (aX (hY g hf hpc (aG (aB ?_))))
   rw [decide_eq_true t]
 | false=>
   have l:=(h2 rfl).h
   have dl:=(h2 rfl).toFrI.dle g
   obtain ⟨l1,l2,l3⟩:=(h2 rfl).low
   refine aT (aH (aC (λh=>by omega) (λ_=>bE (by omega) (hY g hf (by omega) (aH (aC (λh=>by omega) (λ_=>bE (by omega) ?_)))))))
   have hin : ((dB m.funcs f.f).map cG.pv)[(f.pc - 1).toNat]? = some (sK m f.f (f.pc - 1)).pv:=by
    rw [List.getElem?_map]
    unfold sK
    rw [List.getElem?_eq_getElem (by omega)];rfl
   refine rA (by omega) hin rfl (aA rfl (aG (aC (λ_=>?_) (λh=>aG (aC (λ_=>?_) (λh=>by omega))))))
   ·refine aX (hY g hf hpc (bE (by omega) (aG (aB ?_))))
    rw [decide_eq_true l]
   ·refine aX (hY g hf hpc (bE (by omega) (aG (aB ?_))))
    rw [decide_eq_true l]
theorem aIy {v : bY} {k : PV→Option R} (e : v=dL) (h : Ok P (k (.bool false))) : Ok P (bd (PV.ceq [1,1,2] .neq (.agg [.int .i64 v.k,.int .i64 v.n,.str v.s]) (.agg [(.int .i64 0),(.int .i64 0),(.str (bs []))])) k):=by
 subst e
 exact dM _ (by simp [PV.ceq,PV.eqCells,PV.eqScalar,PV.eqOr,dL]) h
theorem aLY (g : eN m) {v : eB} (h : VmK m v) : Ok (λr=>r = [.bool true]) (bO (.int .i64 v.hp.length) (.int .i64 0) (.lst (m.texts.map PV.str)) (.lst (m.funcs.map cY.pv)) (.lst (v.fr.map bV.pv)) (.lst (v.hp.map aR)) (.int .i64 v.made) (.lst (v.out.map PV.str)) (.int .i64 v.st) (.int .i64 v.tr) (.int .i64 v.val.k) (.int .i64 v.val.n) (.str v.val.s) (.int .i64 v.steps)):=by
 have z:=h.toVmI.sz g
 have zf:=z.f
 refine cJ (n:=v.fr.length) (F:=λi=>bO (.int .i64 v.hp.length) (.int .i64 i) (.lst (m.texts.map PV.str)) (.lst (m.funcs.map cY.pv)) (.lst (v.fr.map bV.pv)) (.lst (v.hp.map aR)) (.int .i64 v.made) (.lst (v.out.map PV.str)) (.int .i64 v.st) (.int .i64 v.tr) (.int .i64 v.val.k) (.int .i64 v.val.n) (.str v.val.s) (.int .i64 v.steps)) (P:=λ_ r=>r = [.bool true]) ?_ (λi hi ih=>?_) 0 (by omega)
 ·rw [kT]
  exact aE (aH (aC (λh=>by omega) (λ_=>aB rfl)))
 ·rw [kT]
  refine aE (aH (aC (λ_=>?_) (λh=>by omega)))
  refine aK hi (λ_=>rfl) (aE (bE (by omega) (aG ?_)))
  rcases List.eq_nil_or_concat v.fr with e | ⟨fs0,f,e⟩
  ·rw [e] at hi;simp at hi
  rw [List.concat_eq_append] at e
  obtain ⟨t,l⟩:=h.top fs0 f e
  have hlen : v.fr.length=fs0.length+1:=by rw [e];simp
  have fr : (i : Int)=(v.fr.length : Int) - 1→v.fr[i]=f:=λh=>by
   have : i=fs0.length:=by omega
   subst this
   simp [e]
  have lo : ¬ (i : Int)=(v.fr.length : Int) - 1→v.fr[i]∈fs0:=λh=>by
   have hi' : i<fs0.length:=by omega
   have : v.fr[i]=fs0[i]:=by simp only [e];exact List.getElem_append_left hi'
   rw [this];exact List.getElem_mem hi'
  refine aI (aNJ g (n:=v.hp.length) (f:=v.fr[i]) ?_ (z.fl _ (List.getElem_mem hi)) (λht=>?_) (λht=>?_)) (λr hr=>?_)
  ·by_cases hc : (i : Int)=(v.fr.length : Int) - 1
   ·rw [fr hc];exact t.toFrI
   ·exact (l _ (lo hc)).toFrI
  ·rw [fr (of_decide_eq_true ht)];exact t
  ·exact l _ (lo (of_decide_eq_false ht))
  ·rw [hr]
   exact bC (aT (aL (by omega) ih))
theorem aJs (g : eN m) {v : eB} (h : VmK m v) : Ok (λr=>r = [.bool true]) (rG m.pv v.pv):=by
 have z:=h.toVmI.sz g
 have zf:=z.f
 have hm:=h.hp.made
 have ho:=h.hp.out
 have hst:=h.steps
 have hfn:=g.fit.2.1
 have hnf:=h.nfr
 have hvs:=bM h.vok
 have frames:=aLY g h
 rw [aDq]
 refine aD rfl (aA rfl (aA rfl ?_))
 refine aD rfl (aA rfl (aA rfl (aA rfl (aA rfl (aA rfl (aA rfl (aA rfl (aA rfl (aA rfl (aA rfl (?_)))))))))))
 refine aFM g.sz ?_
 rw [g.b]
 refine bB (aI (Q:=λr=>r = [.bool true]) ?_ (λr hr=>by rw [hr];exact aB rfl))
 rw [aAc]
 refine aD rfl (aA rfl (aA rfl ?_))
 refine aD rfl (aA rfl (aA rfl (aA rfl (aA rfl (aA rfl (aA rfl (aA rfl (aA rfl (aA rfl (aA rfl (?_)))))))))))
 refine aE (cK (aC (λh=>by omega) (λ_=>dS ?_)))
 rw [bG.2 hm]
 refine bC (aT (aE (cK (aC (λh=>by omega) (λ_=>dS ?_)))))
 rw [bG.2 hst]
 refine bC (aT (aI (vB (T:=(.lst (m.texts.map PV.str))) (fs:=m.funcs) (v:=v.val) (recs:=v.hp.length) (by omega) (by omega)) (λr hr=>?_)))
 rw [hr,h.vok]
 refine bC (aT ?_)
 have tail : Ok (λr=>r = [.bool true]) (fK (.int .i64 v.hp.length) (.int .i64 0) (.lst (m.texts.map PV.str)) (.lst (m.funcs.map cY.pv)) (.lst (v.fr.map bV.pv)) (.lst (v.hp.map aR)) (.int .i64 v.made) (.lst (v.out.map PV.str)) (.int .i64 v.st) (.int .i64 v.tr) (.int .i64 v.val.k) (.int .i64 v.val.n) (.str v.val.s) (.int .i64 v.steps)):=by
  refine cJ (n:=v.out.length) (F:=λi=>fK (.int .i64 v.hp.length) (.int .i64 i) (.lst (m.texts.map PV.str)) (.lst (m.funcs.map cY.pv)) (.lst (v.fr.map bV.pv)) (.lst (v.hp.map aR)) (.int .i64 v.made) (.lst (v.out.map PV.str)) (.int .i64 v.st) (.int .i64 v.tr) (.int .i64 v.val.k) (.int .i64 v.val.n) (.str v.val.s) (.int .i64 v.steps)) (P:=λ_ r=>r = [.bool true]) ?_ (λi hi ih=>?_) 0 (by omega)
  ·rw [kS]
   refine aE (aH (aC (λh=>by omega) (λ_=>?_)))
   have some_ : v.fr≠[]→1≤(v.fr.length : Int)∧(v.fr.length : Int)≤24:=λhne=>by
    have : v.fr.length≠0:=λe=>hne (List.length_eq_zero_iff.1 e)
    omega
   rcases h.end_ with e | e | e
   ·refine aG (aC (λh=>by omega) (λ_=>bQ (aO (λh=>absurd e.1 h) (λ_=>aIy e.2.2 (aT (aE (dS ?_)))))))
    rw [bG.2 (some_ (h.run e.1))]
    refine bC (aT (aG (aC (λ_=>bQ (aO (λh=>absurd e.2.1 h) (λ_=>aG (aC (λh=>by omega) (λ_=>frames))))) (λh=>absurd e.1 h))))
   ·refine aG (aC (λh=>by omega) (λ_=>bQ (aO (λ_=>bQ (aO (λh=>absurd e.1 h) (λ_=>aIy e.2.2.2.1 (aT (aE (dS ?_)))))) (λh=>by omega))))
    rw [bG.2 (some_ e.2.2.2.2)]
    refine bC (aT (aG (aC (λh=>by omega) (λ_=>aG (aC (λ_=>dS ?_) (λh=>absurd e.1 h))))))
    rw [bG.2 (show 1≤v.tr∧v.tr≤8 by omega)]
    exact bC (aT frames)
   ·have hz : (v.fr.length : Int)=0:=by rw [e.2.2];rfl
    refine aG (aC (λ_=>aE (aG (aC (λ_=>aG (aB ?_)) (λh=>absurd hz h)))) (λh=>absurd e.1 h))
    rw [decide_eq_true e.2.1]
  ·rw [kS]
   have ht:=h.outs _ (List.getElem_mem hi)
   refine aE (aH (aC (λ_=>?_) (λh=>by omega)))
   refine aK hi (λ_=>rfl) (aFH (s:=v.out[i]) (by have:=ht;simp only [dA,Bool.and_eq_true,decide_eq_true_eq] at this;omega) ?_)
   rw [ht]
   exact bC (aT (aL (by omega) ih))
 refine cJ (n:=v.hp.length) (F:=λi=>jO (.int .i64 v.hp.length) (.int .i64 i) (.lst (m.texts.map PV.str)) (.lst (m.funcs.map cY.pv)) (.lst (v.fr.map bV.pv)) (.lst (v.hp.map aR)) (.int .i64 v.made) (.lst (v.out.map PV.str)) (.int .i64 v.st) (.int .i64 v.tr) (.int .i64 v.val.k) (.int .i64 v.val.n) (.str v.val.s) (.int .i64 v.steps)) (P:=λ_ r=>r = [.bool true]) ?_ (λi hi ih=>?_) 0 (by omega)
 ·rw [lT]
  exact aH (aC (λh=>by omega) (λ_=>tail))
 ·rw [lT]
  obtain ⟨q1,q2⟩:=h.hp.recs _ (List.getElem_mem hi)
  refine aH (aC (λ_=>?_) (λh=>by omega))
  refine aK hi (λ_=>rfl) (aA rfl (aX (cK (aC (λh=>by omega) (λ_=>?_)))))
  refine aK hi (λ_=>rfl) (aA rfl (aI (aBl g (l:=v.hp[i]) (n:=v.hp.length) (by omega) q2) (λr hr=>?_)))
  rw [hr]
  exact bC (aT (aL (by omega) ih))
end
section
variable {P : R → Prop} {k : PV → Option R} {kk : IntKind} {a b : List PV} {x v : PV} {n : Int} {s : Nat} {g : Bool}
theorem aPA (a : List PV) (x y : PV) (b : List PV) : (a++x::b).set a.length y=a++y::b:=by
 induction a with
 | nil=>rfl
 | cons c r ih=>simp [ih]
theorem iA (hn : n=a.length) (he : x.isEl s g=true) (h : Ok P (k x)) : Ok P (bd (PV.at_ s g (.lst (a++x::b)) (.int kk n)) k):=
 rA (by omega) (by rw [hn,Int.toNat_natCast];simp) he h
theorem nJ (hn : n=a.length) (h : Ok P (k (.lst (a++x::b)))) : Ok P (bd (PV.inb (.lst (a++x::b)) (.int kk n)) k):=
 dC (by omega) (by simp;omega) h
theorem fY {cs : List PV} {off : Nat} (hn : n=a.length) (hc : cs.length=s) (ho : off<s) (hv : v.isEl 1 false=true) (h : Ok P (k (.lst (a++.agg (cs.set off v)::b)))) :
 Ok P (bd (PV.setCell s (.lst (a++.agg cs::b)) (.int kk n) off v) k):=by
 refine fR (cs:=cs) (by omega) (by rw [hn,Int.toNat_natCast];simp) hc ho hv ?_
 rw [hn,Int.toNat_natCast,aPA];exact h
end
section
variable {α : Type} {f : α → PV}
def aJt (m : Int→α→α) (c : α→Nat) : Int→List α→List α
 | _,[]=>[]
 | q,z::r=>m q z::aJt m c (q+c z) r
def aPB (c : α→Nat) (l : List α) : Nat:=(l.map c).sum
def aRi (left : Int) (B : Prop) (r : R) : Prop:=∃ z,r = [.int .i64 z]∧z≤left∧-1≤z∧(0≤z→B)
end
section
variable {P : R → Prop} {k : PV → Option R}
end
def eM.rows (m : eM) : R:=[.lst (m.texts.map PV.str),.lst (m.funcs.map cY.pv)]
section
variable {P : R → Prop} {k : R → Option R}
end
def eM.wide (m : eM) : Prop:=m.texts.length≤9223372036854775807∧m.funcs.length≤9223372036854775807∧(∀ t∈m.texts,t.size≤9223372036854775807)∧∀ f∈m.funcs,f.code.length≤9223372036854775807
def mtD : Nat→Int→ByteArray→ByteArray
 | 0,_,s=>bs [109]++s
 | n+1,k,s=>if 0<k then mtD n (k / 10) (⟨([48+k % 10].map λx=>UInt8.ofNat x.toNat).toArray⟩++s) else bs [109]++s
def mtx (k : Int) : ByteArray:=mtD 19 k (bs [])
section
variable {P : R → Prop} {k : R → Option R}
end
def cS (_ : ByteArray) : Nat:=1
def mS (q : Int) (_ : ByteArray) : ByteArray:=mtx q
def cI (_ : cG) : Nat:=2
def mI (q : Int) (_ : cG) : cG:=⟨q,q+1⟩
def cF (f : cY) : Nat:=2+aPB cI f.code
def mF (q : Int) (f : cY) : cY:=⟨q,q+1,aJt mI cI (q+2) f.code⟩
def cM (m : eM) : Nat:=aPB cS m.texts+aPB cF m.funcs
def mM (q : Int) (m : eM) : eM:=⟨aJt mS cS q m.texts,aJt mF cF (q+aPB cS m.texts) m.funcs⟩
def fnW (A B : List PV) (p lc : Int) (xs : List PV) : PV:=.lst (A++.agg [.int .i64 p,.int .i64 lc,.lst xs]::B)
structure eB.few (v : eB) : Prop where
 f : v.fr.length≤2097152
 h : v.hp.length≤2097152
 o : v.out.length≤2097152
 fl : ∀ f∈v.fr,f.loc.length≤2097152∧f.stk.length≤2097152
 hl : ∀ r∈v.hp,r.length≤2097152
theorem Sz.few {v : eB} (z : Sz v) : v.few:=⟨by have:=z.f;omega,by have:=z.h;omega,by have:=z.o;omega,λf hf=>by have:=z.fl f hf;omega,λr hr=>by have:=z.hl r hr;omega⟩
end
end Go.Proofs.YtllmobkkbpdchaaGreat
