/-
  Texts of the proof, part 6: a value-level evaluator and its soundness, what the functions compute, laws about it.
  Conditions: none.
-/
import Derived.Test.YtllmobkkbpdchaaGreatE
import Derived.ProofKit
import Derived.OpenShut
import Derived.ShutString
import Derived.ChangeOld
set_option linter.all false
namespace Go.Proofs.YtllmobkkbpdchaaGreat
noncomputable section
open Go
attribute [local irreducible] bd PV.ite PV.guardFlat PV.guardOwn PV.whole PV.one PV.cell PV.sub PV.at_ PV.len PV.slen PV.chr PV.beq PV.peq PV.ceq PV.bin PV.neg PV.not PV.conv PV.cut PV.scut PV.cat PV.setAt PV.setCell PV.ncopy PV.copyIn PV.zeros PV.toStr PV.toBytes PV.deref PV.isPtr PV.comp PV.inb PV.off PV.imin PV.imax PV.sel PV.apply PV.isLst PV.isInt PV.ix PV.nilT
def iC (x : PV) : Prop:=∃ p lc : Int,∃ cs : List PV,x = .agg [.int .i64 p,.int .i64 lc,.lst cs]∧(-9223372036854775808≤p∧p≤9223372036854775807)∧(-9223372036854775808≤lc∧lc≤9223372036854775807)∧Cd cs∧(cs.length : Int)≤200000000
theorem gM.toFun {x : PV} (h : gM x) : iC x:=by
 obtain ⟨p,lc,cs,rfl,h1,h2,h3,h4,h5⟩:=h
 exact ⟨p,lc,cs,rfl,by omega,by omega,h3,by omega⟩
theorem iC.el {fs : List PV} (h : ∀ x∈fs,iC x) : ∀ x∈fs,x.isEl 3 true=true:=by
 intro x hx
 obtain ⟨p,lc,cs,rfl,_⟩:=h x hx
 rfl
def aJd (l : List Int) (A : Int) (r : R) : Prop:=∃ a s : Int,∃ ts fs : List PV,r = [.agg [.lst ts,.lst fs],aZ l,.int .i64 a,.int .i64 s]∧0≤a∧a≤A∧0≤s∧s<65521∧(∀ x∈ts,iB x)∧ts.length≤100∧(∀ x∈fs,iC x)∧fs.length≤100∧1≤fs.length
theorem aDA : ∀ {ts : List PV},(∀ x∈ts,iB x)→PV.flatEs false [] ts=true
 | [],_=>by simp [PV.flatEs]
 | x::r,h=>by
   obtain ⟨b,rfl,_⟩:=h x List.mem_cons_self
   simp [PV.flatEs,PV.flatE,PV.flat,aDA (λy hy=>h y (List.mem_cons_of_mem _ hy))]
theorem aDB : ∀ {cs : List PV},Cd cs→PV.flatEs true [] cs=true
 | [],_=>by simp [PV.flatEs]
 | x::r,h=>by
   obtain ⟨o,a,rfl,_⟩:=h x List.mem_cons_self
   simp [PV.flatEs,PV.flatE,PV.flatCs,PV.flat,aDB (λy hy=>h y (List.mem_cons_of_mem _ hy))]
theorem aDC : ∀ {fs : List PV},(∀ x∈fs,iC x)→PV.flatEs true [.leaf,.leaf,.own 2 16 true []] fs=true
 | [],_=>by simp [PV.flatEs]
 | x::r,h=>by
   obtain ⟨p,lc,cs,rfl,_,_,hc,_⟩:=h x List.mem_cons_self
   simp [PV.flatEs,PV.flatE,PV.flatCs,PV.flat,aDB hc,aDC (λy hy=>h y (List.mem_cons_of_mem _ hy))]
theorem dM {fs : List PV} (hf : ∀ x∈fs,iC x) {P : R→Prop} {k : PV→Option R} {i : Int} {x : PV} (h0 : 0≤i) (hx : fs[i.toNat]? = some x) (h : Ok P (k x)) : Ok P (bd (PV.at_ 3 true (.lst fs) (.int .i64 i)) k):=by
 refine tD h0 (by have:=(List.getElem?_eq_some_iff.1 hx).1;omega) (iC.el hf) (λy _ hy=>?_)
 rw [hx] at hy
 cases hy
 exact h
theorem aIv {P : R→Prop} {k : PV→Option R} {cs : List PV} {i n : Int} (hc : Cd cs) (h0 : 0≤i) (h1 : i<cs.length) (hn : -9223372036854775808≤n∧n≤9223372036854775807) (h : ∀ cs' : List PV,Cd cs'→(cs'.length : Int)=cs.length→Ok P (k (.lst cs'))) :
 Ok P (bd (PV.setCell 2 (.lst cs) (.int .i64 i) 0 (.int .i64 n)) k):=by
 have hlt : i.toNat<cs.length:=by omega
 have hx : cs[i.toNat]? = some cs[i.toNat]:=List.getElem?_eq_getElem hlt
 obtain ⟨o,a,he,ho,ha⟩:=hc _ (List.mem_of_getElem? hx)
 rw [he] at hx
 refine fQ h0 hx rfl (by omega) rfl (h _ (λx hm=>?_) (by rw [List.length_set]))
 rcases List.mem_or_eq_of_mem_set hm with h | h
 ·exact hc x h
 ·exact ⟨n,a,h,hn,ha⟩
theorem iC.set {fs : List PV} (hf : ∀ x∈fs,iC x) {i : Nat} {y : PV} (hy : iC y) : ∀ x∈fs.set i y,iC x:=by
 intro x hx
 rcases List.mem_or_eq_of_mem_set hx with h | h
 ·exact hf x h
 ·rw [h];exact hy
section
variable {l : List Int} (hl : Bts l) {ts : List PV} (ht : ∀ x ∈ ts, iB x) (htn : ts.length ≤ 20)
include hl ht htn
theorem aHL (x3 x4 : PV) : ∀ (j : Nat) (a s : Int) (fs : List PV),13 - fs.length≤j→(0≤a∧a+j+1≤900000000∧0≤s∧s<65521)→(∀ x∈fs,iC x)→fs.length≤50→
 Ok (aJd l (a+j+1)) (hJ (aZ l) (.int .i64 a) (.int .i64 s) x3 x4 (.lst ts) (.lst fs)):=by
 intro j
 induction j with
 | zero=>
   intro a s fs hj h0 hf hn
   rw [mN]
   refine cT (bJ hl (by omega) (by omega) (λp a1 s1 h1=>?_))
   refine aK (by omega) (aM (aD (λ_=>by omega) (λ_=>?_)))
   exact aB ⟨a1,s1,ts,fs,rfl,by omega,by omega,by omega,by omega,ht,by omega,hf,by omega⟩
 | succ j ih=>
   intro a s fs hj h0 hf hn
   rw [mN]
   refine cT (bJ hl (by omega) (by omega) (λp a1 s1 h1=>?_))
   refine aK (by omega) (aM (aD (λ_=>?_) (λ_=>?_)))
   ·have hone : ∀ y∈[PV.agg [.int .i64 0,.int .i64 0,.lst [.agg [.int .i64 4,.int .i64 0],.agg [.int .i64 25,.int .i64 0]]]],iC y:=λy hy=>by
     simp only [List.mem_singleton] at hy
     exact ⟨0,0,_,hy,by omega,by omega,(Cd.one (by omega) (by omega)).append (Cd.one (by omega) (by omega)),by simp⟩
    refine nW (by simp;omega) (iC.el hone) ?_
    refine (ih a1 s1 _ (by simp;omega) (by omega) (λx hx=>(List.mem_append.1 hx).elim (hf x) (hone x)) (by simp;omega)).mono ?_
    rintro r ⟨a',s',ts',fs',hr,h1,h2,h3⟩
    exact ⟨a',s',ts',fs',hr,h1,by omega,h3⟩
   ·exact aB ⟨a1,s1,ts,fs,rfl,by omega,by omega,by omega,by omega,ht,by omega,hf,by omega⟩
theorem aIw (x3 x4 : PV) (f o i : Int) (hf0 : 0≤f) (ho : -9223372036854775808≤o∧o≤9223372036854775807) (hi : -9223372036854775808≤i∧i≤9223372036854775807) :
 ∀ (j : Nat) (a s : Int) (fs : List PV) (p lc : Int) (cs : List PV),fs[f.toNat]? = some (.agg [.int .i64 p,.int .i64 lc,.lst cs])→121 - cs.length≤j→(0≤a∧a+j+1≤900000000∧0≤s∧s<65521)→(∀ x∈fs,iC x)→fs.length≤50→
 Ok (aJd l (a+j+1)) (iY (.int .i64 f) (aZ l) (.int .i64 a) (.int .i64 s) (.int .i64 o) (.int .i64 i) x3 x4 (.lst ts) (.lst fs)):=by
 intro j
 induction j with
 | zero=>
   intro a s fs p lc cs hx hj h0 hf hn
   rw [nE]
   have hlt:=(List.getElem?_eq_some_iff.1 hx).1
   refine cB hf0 (by omega) (dM hf hf0 hx (dM hf hf0 hx (aA rfl (cT (bJ hl (by omega) (by omega) (λq a1 s1 h1=>?_))))))
   refine aK (by omega) (aM (aD (λ_=>by omega) (λ_=>?_)))
   exact aB ⟨a1,s1,ts,fs,rfl,by omega,by omega,by omega,by omega,ht,by omega,hf,by omega⟩
 | succ j ih=>
   intro a s fs p lc cs hx hj h0 hf hn
   rw [nE]
   have hlt:=(List.getElem?_eq_some_iff.1 hx).1
   obtain ⟨p',lc',cs',he,hp,hlc,hc,hcl⟩:=hf _ (List.mem_of_getElem? hx)
   cases he
   refine cB hf0 (by omega) (dM hf hf0 hx (dM hf hf0 hx (aA rfl (cT (bJ hl (by omega) (by omega) (λq a1 s1 h1=>?_))))))
   refine aK (by omega) (aM (aD (λ_=>?_) (λ_=>?_)))
   ·refine cB hf0 (by omega) (dM hf hf0 hx (dM hf hf0 hx (aA rfl (dM hf hf0 hx (aA rfl ?_)))))
    refine fQ hf0 hx rfl (by omega) rfl ?_
    refine nW (by simp;omega) (Cd.one ho hi).el ?_
    refine cB hf0 (by rw [List.length_set];omega) ?_
    refine fQ (cs:=[.int .i64 p,.int .i64 lc,.hole]) hf0 (List.getElem?_set_self hlt) rfl (by omega) rfl ?_
    rw [List.set_set]
    have hcode : Cd (cs++[.agg [.int .i64 o,.int .i64 i]]):=hc.append (Cd.one ho hi)
    refine (ih a1 s1 _ p lc (cs++[.agg [.int .i64 o,.int .i64 i]]) (List.getElem?_set_self hlt) (by simp;omega) (by omega) (iC.set hf ⟨p,lc,_,rfl,hp,hlc,hcode,by simp;omega⟩) (by rw [List.length_set];exact hn)).mono ?_
    rintro r ⟨a',s',ts',fs',hr,h1,h2,h3⟩
    exact ⟨a',s',ts',fs',hr,h1,by omega,h3⟩
   ·exact aB ⟨a1,s1,ts,fs,rfl,by omega,by omega,by omega,by omega,ht,by omega,hf,by omega⟩
end
theorem aDD : ∀ x∈[PV.str (bs [113,34]),PV.str (bs [10]),PV.str (bs [48,49,50,51,52,53,54,55,56,57,48,49,50,51,52,53,54,55,56,57,48,49,50,51,52,53,54,55,56,57,48,49,50,51,52,53,54,55,56,57,48,49,50,51,52,53,54,55,56,57,48,49,50,51,52,53,54,55,56,57,48]),PV.str (bs [195,169])],iB x:=by
 intro x hx
 simp only [List.mem_cons,List.not_mem_nil,or_false] at hx
 rcases hx with rfl | rfl | rfl | rfl<;>exact ⟨_,rfl,Nat.le_of_ble_eq_true rfl⟩
set_option maxRecDepth 100000 in
set_option maxHeartbeats 4000000 in
theorem aIx {l : List Int} (hl : Bts l) {ts fs : List PV} (ht : ∀ x∈ts,iB x) (htn : ts.length≤10) (hh : ∀ x∈fs,gM x) (hn1 : 1≤fs.length) (hn : fs.length≤10) {a s : Int} (h0 : 0≤a∧a≤850000000∧0≤s∧s<65521) :
 Ok (aJd l (a+1000)) (qH (.lst ts) (.lst fs) (aZ l) (.int .i64 a) (.int .i64 s)):=by
 have hf : ∀ x∈fs,iC x:=λx hx=>(hh x hx).toFun
 rw [aAi]
 refine aI (aJc ht htn hh (by omega)) (λr hr=>?_)
 subst hr
 refine dH (aDA ht) (dH (aDC hf) ?_)
 refine cT (bJ hl (by omega) (by omega) (λf a1 s1 h1=>?_))
 have hlt : f.toNat<fs.length:=by omega
 have hx : fs[f.toNat]? = some fs[f.toNat]:=List.getElem?_eq_getElem hlt
 obtain ⟨p,lc,cs,he,hp,hlc,hc,hc1,hcl⟩:=hh _ (List.mem_of_getElem? hx)
 rw [he] at hx
 refine cB (by omega) (by omega) (dM hf (by omega) hx (dM hf (by omega) hx (aA rfl (cT (bJ hl (by omega) (by omega) (λi a2 s2 h2=>?_))))))
 refine bJ hl (by omega) (by omega) (λq a3 s3 h3=>?_)
 have hset : ∀ cs' : List PV,Cd cs'→(cs'.length : Int)≤cs.length→∀ x∈fs.set f.toNat (.agg [.int .i64 p,.int .i64 lc,.lst cs']),iC x:=λcs' h1 h2=>iC.set hf ⟨p,lc,cs',rfl,by omega,by omega,h1,by omega⟩
 refine aP (aD (λ_=>?_) (λ_=>?_))
 ·refine cB (by omega) (by omega) (dM hf (by omega) hx (bJ hl (by omega) (by omega) (λw a4 s4 h4=>?_)))
  refine bO (by omega) (dM hf (by omega) hx (aA rfl (cB (by omega) (by omega) (dM hf (by omega) hx (aA rfl (bI rfl (dM hf (by omega) hx (aA rfl ?_))))))))
  refine aIv hc (by omega) (by omega) (by omega) (λcs' hc' hl'=>dM hf (by omega) hx (aA rfl ?_))
  refine fQ (by omega) hx rfl (by omega) rfl ?_
  exact aB ⟨a4,s4,ts,_,rfl,by omega,by omega,by omega,by omega,ht,by omega,hset cs' hc' (by omega),by rw [List.length_set];omega⟩
 refine aP (aD (λ_=>?_) (λ_=>?_))
 ·refine cB (by omega) (by omega) (dM hf (by omega) hx (aHm hl (by omega) (λw a4 s4 h4=>?_)))
  refine dM hf (by omega) hx (aA rfl (cB (by omega) (by omega) (dM hf (by omega) hx (aA rfl (bI rfl (dM hf (by omega) hx (aA rfl ?_)))))))
  refine eM hc (by omega) (by omega) (by omega) (λcs' hc' hl'=>dM hf (by omega) hx (aA rfl ?_))
  refine fQ (by omega) hx rfl (by omega) rfl ?_
  exact aB ⟨a4,s4,ts,_,rfl,by omega,by omega,by omega,by omega,ht,by omega,hset cs' hc' (by omega),by rw [List.length_set];omega⟩
 refine aP (aD (λ_=>?_) (λ_=>?_))
 ·refine bJ hl (by omega) (by omega) (λw a4 s4 h4=>?_)
  refine bO (by omega) (cB (by omega) (by omega) (bI rfl ?_))
  refine fQ (by omega) hx rfl (by omega) rfl ?_
  exact aB ⟨a4,s4,ts,_,rfl,by omega,by omega,by omega,by omega,ht,by omega,iC.set hf ⟨w - 1,lc,cs,rfl,by omega,by omega,hc,by omega⟩,by rw [List.length_set];omega⟩
 refine aP (aD (λ_=>?_) (λ_=>?_))
 ·refine bJ hl (by omega) (by omega) (λw a4 s4 h4=>?_)
  refine cB (by omega) (by simp;omega) (kG rfl (by omega) (by simp;omega) (λy hy=>?_))
  refine cB (by omega) (by omega) (bI rfl ?_)
  refine fQ (by omega) hx rfl (by omega) rfl ?_
  exact aB ⟨a4,s4,ts,_,rfl,by omega,by omega,by omega,by omega,ht,by omega,iC.set hf ⟨p,y,cs,rfl,by omega,by omega,hc,by omega⟩,by rw [List.length_set];omega⟩
 refine aP (aD (λ_=>?_) (λ_=>?_))
 ·refine bJ hl (by omega) (by omega) (λw a4 s4 h4=>?_)
  refine cB (by omega) (by simp;omega) (tD (by omega) (by simp;omega) (iB.el aDD) (λy hy _=>?_))
  have hone : ∀ z∈[y],iB z:=λz hz=>by simp only [List.mem_singleton] at hz;rw [hz];exact aDD y hy
  refine xT (by simp) (iB.el hone) (nW (by simp;omega) (iB.el hone) ?_)
  exact aB ⟨a4,s4,_,fs,rfl,by omega,by omega,by omega,by omega,λz hz=>(List.mem_append.1 hz).elim (ht z) (hone z),by simp;omega,hf,by omega⟩
 refine aP (aD (λ_=>?_) (λ_=>?_))
 ·refine cB (by omega) (by omega) (dM hf (by omega) hx (dM hf (by omega) hx (aA rfl (cP hc (by omega) (by omega) (by omega) (λc1 k1 e1=>?_)))))
  refine cB (by omega) (by omega) (dM hf (by omega) hx (aK (by omega) (dM hf (by omega) hx (aA rfl (cT (cP hc (by omega) (by omega) (by omega) (λc2 k2 e2=>?_)))))))
  refine dM hf (by omega) hx (aA rfl (dM hf (by omega) hx (aA rfl (cP hc (by omega) (by omega) (by omega) (λc3 k3 e3=>?_)))))
  refine cP hc (by omega) (by omega) (by omega) (λc4 k4 e4=>dM hf (by omega) hx (aA rfl ?_))
  refine fQ (by omega) hx rfl (by omega) rfl ?_
  refine nW (by omega) k3.el ?_
  refine cB (by omega) (by rw [List.length_set];omega) ?_
  refine fQ (cs:=[.int .i64 p,.int .i64 lc,.hole]) (by omega) (List.getElem?_set_self hlt) rfl (by omega) rfl ?_
  rw [List.set_set]
  exact aB ⟨a3,s3,ts,_,rfl,by omega,by omega,by omega,by omega,ht,by omega,hset _ (k4.append k3) (by rw [List.length_append];omega),by rw [List.length_set];omega⟩
 refine aP (aD (λ_=>?_) (λ_=>?_))
 ·refine (aHL hl ht (by omega) (.lst []) (.lst []) 13 a3 s3 fs (by omega) (by omega) hf (by omega)).mono ?_
  rintro r ⟨a',s',ts',fs',hr,h1,h2,h3⟩
  exact ⟨a',s',ts',fs',hr,h1,by omega,h3⟩
 ·refine cB (by omega) (by omega) (dM hf (by omega) hx (dM hf (by omega) hx (aA rfl (cB (by omega) (by omega) (dM hf (by omega) hx (aA rfl ?_))))))
  refine tD (by omega) (by omega) hc.el (λy hy _=>?_)
  obtain ⟨o,b,rfl,ho,hb⟩:=hc y hy
  refine aG rfl (aA rfl (aA rfl ?_))
  refine (aIw hl ht (by omega) (.lst []) (.lst []) f o b (by omega) ho hb 121 a3 s3 fs p lc cs hx (by omega) (by omega) hf (by omega)).mono ?_
  rintro r ⟨a',s',ts',fs',hr,h1,h2,h3⟩
  exact ⟨a',s',ts',fs',hr,h1,by omega,h3⟩
theorem aGd {l : List Int} (hl : Bts l) {n a s : Int} (hn : 1≤n∧n≤1000) (h0 : 0≤a∧a≤800000000∧0≤s∧s<65521) : Ok (aJd l (a+4000000)) (mV (.int .i64 n) (aZ l) (.int .i64 a) (.int .i64 s)):=by
 rw [xJ]
 refine aI (wD hl h0) ?_
 rintro r ⟨a1,s1,ts,fs,rfl,h1,h2,h3,h4,ht,htn,hf,hn1,hn2⟩
 refine aG rfl (aA rfl (aA rfl ?_))
 refine iA hl (by omega) (by omega) (λb a2 s2 h5=>aS (λ_=>?_) (λ_=>?_))
 ·refine aI (aIx hl ht htn hf hn1 hn2 (by omega)) ?_
  rintro r ⟨a3,s3,ts3,fs3,rfl,g1,g2,g3,g4,g5,g6,g7,g8⟩
  refine aG rfl (aA rfl (aA rfl ?_))
  exact aB ⟨a3,s3,ts3,fs3,rfl,by omega,by omega,by omega,by omega,g5,g6,g7,g8⟩
 ·exact aB ⟨a2,s2,ts,fs,rfl,by omega,by omega,by omega,by omega,ht,by omega,λx hx=>(hf x hx).toFun,by omega⟩
theorem aJe {l : List Int} (hl : Bts l) {P : R→Prop} {k : R→Option R} (h : ∀ s : Int,0≤s∧s<65521→Ok P (k [aZ l,.int .i64 0,.int .i64 s])) : Ok P (bd (rV (aZ l)) k):=by
 refine aI (Q:=λr=>∃ s : Int,r = [aZ l,.int .i64 0,.int .i64 s]∧0≤s∧s<65521) ?_ (λr ⟨s,hr,hs⟩=>by rw [hr];exact h s hs)
 rw [aA2]
 refine bF (fV (by omega) (by omega) (aK (by omega) (bI rfl (bI rfl (aB ⟨_,rfl,by omega,by omega⟩)))))
def aKH (x : PV) : Prop:=∃ ts fs : List PV,x = .agg [.lst ts,.lst fs]∧(∀ x∈ts,iB x)∧ts.length≤100∧(∀ x∈fs,iC x)∧fs.length≤100∧1≤fs.length
def Byt (l : List Int) : Prop:=∀ x∈l,0≤x∧x≤255
theorem aGP : ∀ {ts : List PV},(∀ x∈ts,iB x)→∃ l : List ByteArray,ts=l.map PV.str∧∀ t∈l,t.size≤1000
 | [],_=>⟨[],rfl,λt ht=>by cases ht⟩
 | x::r,h=>by
   obtain ⟨b,rfl,hb⟩:=h x List.mem_cons_self
   obtain ⟨l,rfl,hl⟩:=aGP (λy hy=>h y (List.mem_cons_of_mem _ hy))
   refine ⟨b::l,rfl,λt ht=>?_⟩
   rcases List.mem_cons.1 ht with rfl | ht
   ·exact hb
   ·exact hl t ht
theorem aGQ : ∀ {cs : List PV},Cd cs→∃ l : List aT,cs=l.map aT.pv
 | [],_=>⟨[],rfl⟩
 | x::r,h=>by
   obtain ⟨o,a,rfl,_⟩:=h x List.mem_cons_self
   obtain ⟨l,rfl⟩:=aGQ (λy hy=>h y (List.mem_cons_of_mem _ hy))
   exact ⟨⟨o,a⟩::l,rfl⟩
theorem aGR : ∀ {fs : List PV},(∀ x∈fs,iC x)→∃ l : List eD,fs=l.map eD.pv∧∀ f∈l,f.code.length≤1000000000
 | [],_=>⟨[],rfl,λt ht=>by cases ht⟩
 | x::r,h=>by
   obtain ⟨p,lc,cs,rfl,_,_,hc,hl⟩:=h x List.mem_cons_self
   obtain ⟨l,rfl,hl2⟩:=aGR (λy hy=>h y (List.mem_cons_of_mem _ hy))
   obtain ⟨c,rfl⟩:=aGQ hc
   refine ⟨⟨p,lc,c⟩::l,rfl,λt ht=>?_⟩
   rcases List.mem_cons.1 ht with rfl | ht
   ·rw [List.length_map] at hl
    show c.length≤_
    omega
   ·exact hl2 t ht
theorem aJQ {l : List Int} (hb : Byt l) {P : R→Prop} {k : R→Option R} (h1 : Bts l→Ok P (k [.bool false])) (h2 : Ok P (k [.bool true])) : Ok P (bd (aB6 (aZ l)) k):=by
 refine aI (Q:=λr=>r = [.bool (decide ((1048576 : Int)<l.length))]) ?_ (λr hr=>?_)
 ·rw [aE7]
  exact bF (cG (aB rfl))
 ·subst hr
  by_cases h : (1048576 : Int)<l.length
  ·rw [decide_eq_true h];exact h2
  ·rw [decide_eq_false h];exact h1 ⟨hb,by omega⟩
end
noncomputable section
open Go Go.IntWalk
attribute [local irreducible] bd PV.ite PV.guardFlat PV.guardOwn PV.whole PV.one PV.cell PV.sub PV.at_ PV.len PV.slen PV.chr PV.beq PV.peq PV.ceq PV.bin PV.neg PV.not PV.conv PV.cut PV.scut PV.cat PV.setAt PV.setCell PV.ncopy PV.copyIn PV.zeros PV.toStr PV.toBytes PV.deref PV.isPtr PV.comp PV.inb PV.off PV.imin PV.imax PV.sel PV.apply PV.isLst PV.isInt PV.ix PV.nilT
def yZ (m : fF) : Bool:=m.okB&&(bad m.funcs).isNone
theorem aGe {m : fF} (hs : m.sized) (h : yZ m=true) : lD m:=by
 simp only [yZ,Bool.and_eq_true,Option.isNone_iff_eq_none] at h
 exact ⟨hs,h.1,h.2⟩
theorem aHM {fs : List eD} {code : List aT} {d : List Int} {pc : Nat} {c : Int} (h : xM fs code d pc=some c) : c≠0:=by
 unfold xM at h
 repeat' split at h
 all_goals first
  | (cases h;done)
  | (injection h with h;omega)
theorem aFl {fs : List eD} {c : Int} {f pc : Nat} (h : bad fs=some (c,f,pc)) : c≠0:=by
 unfold bad at h
 obtain ⟨i,_,h⟩:=List.exists_of_findSome?_eq_some h
 unfold aDv at h
 split at h
 ·obtain ⟨j,_,h⟩:=List.exists_of_findSome?_eq_some h
  unfold wA at h
  simp only [Option.map_eq_some_iff] at h
  obtain ⟨c',h1,h2⟩:=h
  injection h2 with h2 h3
  rw [← h2]
  exact aHM h1
 ·cases h
section
variable {P : R → Prop} {k : R → Option R}
theorem aGS {m : fF} (hs : m.sized) (h : Ok P (k [.bool (yZ m)])) : Ok P (bd (nI m.pv) k):=by
 refine aI (Q:=λr=>r = [.bool (yZ m)]) ?_ (λr hr=>by rw [hr];exact h)
 rw [aAX]
 refine aG rfl (aA rfl (aA rfl (aI (aFe hs) (λr hr=>?_))))
 subst hr
 show Ok _ (bd (PV.cell m.verify 0) _)
 unfold fF.verify yZ
 cases ho : m.okB with
 | false=>exact aA (y:=.int .i64 1) rfl (aP (aB rfl))
 | true=>
   simp only [if_true,Bool.true_and]
   cases hb : bad m.funcs with
   | none=>exact aA (y:=.int .i64 0) rfl (aP (aB rfl))
   | some p=>
     obtain ⟨c,f,pc⟩:=p
     have:=aFl hb
     refine aA (y:=.int .i64 c) rfl (aP (aB ?_))
     rw [decide_eq_false this];rfl
theorem aIy {m : fF} (hs : m.sized) (h : Ok P (k [.bool (yZ m)])) : Ok P (bd (uA m.pv) k):=by
 refine aI (Q:=λr=>r = [.bool (yZ m)]) ?_ (λr hr=>by rw [hr];exact h)
 rw [aCb]
 refine aG rfl (aA rfl (aA rfl (aI (aFf hs) (λr hr=>?_))))
 subst hr
 show Ok _ (bd (PV.whole 3 m.verify) _)
 have eq : ∀ a b c : Int,(PV.ceq [1,1,1] .eql (.agg [.int .i64 a,.int .i64 b,.int .i64 c]) (.agg [.int .i64 0,.int .i64 0,.int .i64 0]))=some (.bool (decide (a=0)&&(decide (b=0)&&decide (c=0)))):=by
  intro a b c
  simp [PV.ceq,PV.eqCells,PV.eqScalar,PV.eqOr]
  rfl
 unfold fF.verify yZ
 cases ho : m.okB with
 | false=>exact aG (cs:=[.int .i64 1,.int .i64 0,.int .i64 0]) rfl (aA rfl (aA rfl (aA rfl (dO _ (eq _ _ _) (aB rfl)))))
 | true=>
   simp only [if_true,Bool.true_and]
   cases hb : bad m.funcs with
   | none=>exact aG (cs:=[.int .i64 0,.int .i64 0,.int .i64 0]) rfl (aA rfl (aA rfl (aA rfl (dO _ (eq _ _ _) (aB rfl)))))
   | some p=>
     obtain ⟨c,f,pc⟩:=p
     have:=aFl hb
     refine aG (cs:=[.int .i64 c,.int .i64 f,.int .i64 pc]) rfl (aA rfl (aA rfl (aA rfl (dO _ (eq _ _ _) (aB ?_)))))
     rw [decide_eq_false this];rfl
end
section
variable {P : R → Prop} {m : fF}
def vmZ : VmT:=⟨[],[],0,[],0,0,mP,0⟩
end
def uX (d : List Int) (code : List aT) (pc : Nat) : Bool:=match code[pc]? with
 | some x=>decide (0≤d[pc]?.getD 0)&&iS x.o 17 19
 | none=>false
def noJ (d : List Int) (code : List aT) (i : Nat) : Bool:=(List.range' i (code.length - i)).all λpc=>!uX d code pc
def aFm (fs : List eD) (code : List aT) : Bool:=noJ (eL fs code) code 0&&decide ((code.length : Int)≤24)
theorem aJf (d : List Int) (code : List aT) : noJ d code code.length=true:=by
 unfold noJ;rw [Nat.sub_self];rfl
theorem aIz {d : List Int} {code : List aT} {i : Nat} (hi : i<code.length) : noJ d code i=(!uX d code i&&noJ d code (i+1)):=by
 unfold noJ
 rw [show code.length - i=(code.length - (i+1))+1 by omega,List.range'_succ,List.all_cons]
theorem aGT {d : List Int} {code : List aT} {i : Nat} : noJ d code i=true↔∀ pc,i≤pc→pc<code.length→uX d code pc=false:=by
 unfold noJ
 simp only [List.all_eq_true,List.mem_range'_1,Bool.not_eq_true']
 exact ⟨λh pc h1 h2=>h pc ⟨h1,by omega⟩,λh pc hp=>h pc hp.1 (by omega)⟩
theorem xN {d : List Int} {code : List aT} {i : Nat} (hi : i<code.length) (hd : i<d.length) : uX d code i=(decide (0≤d[i])&&iS code[i].o 17 19):=by
 unfold uX
 rw [List.getElem?_eq_getElem hi,List.getElem?_eq_getElem hd];rfl
section
variable {P : R → Prop} {k : R → Option R}
theorem aAm {x : aT} (h : Ok P (k [.bool (iS x.o 17 19)])) : Ok P (bd (mJ (.agg [.int .i64 x.o,.int .i64 x.a])) k):=by
 refine aI (Q:=λr=>r = [.bool (iS x.o 17 19)]) ?_ (λr hr=>by rw [hr];exact h)
 rw [aCc]
 exact aG rfl (aA rfl (aA rfl (fN (aB rfl))))
end
theorem xO {d : List Int} {code : List aT} (hd : d.length=code.length) (hn : code.length≤1000) :
 ∀ i,i≤code.length→Ok (λr=>r = [.bool (noJ d code i&&decide ((code.length : Int)≤24))]) (dY (aR d) (.lst (code.map aT.pv)) (.int .i64 code.length) (.int .i64 i)):=by
 refine mG (n:=code.length) (F:=λi=>dY (aR d) (.lst (code.map aT.pv)) (.int .i64 code.length) (.int .i64 i)) (P:=λi r=>r = [.bool (noJ d code i&&decide ((code.length : Int)≤24))]) ?_ (λi hi ih=>?_)
 ·rw [mZ]
  refine aM (aD (λh=>by omega) (λ_=>aU (cE (aB ?_))))
  rw [aJf,hd];rfl
 ·have hi' : i<d.length:=by omega
  have ih : Ok (λr=>r = [.bool (noJ d code (i+1)&&decide ((code.length : Int)≤24))]) (dY (aR d) (.lst (code.map aT.pv)) (.int .i64 code.length) (.int .i64 ((i : Int)+1))):=ih
  rw [mZ,aIz hi,xN hi hi']
  refine aM (aD (λ_=>?_) (λh=>by omega))
  refine aO hi (λ_=>rfl) (aG rfl (aA rfl (aA rfl (aY hi' (dA (aD (λh=>aAm (aS (λhb=>aB ?_) (λhb=>aK (by omega) ?_))) (λh=>aK (by omega) ?_)))))))
  ·rw [hb,decide_eq_true h];rfl
  ·rw [hb,decide_eq_true h];exact ih
  ·rw [decide_eq_false h];exact ih
section
variable {m : fF} (g : lD m) {f : Nat} (hf : f < m.funcs.length)
include g hf
theorem jX : Fit m.funcs m.funcs[f].code:=(g.fit.2.2 _ (List.getElem_mem hf)).1
theorem aAn : Ok (λr=>r = [.bool (aFm m.funcs m.funcs[f].code)]) (qF m.pv (.int .i64 f)):=by
 have F:=jX g hf
 rw [aAb]
 refine aG rfl (aA rfl (aA rfl (aI (iP F hf rfl) (λr hr=>?_))))
 subst hr
 refine aO hf (λ_=>rfl) (aA rfl (aH ?_))
 exact xO (lT F).1 (by have:=F.n2;omega) 0 (by omega)
end
section
variable {P : R → Prop} {k : PV → Option R} {bs : List Bool}
theorem uY {a : Int} (h0 : 0≤a) (h1 : a<bs.length) (h : Ok P (k (.lst ((bs.set a.toNat true).map PV.bool)))) : Ok P (bd (PV.setAt 1 false (.lst (bs.map PV.bool)) (.int .i64 a) (.bool true)) k):=by
 refine aBj h0 (by rw [List.length_map];exact h1) rfl ?_
 rw [← List.map_set]
 exact h
theorem uZ {a : Int} (h0 : 0≤a) (h1 : a<bs.length) (h : Ok P (k (.lst (bs.map PV.bool)))) : Ok P (bd (PV.inb (.lst (bs.map PV.bool)) (.int .i64 a)) k):=cB h0 (by rw [List.length_map];exact h1) h
end
theorem bN (l : List Int) : PV.flatO (.own 1 8 false []) (aR l)=true:=by
 show PV.flatEs false [] (l.map (PV.int .i64))=true
 induction l with
 | nil=>simp [PV.flatEs]
 | cons x r ih=>simp [PV.flatEs,PV.flatE,PV.flat,ih]
section
variable {fs : List eD} {code : List aT} {d : List Int} (F : Fit fs code) (hd : d.length = code.length) (hv : ∀ pc, pc < code.length → xM fs code d pc = none)
include F hd hv
end
section
variable {m : fF} (g : lD m) {f : Nat} (hf : f < m.funcs.length)
include g hf
end
theorem aGg {zs : List Int} {m : Nat} (h : m<zs.length) : zs.toArray[m]! = zs[m]:=by
 rw [getElem!_pos zs.toArray m (by simpa using h)]
 simp
theorem aFn {zs : List Int} (hs : zs.Pairwise (·≤·)) : ∀ m,m≤zs.length→(Lib.compactUpTo zs.toArray m).Pairwise (· < ·)∧∀ x,x∈Lib.compactUpTo zs.toArray m↔x∈zs.take m
 | 0,_=>⟨by simp [Lib.compactUpTo],λx=>by simp [Lib.compactUpTo]⟩
 | m+1,h=>by
   obtain ⟨h1,h2⟩:=aFn hs m (by omega)
   have hm : m<zs.length:=by omega
   rw [Lib.compactUpTo_succ,List.take_add_one,List.getElem?_eq_getElem hm]
   have e:=aGg hm
   by_cases hk : Lib.keeps zs.toArray m=true
   ·rw [if_pos hk,e]
    refine ⟨List.pairwise_append.2 ⟨h1,by simp,λa ha b hb=>?_⟩,λx=>by rw [List.mem_append,h2,List.mem_append];simp⟩
    rw [List.mem_singleton] at hb
    subst hb
    obtain ⟨j,hj,rfl⟩:=List.getElem_of_mem ((h2 a).1 ha)
    rw [List.length_take] at hj
    rw [List.getElem_take]
    unfold Lib.keeps at hk
    rw [decide_eq_true_eq,e] at hk
    rcases hk with hk | hk
    ·omega
    ·rw [aGg (show m - 1<zs.length by omega)] at hk
     have p1:=List.pairwise_iff_getElem.1 hs (m - 1) m (by omega) hm (by omega)
     by_cases hjm : j=m - 1
     ·subst hjm
      have p1 : zs[m - 1]≤zs[m]:=p1
      omega
     ·have p2 : zs[j]≤zs[m - 1]:=List.pairwise_iff_getElem.1 hs j (m - 1) (by omega) (by omega) (by omega)
      have p1 : zs[m - 1]≤zs[m]:=p1
      omega
   ·rw [if_neg hk]
    refine ⟨by simpa using h1,λx=>?_⟩
    unfold Lib.keeps at hk
    rw [decide_eq_true_eq,e] at hk
    have hm0 : m≠0:=λh=>hk (.inl h)
    have hq : zs[m]=zs[m - 1]:=by
     rw [aGg (show m - 1<zs.length by omega)] at hk
     by_cases hh : zs[m]=zs[m - 1]
     ·exact hh
     ·exact absurd (.inr hh) hk
    rw [List.append_nil,h2,List.mem_append]
    refine ⟨.inl,λh=>h.elim id (λh=>?_)⟩
    have hx : x=zs[m]:=by simpa using h
    rw [hx,hq]
    exact List.mem_take_iff_getElem.2 ⟨m - 1,by omega,rfl⟩
theorem cZ (l : List Int) : (jJ l).Pairwise (· < ·)∧∀ x,x∈jJ l↔x∈l:=by
 have hs : (l.mergeSort λx y=>decide (x≤y)).Pairwise (·≤·):=by
  have:=List.pairwise_mergeSort (le:=λx y : Int=>decide (x≤y)) (λa b c h1 h2=>by simp at *;omega) (λa b=>by simp;omega) l
  exact this.imp (λh=>by simpa using h)
 obtain ⟨h1,h2⟩:=aFn hs _ (Nat.le_refl _)
 refine ⟨h1,λx=>?_⟩
 show x∈Lib.compactUpTo _ _↔_
 rw [h2,List.take_length,List.mem_mergeSort]
theorem vA : ∀ {p q : List Int},p.Pairwise (· < ·)→q.Pairwise (· < ·)→(∀ x,x∈p↔x∈q)→p=q
 | [],[],_,_,_=>rfl
 | [],b::t,_,_,h=>by have:=(h b).2 List.mem_cons_self;cases this
 | a::r,[],_,_,h=>by have:=(h a).1 List.mem_cons_self;cases this
 | a::r,b::t,hp,hq,h=>by
   rw [List.pairwise_cons] at hp hq
   have hab : a=b:=by
    rcases List.mem_cons.1 ((h a).1 List.mem_cons_self) with e | h1
    ·exact e
    ·rcases List.mem_cons.1 ((h b).2 List.mem_cons_self) with e | h2
     ·exact e.symm
     ·have l1:=hq.1 a h1
      have l2:=hp.1 b h2
      omega
   subst hab
   rw [vA hp.2 hq.2 (λx=>⟨λhx=>?_,λhx=>?_⟩)]
   ·rcases List.mem_cons.1 ((h x).1 (List.mem_cons_of_mem _ hx)) with e | h1
    ·subst e
     have:=hp.1 x hx;omega
    ·exact h1
   ·rcases List.mem_cons.1 ((h x).2 (List.mem_cons_of_mem _ hx)) with e | h1
    ·subst e
     have:=hq.1 x hx;omega
    ·exact h1
def pX (bs : List Bool) : List Int:=((List.range bs.length).filter λi=>bs[i]?.getD false).map Int.ofNat
theorem aHN {bs : List Bool} {x : Int} : x∈pX bs↔0≤x∧bs[x.toNat]? = some true:=by
 unfold pX
 rw [List.mem_map]
 constructor
 ·rintro ⟨i,hi,rfl⟩
  rw [List.mem_filter,List.mem_range] at hi
  refine ⟨Int.natCast_nonneg i,?_⟩
  show bs[((i : Nat) : Int).toNat]? = _
  rw [Int.toNat_natCast]
  obtain ⟨h1,h2⟩:=hi
  rw [List.getElem?_eq_getElem h1] at h2 ⊢
  simpa using h2
 ·rintro ⟨h0,h1⟩
  obtain ⟨i,rfl⟩:=Int.eq_ofNat_of_zero_le h0
  rw [Int.toNat_natCast] at h1
  refine ⟨i,?_,rfl⟩
  rw [List.mem_filter,List.mem_range]
  exact ⟨(List.getElem?_eq_some_iff.1 h1).1,by rw [h1];rfl⟩
theorem aGh (bs : List Bool) : (pX bs).Pairwise (· < ·):=by
 unfold pX
 rw [List.pairwise_map]
 exact List.Pairwise.imp (λh=>Int.ofNat_lt.2 h) (List.Pairwise.filter _ List.pairwise_lt_range)
section
variable (d : List Int) (code : List aT)
def ldB (bs : List Bool) (i : Nat) : List Bool:=if uX d code i=true then (if (code[i]?.getD ⟨0,0⟩).o≠17 then (bs.set (code[i]?.getD ⟨0,0⟩).a.toNat true).set (i+1) true else bs.set (code[i]?.getD ⟨0,0⟩).a.toNat true) else bs
def ldO (out : List Int) (i : Nat) : List Int:=if uX d code i=true then (if (code[i]?.getD ⟨0,0⟩).o≠17 then out++[(code[i]?.getD ⟨0,0⟩).a]++[(i : Int)+1] else out++[(code[i]?.getD ⟨0,0⟩).a]) else out
def hdB (bs : List Bool) (i : Nat) : List Bool:=if uX d code i=true∧(code[i]?.getD ⟨0,0⟩).a≤i then bs.set (code[i]?.getD ⟨0,0⟩).a.toNat true else bs
def hdO (out : List Int) (i : Nat) : List Int:=if uX d code i=true∧(code[i]?.getD ⟨0,0⟩).a≤i then out++[(code[i]?.getD ⟨0,0⟩).a] else out
structure xP (n : Nat) (bs : List Bool) (out : List Int) : Prop where
 len : bs.length=n
 rng : ∀ x∈out,0≤x∧x<n
 mem : ∀ k : Nat,bs[k]? = some true↔(k : Int)∈out
variable {d code}
theorem xP.set {n : Nat} {bs : List Bool} {out : List Int} (t : xP n bs out) {a : Int} (h : 0≤a∧a<n) : xP n (bs.set a.toNat true) (out++[a]):=by
 refine ⟨by rw [List.length_set];exact t.len,λx hx=>?_,λk=>?_⟩
 ·rcases List.mem_append.1 hx with hx | hx
  ·exact t.rng x hx
  ·rw [List.mem_singleton] at hx;subst hx;exact h
 ·rw [List.mem_append,List.mem_singleton]
  by_cases hk : a.toNat=k
  ·subst hk
   rw [List.getElem?_set_self (by rw [t.len];omega)]
   exact ⟨λ_=>.inr (by omega),λ_=>rfl⟩
  ·rw [List.getElem?_set_ne hk,t.mem]
   exact ⟨.inl,λh=>h.elim id (λh=>absurd (by omega) hk)⟩
theorem xP.asc {n : Nat} {bs : List Bool} {out : List Int} (t : xP n bs out) : pX bs=jJ out:=by
 obtain ⟨h1,h2⟩:=cZ out
 refine vA (aGh bs) h1 (λx=>?_)
 rw [aHN,h2]
 constructor
 ·rintro ⟨h0,h⟩
  have:=(t.mem x.toNat).1 h
  rwa [Int.toNat_of_nonneg h0] at this
 ·intro h
  have h0:=(t.rng x h).1
  exact ⟨h0,(t.mem x.toNat).2 (by rw [Int.toNat_of_nonneg h0];exact h)⟩
structure JOk (d : List Int) (code : List aT) : Prop where
 j : ∀ i (h : i<code.length),uX d code i=true→0≤code[i].a∧code[i].a<code.length∧(code[i].o≠17→i+1<code.length)
theorem zA {i : Nat} (h : uX d code i=true) : i<code.length:=by
 unfold uX at h
 split at h
 ·rename_i x hx;exact (List.getElem?_eq_some_iff.1 hx).1
 ·cases h
theorem aJh (J : JOk d code) {bs : List Bool} {out : List Int} (t : xP code.length bs out) (i : Nat) : xP code.length (ldB d code bs i) (ldO d code out i):=by
 unfold ldB ldO
 by_cases h : uX d code i=true
 ·have hi:=zA h
  obtain ⟨j1,j2,j3⟩:=J.j i hi h
  rw [if_pos h,if_pos h,List.getElem?_eq_getElem hi,Option.getD_some]
  by_cases h17 : code[i].o≠17
  ·rw [if_pos h17,if_pos h17]
   have:=(t.set (a:=code[i].a) ⟨j1,by omega⟩).set (a:=(i : Int)+1) ⟨by omega,by have:=j3 h17;omega⟩
   rwa [show ((i : Int)+1).toNat=i+1 by omega] at this
  ·rw [if_neg h17,if_neg h17]
   exact t.set ⟨j1,by omega⟩
 ·rw [if_neg h,if_neg h];exact t
theorem aJi (J : JOk d code) {bs : List Bool} {out : List Int} (t : xP code.length bs out) (i : Nat) : xP code.length (hdB d code bs i) (hdO d code out i):=by
 unfold hdB hdO
 by_cases h : uX d code i=true∧(code[i]?.getD ⟨0,0⟩).a≤i
 ·have hi:=zA h.1
  obtain ⟨j1,j2,j3⟩:=J.j i hi h.1
  rw [if_pos h,if_pos h,List.getElem?_eq_getElem hi,Option.getD_some]
  exact t.set ⟨j1,by omega⟩
 ·rw [if_neg h,if_neg h];exact t
theorem aAo {fB : List Bool→Nat→List Bool} {fO : List Int→Nat→List Int} {n : Nat} (hf : ∀ bs out i,xP n bs out→xP n (fB bs i) (fO out i)) : ∀ (l : List Nat) {bs : List Bool} {out : List Int},xP n bs out→xP n (l.foldl fB bs) (l.foldl fO out)
 | [],_,_,t=>t
 | i::r,_,_,t=>aAo hf r (hf _ _ i t)
def aGj (d : List Int) (code : List aT) : List Bool:=(List.range code.length).foldl (ldB d code) ((List.replicate code.length false).set 0 true)
def aJj (d : List Int) (code : List aT) : List Int:=(List.range code.length).foldl (ldO d code) [0]
def aGk (d : List Int) (code : List aT) : List Bool:=(List.range code.length).foldl (hdB d code) (List.replicate code.length false)
def aHO (d : List Int) (code : List aT) : List Int:=(List.range code.length).foldl (hdO d code) []
def jE (d : List Int) (code : List aT) : List Int:=jJ (aJj d code)
def eR (d : List Int) (code : List aT) : List Int:=jJ (aHO d code)
def oU (d : List Int) (code : List aT) : List Int:=jJ (eR d code++[0])
theorem aGl (J : JOk d code) (h1 : 1≤code.length) : xP code.length (aGj d code) (aJj d code):=by
 refine aAo (λ_ _ i t=>aJh J t i) _ ⟨by simp,λx hx=>by rw [List.mem_singleton] at hx;subst hx;omega,λk=>?_⟩
 rw [List.mem_singleton]
 by_cases hk : k=0
 ·subst hk
  rw [List.getElem?_set_self (by simp;omega)];simp
 ·rw [List.getElem?_set_ne (by omega),List.getElem?_replicate]
  constructor
  ·intro h;split at h<;>cases h
  ·intro h;omega
theorem aGm (J : JOk d code) : xP code.length (aGk d code) (aHO d code):=by
 refine aAo (λ_ _ i t=>aJi J t i) _ ⟨by simp,(λx hx=>nomatch hx),λk=>?_⟩
 rw [List.getElem?_replicate]
 constructor
 ·intro h;split at h<;>cases h
 ·intro h;cases h
theorem aCx {x : Int} : ∀ (l : List Nat) {out : List Int},x∈out→x∈l.foldl (ldO d code) out
 | [],_,h=>h
 | i::r,out,h=>by
   refine aCx r ?_
   unfold ldO
   split
   ·split<;>simp [h]
   ·exact h
theorem aFo {x : Int} : ∀ (l : List Nat) {out : List Int},x∈out→x∈l.foldl (hdO d code) out
 | [],_,h=>h
 | i::r,out,h=>by
   refine aFo r ?_
   unfold hdO
   split
   ·simp [h]
   ·exact h
theorem aCy {α : Type} {f : List α→Nat→List α} {x : α} (hk : ∀ (l : List Nat) {out : List α},x∈out→x∈l.foldl f out) {i : Nat} (hi : ∀ out,x∈f out i) : ∀ {l : List Nat} {out : List α},i∈l→x∈l.foldl f out
 | a::r,out,h=>by
   rcases List.mem_cons.1 h with rfl | h
   ·exact hk r (hi out)
   ·exact aCy hk hi (l:=r) h
theorem aFp {i : Nat} (h : uX d code i=true) : (code[i]'(zA h)).a∈jE d code:=by
 have hi:=zA h
 refine ((cZ _).2 _).2 (aCy (f:=ldO d code) (i:=i) (λl _ h=>aCx l h) (λout=>?_) (List.mem_range.2 hi))
 unfold ldO
 rw [if_pos h,List.getElem?_eq_getElem hi,Option.getD_some]
 split<;>simp
theorem aFq {i : Nat} (h : uX d code i=true) (hle : (code[i]'(zA h)).a≤i) : (code[i]'(zA h)).a∈eR d code:=by
 have hi:=zA h
 refine ((cZ _).2 _).2 (aCy (f:=hdO d code) (i:=i) (λl _ h=>aFo l h) (λout=>?_) (List.mem_range.2 hi))
 unfold hdO
 rw [List.getElem?_eq_getElem hi,Option.getD_some,if_pos ⟨h,hle⟩]
 simp
theorem aGU : ∀ (l : List Nat) {a b : List Int},(∀ x∈a,x∈b)→∀ x∈l.foldl (hdO d code) a,x∈l.foldl (ldO d code) b
 | [],_,_,h=>h
 | i::r,a,b,h=>by
   refine aGU r (λx hx=>?_)
   unfold hdO at hx
   unfold ldO
   split at hx
   ·rename_i hh
    rw [if_pos hh.1]
    rcases List.mem_append.1 hx with hx | hx
    ·have:=h x hx
     split<;>simp [this]
    ·rw [List.mem_singleton] at hx
     subst hx
     split<;>simp
   ·have:=h x hx
    split
    ·split<;>simp [this]
    ·exact this
theorem aHP {x : Int} (h : x∈eR d code) : x∈jE d code:=
 ((cZ _).2 x).2 (aGU (List.range code.length) (a:=[]) (b:=[0]) (λx hx=>absurd hx List.not_mem_nil) x (((cZ _).2 x).1 h))
theorem aHQ {x : Int} (h : x∈eR d code) : x∈oU d code:=((cZ _).2 x).2 (List.mem_append_left _ h)
theorem aDE : (0 : Int)∈jE d code:=((cZ _).2 _).2 (aCx _ (by simp))
theorem aHR : (0 : Int)∈oU d code:=((cZ _).2 _).2 (by simp)
theorem xQ {l : List Int} (hp : l.Pairwise (· < ·)) (h0 : (0 : Int)∈l) (hn : ∀ x∈l,0≤x) : ∃ r,l=0::r:=by
 cases l with
 | nil=>cases h0
 | cons a r=>
   rw [List.pairwise_cons] at hp
   rcases List.mem_cons.1 h0 with e | h
   ·exact ⟨r,by rw [← e]⟩
   ·have:=hp.1 0 h
    have:=hn a List.mem_cons_self
    omega
theorem zB (J : JOk d code) {x : Int} (h : x∈eR d code) : 0≤x∧x<code.length:=(aGm J).rng x (((cZ _).2 x).1 h)
theorem aIA (J : JOk d code) (h1 : 1≤code.length) {x : Int} (h : x∈jE d code) : 0≤x∧x<code.length:=(aGl J h1).rng x (((cZ _).2 x).1 h)
theorem aEo (J : JOk d code) : oU d code=if (eR d code)[0]? = some 0 then eR d code else 0::eR d code:=by
 have hh:=cZ (aHO d code)
 have he:=cZ (eR d code++[0])
 have hm : ∀ x,x∈oU d code↔x∈eR d code∨x=0:=λx=>by
  show x∈jJ _↔_
  rw [he.2];simp
 by_cases h0 : (eR d code)[0]? = some 0
 ·rw [if_pos h0]
  refine vA he.1 hh.1 (λx=>?_)
  show x∈oU d code↔x∈eR d code
  rw [hm]
  exact ⟨λh=>h.elim id (λh=>by rw [h];exact List.mem_of_getElem? h0),.inl⟩
 ·rw [if_neg h0]
  refine vA he.1 ?_ (λx=>?_)
  ·rw [List.pairwise_cons]
   refine ⟨λx hx=>?_,hh.1⟩
   have hx0:=(zB J hx).1
   rcases Int.lt_or_eq_of_le hx0 with h | h
   ·exact h
   ·exfalso
    obtain ⟨r,hr⟩:=xQ hh.1 (by rw [h];exact hx) (λy hy=>(zB J hy).1)
    apply h0
    show (jJ (aHO d code))[0]? = _
    rw [hr];rfl
  ·show x∈oU d code↔_
   rw [hm,List.mem_cons]
   exact ⟨λh=>h.symm,λh=>h.symm⟩
end
def MdP (l : List Int) (A : Int) (r : R) : Prop:=∃ a s : Int,∃ m : fF,r = [m.pv,aZ l,.int .i64 a,.int .i64 s]∧0≤a∧a≤A∧0≤s∧s<65521∧m.sized∧1≤m.funcs.length∧m.funcs.length≤100
theorem MdP.of {l : List Int} {A a s : Int} {ts fs : List PV} (h : 0≤a∧a≤A∧0≤s∧s<65521) (h1 : ∀ x∈ts,iB x) (h2 : ts.length≤100) (h3 : ∀ x∈fs,iC x) (h4 : fs.length≤100) (h5 : 1≤fs.length) : ∃ m : fF,ts=m.texts.map PV.str∧fs=m.funcs.map eD.pv∧m.sized∧1≤m.funcs.length∧m.funcs.length≤100:=by
 obtain ⟨t,rfl,ht⟩:=aGP h1
 obtain ⟨f,rfl,hf⟩:=aGR h3
 rw [List.length_map] at h2 h4 h5
 exact ⟨⟨t,f⟩,rfl,rfl,⟨by show t.length≤_;omega,by show f.length≤_;omega,λx hx=>by have:=ht x hx;omega,hf⟩,h5,h4⟩
section
variable {l : List Int} (hl : Bts l) {P : R → Prop}
include hl
theorem aFr {a s : Int} (h0 : 0≤a∧a≤800000000∧0≤s∧s<65521) : Ok (MdP l (a+4000000)) (lQ (aZ l) (.int .i64 a) (.int .i64 s)):=by
 rw [vK]
 refine aI (wD hl h0) ?_
 rintro r ⟨a1,s1,ts,fs,rfl,h1,h2,h3,h4,ht,htn,hf,hn1,hn2⟩
 obtain ⟨m,rfl,rfl,hs,hm1,hm2⟩:=MdP.of (l:=l) (A:=a1) (a:=a1) (s:=s1) (by omega) ht (by omega) (λx hx=>(hf x hx).toFun) (by omega) hn1
 refine aG rfl (aA rfl (aA rfl (aGS hs (bB (aS (λ_=>aB ?_) (λ_=>aB ?_))))))
 ·refine ⟨a1,s1,⟨[],[⟨0,1,[⟨6,0⟩,⟨26,0⟩,⟨4,0⟩,⟨25,0⟩]⟩]⟩,rfl,by omega,by omega,by omega,by omega,⟨?_,?_,?_,?_⟩,?_,?_⟩
  all_goals simp
 ·exact ⟨a1,s1,m,rfl,by omega,by omega,by omega,by omega,hs,hm1,hm2⟩
theorem aFs {a s : Int} (h0 : 0≤a∧a≤700000000∧0≤s∧s<65521) : Ok (MdP l (a+5000000)) (lP (aZ l) (.int .i64 a) (.int .i64 s)):=by
 rw [vH]
 refine iA hl (by omega) (by omega) (λb a1 s1 h1=>aS (λ_=>?_) (λ_=>?_))
 ·refine aI (aGd hl (by omega) (by omega)) ?_
  rintro r ⟨a2,s2,ts,fs,rfl,g1,g2,g3,g4,ht,htn,hf,hn2,hn1⟩
  obtain ⟨m,rfl,rfl,hs,hm1,hm2⟩:=MdP.of (l:=l) (A:=a2) (a:=a2) (s:=s2) (by omega) ht (by omega) hf (by omega) hn1
  exact aG rfl (aA rfl (aA rfl (aB ⟨a2,s2,m,rfl,by omega,by omega,by omega,by omega,hs,hm1,hm2⟩)))
 ·refine aI (aFr hl (by omega)) ?_
  rintro r ⟨a2,s2,m,rfl,g1,g2,g3,g4,hs,hm1,hm2⟩
  exact aG rfl (aA rfl (aA rfl (aB ⟨a2,s2,m,rfl,by omega,by omega,by omega,by omega,hs,hm1,hm2⟩)))
def aKN (l : List Int) (A : Int) (r : R) : Prop:=∃ a s : Int,∃ v : lI,r = [v.pv,aZ l,.int .i64 a,.int .i64 s]∧0≤a∧a≤A∧0≤s∧s<65521∧v.s.size≤1000
def aKI (l : List Int) (A : Int) (r : R) : Prop:=∃ a s : Int,∃ vs : List lI,r = [bK vs,aZ l,.int .i64 a,.int .i64 s]∧0≤a∧a≤A∧0≤s∧s<65521∧(∀ v∈vs,v.s.size≤1000)∧vs.length≤21
end
section
variable {d : List Int} {code : List aT}
theorem sC {m : fF} (g : lD m) {f : Nat} (hf : f<m.funcs.length) : JOk (eL m.funcs m.funcs[f].code) m.funcs[f].code:=by
 have F:=jX g hf
 have hd:=(lT F).1
 have hv:=λpc hpc=>aFg g.bad hf (pc:=pc) hpc
 refine ⟨λi hi hj=>?_⟩
 have hi' : i<(eL m.funcs m.funcs[f].code).length:=by omega
 rw [xN hi hi',Bool.and_eq_true,decide_eq_true_eq,bG] at hj
 obtain ⟨h0,h1,h2⟩:=hj
 have ha:=F.j _ (List.getElem_mem hi) (by omega)
 refine ⟨ha.1,ha.2,λh17=>?_⟩
 have hc:=aDw hi (hv i hi) (by rw [List.getElem?_eq_getElem hi'];simp;exact h0)
 have hnx : ((i : Int)+1)∈eA m.funcs[f].code[i] i:=by
  unfold eA
  rw [if_pos (by omega)]
  simp
 have:=(hc.2 _ hnx).1
 omega
theorem sD {α : Type} {f : α→Nat→α} {a : α} {i : Nat} : (List.range (i+1)).foldl f a=f ((List.range i).foldl f a) i:=by
 rw [List.range_succ,List.foldl_append];rfl
def zC (bs : List Bool) (i : Nat) : List Int:=((List.range i).filter λi=>bs[i]?.getD false).map Int.ofNat
theorem aAp (bs : List Bool) (i : Nat) : (zC bs i).length≤i:=by
 unfold zC
 rw [List.length_map]
 have:=List.length_filter_le (λi=>bs[i]?.getD false) (List.range i)
 rw [List.length_range] at this
 exact this
theorem aGn {bs : List Bool} {i : Nat} (hi : i<bs.length) : zC bs (i+1)=if bs[i]=true then zC bs i++[(i : Int)] else zC bs i:=by
 unfold zC
 rw [List.range_succ,List.filter_append,List.map_append]
 simp only [List.filter_cons,List.filter_nil,List.getElem?_eq_getElem hi,Option.getD_some]
 by_cases h : bs[i]=true
 ·rw [if_pos h,if_pos h];rfl
 ·rw [if_neg h,if_neg h];simp
theorem aGV {bs : List Bool} (h : bs.length≤1000) : Ok (λq=>q = [aR (pX bs)]) (nN (.lst (bs.map PV.bool))):=by
 rw [aA6]
 refine qN (n:=bs.length) (σ:=List Int) (F:=λi out=>gQ (.lst (bs.map PV.bool)) (.int .i64 i) (aR out)) (λi out=>out=zC bs i) ?_ ?_ 0 [] (by omega) rfl
 ·rintro out rfl
  rw [oP]
  exact aH (aM (aD (λh=>by omega) (λ_=>aB rfl)))
 ·rintro i out hi rfl ih
  have hl:=aAp bs i
  have hs:=aGn hi
  rw [oP]
  refine aH (aM (aD (λ_=>aO hi (λ_=>rfl) (aS (λhb=>?_) (λhb=>?_))) (λh=>by omega)))
  ·refine cO (l:=[]) (ys:=[(i : Int)]) (by simp) (cO (ys:=[(i : Int)]) (by simp;omega) (aK (by omega) (ih _ ?_)))
   rw [hs,if_pos hb]
  ·refine aK (by omega) (ih _ ?_)
   rw [hs,if_neg (by rw [hb];simp)]
theorem aJk (bs : List Bool) (i : Nat) : (ldB d code bs i).length=bs.length:=by
 unfold ldB
 split
 ·split<;>simp
 ·rfl
theorem aJl (bs : List Bool) (i : Nat) : (hdB d code bs i).length=bs.length:=by
 unfold hdB
 split
 ·simp
 ·rfl
theorem aIB {bs : List Bool} {i : Nat} (hi : i<code.length) (hj : uX d code i=true) : ldB d code bs i=if code[i].o≠17 then (bs.set code[i].a.toNat true).set (i+1) true else bs.set code[i].a.toNat true:=by
 unfold ldB
 rw [if_pos hj,List.getElem?_eq_getElem hi,Option.getD_some]
theorem aIC {out : List Int} {i : Nat} (hi : i<code.length) (hj : uX d code i=true) : ldO d code out i=if code[i].o≠17 then out++[code[i].a]++[(i : Int)+1] else out++[code[i].a]:=by
 unfold ldO
 rw [if_pos hj,List.getElem?_eq_getElem hi,Option.getD_some]
theorem aJR {bs : List Bool} {i : Nat} (hi : i<code.length) : hdB d code bs i=if uX d code i=true∧code[i].a≤i then bs.set code[i].a.toNat true else bs:=by
 unfold hdB
 rw [List.getElem?_eq_getElem hi,Option.getD_some]
theorem aJS {out : List Int} {i : Nat} (hi : i<code.length) : hdO d code out i=if uX d code i=true∧code[i].a≤i then out++[code[i].a] else out:=by
 unfold hdO
 rw [List.getElem?_eq_getElem hi,Option.getD_some]
theorem aCz (J : JOk d code) (hd : d.length=code.length) (hn : code.length≤1000) :
 Ok (λr=>r = [aR (pX (aGj d code))]) (aX (.lst (code.map aT.pv)) (aR d) (.int .i64 0) (.lst (((List.replicate code.length false).set 0 true).map PV.bool))):=by
 refine qN (n:=code.length) (σ:=List Bool) (F:=λi bs=>aX (.lst (code.map aT.pv)) (aR d) (.int .i64 i) (.lst (bs.map PV.bool)))
  (λi bs=>bs.length=code.length∧bs=(List.range i).foldl (ldB d code) ((List.replicate code.length false).set 0 true)) ?_ ?_ 0 _ (by omega) ⟨by simp,rfl⟩
 ·rintro bs ⟨h2,h3⟩
  rw [lH]
  refine aH (aM (aD (λh=>by omega) (λ_=>aI (aGV (by omega)) (λr hr=>?_))))
  rw [hr]
  refine dH (bN _) (aB ?_)
  rw [h3];rfl
 ·rintro i bs hi ⟨h2,h3⟩ ih
  have hi' : i<d.length:=by omega
  have hj:=xN hi hi'
  have nx : ∀ b,b=ldB d code bs i→Ok (λr=>r = [aR (pX (aGj d code))]) (aX (.lst (code.map aT.pv)) (aR d) (.int .i64 ((i : Int)+1)) (.lst (b.map PV.bool))):=λb hb=>
   ih b ⟨by rw [hb,aJk];exact h2,by rw [hb,sD,← h3]⟩
  have skip : uX d code i=false→Ok (λr=>r = [aR (pX (aGj d code))]) (aX (.lst (code.map aT.pv)) (aR d) (.int .i64 ((i : Int)+1)) (.lst (bs.map PV.bool))):=λh=>
   nx bs (by unfold ldB;rw [if_neg (by rw [h];simp)])
  rw [lH]
  refine aH (aM (aD (λ_=>?_) (λh=>by omega)))
  refine aO hi (λ_=>rfl) (aA rfl (aY hi' (aM (aD (λh=>aK (by omega) (skip ?_)) (λh0=>?_)))))
  ·rw [hj,decide_eq_false (by omega)];rfl
  have two : code[i].o=18∨code[i].o=19→0≤code[i].a∧code[i].a<bs.length∧i+1<bs.length∧Ok (λr=>r = [aR (pX (aGj d code))]) (aX (.lst (code.map aT.pv)) (aR d) (.int .i64 ((i : Int)+1)) (.lst (((bs.set code[i].a.toNat true).set ((i : Int)+1).toNat true).map PV.bool))):=λho=>by
   have hjt : uX d code i=true:=by rw [hj,decide_eq_true (by omega),Bool.true_and];exact bG.2 (by omega)
   obtain ⟨j1,j2,j3⟩:=J.j i hi hjt
   have j3:=j3 (by omega)
   refine ⟨j1,by omega,by omega,nx _ ?_⟩
   rw [aIB hi hjt,if_pos (by omega),show ((i : Int)+1).toNat=i+1 by omega]
  refine dB (bA (λh17=>dB (bA (λh18=>dB (bA (λh19=>aK (by omega) (skip ?_)) (λh19=>?_))) (λh18=>?_))) (λh17=>?_))
  ·rw [hj]
   have : iS code[i].o 17 19=false:=aGD.2 (by omega)
   rw [this,Bool.and_false]
  ·obtain ⟨b1,b2,b3,b4⟩:=two (.inr h19)
   refine aO hi (λ_=>rfl) (aA rfl (uZ b1 b2 (uY b1 b2 (dB (bA (λ_=>?_) (λh=>absurd h (by omega)))))))
   exact aK (by omega) (uZ (by omega) (by simp;omega) (uY (by omega) (by simp;omega) (aK (by omega) b4)))
  ·obtain ⟨b1,b2,b3,b4⟩:=two (.inl h18)
   refine aO hi (λ_=>rfl) (aA rfl (uZ b1 b2 (uY b1 b2 (dB (bA (λ_=>?_) (λh=>absurd h (by omega)))))))
   exact aK (by omega) (uZ (by omega) (by simp;omega) (uY (by omega) (by simp;omega) (aK (by omega) b4)))
  ·have hjt : uX d code i=true:=by rw [hj,decide_eq_true (by omega),Bool.true_and];exact bG.2 (by omega)
   obtain ⟨j1,j2,_⟩:=J.j i hi hjt
   refine aO hi (λ_=>rfl) (aA rfl (uZ j1 (by omega) (uY j1 (by omega) (dB (bA (λh=>absurd h17 h) (λ_=>aK (by omega) (nx _ ?_)))))))
   rw [aIB hi hjt,if_neg (by omega)]
theorem aCA (J : JOk d code) (hd : d.length=code.length) (hn : code.length≤1000) :
 Ok (λr=>r = [aR (pX (aGk d code))]) (bP (.lst (code.map aT.pv)) (aR d) (.int .i64 0) (.lst ((List.replicate code.length false).map PV.bool))):=by
 refine qN (n:=code.length) (σ:=List Bool) (F:=λi bs=>bP (.lst (code.map aT.pv)) (aR d) (.int .i64 i) (.lst (bs.map PV.bool)))
  (λi bs=>bs.length=code.length∧bs=(List.range i).foldl (hdB d code) (List.replicate code.length false)) ?_ ?_ 0 _ (by omega) ⟨by simp,rfl⟩
 ·rintro bs ⟨h2,h3⟩
  rw [nD]
  refine aH (aM (aD (λh=>by omega) (λ_=>aI (aGV (by omega)) (λr hr=>?_))))
  rw [hr]
  refine dH (bN _) (aB ?_)
  rw [h3];rfl
 ·rintro i bs hi ⟨h2,h3⟩ ih
  have hi' : i<d.length:=by omega
  have hj:=xN hi hi'
  have hb:=aJR (d:=d) (bs:=bs) hi
  have nx : ∀ b,b=hdB d code bs i→Ok (λr=>r = [aR (pX (aGk d code))]) (bP (.lst (code.map aT.pv)) (aR d) (.int .i64 ((i : Int)+1)) (.lst (b.map PV.bool))):=λb hb=>
   ih b ⟨by rw [hb,aJl];exact h2,by rw [hb,sD,← h3]⟩
  have skip : ¬ (uX d code i=true∧code[i].a≤i)→Ok (λr=>r = [aR (pX (aGk d code))]) (bP (.lst (code.map aT.pv)) (aR d) (.int .i64 ((i : Int)+1)) (.lst (bs.map PV.bool))):=λh=>
   nx bs (by rw [hb,if_neg h])
  have back : 0≤d[i]→17≤code[i].o∧code[i].o≤19→code[i].a≤i→Ok (λr=>r = [aR (pX (aGk d code))]) (gC (.lst (code.map aT.pv)) (aR d) (.int .i64 i) (.lst (bs.map PV.bool))):=λh0d ho hle=>by
   have hjt : uX d code i=true:=by rw [hj,decide_eq_true h0d,Bool.true_and];exact bG.2 ho
   obtain ⟨j1,j2,_⟩:=J.j i hi hjt
   rw [vG]
   exact aO hi (λ_=>rfl) (aA rfl (uZ j1 (by omega) (uY j1 (by omega) (aK (by omega) (nx _ (by rw [hb,if_pos ⟨hjt,hle⟩]))))))
  rw [nD]
  refine aH (aM (aD (λ_=>?_) (λh=>by omega)))
  refine aO hi (λ_=>rfl) (aA rfl (aY hi' (dA (aD (λh0d=>?_) (λh=>aK (by omega) (skip (λhb=>?_)))))))
  rotate_left
  ·rw [hj,decide_eq_false (by omega)] at hb;exact absurd hb.1 (by simp)
  refine aP (aD (λh17=>?_) (λh17=>aP (aD (λh18=>?_) (λh18=>aP (aD (λh19=>?_) (λh19=>aK (by omega) (skip (λhb=>?_))))))))
  ·exact aO hi (λ_=>rfl) (aA rfl (cE (aD (λh=>back h0d (by omega) h) (λh=>aK (by omega) (skip (λhb=>h hb.2))))))
  ·exact aO hi (λ_=>rfl) (aA rfl (cE (aD (λh=>back h0d (by omega) h) (λh=>aK (by omega) (skip (λhb=>h hb.2))))))
  ·exact aO hi (λ_=>rfl) (aA rfl (cE (aD (λh=>back h0d (by omega) h) (λh=>aK (by omega) (skip (λhb=>h hb.2))))))
  ·rw [hj] at hb
   simp only [Bool.and_eq_true,bG] at hb
   omega
theorem aCB : ∀ l : List Int,rH (l.map (PV.int .i64))=some l
 | []=>rfl
 | x::r=>by
   simp only [List.map_cons,rH]
   rw [aCB r]
theorem sE {l : List Int} (h : l.length≤1000000) : Ok (λr=>r = [aR (jJ l)]) (iM (aR l)):=by
 rw [yQ]
 have e : pA [.p (aR l)] ⟨[],[],0,0,0⟩=some [aR (jJ l)]:=by
  unfold aR
  simp only [pA,aCB]
  exact if_pos h
 rw [e]
 exact aB rfl
theorem aCC (hd : d.length=code.length) (hn : code.length≤1000) :
 Ok (λr=>r = [aR (jE d code)]) (cQ (aR d) (.lst (code.map aT.pv)) (.int .i64 code.length) (.int .i64 0) (.lst [.int .i64 0])):=by
 refine qN (n:=code.length) (σ:=List Int) (F:=λi out=>cQ (aR d) (.lst (code.map aT.pv)) (.int .i64 code.length) (.int .i64 i) (aR out))
  (λi out=>out.length≤1+2*i∧out=(List.range i).foldl (ldO d code) [0]) ?_ ?_ 0 [0] (by omega) ⟨by simp,rfl⟩
 ·rintro out ⟨h2,h3⟩
  rw [oO]
  refine aM (aD (λh=>by omega) (λ_=>aI (sE (by omega)) (λr hr=>?_)))
  rw [hr]
  refine dH (bN _) (aB ?_)
  rw [h3];rfl
 ·rintro i out hi ⟨h2,h3⟩ ih
  have hi' : i<d.length:=by omega
  have hj:=xN hi hi'
  have nx : ∀ b : List Int,b.length≤1+2*(i+1)→b=ldO d code out i→Ok (λr=>r = [aR (jE d code)]) (cQ (aR d) (.lst (code.map aT.pv)) (.int .i64 code.length) (.int .i64 ((i : Int)+1)) (aR b)):=λb hb he=>
   ih b ⟨hb,by rw [he,sD,← h3]⟩
  have skip : uX d code i=false→Ok (λr=>r = [aR (jE d code)]) (cQ (aR d) (.lst (code.map aT.pv)) (.int .i64 code.length) (.int .i64 ((i : Int)+1)) (aR out)):=λh=>
   nx out (by omega) (by unfold ldO;rw [if_neg (by rw [h];simp)])
  rw [oO]
  refine aM (aD (λ_=>?_) (λh=>by omega))
  refine aO hi (λ_=>rfl) (aG rfl (aA rfl (aA rfl (aY hi' ?_))))
  refine aM (aD (λh=>aK (by omega) (skip ?_)) (λh0=>aAm (bB (aS (λhb=>aK (by omega) (skip ?_)) (λhb=>?_)))))
  ·rw [hj,decide_eq_false (by omega)];rfl
  ·have hb : iS code[i].o 17 19=false:=by simpa using hb
   rw [hj,hb,Bool.and_false]
  ·have hb : iS code[i].o 17 19=true:=by simpa using hb
   have hjt : uX d code i=true:=by rw [hj,hb,decide_eq_true (by omega)];rfl
   refine cO (l:=[]) (ys:=[code[i].a]) (by simp) (cO (ys:=[code[i].a]) (by simp;omega) (dB (bA (λh17=>?_) (λh17=>?_))))
   ·refine aK (by omega) (cO (l:=[]) (ys:=[(i : Int)+1]) (by simp) (cO (ys:=[(i : Int)+1]) (by simp;omega) (aK (by omega) (nx _ (by simp;omega) ?_))))
    rw [aIC hi hjt,if_pos h17]
   ·refine aK (by omega) (nx _ (by simp;omega) ?_)
    rw [aIC hi hjt,if_neg (λh=>h h17)]
theorem aCD (hd : d.length=code.length) (hn : code.length≤1000) :
 Ok (λr=>r = [aR (eR d code)]) (dJ (aR d) (.lst (code.map aT.pv)) (.int .i64 code.length) (.int .i64 0) (.lst [])):=by
 refine qN (n:=code.length) (σ:=List Int) (F:=λi out=>dJ (aR d) (.lst (code.map aT.pv)) (.int .i64 code.length) (.int .i64 i) (aR out))
  (λi out=>out.length≤i∧out=(List.range i).foldl (hdO d code) []) ?_ ?_ 0 [] (by omega) ⟨by simp,rfl⟩
 ·rintro out ⟨h2,h3⟩
  rw [rC]
  refine aM (aD (λh=>by omega) (λ_=>aI (sE (by omega)) (λr hr=>?_)))
  rw [hr]
  refine dH (bN _) (aB ?_)
  rw [h3];rfl
 ·rintro i out hi ⟨h2,h3⟩ ih
  have hi' : i<d.length:=by omega
  have hj:=xN hi hi'
  have ho:=aJS (d:=d) (out:=out) hi
  have nx : ∀ b : List Int,b.length≤i+1→b=hdO d code out i→Ok (λr=>r = [aR (eR d code)]) (dJ (aR d) (.lst (code.map aT.pv)) (.int .i64 code.length) (.int .i64 ((i : Int)+1)) (aR b)):=λb hb he=>
   ih b ⟨hb,by rw [he,sD,← h3]⟩
  have skip : ¬ (uX d code i=true∧code[i].a≤i)→Ok (λr=>r = [aR (eR d code)]) (dJ (aR d) (.lst (code.map aT.pv)) (.int .i64 code.length) (.int .i64 ((i : Int)+1)) (aR out)):=λh=>
   nx out (by omega) (by rw [ho,if_neg h])
  rw [rC]
  refine aM (aD (λ_=>?_) (λh=>by omega))
  refine aO hi (λ_=>rfl) (aG rfl (aA rfl (aA rfl (aY hi' ?_))))
  refine dA (aD (λh0=>aAm (aS (λhb=>dA (aD (λhle=>?_) (λhle=>aK (by omega) (skip (λh=>hle h.2))))) (λhb=>aK (by omega) (skip (λh=>?_))))) (λh0=>aK (by omega) (skip (λh=>?_))))
  ·have hjt : uX d code i=true:=by rw [hj,hb,decide_eq_true h0];rfl
   rw [aAh]
   refine cO (l:=[]) (ys:=[code[i].a]) (by simp) (cO (ys:=[code[i].a]) (by simp;omega) (aK (by omega) (nx _ (by simp;omega) ?_)))
   rw [ho,if_pos ⟨hjt,hle⟩]
  ·rw [hj,hb,Bool.and_false] at h;exact absurd h.1 (by simp)
  ·rw [hj,decide_eq_false (by omega)] at h;exact absurd h.1 (by simp)
end
section
variable {P : R → Prop} {m : fF}
section
variable (g : lD m) {f : Nat} (hf : f < m.funcs.length)
include g hf
abbrev oV (m : fF) (f : Nat) (hf : f<m.funcs.length) : List Int:=eL m.funcs m.funcs[f].code
theorem xR : 1≤m.funcs[f].code.length∧m.funcs[f].code.length≤120∧(oV m f hf).length=m.funcs[f].code.length:=⟨(jX g hf).n1,(jX g hf).n2,(lT (jX g hf)).1⟩
theorem zD : Ok (λr=>r = [aR (jE (oV m f hf) m.funcs[f].code)]) (kF m.pv (.int .i64 f)):=by
 obtain ⟨n1,n2,n3⟩:=xR g hf
 rw [xG]
 refine aG rfl (aA rfl (aA rfl (aO hf (λ_=>rfl) (aA rfl (aI (uH (jX g hf) hf rfl) (λr hr=>?_))))))
 subst hr
 refine aH (rF (by omega) (by omega) (cE ?_))
 rw [decide_eq_true (Int.le_refl _)]
 refine eE (rF (by omega) (by omega) (cB (by omega) (by simp;omega) (aBj (by omega) (by simp;omega) rfl ?_)))
 have e : (List.replicate m.funcs[f].code.length (PV.bool false)).set (Int.toNat 0) (.bool true)=((List.replicate m.funcs[f].code.length false).set 0 true).map PV.bool:=by
  rw [List.map_set,List.map_replicate];rfl
 rw [e]
 refine (aCz (sC g hf) n3 (by omega)).mono (λr hr=>?_)
 rw [hr,(aGl (sC g hf) n1).asc];rfl
theorem xS : Ok (λr=>r = [aR (eR (oV m f hf) m.funcs[f].code)]) (jR m.pv (.int .i64 f)):=by
 obtain ⟨n1,n2,n3⟩:=xR g hf
 rw [aAf]
 refine aG rfl (aA rfl (aA rfl (aO hf (λ_=>rfl) (aA rfl (aI (uH (jX g hf) hf rfl) (λr hr=>?_))))))
 subst hr
 refine aH (rF (by omega) (by omega) (cE ?_))
 rw [decide_eq_true (Int.le_refl _)]
 refine eE (rF (by omega) (by omega) ?_)
 have e : (List.replicate m.funcs[f].code.length (PV.bool false))=(List.replicate m.funcs[f].code.length false).map PV.bool:=by rw [List.map_replicate]
 rw [e]
 refine (aCA (sC g hf) n3 (by omega)).mono (λr hr=>?_)
 rw [hr,(aGm (sC g hf)).asc];rfl
theorem aAq : (eR (oV m f hf) m.funcs[f].code).length≤120:=by
 obtain ⟨n1,n2,n3⟩:=xR g hf
 have t:=aGm (sC g hf)
 show (jJ _).length≤_
 rw [← t.asc]
 have:=aAp (aGk (eL m.funcs m.funcs[f].code) m.funcs[f].code) (aGk (eL m.funcs m.funcs[f].code) m.funcs[f].code).length
 have h2:=t.len
 show (zC _ _).length≤_
 omega
theorem aHS : (jE (oV m f hf) m.funcs[f].code).length≤120:=by
 obtain ⟨n1,n2,n3⟩:=xR g hf
 have t:=aGl (sC g hf) n1
 show (jJ _).length≤_
 rw [← t.asc]
 have:=aAp (aGj (eL m.funcs m.funcs[f].code) m.funcs[f].code) (aGj (eL m.funcs m.funcs[f].code) m.funcs[f].code).length
 have h2:=t.len
 show (zC _ _).length≤_
 omega
theorem aHT : (oU (oV m f hf) m.funcs[f].code).length≤(eR (oV m f hf) m.funcs[f].code).length+1:=by
 have e:=aEo (sC g hf)
 show (oU (eL m.funcs m.funcs[f].code) m.funcs[f].code).length≤(eR (eL m.funcs m.funcs[f].code) m.funcs[f].code).length+1
 rw [e]
 split
 ·omega
 ·simp
theorem aEp : Ok (λr=>r = [aR (oU (oV m f hf) m.funcs[f].code)]) (mU m.pv (.int .i64 f)):=by
 have hl : (eR (eL m.funcs m.funcs[f].code) m.funcs[f].code).length≤120:=aAq g hf
 have he:=aEo (sC g hf)
 rw [xI]
 refine aG rfl (aA rfl (aA rfl (aI (xS g hf) (λr hr=>?_))))
 subst hr
 rw [he]
 generalize eR (eL m.funcs m.funcs[f].code) m.funcs[f].code=H at *
 have add : Ok (λr=>r = [aR (0::H)]) (bd (PV.cat 1 8 false (.lst [(.int .i64 0)]) (aR H)) λv=>some [v]):=by
  refine cO (l:=[0]) (ys:=H) (by simp;omega) (aB rfl)
 refine dH (bN _) (aU (cG (aD (λh=>?_) (λh=>?_))))
 ·cases H with
  | nil=>simp at h
  | cons a r=>
    refine cB (by omega) (by simp) (aFv (x:=.int .i64 a) (by omega) rfl rfl (aP (aD (λh0=>aB ?_) (λh0=>?_))))
    ·rw [if_pos (by rw [h0];rfl)];rfl
    ·rw [if_neg (by simpa using h0)];exact add
 ·cases H with
  | nil=>rw [if_neg (by simp)];exact add
  | cons a r=>exact absurd (show (0 : Int)<((a::r).length : Nat) by rw [List.length_cons];omega) h
theorem aA7 : Ok (λr=>r = [aR (jE (oV m f hf) m.funcs[f].code)]) (rW m.pv (.int .i64 f)):=by
 obtain ⟨n1,n2,n3⟩:=xR g hf
 rw [aA4]
 refine aG rfl (aA rfl (aA rfl (aI (iP (jX g hf) hf rfl) (λr hr=>?_))))
 subst hr
 exact aO hf (λ_=>rfl) (aA rfl (aH (aCC n3 (by omega))))
theorem wE : Ok (λr=>r = [aR (eR (oV m f hf) m.funcs[f].code)]) (rX m.pv (.int .i64 f)):=by
 obtain ⟨n1,n2,n3⟩:=xR g hf
 rw [aCZ]
 refine aG rfl (aA rfl (aA rfl (aI (iP (jX g hf) hf rfl) (λr hr=>?_))))
 subst hr
 exact aO hf (λ_=>rfl) (aA rfl (aH (aCD n3 (by omega))))
theorem aA8 : Ok (λr=>r = [aR (oU (oV m f hf) m.funcs[f].code)]) (rY m.pv (.int .i64 f)):=by
 have hl:=aAq g hf
 rw [aA5]
 refine aG rfl (aA rfl (aA rfl (aI (wE g hf) (λr hr=>?_))))
 subst hr
 refine dH (bN _) (cO (ys:=[0]) (by simp;omega) (aI (sE (by simp;omega)) (λr hr=>?_)))
 rw [hr]
 exact dH (bN _) (aB rfl)
end
end
section
variable {d : List Int} {code : List aT}
theorem aID (h : noJ d code 0=true) : jE d code = [0]∧eR d code = []:=by
 rw [aGT] at h
 have e1 : ∀ (l : List Nat) (out : List Int),l.foldl (ldO d code) out=out:=by
  intro l
  induction l with
  | nil=>intro out;rfl
  | cons i r ih=>
    intro out
    rw [List.foldl_cons,ih]
    unfold ldO
    rw [if_neg (λhj=>by rw [h i (by omega) (zA hj)] at hj;cases hj)]
 have e2 : ∀ (l : List Nat) (out : List Int),l.foldl (hdO d code) out=out:=by
  intro l
  induction l with
  | nil=>intro out;rfl
  | cons i r ih=>
    intro out
    rw [List.foldl_cons,ih]
    unfold hdO
    rw [if_neg (λhj=>by have hj:=hj.1;rw [h i (by omega) (zA hj)] at hj;cases hj)]
 constructor
 ·refine vA (cZ _).1 (by simp) (λx=>?_)
  show x∈jJ (aJj d code)↔_
  rw [(cZ _).2]
  unfold aJj
  rw [e1]
 ·refine vA (cZ _).1 (by simp) (λx=>?_)
  show x∈jJ (aHO d code)↔_
  rw [(cZ _).2]
  unfold aHO
  rw [e2]
theorem aJm : noJ d code 0=(decide ((jE d code).length=1)&&decide ((eR d code).length=0)):=by
 cases hq : noJ d code 0 with
 | true=>
   obtain ⟨h1,h2⟩:=aID hq
   rw [h1,h2];rfl
 | false=>
   symm
   rw [Bool.and_eq_false_iff]
   by_cases hl : (jE d code).length=1
   ·right
    rw [decide_eq_false_iff_not]
    intro hh
    have : noJ d code 0=true:=aGT.2 (λpc _ hpc=>by
     cases hj : uX d code pc with
     | false=>rfl
     | true=>
       exfalso
       have m1:=aFp hj
       have m0:=aDE (d:=d) (code:=code)
       obtain ⟨a,ha⟩:=List.length_eq_one_iff.1 hl
       rw [ha,List.mem_singleton] at m1 m0
       have m2:=aFq hj (by omega)
       rw [List.eq_nil_of_length_eq_zero hh] at m2
       cases m2)
    rw [hq] at this;cases this
   ·left;exact decide_eq_false hl
end
section
variable {P : R → Prop} {k : R → Option R} {m : fF} {l : List Int}
theorem aHU (h : l.length≤100000) : Ok (λr=>r = [.bool true]) (gS (aR l) (aR l)):=by
 rw [zZ]
 refine aU (aU (dB (bA (λh=>absurd rfl h) (λ_=>?_))))
 refine mG (n:=l.length) (F:=λi=>iV (aR l) (aR l) (.int .i64 i)) (P:=λ_ r=>r = [.bool true]) ?_ (λi hi ih=>?_) 0 (by omega)
 ·rw [mY]
  exact aU (aM (aD (λh=>by omega) (λ_=>aB rfl)))
 ·rw [mY]
  refine aU (aM (aD (λ_=>?_) (λh=>by omega)))
  exact aY hi (aY hi (dB (bA (λh=>absurd rfl h) (λ_=>aK (by omega) ih))))
theorem rG (h : l.length≤100000) (hk : Ok P (k [.bool true])) : Ok P (bd (gS (aR l) (aR l)) k):=aI (aHU h) (λr hr=>by rw [hr];exact hk)
theorem vB {x : Int} (h : l.length≤100000) (hx : x∈l) (hk : Ok P (k [.bool true])) : Ok P (bd (dP (aR l) (.int .i64 x)) k):=by
 refine aI (Q:=λr=>r = [.bool true]) ?_ (λr hr=>by rw [hr];exact hk)
 rw [aB8]
 obtain ⟨p,hp,rfl⟩:=List.getElem_of_mem hx
 refine mG (n:=p) (F:=λi=>kW (aR l) (.int .i64 l[p]) (.int .i64 i)) (P:=λ_ r=>r = [.bool true]) ?_ (λi hi ih=>?_) 0 (by omega)
 ·rw [pJ]
  exact aU (aM (aD (λ_=>aY hp (aP (aD (λ_=>aB rfl) (λh=>absurd rfl h)))) (λh=>by omega)))
 ·rw [pJ]
  have hi2 : i<l.length:=by omega
  exact aU (aM (aD (λ_=>aY hi2 (aP (aD (λ_=>aB rfl) (λ_=>aK (by omega) ih)))) (λh=>by omega)))
def aA9 (m : fF) (f : Int) : Bool:=yZ m&&iS f 0 (m.funcs.length - 1)
theorem iQ (hs : m.sized) {f : Int} (h : Ok P (k [.bool (aA9 m f)])) : Ok P (bd (kQ m.pv (.int .i64 f)) k):=by
 refine aI (Q:=λr=>r = [.bool (aA9 m f)]) ?_ (λr hr=>by rw [hr];exact h)
 have hfl:=hs.2.1
 rw [aB9]
 refine aG rfl (aA rfl (aA rfl (aH (aI (Q:=λr=>r = [.bool (iS f 0 (m.funcs.length - 1))]) ?_ (λr hr=>?_)))))
 ·rw [mW]
  exact bO (by omega) (fN (aB rfl))
 ·rw [hr]
  refine aS (λhb=>aIy hs (aB ?_)) (λhb=>aB ?_)
  ·unfold aA9;rw [hb,Bool.and_true];rfl
  ·unfold aA9;rw [hb,Bool.and_false]
theorem iR (hs : m.sized) {f : Int} (h : Ok P (k [.bool (aA9 m f)])) : Ok P (bd (lO m.pv (.int .i64 f)) k):=by
 refine aI (Q:=λr=>r = [.bool (aA9 m f)]) ?_ (λr hr=>by rw [hr];exact h)
 have hfl:=hs.2.1
 rw [aCV]
 refine aG rfl (aA rfl (aA rfl (aGS hs (aS (λhb=>aH (bO (by omega) (fG (aB ?_)))) (λhb=>aB ?_)))))
 ·unfold aA9;rw [hb];rfl
 ·unfold aA9;rw [hb];rfl
section
variable (hs : m.sized) {f : Int} (hb : aA9 m f = false)
include hs hb
theorem aKm : Ok (λr=>r = [aR []]) (kY m.pv (.int .i64 f)):=by
 rw [pQ]
 exact aG rfl (aA rfl (aA rfl (iQ hs (by rw [hb];exact bB (eE (aB rfl))))))
theorem aKn : Ok (λr=>r = [aR []]) (nL m.pv (.int .i64 f)):=by
 rw [sR]
 exact aG rfl (aA rfl (aA rfl (iQ hs (by rw [hb];exact bB (eE (aB rfl))))))
theorem aKo : Ok (λr=>r = [aR []]) (kZ m.pv (.int .i64 f)):=by
 rw [pR]
 exact aG rfl (aA rfl (aA rfl (iQ hs (by rw [hb];exact bB (eE (aB rfl))))))
theorem aKp : Ok (λr=>r = [aR []]) (lA m.pv (.int .i64 f)):=by
 rw [pS]
 exact aG rfl (aA rfl (aA rfl (iR hs (by rw [hb];exact bB (eE (aB rfl))))))
theorem aKq : Ok (λr=>r = [aR []]) (nM m.pv (.int .i64 f)):=by
 rw [sS]
 exact aG rfl (aA rfl (aA rfl (iR hs (by rw [hb];exact bB (eE (aB rfl))))))
theorem aKr : Ok (λr=>r = [aR []]) (lB m.pv (.int .i64 f)):=by
 rw [pT]
 exact aG rfl (aA rfl (aA rfl (iR hs (by rw [hb];exact bB (eE (aB rfl))))))
theorem aKs : Ok (λr=>r = [.bool false]) (mC m.pv (.int .i64 f)):=by
 rw [qZ]
 exact aG rfl (aA rfl (aA rfl (iQ hs (by rw [hb];exact bU (aB rfl)))))
theorem aKt : Ok (λr=>r = [.bool false]) (mD m.pv (.int .i64 f)):=by
 rw [rA]
 exact aG rfl (aA rfl (aA rfl (iR hs (by rw [hb];exact bU (aB rfl)))))
end
section
variable (g : lD m) {f : Nat} (hf : f < m.funcs.length) (hb : aA9 m f = true)
include g hb
theorem aJT : Ok (λr=>r = [aR (jE (oV m f hf) m.funcs[f].code)]) (kY m.pv (.int .i64 f)):=by
 rw [pQ]
 refine aG rfl (aA rfl (aA rfl (iQ g.sz (by rw [hb];exact bB (bU (aI (aA7 g hf) (λr hr=>by rw [hr];exact dH (bN _) (aB rfl))))))))
theorem aJU : Ok (λr=>r = [aR (eR (oV m f hf) m.funcs[f].code)]) (nL m.pv (.int .i64 f)):=by
 rw [sR]
 refine aG rfl (aA rfl (aA rfl (iQ g.sz (by rw [hb];exact bB (bU (aI (wE g hf) (λr hr=>by rw [hr];exact dH (bN _) (aB rfl))))))))
theorem aJV : Ok (λr=>r = [aR (oU (oV m f hf) m.funcs[f].code)]) (kZ m.pv (.int .i64 f)):=by
 rw [pR]
 refine aG rfl (aA rfl (aA rfl (iQ g.sz (by rw [hb];exact bB (bU (aI (aA8 g hf) (λr hr=>by rw [hr];exact dH (bN _) (aB rfl))))))))
theorem aJW : Ok (λr=>r = [aR (jE (oV m f hf) m.funcs[f].code)]) (lA m.pv (.int .i64 f)):=by
 rw [pS]
 refine aG rfl (aA rfl (aA rfl (iR g.sz (by rw [hb];exact bB (bU (aI (zD g hf) (λr hr=>by rw [hr];exact dH (bN _) (aB rfl))))))))
theorem aJX : Ok (λr=>r = [aR (eR (oV m f hf) m.funcs[f].code)]) (nM m.pv (.int .i64 f)):=by
 rw [sS]
 refine aG rfl (aA rfl (aA rfl (iR g.sz (by rw [hb];exact bB (bU (aI (xS g hf) (λr hr=>by rw [hr];exact dH (bN _) (aB rfl))))))))
theorem aJY : Ok (λr=>r = [aR (oU (oV m f hf) m.funcs[f].code)]) (lB m.pv (.int .i64 f)):=by
 rw [pT]
 refine aG rfl (aA rfl (aA rfl (iR g.sz (by rw [hb];exact bB (bU (aI (aEp g hf) (λr hr=>by rw [hr];exact dH (bN _) (aB rfl))))))))
theorem aJZ : Ok (λr=>r = [.bool (aFm m.funcs m.funcs[f].code)]) (mC m.pv (.int .i64 f)):=by
 rw [qZ]
 refine aG rfl (aA rfl (aA rfl (iQ g.sz (by rw [hb];exact eE (aI (aAn g hf) (λr hr=>by rw [hr];exact aB rfl))))))
theorem aJ0 : Ok (λr=>r = [.bool (aFm m.funcs m.funcs[f].code)]) (mD m.pv (.int .i64 f)):=by
 rw [rA]
 refine aG rfl (aA rfl (aA rfl (iR g.sz ?_)))
 rw [hb]
 refine eE (aI (Q:=λr=>r = [.bool (aFm m.funcs m.funcs[f].code)]) ?_ (λr hr=>by rw [hr];exact aB rfl))
 rw [vF]
 refine aG rfl (aA rfl (aA rfl (aI (zD g hf) (λr hr=>?_))))
 rw [hr]
 have e : aFm m.funcs m.funcs[f].code=(decide ((jE (oV m f hf) m.funcs[f].code).length=1)&&decide ((eR (oV m f hf) m.funcs[f].code).length=0)&&decide ((m.funcs[f].code.length : Int)≤24)):=by
  unfold aFm
  rw [aJm]
 rw [e]
 refine dH (bN _) (aU (aP (aD (λh1=>aI (xS g hf) (λr hr=>?_)) (λh1=>aB ?_))))
 ·rw [hr]
  refine dH (bN _) (aU (aP (aD (λh2=>aO hf (λ_=>rfl) (aA rfl (aH (cE (aB ?_))))) (λh2=>aB ?_))))
  ·rw [decide_eq_true (show (jE (oV m f hf) m.funcs[f].code).length=1 by omega),decide_eq_true (show (eR (oV m f hf) m.funcs[f].code).length=0 by omega)];rfl
  ·rw [decide_eq_false (show ¬ (eR (oV m f hf) m.funcs[f].code).length=0 by omega),Bool.and_false];rfl
 ·rw [decide_eq_false (show ¬ (jE (oV m f hf) m.funcs[f].code).length=1 by omega)];rfl
theorem aKu : Ok (λr=>r = [aR (oV m f hf)]) (qE m.pv (.int .i64 f)):=by
 have hfl:=g.sz.2.1
 rw [aAa]
 refine aG rfl (aA rfl (aA rfl (aI (vZ g.sz) (λr hr=>?_))))
 rw [hr,g.ok]
 refine bB (bU (aH (aI (Q:=λr=>r = [.bool true]) ?_ (λr hr=>?_))))
 ·rw [mW]
  refine bO (by omega) (fN (aB ?_))
  rw [bG.2 (by omega)];rfl
 ·rw [hr]
  refine bB (bU (aI (iP (jX g hf) hf rfl) (λr hr=>?_)))
  rw [hr]
  exact aB rfl
end
theorem aEq (hl : Bts l) : Ok (λr=>∃ (m : fF) (f : Int),r = [.tup [m.pv,.int .i64 f]]∧m.sized∧-1≤f∧f≤1000) (kJ (aZ l)):=by
 rw [sT]
 refine aJe hl (λs hs=>?_)
 rw [aA3]
 refine aI (Q:=λr=>∃ (m : fF) (f a s : Int),r = [m.pv,.int .i64 f,aZ l,.int .i64 a,.int .i64 s]∧m.sized∧-1≤f∧f≤1000) ?_ ?_
 ·refine aI (aFs hl (by omega)) ?_
  rintro r ⟨a1,s1,m,rfl,h1,h2,h3,h4,hm,hm1,hm2⟩
  refine aG rfl (aA rfl (aA rfl (aH (aK (by omega) (bJ hl (by omega) (by omega) (λx a2 s2 g1=>bO (by omega) (aB ⟨m,x - 1,a2,s2,rfl,hm,by omega,by omega⟩)))))))
 ·rintro r ⟨m,f,a,s,rfl,h1,h2,h3⟩
  exact aG rfl (aA rfl (aA rfl (aB ⟨m,f,rfl,h1,h2,h3⟩)))
theorem aJn (h0 : ∀ x∈l,0≤x∧x≤255) : bC 3 [aZ l]=some [.bool true]:=by
 refine Ok.eq ?_
 show Ok _ (aAP (aZ l))
 rw [aB7]
 refine aJQ h0 (λhl=>bU ?_) (eE (aB rfl))
 refine aI (aEq hl) ?_
 rintro r ⟨m,f,rfl,hs,hf1,hf2⟩
 refine bQ rfl (bQ rfl (aG rfl (aA rfl (aA rfl ?_))))
 cases hb : aA9 m f with
 | false=>
   refine aI (aKm hs hb) (λr hr=>?_)
   rw [hr]
   refine dH (bN _) (aI (aKn hs hb) (λr hr=>?_))
   rw [hr]
   refine dH (bN _) (aI (aKo hs hb) (λr hr=>?_))
   rw [hr]
   refine dH (bN _) (aI (aKp hs hb) (λr hr=>?_))
   rw [hr]
   refine dH (bN _) (rG (by simp) (jY rfl (bB (bU (aI (aKq hs hb) (λr hr=>?_))))))
   rw [hr]
   refine dH (bN _) (rG (by simp) (jY rfl (bB (bU (aI (aKr hs hb) (λr hr=>?_))))))
   rw [hr]
   refine dH (bN _) (rG (by simp) (jY rfl (bB (bU (aI (aKs hs hb) (λr hr=>?_))))))
   rw [hr]
   refine aI (aKt hs hb) (λr hr=>?_)
   rw [hr]
   refine aBi (bU (aU (aP (aD (λ_=>aU (aP (aD (λ_=>aU (aP (aB rfl))) (λh=>absurd rfl h)))) (λh=>absurd rfl h)))))
 | true=>
   have hb2:=hb
   unfold aA9 at hb2
   rw [Bool.and_eq_true,bG] at hb2
   have g:=aGe hs hb2.1
   obtain ⟨i,rfl⟩:=Int.eq_ofNat_of_zero_le hb2.2.1
   have hi : i<m.funcs.length:=by omega
   obtain ⟨n1,n2,n3⟩:=xR g hi
   have J:=sC g hi
   have l1:=aHS g hi
   have l2:=aAq g hi
   have l3:=aHT g hi
   have hasL : ∀ x∈eR (oV m i hi) m.funcs[i].code,x∈jE (oV m i hi) m.funcs[i].code:=λx h=>aHP h
   have hasE : ∀ x∈eR (oV m i hi) m.funcs[i].code,x∈oU (oV m i hi) m.funcs[i].code:=λx h=>aHQ h
   have jL : ∀ (pc : Nat) (hp : pc<m.funcs[i].code.length),uX (oV m i hi) m.funcs[i].code pc=true→m.funcs[i].code[pc].a∈jE (oV m i hi) m.funcs[i].code:=λpc hp h=>aFp h
   have jH : ∀ (pc : Nat) (hp : pc<m.funcs[i].code.length),uX (oV m i hi) m.funcs[i].code pc=true→m.funcs[i].code[pc].a≤pc→m.funcs[i].code[pc].a∈eR (oV m i hi) m.funcs[i].code:=λpc hp h hle=>aFq h hle
   obtain ⟨rl,hrl⟩ : ∃ r,jE (oV m i hi) m.funcs[i].code=0::r:=xQ (cZ _).1 aDE (λx hx=>(aIA J n1 hx).1)
   obtain ⟨re,hre⟩ : ∃ r,oU (oV m i hi) m.funcs[i].code=0::r:=by
    have he:=aEo J
    refine xQ (cZ _).1 aHR (λx hx=>?_)
    rw [he] at hx
    split at hx
    ·exact (zB J hx).1
    ·rcases List.mem_cons.1 hx with h | h
     ·omega
     ·exact (zB J h).1
   refine aI (aJT g hi hb) (λr hr=>?_)
   rw [hr]
   refine dH (bN _) (aI (aJU g hi hb) (λr hr=>?_))
   rw [hr]
   refine dH (bN _) (aI (aJV g hi hb) (λr hr=>?_))
   rw [hr]
   refine dH (bN _) (aI (aJW g hi hb) (λr hr=>?_))
   rw [hr]
   refine dH (bN _) (rG (by omega) (jY rfl (bB (bU (aI (aJX g hi hb) (λr hr=>?_))))))
   rw [hr]
   refine dH (bN _) (rG (by omega) (jY rfl (bB (bU (aI (aJY g hi hb) (λr hr=>?_))))))
   rw [hr]
   refine dH (bN _) (rG (by omega) (jY rfl (bB (bU (aI (aJZ g hi hb) (λr hr=>?_))))))
   rw [hr]
   refine aI (aJ0 g hi hb) (λr hr=>?_)
   rw [hr]
   refine aBi ?_
   have eb : (!(aFm m.funcs m.funcs[i].code==aFm m.funcs m.funcs[i].code))=false:=by simp
   rw [eb]
   refine bU (aU (aP (aD (λh=>by rw [hrl] at h;simp at h;omega) (λ_=>aI (aKu g hi hb) (λr hr=>?_)))))
   rw [hr]
   refine aO hi (λ_=>rfl) (aA (y:=.lst (m.funcs[i].code.map aT.pv)) rfl ?_)
   generalize hL : jE (oV m i hi) m.funcs[i].code=L at *
   generalize hH : eR (oV m i hi) m.funcs[i].code=H at *
   generalize hE : oU (oV m i hi) m.funcs[i].code=E at *
   have last : Ok (λr=>r = [.bool true]) (bH (aR (oV m i hi)) (.lst (m.funcs[i].code.map aT.pv)) (.int .i64 0) (aR L) (aR H) (aR E)):=by
    refine mG (n:=m.funcs[i].code.length) (F:=λpc=>bH (aR (oV m i hi)) (.lst (m.funcs[i].code.map aT.pv)) (.int .i64 pc) (aR L) (aR H) (aR E)) (P:=λ_ r=>r = [.bool true]) ?_ (λpc hpc ih=>?_) 0 (by omega)
    ·rw [oI,hrl,hre]
     refine aH (aM (aD (λh=>by omega) (λ_=>?_)))
     refine cB (by omega) (by simp) (aFv (x:=.int .i64 0) (by omega) rfl rfl (aP (eE (cB (by omega) (by simp) (aFv (x:=.int .i64 0) (by omega) rfl rfl (aP (eE ?_)))))))
     rw [hre] at l3
     refine aU (aU (aK (by omega) (cE (aB ?_))))
     rw [decide_eq_true (by omega)]
    ·have hpd : pc<(oV m i hi).length:=by omega
     have hj:=xN hpc hpd
     have mem : 0≤(oV m i hi)[pc]→17≤m.funcs[i].code[pc].o∧m.funcs[i].code[pc].o≤19→uX (oV m i hi) m.funcs[i].code pc=true:=λh1 h2=>by
      rw [hj,decide_eq_true h1,Bool.true_and];exact bG.2 h2
     have one : uX (oV m i hi) m.funcs[i].code pc=true→Ok (λr=>r = [.bool true]) (bd (PV.at_ 2 true (.lst (m.funcs[i].code.map aT.pv)) (.int .i64 pc)) λv49=>
      bd (PV.cell v49 1) λv50=>bd (dP (aR L) v50) λr51=>PV.guardFlat (hd r51) (bd (PV.not (hd r51)) λv52=>PV.ite v52 (some [(.bool false)])
      (bd (PV.at_ 2 true (.lst (m.funcs[i].code.map aT.pv)) (.int .i64 pc)) λv53=>bd (PV.cell v53 1) λv54=>bd (PV.bin .leq v54 (.int .i64 pc)) λv55=>PV.ite v55
       (bd (PV.at_ 2 true (.lst (m.funcs[i].code.map aT.pv)) (.int .i64 pc)) λv56=>bd (PV.cell v56 1) λv57=>bd (dP (aR H) v57) λr58=>PV.guardFlat (hd r58) (bd (PV.not (hd r58)) λv59=>PV.ite v59 (some [(.bool false)])
        (bd (PV.bin .add (.int .i64 pc) (.int .i64 1)) λv60=>bH (aR (oV m i hi)) (.lst (m.funcs[i].code.map aT.pv)) v60 (aR L) (aR H) (aR E))))
       (bd (PV.bin .add (.int .i64 pc) (.int .i64 1)) λv61=>bH (aR (oV m i hi)) (.lst (m.funcs[i].code.map aT.pv)) v61 (aR L) (aR H) (aR E))))):=λhjt=>by
      refine aO hpc (λ_=>rfl) (aA rfl (vB (by omega) (jL pc hpc hjt) (jY rfl (bB (bU (aO hpc (λ_=>rfl) (aA rfl (cE (aD (λhle=>?_) (λ_=>aK (by omega) ih))))))))))
      exact aO hpc (λ_=>rfl) (aA rfl (vB (by omega) (jH pc hpc hjt hle) (jY rfl (bB (bU (aK (by omega) ih))))))
     rw [oI]
     refine aH (aM (aD (λ_=>?_) (λh=>by omega)))
     refine aO hpc (λ_=>rfl) (aA rfl (aP (aD (λh17=>?_) (λh17=>?_))))
     ·exact aY hpd (dA (aD (λh=>one (mem h (by omega))) (λ_=>aK (by omega) ih)))
     refine aO hpc (λ_=>rfl) (aA rfl (aP (aD (λh18=>?_) (λh18=>?_))))
     ·exact aY hpd (dA (aD (λh=>one (mem h (by omega))) (λ_=>aK (by omega) ih)))
     refine aO hpc (λ_=>rfl) (aA rfl (aP (aY hpd (dA (aD (λh=>aD (λh19=>one (mem h (by omega))) (λ_=>aK (by omega) ih)) (λ_=>aK (by omega) ih))))))
   refine mG (n:=H.length) (F:=λj=>kA (aR (oV m i hi)) (.lst (m.funcs[i].code.map aT.pv)) (.int .i64 j) (aR L) (aR H) (aR E)) (P:=λ_ r=>r = [.bool true]) ?_ (λj hj ih=>?_) 0 (by omega)
   ·rw [oH]
    exact aU (aM (aD (λh=>by omega) (λ_=>last)))
   ·rw [oH]
    have hm:=List.getElem_mem hj
    refine aU (aM (aD (λ_=>?_) (λh=>by omega)))
    refine dR (by omega) (by omega) (aY hj (vB (by omega) (hasL _ hm) (jY rfl (bB (bU ?_)))))
    exact dR (by omega) (by omega) (aY hj (vB (by omega) (hasE _ hm) (jY rfl (bB (bU (aK (by omega) ih))))))
end
end
noncomputable section
open Go Go.ChangeShapes Go.WideShapes Go.ChangeAt Go.RowKit
def zE (w : World) (a : Option Addr) (len cap : Nat) (zs : List Int) : Prop:=
 (a=none∧len=0∧cap=0∧zs = [])∨
 ∃ x,a=some x∧len≤cap∧cap≤maxLen∧zs.length=cap∧(∀ i,i<zs.length→w.cell? (x.add i)=some (.int .u8 (zs.getD i 0)))∧∀ n∈zs,(Lit.int .u8 n).wf=true
theorem cell_inv {w : World} {a : Addr} {v : Value} (h : w.cell? a=some v) : a.spot=none∧∃ c e fz,w.heap[a.block]? = some (.cells c e fz)∧c[a.off]? = some v:=by
 unfold World.cell? at h
 split at h
 ·rename_i c e fz hc
  split at h
  ·cases h
  ·rename_i hs
   exact ⟨by simpa using hs,c,e,fz,hc,h⟩
 ·cases h
theorem zE.rep {w : World} {a : Option Addr} {len cap : Nat} {zs : List Int} (h : zE w a len cap zs) : eV w (λr=>r<w.heap.size) (aZ (zs.take len)) (.slice a len cap):=by
 rcases h with ⟨rfl,rfl,rfl,rfl⟩ | ⟨x,rfl,hl,_,hz,hc,_⟩
 ·exact .empty none 0
 ·by_cases h0 : len=0
  ·subst h0;exact .empty _ cap
  ·have hlen : ((zs.take len).map (PV.int .u8)).length=len:=by simp;omega
   obtain ⟨hsp,c,e,fz,hh,hc0⟩:=cell_inv (hc 0 (by omega))
   have hx : x=⟨x.block,x.off,none⟩:=by
    have : x.spot=none:=by
     have h1 : (x.add 0).spot=none:=hsp
     unfold Addr.add at h1
     split at h1<;>simp_all
    cases x;simp_all
   rw [hx] at hc ⊢
   have hb : (x.add 0).block=x.block:=by unfold Addr.add;split<;>rfl
   rw [hb] at hh
   have:=eV.lst (w:=w) (Z:=λr=>r<w.heap.size) ((zs.take len).map (PV.int .u8)) x.block x.off 1 cap false c e fz (λi _=>.int .u8 (zs.getD i 0)) (Array.getElem?_eq_some_iff.1 hh).1 hh (by omega) (by omega)
    (λi y hy=>by
     rw [List.getElem?_map] at hy
     cases hi : (zs.take len)[i]? with
     | none=>rw [hi] at hy;cases hy
     | some q=>rw [hi] at hy;cases hy;rfl)
    (λi j hi hj=>by
     have hj0 : j=0:=by omega
     subst hj0
     have h1:=hc i (by omega)
     rw [fW] at h1
     obtain ⟨_,c',e',fz',hh',hc'⟩:=cell_inv h1
     have hh' : w.heap[x.block]? = some (.cells c' e' fz'):=hh'
     rw [hh] at hh'
     cases hh'
     simpa using hc')
    (λ_ _ _ _=>trivial)
    (λi j y hy hj=>by
     rw [List.getElem?_map] at hy
     cases hi : (zs.take len)[i]? with
     | none=>rw [hi] at hy;cases hy
     | some q=>
       rw [hi] at hy
       cases hy
       have hlt : i<(zs.take len).length:=(List.getElem?_eq_some_iff.1 hi).1
       have : zs.getD i 0=q:=by
        rw [List.getElem?_take] at hi
        split at hi
        ·rw [List.getD,hi];rfl
        ·cases hi
       rw [this]
       exact .int _ _)
   rw [hlen] at this
   exact this
theorem zE.wf {w : World} {a : Option Addr} {len cap : Nat} {zs : List Int} (h : zE w a len cap zs) : ∀ x∈zs.take len,(Lit.int .u8 x).wf=true:=by
 intro x hx
 rcases h with ⟨_,_,_,rfl⟩ | ⟨_,_,_,_,_,_,hw⟩
 ·simp at hx
 ·exact hw x (List.mem_of_mem_take hx)
theorem aGo (n : Nat) (args : List PV) (bK : Array Value) (h : bC n args=some [.bool true]) {w : World} (gz : aBm w λr=>r<w.heap.size) (hl : args.length=bK.size) (hr : ∀ (i : Nat) x v,args[i]? = some x→bK[i]? = some v→eV w (λr=>r<w.heap.size) x v) :
 Calls Tryz.prog n bK w λe w'=>e = .returned (.bool true)∧Below w.heap.size w w':=by
 refine (aE3 hyp h (Z:=λr=>r<w.heap.size) ⟨λ_ h=>h,gz⟩ hl hr).mono ?_
 rintro e w' ⟨v,rfl,Z',pe,hrep⟩
 have hrep : eV w' Z' (.bool true) v:=hrep
 rw [hrep.bool_inv]
 exact ⟨rfl,pe.os,pe.tape,pe.output,pe.size,pe.old⟩
theorem aJ1 {l : List Int} (h : ∀ x∈l,(Lit.int .u8 x).wf=true) : ∀ x∈l,0≤x∧x≤255:=by
 intro x hx
 have:=h x hx
 have e1 : IntKind.min .u8=0:=rfl
 have e2 : IntKind.max .u8=255:=rfl
 simp only [Lit.wf,e1,e2,Bool.and_eq_true,decide_eq_true_eq] at this
 exact this
theorem own : ownKnob Tryz.prog.godebug=none:=by kernel_rfl
theorem aJo : laidOutB Tryz.prog=true:=by kernel_rfl
end
end Go.Proofs.YtllmobkkbpdchaaGreat
