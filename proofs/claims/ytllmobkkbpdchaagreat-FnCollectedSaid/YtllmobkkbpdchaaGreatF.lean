/-
  Texts of the proof, part 6: a value-level evaluator and its soundness, what the functions compute, laws about it.
  Conditions: none.
-/
import Derived.Test.YtllmobkkbpdchaaGreatE
import Derived.Lib.Strings
set_option linter.all false
namespace Go.Proofs.YtllmobkkbpdchaaGreat
noncomputable section
open Go Go.IntWalk
attribute [local irreducible] bd PV.ite PV.guardFlat PV.guardOwn PV.whole PV.one PV.cell PV.sub PV.at_ PV.len PV.slen PV.chr PV.beq PV.peq PV.ceq PV.bin PV.neg PV.not PV.conv PV.cut PV.scut PV.cat PV.setAt PV.setCell PV.ncopy PV.copyIn PV.zeros PV.toStr PV.toBytes PV.deref PV.isPtr PV.comp PV.inb PV.off PV.imin PV.imax PV.sel PV.apply PV.isLst PV.isInt PV.ix PV.nilT
section
variable {fs : List dA} {code : List cK} {T : PV} (F : Fit fs code)
include F
theorem aBy {f : Nat} (hf : f<fs.length) (hc : fs[f].code=code) : Ok (λr=>r = [bD (kR fs code)]) (lM (.agg [T,.lst (fs.map dA.pv)]) (.I f)):=by
 have hn2:=F.n2
 have hn1:=F.n1
 rw [aDX]
 refine aE rfl (aA rfl (aA rfl (aK hf (λ_=>rfl) (aA (y:=.lst (code.map cK.pv)) (by rw [← hc];rfl) ?_))))
 have key:=cH (n:=code.length) (P:=λ_ r=>r = [bD (kR fs code)])
  (F:=λi=>mZ (.lst (code.map cK.pv)) (.I i) T (.lst (fs.map dA.pv)) (bD (List.replicate i (-1)))) ?_ ?_ 0 (by omega)
 ·exact key
 ·rw [sU]
  refine aD (aH (aC (λh=>by omega) (λ_=>?_)))
  refine dR (by omega) (by rw [List.length_replicate];omega) (sY (i:=0) (by rw [List.length_replicate];omega) ?_)
  exact aN6 F code.length _ (by have:=(Hgt.start (n:=code.length)).1;unfold nn;exact Nat.le_trans List.countP_le_length (by omega)) Hgt.start
 ·intro i hi ih
  rw [sU]
  refine aD (aH (aC (λh=>?_) (λh=>by omega)))
  refine dZ (ys:=[-1]) (by rw [List.length_replicate];simp only [List.length_cons,List.length_nil];omega) (aL (by omega) ?_)
  rw [← List.replicate_succ']
  exact ih
end
section
variable {P : R → Prop} {k : PV → OR}
theorem aB4 {m n : Nat} {kk : IntKind} (h : n≤m) : PV.bound m (.int kk (n : Int))=some n:=by
 simp only [PV.bound]
 rw [if_pos (by omega),Int.toNat_natCast]
theorem aK5 {xs ys : R} {lo hi : Nat} {k1 k2 : IntKind} (h1 : lo≤hi) (h2 : hi≤xs.length) (h3 : xs.length≤1000000000) (h : Ok P (k (.I (min (hi - lo) ys.length : Nat)))) :
 Ok P (bd (PV.ncopy (.lst xs) (.int k1 (lo : Int)) (.int k2 (hi : Int)) (.lst ys)) k):=
 dP _ (by
  simp only [PV.ncopy]
  rw [aB4 (by omega),aB4 (by omega)]
  simp only [PV.elems]
  rw [if_pos ⟨h1,h2⟩]) h
theorem aIS {s : Nat} {g : Bool} {xs ys : R} {lo hi : Nat} {k1 k2 : IntKind} (h1 : lo≤hi) (h2 : hi≤xs.length) (h3 : xs.length≤1000000000) (he : ∀ y∈ys,y.isEl s g=true)
 (h : Ok P (k (.lst (xs.take lo++ys.take (hi - lo)++xs.drop (lo+min (hi - lo) ys.length))))) :
 Ok P (bd (PV.copyIn s g (.lst xs) (.int k1 (lo : Int)) (.int k2 (hi : Int)) (.lst ys)) k):=
 dP _ (by
  simp only [PV.copyIn]
  rw [aB4 (by omega),aB4 (by omega)]
  simp only [PV.elems]
  rw [if_pos ⟨h1,h2,List.all_eq_true.2 he⟩]) h
theorem aK6 {e n : Nat} {z : PV} {kk : IntKind} (h1 : n*e≤140737488355328) (h2 : n≤1000000000) (h : Ok P (k (.lst (List.replicate n z)))) : Ok P (bd (PV.zeros e z (.int kk (n : Int))) k):=
 dP _ (by
  simp only [PV.zeros]
  rw [if_pos ⟨by omega,by rw [Int.toNat_natCast];exact h1,by omega⟩,Int.toNat_natCast]) h
theorem aEc {l : List Int} : ∀ x∈l.map PV.I,x.isEl 1 false=true:=by
 intro x hx
 obtain ⟨a,_,rfl⟩:=List.mem_map.1 hx
 rfl
end
theorem aK7 {n : Nat} (hn : n≤1000) : ∀ (j a : Nat),n - a≤j→1≤a→a≤n→
 Ok (λr=>r = [bD (List.replicate n (-1))]) (gP (.I a) (bD (List.replicate a (-1)++List.replicate (n - a) 0))):=by
 intro j
 induction j with
 | zero=>
   intro a h1 h2 h3
   have : a=n:=by omega
   subst this
   rw [nD]
   refine cX (aH (aC (λh=>?_) (λ_=>aB ?_)))
   ·simp at h
   ·simp
 | succ j ih=>
   intro a h1 h2 h3
   rw [nD]
   have hl : (List.replicate a (-1 : Int)++List.replicate (n - a) 0).length=n:=by simp;omega
   have hlm : ((List.replicate a (-1 : Int)++List.replicate (n - a) 0).map PV.I).length=n:=by rw [List.length_map,hl]
   have ht : (List.replicate a (-1 : Int)++List.replicate (n - a) 0).take a=List.replicate a (-1):=by
    rw [List.take_left' (by simp)]
   refine cX (aH (aC (λh=>?_) (λh=>aB ?_)))
   ·rw [hl] at h
    refine cX ?_
    rw [hl]
    refine aCL (by omega) (by omega) (by omega) aEc ?_
    refine aCL (by omega) (by omega) (by omega) aEc ?_
    refine aCL (by omega) (by omega) (by omega) aEc ?_
    simp only [Int.toNat_natCast,Int.toNat_zero,List.drop_zero,← List.map_take]
    rw [ht]
    refine aK5 (by omega) (by omega) (by omega) (aIS (by omega) (by omega) (by omega) aEc ?_)
    rw [← List.map_take,ht,← List.map_take,← List.map_drop,← List.map_append,← List.map_append,List.length_map,List.length_replicate]
    have e : List.replicate a (-1 : Int)++(List.replicate a (-1)).take (n - a)++(List.replicate a (-1)++List.replicate (n - a) 0).drop (a+min (n - a) a)=List.replicate (a+min (n - a) a) (-1)++List.replicate (n - (a+min (n - a) a)) 0:=by
     rw [List.take_replicate,List.replicate_append_replicate,List.drop_append,List.length_replicate,List.drop_eq_nil_of_le (by simp),List.nil_append,List.drop_replicate]
     congr 2
     omega
    rw [e]
    exact aL (by omega) (ih (a+min (n - a) a) (by omega) (by omega) (by omega))
   ·have : a=n:=by rw [hl] at h;omega
    subst this
    simp
theorem aJR {P : R→Prop} {k : PV→OR} {a : Int} (h1 : 0≤a∧a≤2097152) (h : Ok P (k (.int .u64 a))) : Ok P (bd (PV.bin .and (.int .u64 a) (.int .u64 4294967295)) k):=
 dP _ (by
  obtain ⟨n,rfl⟩:=Int.eq_ofNat_of_zero_le h1.1
  rw [kW (by simp) (by simp)]
  simp only [PV.intBin]
  have hb : IntKind.u64.bits=64:=rfl
  have e : (BitVec.ofInt 64 (n : Int)&&& BitVec.ofInt 64 4294967295).toNat=n:=by
   rw [BitVec.toNat_and,BitVec.ofInt_natCast,BitVec.toNat_ofNat]
   have : (BitVec.ofInt 64 4294967295).toNat=2 ^ 32 - 1:=by decide
   rw [this,Nat.and_two_pow_sub_one_eq_mod,Nat.mod_eq_of_lt (by omega),Nat.mod_eq_of_lt (by omega)]
  rw [hb,e,u64_in _ (by omega)]) h
theorem aBz {P : R→Prop} {k : PV→OR} {a : Int} (h1 : 0≤a∧a≤2097152) (h : Ok P (k (.int .u64 0))) : Ok P (bd (PV.bin .shr (.int .u64 a) (.int .u64 32)) k):=
 dP _ (by
  simp only [PV.bin]
  rw [if_neg (by omega)]
  have : a.fdiv (2 ^ min (Int.toNat 32) IntKind.u64.bits)=0:=by
   have e : (2 : Int) ^ min (Int.toNat 32) IntKind.u64.bits=4294967296:=by decide
   rw [e,Int.fdiv_eq_ediv_of_nonneg _ (by omega)]
   omega
  rw [this]) h
theorem aBA {P : R→Prop} {k : PV→OR} {a b : Int} (h1 : 0≤a*b∧a*b≤2097152) (h : Ok P (k (.int .u64 (a*b)))) : Ok P (bd (PV.bin .mul (.int .u64 a) (.int .u64 b)) k):=
 dP _ (by rw [kW (by simp) (by simp)];simp only [PV.intBin];rw [u64_in _ (by omega)]) h
theorem aEd {P : R→Prop} {k : PV→OR} {a b : Int} (h1 : 0≤a+b∧a+b≤2097152) (h : Ok P (k (.int .u64 (a+b)))) : Ok P (bd (PV.bin .add (.int .u64 a) (.int .u64 b)) k):=
 dP _ (by rw [kW (by simp) (by simp)];simp only [PV.intBin];rw [u64_in _ (by omega)]) h
theorem aO5 {P : R→Prop} {k : PV→OR} {a : Int} {kk : IntKind} (h1 : 0≤a∧a≤2097152) (h : Ok P (k (.int .u64 a))) : Ok P (bd (PV.conv .u64 (.int kk a)) k):=dP _ (by simp only [PV.conv];rw [u64_in _ (by omega)]) h
theorem aN7 {n : Nat} (h1 : 1≤n) (hn : n≤1000) : Ok (λr=>r = [bD (List.replicate n (-1))]) (mT (.lst [.I (-1)]) (.I n)):=by
 rw [xW]
 refine aH (aC (λh=>by omega) (λ_=>?_))
 rw [uD]
 refine dL (aO5 (by simp) (aO5 (by omega) ?_))
 refine aG (Q:=λr=>r = [.tup [.int .u64 0,.int .u64 n]]) ?_ (λr hr=>?_)
 ·rw [aEU,aDi]
  simp only [List.length_cons,List.length_nil]
  refine aG (Q:=λr=>r = [.tup [.int .u64 0,.int .u64 n]]) ?_ (λr hr=>?_)
  ·refine aJR (by omega) (aBz (by omega) (aJR (by omega) (aBz (by omega) ?_)))
   refine aBA (by omega) (aBA (by omega) (aBz (by omega) (aEd (by omega) ?_)))
   refine aJR (by omega) (aBz (by omega) (aBA (by omega) (aEd (by omega) ?_)))
   refine aBA (by omega) (aEd (by omega) (aBz (by omega) (aEd (by omega) (aBA (by omega) (aB ?_)))))
   simp
  ·subst hr
   exact bG rfl (bG rfl (aB rfl))
 subst hr
 refine bG rfl (bG rfl (cN (aC (λh=>by omega) (λ_=>cN (aC (λh=>by omega) (λ_=>?_))))))
 rw [uE]
 refine kN (by omega) (aK6 (by omega) (by omega) (fE (aC (λ_=>?_) (λh=>by omega))))
 refine aK6 (by omega) (by omega) (dL ?_)
 rw [List.length_replicate]
 refine aK5 (lo:=0) (by omega) (by simp) (by simp;omega) (aIS (lo:=0) (by omega) (by simp) (by simp;omega) (aEc (l:=[-1])) ?_)
 have:=aK7 hn n 1 (by omega) (by omega) h1
 have e : (min (n - 0) [PV.I (-1)].length : Nat)=1:=by simp;omega
 rw [e]
 have e2 : (List.replicate n (PV.I 0)).take 0++[PV.I (-1)].take (n - 0)++(List.replicate n (PV.I 0)).drop (0+1)=(List.replicate 1 (-1 : Int)++List.replicate (n - 1) 0).map PV.I:=by
  rw [List.take_zero,List.nil_append,List.take_of_length_le (by simp;omega),List.drop_replicate]
  simp
 rw [e2]
 exact this
end
noncomputable section
open Go
attribute [local irreducible] bd PV.ite PV.guardFlat PV.guardOwn PV.whole PV.one PV.cell PV.sub PV.at_ PV.len PV.slen PV.chr PV.beq PV.peq PV.ceq PV.bin PV.neg PV.not PV.conv PV.cut PV.scut PV.cat PV.setAt PV.setCell PV.ncopy PV.copyIn PV.zeros PV.toStr PV.toBytes PV.deref PV.isPtr PV.comp PV.inb PV.off PV.imin PV.imax PV.sel PV.apply PV.isLst PV.isInt PV.ix PV.nilT
section
variable {fs : List dA} {code : List cK} {T : PV} (F : Fit fs code)
include F
theorem aIT {x : cK} (hx : x∈code) {h : Int} (hh : -1≤h∧h≤16) : Ok (λr=>r = [.tup [.I (jT fs x h),.bool (can fs x h)]]) (wQ (.agg [T,.lst (fs.map dA.pv)]) x.pv (.I h)):=by
 have hu:=F.u x hx
 have hnf:=F.nf
 rw [aHl]
 refine aE rfl (aA rfl (aA rfl (aE rfl (aA rfl (aA rfl ?_)))))
 refine aG (aN4 (x:=x) (T:=T) (by omega)) (λr hr=>?_)
 subst hr
 refine bG rfl (bG rfl (bF (by omega) (aL (by omega) (fE (aC (λh1=>?_) (λh1=>aB ?_))))))
 ·refine fE (aB ?_)
  unfold can jT
  rw [decide_eq_true h1];rfl
 ·unfold can jT
  rw [decide_eq_false h1];rfl
theorem aN8 {P : R→Prop} {pc : Nat} (hpc : pc<code.length) {left : Int} {b : Bool} {ts : List Int} (hts : ∀ t∈ts,0≤t∧t≤code.length) (hn : ts.length≤10) {s : Hs} (hs : s.1.length=code.length)
 (h : Ok P (jD (.lst (code.map cK.pv)) (.bool (if b then ts.foldl (uG left) s else s).2) (.lst (code.map cK.pv)) (.I code.length) (.I ((pc : Int)+1)) T (.lst (fs.map dA.pv)) (bD (if b then ts.foldl (uG left) s else s).1))) :
 Ok P (gB (.lst (code.map cK.pv)) (.bool s.2) (.I left) (.bool b) (.lst (code.map cK.pv)) (.I code.length) (.I pc) (bD ts) (.I ts.length) (.I 0) T (.lst (fs.map dA.pv)) (bD s.1)):=by
 have hn2:=F.n2
 refine vW (n:=ts.length) (F:=λi (q : Hs)=>gB (.lst (code.map cK.pv)) (.bool q.2) (.I left) (.bool b) (.lst (code.map cK.pv)) (.I code.length) (.I pc) (bD ts) (.I ts.length) (.I i) T (.lst (fs.map dA.pv)) (bD q.1))
  (λi q=>q.1.length=code.length∧(if b then (ts.drop i).foldl (uG left) q else q)=(if b then ts.foldl (uG left) s else s)) ?_ ?_ 0 s (by omega) ⟨hs,by rw [List.drop_zero]⟩
 ·rintro q ⟨hq,he⟩
  rw [List.drop_length] at he
  have he : q=(if b then ts.foldl (uG left) s else s):=by rw [← he];split<;>rfl
  subst he
  rw [vP]
  exact aH (aC (λh=>by omega) (λ_=>aL (by omega) h))
 ·rintro i q hi ⟨hq,he⟩ ih
  have ht:=hts ts[i] (List.getElem_mem _)
  rw [List.drop_eq_getElem_cons hi,List.foldl_cons] at he
  rw [vP]
  refine aH (aC (λ_=>?_) (λh=>by omega))
  refine cY hi (aQ (λhb=>?_) (λhb=>?_))
  ·subst hb
   simp only [if_true] at he ih
   refine aD (aH (aC (λh1=>?_) (λh1=>?_)))
   ·refine dR (by omega) (by omega) (kM (by omega) (by omega) (λv hv=>?_))
    refine aH (aC (λh2=>?_) (λh2=>?_))
    ·rw [aC9]
     refine dR (by omega) (by omega) ?_
     obtain ⟨t,et⟩:=Int.eq_ofNat_of_zero_le ht.1
     rw [et]
     refine sY (by omega) (aL (by omega) ?_)
     refine ih (q.1.set t left,true) ⟨by simpa using hq,?_⟩
     rw [aM7 (by omega) (by rw [hv];exact h2),et] at he
     exact he
    ·refine aL (by omega) (ih q ⟨hq,?_⟩)
     rw [aJQ (by rw [hv];simp only [Option.getD_some];omega)] at he
     exact he
   ·refine aL (by omega) (ih q ⟨hq,?_⟩)
    rw [aJQ (by omega)] at he
    exact he
  ·subst hb
   exact aL (by omega) (ih q ⟨hq,he⟩)
theorem aP8 {x : cK} (hx : x∈code) {h : Int} (hh : h<0) : can fs x h=false:=by
 have hu:=F.u x hx
 simp only [can]
 rw [decide_eq_false (by omega)];rfl
theorem aHv {P : R→Prop} {s : List Int} (hs : Hgt code.length s)
 (h : Ok P (nL (.lst (code.map cK.pv)) (.bool (sZ fs code s).2) T (.lst (fs.map dA.pv)) (bD (sZ fs code s).1))) :
 Ok P (jD (.lst (code.map cK.pv)) (.bool false) (.lst (code.map cK.pv)) (.I code.length) (.I 0) T (.lst (fs.map dA.pv)) (bD s)):=by
 have hn2:=F.n2
 have hnf:=F.nf
 refine vW (n:=code.length) (F:=λi (q : Hs)=>jD (.lst (code.map cK.pv)) (.bool q.2) (.lst (code.map cK.pv)) (.I code.length) (.I i) T (.lst (fs.map dA.pv)) (bD q.1))
  (λi q=>Hgt code.length q.1∧(List.range' i (code.length - i)).foldl (aAI fs code) q=sZ fs code s) ?_ ?_ 0 (s,false) (by omega) ⟨hs,rfl⟩
 ·rintro q ⟨hq,he⟩
  rw [Nat.sub_self] at he
  have he : q=sZ fs code s:=he
  subst he
  rw [xB]
  exact aH (aC (λh=>by omega) (λ_=>h))
 ·rintro i q hi ⟨hq,he⟩ ih
  have e1 : code.length - i=(code.length - (i+1))+1:=by omega
  rw [e1,List.range'_succ,List.foldl_cons] at he
  have hx : code[i]? = some code[i]:=List.getElem?_eq_getElem hi
  have hm : code[i]∈code:=List.getElem_mem _
  have hil : i<q.1.length:=by rw [hq.1];exact hi
  have hv:=hq.at i
  have e2 : q.1[i]=q.1[i]?.getD 0:=aGi hil
  have hone:=hq.one F i
  have hgo:=ih (aAI fs code q i) ⟨hone,he⟩
  have eo : aAI fs code q i=if can fs code[i] (q.1[i]?.getD 0) then (hU code[i] i).foldl (uG (jT fs code[i] (q.1[i]?.getD 0))) q else q:=by
   conv=>lhs;unfold aAI
   rw [hx]
  generalize hw : q.1[i]?.getD 0=w at *
  rw [xB]
  refine aH (aC (λ_=>?_) (λh=>by omega))
  refine aK hi (λ_=>rfl) (aE rfl (aA rfl (aA rfl ?_)))
  refine dR (by omega) (by omega) (cY hil ?_)
  rw [e2]
  refine aH (aC (λh1=>?_) (λh1=>?_))
  ·rw [aP8 F hm h1,if_neg (by simp)] at eo
   rw [eo] at hgo
   exact aL (by omega) hgo
  refine dR (by omega) (by omega) (cY hil ?_)
  rw [e2]
  refine aG (aIT (T:=T) F hm hv) (λr hr=>?_)
  subst hr
  refine bG rfl (bG rfl (aG (aIQ (x:=code[i]) (by omega)) (λr hr=>?_)))
  subst hr
  refine cX ?_
  refine aN8 F hi (aBx F hm hi) (by unfold hU;repeat' split<;>simp) hq.1 ?_
  rw [← eo]
  exact hgo
theorem aN9 : ∀ (j : Nat) (s : List Int),nn s≤j→Hgt code.length s→Ok (λr=>r = [bD (aEb fs code (j+1) s)]) (nL (.lst (code.map cK.pv)) (.bool true) T (.lst (fs.map dA.pv)) (bD s)):=by
 intro j
 induction j with
 | zero=>
   intro s hs hg
   rw [nC]
   refine bB (aD (aHv F hg ?_))
   rcases Dec.pass F s with h | ⟨h,h2⟩
   ·unfold aEb
    rw [h,nC]
    exact aT (aB rfl)
   ·have h3 : nn (sZ fs code s).1<nn s:=h2
    omega
 | succ j ih=>
   intro s hs hg
   rw [nC]
   refine bB (aD (aHv F hg ?_))
   rcases Dec.pass F s with h | ⟨h,h2⟩
   ·unfold aEb
    rw [h,nC]
    exact aT (aB rfl)
   ·rw [aEb,h,if_pos rfl]
    exact ih _ (by have h3 : nn (sZ fs code s).1<nn s:=h2;omega) (hg.pass F)
theorem aOa (l : List Int) : PV.flatO (.own 1 8 false []) (bD l)=true:=by
 clear F
 show PV.flatEs false [] (l.map PV.I)=true
 induction l with
 | nil=>simp [PV.flatEs]
 | cons x r ih=>simp [PV.flatEs,PV.flatE,PV.flat,ih]
theorem aBB {f : Nat} (hf : f<fs.length) (hc : fs[f].code=code) : Ok (λr=>r = [bD (kR fs code)]) (wN (.agg [T,.lst (fs.map dA.pv)]) (.I f)):=by
 have hn2:=F.n2
 have hn1:=F.n1
 rw [aHi]
 refine aE rfl (aA rfl (aA rfl (aK hf (λ_=>rfl) (aA (y:=.lst (code.map cK.pv)) (by rw [← hc];rfl) (aD ?_)))))
 refine aG (aN7 hn1 (by omega)) (λr hr=>?_)
 subst hr
 refine kO (aOa F _) (dR (by omega) (by rw [List.length_replicate];omega) (sY (i:=0) (by rw [List.length_replicate];omega) ?_))
 exact aN9 F code.length _ (by have:=(Hgt.start (n:=code.length)).1;unfold nn;exact Nat.le_trans List.countP_le_length (by omega)) Hgt.start
end
theorem eN.okB_fit {m : eN} (h : m.okB=true) : 1≤m.funcs.length∧m.funcs.length≤12∧∀ f∈m.funcs,Fit m.funcs f.code∧0≤f.p∧f.p≤6∧f.p≤f.lc∧f.lc≤12:=by
 simp only [eN.okB,Bool.and_eq_true,bH,decide_eq_true_eq,List.all_eq_true,vV] at h
 obtain ⟨⟨h1,h2⟩,_,_,h3⟩:=h
 have hp : ∀ i : Int,0≤lR m.funcs i∧lR m.funcs i≤6:=by
  intro i
  unfold lR
  cases hx : m.funcs[i.toNat]? with
  | none=>simp
  | some f=>exact (h3 f (List.mem_of_getElem? hx)).1
 refine ⟨by omega,by omega,λf hf=>?_⟩
 obtain ⟨p1,p2,p3,p4⟩:=h3 f hf
 refine ⟨⟨by omega,by omega,by omega,λx hx=>?_,λx hx hj=>?_⟩,p1.1,p1.2,p2.1,p2.2⟩
 ·have:=hp x.a
  unfold bZ
  repeat' split
  all_goals (simp only;omega)
 ·have:=p4 x hx
  unfold cP at this
  rcases hj with hj | hj | hj<;>simp [hj,lV] at this<;>omega
end
noncomputable section
open Go Go.IntWalk
attribute [local irreducible] bd PV.ite PV.guardFlat PV.guardOwn PV.whole PV.one PV.cell PV.sub PV.at_ PV.len PV.slen PV.chr PV.beq PV.peq PV.ceq PV.bin PV.neg PV.not PV.conv PV.cut PV.scut PV.cat PV.setAt PV.setCell PV.ncopy PV.copyIn PV.zeros PV.toStr PV.toBytes PV.deref PV.isPtr PV.comp PV.inb PV.off PV.imin PV.imax PV.sel PV.apply PV.isLst PV.isInt PV.ix PV.nilT
structure bT where
 f : Int
 pc : Int
 loc : List cB
 stk : List cB
def aS (l : List cB) : PV:=.lst (l.map cB.pv)
def bT.pv (f : bT) : PV:=.agg [.I f.f,.I f.pc,aS f.loc,aS f.stk]
def aR (r : List cB) : PV:=.agg [aS r]
theorem sP {l : List cB} : ∀ x∈l.map cB.pv,x.isEl 3 true=true:=by
 intro x hx
 obtain ⟨a,_,rfl⟩:=List.mem_map.1 hx
 rfl
section
variable {P : R → Prop} {k : PV → OR}
theorem cQ {A cs : R} {s : Nat} {i : Int} (hi : i=A.length) (hs : cs.length=s) (h : Ok P (k (.agg cs))) : Ok P (bd (PV.at_ s true (.lst (A++[.agg cs])) (.I i)) k):=
 dP _ (by
  subst hi
  simp only [PV.at_]
  rw [if_pos (by omega),Int.toNat_natCast,List.getElem?_append_right (Nat.le_refl _),Nat.sub_self]
  simp only [List.getElem?_cons_zero]
  rw [if_pos (by simp [PV.isEl,hs])]) h
theorem gU {A cs : R} {s off : Nat} {i : Int} {v : PV} (hi : i=A.length) (hs : cs.length=s) (ho : off<s) (hv : v.isEl 1 false=true) (h : Ok P (k (.lst (A++[.agg (cs.set off v)])))) :
 Ok P (bd (PV.setCell s (.lst (A++[.agg cs])) (.I i) off v) k):=by
 subst hi
 refine fT (by omega) (cs:=cs) (by rw [Int.toNat_natCast,List.getElem?_append_right (Nat.le_refl _),Nat.sub_self];rfl) hs ho hv ?_
 rw [Int.toNat_natCast,List.set_append_right _ _ (Nat.le_refl _),Nat.sub_self]
 exact h
theorem aAb {l : List cB} {i : Int} (h0 : 0≤i) (h1 : i<l.length) (h : ∀ v,l[i.toNat]? = some v→Ok P (k v.pv)) : Ok P (bd (PV.at_ 3 true (aS l) (.I i)) k):=by
 refine uP h0 (by rw [List.length_map];exact h1) sP (λx _ hx=>?_)
 rw [List.getElem?_map] at hx
 cases hl : l[i.toNat]? with
 | none=>rw [hl] at hx;cases hx
 | some v=>rw [hl] at hx;cases hx;exact h v hl
theorem aY {l : List cB} (h : Ok P (k (.I l.length))) : Ok P (bd (PV.len (aS l)) k):=aD h
theorem iV {l : List cB} {i : Int} (h0 : 0≤i) (h1 : i<l.length) (h : Ok P (k (aS l))) : Ok P (bd (PV.inb (aS l) (.I i)) k):=dF h0 (by rw [List.length_map];exact h1) h
theorem aFI {l : List cB} {m n : Int} (h0 : 0≤m) (h1 : m≤n) (h2 : n≤l.length) (h : Ok P (k (aS ((l.take n.toNat).drop m.toNat)))) : Ok P (bd (PV.cut 3 true (aS l) (.I m) (.I n)) k):=by
 refine aCL h0 h1 (by rw [List.length_map];exact h2) sP ?_
 rw [← List.map_take,← List.map_drop]
 exact h
theorem tA {l m : List cB} (hb : l.length+m.length≤1000000000) (h : Ok P (k (aS (l++m)))) : Ok P (bd (PV.cat 3 32 true (aS l) (.lst (m.map cB.pv))) k):=by
 refine fQ (by simp only [List.length_map];omega) sP ?_
 rw [← List.map_append]
 exact h
theorem xG {l : List cB} {i : Int} {v : cB} (h0 : 0≤i) (h1 : i<l.length) (h : Ok P (k (aS (l.set i.toNat v)))) : Ok P (bd (PV.setAt 3 true (aS l) (.I i) v.pv) k):=by
 refine aDu h0 (by rw [List.length_map];exact h1) rfl ?_
 rw [← List.map_set]
 exact h
theorem aB5 {n : Int} (h0 : 0≤n) (h1 : n≤1000000000) (h : Ok P (k (aS (List.replicate n.toNat dO)))) : Ok P (bd (PV.zeros 32 (.agg [.I 0,.I 0,.str (bs [])]) (.I n)) k):=by
 obtain ⟨m,rfl⟩:=Int.eq_ofNat_of_zero_le h0
 refine dP _ ?_ h
 simp only [PV.zeros]
 rw [if_pos ⟨by omega,by omega,by omega⟩,Int.toNat_natCast,aS,List.map_replicate]
 rfl
end
section
variable {P : R → Prop} {k : R → OR} {a0 a1 a2 a3 a4 a5 a6 a7 a8 a9 H O : PV} {A : R}
theorem aBC {x : PV} (hA : A.length≤2097152) (h : Ok P (k [.I A.length,a0,a1,a2,a3,a4,a5,a6,a7,a8,a9,.lst (A++[x]),H,O])) :
 Ok P (bd (eZ a0 a1 a2 a3 a4 a5 a6 a7 a8 a9 (.lst (A++[x])) H O) k):=by
 refine aG (Q:=λr=>r = [.I A.length,a0,a1,a2,a3,a4,a5,a6,a7,a8,a9,.lst (A++[x]),H,O]) ?_ (λr hr=>by rw [hr];exact h)
 rw [aBt]
 have e : ((A++[x]).length : Int) - 1=A.length:=by simp
 refine dL (bF (by simp;omega) ?_)
 rw [e]
 exact dF (by omega) (by simp;omega) (aB rfl)
theorem iF {f pc : Int} {loc s : List cB} {v : cB} (hA : A.length≤2097152) (hs : s.length≤2097152)
 (h : Ok P (k [v.pv,a0,a1,a2,a3,a4,a5,a6,a7,a8,a9,.lst (A++[bT.pv ⟨f,pc,loc,s⟩]),H,O])) :
 Ok P (bd (bE a0 a1 a2 a3 a4 a5 a6 a7 a8 a9 (.lst (A++[bT.pv ⟨f,pc,loc,s++[v]⟩])) H O) k):=by
 refine aG (Q:=λr=>r = [v.pv,a0,a1,a2,a3,a4,a5,a6,a7,a8,a9,.lst (A++[bT.pv ⟨f,pc,loc,s⟩]),H,O]) ?_ (λr hr=>by rw [hr];exact h)
 rw [aDo]
 have e : ((s++[v]).length : Int) - 1=s.length:=by simp
 have hl : (s++[v]).length=s.length+1:=by simp
 have at3 : ∀ {P : R→Prop} {k : PV→OR},Ok P (k (aS (s++[v])))→Ok P (bd (PV.at_ 4 true (.lst (A++[bT.pv ⟨f,pc,loc,s++[v]⟩])) (.I A.length)) λx=>bd (PV.cell x 3) k):=
  λh=>cQ rfl rfl (aA rfl h)
 have at_ : ∀ {P : R→Prop} {k : PV→OR},(∀ x,Ok P (k x))→Ok P (bd (PV.at_ 4 true (.lst (A++[bT.pv ⟨f,pc,loc,s++[v]⟩])) (.I A.length)) k):=
  λh=>cQ rfl rfl (h _)
 have el : (s++[v])[(s.length : Int).toNat]? = some v:=by rw [Int.toNat_natCast,List.getElem?_append_right (Nat.le_refl _),Nat.sub_self];rfl
 refine aBC hA (at_ (λ_=>at_ (λ_=>at3 (aY (bF (by omega) ?_)))))
 rw [e]
 refine at3 (iV (by omega) (by omega) (at3 (aAb (by omega) (by omega) (λw hw=>?_))))
 rw [el] at hw
 cases hw
 refine aE rfl (aA rfl (aA rfl (aA rfl (at_ (λ_=>at_ (λ_=>at3 (aY (bF (by omega) ?_))))))))
 rw [e]
 refine at3 (aFI (by omega) (by omega) (by omega) (at3 (aFI (by omega) (by omega) (by omega) (at3 ?_))))
 refine gU rfl rfl (by omega) rfl (gU rfl rfl (by omega) rfl (aB ?_))
 simp only [Int.toNat_natCast,Int.toNat_zero,List.drop_zero,List.take_left']
 rfl
theorem aGj {f pc : Int} {loc s : List cB} {v : cB} (hA : A.length≤2097152) (hs : s.length≤2097152)
 (h : Ok P (k [a0,a1,a2,a3,a4,a5,a6,a7,a8,a9,.lst (A++[bT.pv ⟨f,pc,loc,s++[v]⟩]),H,O])) :
 Ok P (bd (jA v.pv a0 a1 a2 a3 a4 a5 a6 a7 a8 a9 (.lst (A++[bT.pv ⟨f,pc,loc,s⟩])) H O) k):=by
 refine aG (Q:=λr=>r = [a0,a1,a2,a3,a4,a5,a6,a7,a8,a9,.lst (A++[bT.pv ⟨f,pc,loc,s++[v]⟩]),H,O]) ?_ (λr hr=>by rw [hr];exact h)
 rw [aCq]
 refine aE rfl (aA rfl (aA rfl (aA rfl (aBC hA ?_))))
 refine cQ rfl rfl (cQ rfl rfl (aA rfl (cQ rfl rfl (aA rfl ?_))))
 refine gU rfl rfl (by omega) rfl (tA (m:=[v]) (by simp;omega) (gU rfl rfl (by omega) rfl (aB rfl)))
theorem jK {f pc : Int} {loc s : List cB} {vk vn : Int} {vs : ByteArray} (hA : A.length≤2097152) (hs : s.length≤2097152)
 (h : Ok P (k [a0,a1,a2,a3,a4,a5,a6,a7,a8,a9,.lst (A++[bT.pv ⟨f,pc,loc,s++[⟨vk,vn,vs⟩]⟩]),H,O])) :
 Ok P (bd (bK (.I vk) (.I vn) (.str vs) a0 a1 a2 a3 a4 a5 a6 a7 a8 a9 (.lst (A++[bT.pv ⟨f,pc,loc,s⟩])) H O) k):=by
 refine aG (Q:=λr=>r = [a0,a1,a2,a3,a4,a5,a6,a7,a8,a9,.lst (A++[bT.pv ⟨f,pc,loc,s++[⟨vk,vn,vs⟩]⟩]),H,O]) ?_ (λr hr=>by rw [hr];exact h)
 rw [zY]
 refine aBC hA ?_
 refine cQ rfl rfl (cQ rfl rfl (aA rfl (cQ rfl rfl (aA rfl ?_))))
 refine gU rfl rfl (by omega) rfl (tA (m:=[⟨vk,vn,vs⟩]) (by simp;omega) (gU rfl rfl (by omega) rfl (aB rfl)))
end
inductive aEe where
 | trap (c : Int)
 | next (fr : bT) (hp : List (List cB)) (made : Int) (out : List ByteArray)
 | call (fr : bT) (g : bT)
 | ret (v : cB)
def lS (v : cB) (hp : List (List cB)) : ByteArray:=
 if v.k=0 then bs [110,105,108] else if v.k=1 then oG v.n else if v.k=2 then (if v.n=1 then bs [116,114,117,101] else bs [102,97,108,115,101]) else if v.k=3 then v.s
 else if v.k=5 then bs [102,117,110]++oG v.n
 else if v.k=4 then bs [123]++oG ((hp[v.n.toNat]?.getD []).length)++bs [125] else bs []
def aEf (fs : List dA) (i : Int) : Int:=(fs[i.toNat]?.map dA.lc).getD 0
def aAK (fs : List dA) (g : Int) (args : List cB) : bT:=⟨g,0,args++List.replicate ((aEf fs g).toNat - args.length) dO,[]⟩
def rA (m : eN) (fr : bT) (took : List cB) (depth : Nat) (hp : List (List cB)) (made : Int) (out : List ByteArray) (x : cK) : aEe:=
 let a:=took.headD dO
 let b:=took.tail.headD dO
 let go : List cB→aEe:=λl=>.next ⟨fr.f,fr.pc,fr.loc,fr.stk++l⟩ hp made out
 let rec_ : List cB:=hp[a.n.toNat]?.getD []
 if x.o=1 then go [aAH x.a]
 else if x.o=2 then go [tV (decide (x.a=1))]
 else if x.o=3 then go [aD5 (m.texts[x.a.toNat]?.getD (bs []))]
 else if x.o=4 then go [dO]
 else if x.o=5 then go [aMo x.a]
 else if x.o=6 then go [fr.loc[x.a.toNat]?.getD dO]
 else if x.o=7 then .next ⟨fr.f,fr.pc,fr.loc.set x.a.toNat a,fr.stk⟩ hp made out
 else if x.o=8 then go [a,a]
 else if x.o=9 then go []
 else if x.o=10 then go [b,a]
 else if x.o≤15 then (if (zC x.o a b).2≠0 then .trap (zC x.o a b).2 else go [(zC x.o a b).1])
 else if x.o=16 then (if (aDp a).2≠0 then .trap (aDp a).2 else go [(aDp a).1])
 else if x.o=17 then .next ⟨fr.f,x.a,fr.loc,fr.stk⟩ hp made out
 else if x.o≤19 then (if a.k≠2 then .trap 1 else if (decide (a.n=1)==decide (x.o=18))=true then .next ⟨fr.f,x.a,fr.loc,fr.stk⟩ hp made out else go [])
 else if x.o=20 then (if made=120 then .trap 7 else .next ⟨fr.f,fr.pc,fr.loc,fr.stk++[aP3 hp.length]⟩ (hp++[List.replicate x.a.toNat dO]) (made+1) out)
 else if x.o=21 then (if a.k≠4 then .trap 1 else if rec_.length≤x.a then .trap 4 else go [rec_[x.a.toNat]?.getD dO])
 else if x.o=22 then (if a.k≠4 then .trap 1 else if rec_.length≤x.a then .trap 4 else .next fr (hp.set a.n.toNat (rec_.set x.a.toNat b)) made out)
 else if x.o=23 then (if a.k≠5 then .trap 1 else if lR m.funcs a.n≠x.a then .trap 5 else if depth=24 then .trap 6 else .call fr (aAK m.funcs a.n took.tail))
 else if x.o=24 then (if depth=24 then .trap 6 else .call fr (aAK m.funcs x.a took))
 else if x.o=25 then .ret a
 else if out.length=200 then .trap 8 else .next fr hp made (out++[lS a hp])
theorem aJS {v : cB} {hp : List (List cB)} {nf : Int} (hnf : nf≤1000) (hh : hp.length≤1000) (hr : ∀ r∈hp,r.length≤1000) (hv : cD nf hp.length v=true) :
 Ok (λr=>r = [.str (lS v hp)]) (vJ v.pv (.lst (hp.map aR))):=by
 have hn : -1000000000≤v.n∧v.n≤1000000000∧(v.k=4→0≤v.n∧v.n<hp.length)∧0≤v.k∧v.k≤5:=by
  unfold cD at hv
  repeat' split at hv
  all_goals first
   | (cases hv;done)
   | (simp only [dI,bH,Bool.and_eq_true,decide_eq_true_eq] at hv;omega)
 rw [aD0]
 refine aE rfl (aA rfl (aA rfl (aA rfl ?_)))
 refine aI (aC (λh=>aB ?_) (λh0=>aI (aC (λh=>?_) (λh1=>aI (aC (λh=>?_) (λh2=>aI (aC (λh=>aB ?_) (λh3=>aI (aC (λh=>?_) (λh5=>?_))))))))))
 ·unfold lS;rw [if_pos h]
 ·refine aG (aBw (by omega)) (λr hr=>?_)
  subst hr
  refine aB ?_
  unfold lS;rw [if_neg h0,if_pos h];rfl
 ·refine aI (aC (λh'=>aB ?_) (λh'=>aB ?_))
  ·unfold lS;rw [if_neg h0,if_neg h1,if_pos h,if_pos h']
  ·unfold lS;rw [if_neg h0,if_neg h1,if_pos h,if_neg h']
 ·unfold lS;rw [if_neg h0,if_neg h1,if_neg h2,if_pos h]
 ·refine aG (aBw (by omega)) (λr hr=>?_)
  subst hr
  have:=aEa v.n
  refine xF (by have e : (bs [102,117,110]).size=3:=rfl
                omega) (aB ?_)
  unfold lS;rw [if_neg h0,if_neg h1,if_neg h2,if_neg h3,if_pos h]
 ·refine aI (aC (λh4=>?_) (λh4=>by omega))
  refine aD (bF (by omega) (dV ?_))
  rw [show lV v.n 0 (hp.length - 1)=true from bH.2 (by omega)]
  refine bB ?_
  obtain ⟨i,hi⟩:=Int.eq_ofNat_of_zero_le (hn.2.2.1 h4).1
  have hil : i<hp.length:=by omega
  rw [hi]
  have hrl:=hr _ (List.getElem_mem hil)
  refine aK hil (λ_=>rfl) (aA rfl (aY ?_))
  refine aG (aBw (by omega)) (λr hr=>?_)
  subst hr
  have:=aEa ((hp[i].length : Nat) : Int)
  have e1 : (bs [123]).size=1:=rfl
  have e2 : (bs [125]).size=1:=rfl
  refine xF (by omega) (xF (by rw [ByteArray.size_append];omega) (aB ?_))
  unfold lS;rw [if_neg h0,if_neg h1,if_neg h2,if_neg h3,if_neg h5,if_pos h4,hi,Int.toNat_natCast,List.getElem?_eq_getElem hil]
  rfl
section
variable {a2 a3 a4 a5 a6 a7 a8 H O T : PV} {A : R} {fs : List dA}
theorem aK8 {P : R→Prop} {g : Int} {loc : List cB} (hA : A.length≤1000) (h : P [T,.lst (fs.map dA.pv),a2,a3,a4,a5,a6,a7,a8,.I 0,.lst (A++[bT.pv ⟨g,0,loc,[]⟩]),H,O]) :
 Ok P (kG (.I g) T (.lst (fs.map dA.pv)) a2 a3 a4 a5 a6 a7 a8 (.I 0) (.lst A) H O (aS loc)):=by
 rw [yU]
 refine aX rfl (fQ (by simp;omega) (λx hx=>by simp only [List.mem_singleton] at hx;subst hx;rfl) (aB h))
theorem aP9 {P : R→Prop} {g f pc : Int} {under : Bool} {loc s s1 : List cB} (hA : A.length≤100) (hs : s.length≤100) (hu : (under=true∧∃ w,s=s1++[w])∨(under=false∧s=s1)) :
 ∀ (j : Nat) (args post pre : List cB),args.length=j→pre.length=j→j+post.length≤50→
 P [T,.lst (fs.map dA.pv),a2,a3,a4,a5,a6,a7,a8,.I 0,.lst (A++[bT.pv ⟨f,pc,loc,s1⟩]++[bT.pv ⟨g,0,args++post,[]⟩]),H,O]→
 Ok P (lA (.I g) (.bool under) (.I ((j : Int) - 1)) T (.lst (fs.map dA.pv)) a2 a3 a4 a5 a6 a7 a8 (.I 0) (.lst (A++[bT.pv ⟨f,pc,loc,s++args⟩])) H O (aS (pre++post))):=by
 intro j
 induction j with
 | zero=>
   intro args post pre h1 h2 h3 h
   rw [List.eq_nil_of_length_eq_zero h1,List.nil_append] at h
   rw [List.eq_nil_of_length_eq_zero h1,List.eq_nil_of_length_eq_zero h2,List.append_nil,List.nil_append,qY]
   refine eQ (aC (λh=>by omega) (λ_=>?_))
   rcases hu with ⟨rfl,w,rfl⟩ | ⟨rfl,rfl⟩
   ·refine bB (iF (by omega) (by simp at hs;omega) ?_)
    exact aK8 (by simp;omega) h
   ·exact aT (aK8 (by simp;omega) h)
 | succ j ih=>
   intro args post pre h1 h2 h3 h
   obtain ⟨args',v,rfl⟩ : ∃ l v,args=l++[v]:=⟨args.dropLast,args.getLast (λe=>by rw [e] at h1;simp at h1),(List.dropLast_concat_getLast _).symm⟩
   obtain ⟨pre',u,rfl⟩ : ∃ l v,pre=l++[v]:=⟨pre.dropLast,pre.getLast (λe=>by rw [e] at h2;simp at h2),(List.dropLast_concat_getLast _).symm⟩
   simp only [List.length_append,List.length_cons,List.length_nil,Nat.zero_add,Nat.add_right_cancel_iff] at h1 h2
   have ej : ((j+1 : Nat) : Int) - 1=j:=by omega
   rw [ej,qY,← List.append_assoc]
   refine eQ (aC (λ_=>?_) (λh=>by omega))
   refine iF (by omega) (by simp;omega) ?_
   have hlen : (pre'++[u]++post).length=j+1+post.length:=by simp;omega
   refine iV (by omega) (by omega) (xG (by omega) (by omega) (bF (by omega) ?_))
   have e : (pre'++[u]++post).set (j : Int).toNat v=pre'++(v::post):=by
    rw [Int.toNat_natCast,← h2,List.append_assoc,List.set_append_right _ _ (Nat.le_refl _),Nat.sub_self]
    rfl
   rw [e]
   refine ih args' (v::post) pre' h1 h2 (by simp;omega) ?_
   rw [show args'++v::post=args'++[v]++post by simp]
   exact h
theorem aK9 {P : R→Prop} {k : R→OR} {g f pc : Int} {under : Bool} {loc s s1 args : List cB} (hF : fs.length≤1000) (hpar : ∀ f∈fs,0≤f.p∧f.p≤6∧f.p≤f.lc∧f.lc≤12) (hA : A.length≤23) (hs : s.length≤100)
 (hu : (under=true∧∃ w,s=s1++[w])∨(under=false∧s=s1)) (hg : 0≤g∧g<fs.length) (ha : args.length=lR fs g)
 (h1 : A.length=23→Ok P (k [T,.lst (fs.map dA.pv),a2,a3,a4,a5,a6,a7,a8,.I 6,.lst (A++[bT.pv ⟨f,pc,loc,s++args⟩]),H,O]))
 (h2 : A.length≠23→Ok P (k [T,.lst (fs.map dA.pv),a2,a3,a4,a5,a6,a7,a8,.I 0,.lst (A++[bT.pv ⟨f,pc,loc,s1⟩]++[bT.pv (aAK fs g args)]),H,O])) :
 Ok P (bd (oB (.I g) (.bool under) T (.lst (fs.map dA.pv)) a2 a3 a4 a5 a6 a7 a8 (.I 0) (.lst (A++[bT.pv ⟨f,pc,loc,s++args⟩])) H O) k):=by
 obtain ⟨n,rfl⟩:=Int.eq_ofNat_of_zero_le hg.1
 have hn : n<fs.length:=by omega
 have hp:=hpar _ (List.getElem_mem hn)
 have ep : lR fs (n : Int)=fs[n].p:=by simp [lR,List.getElem?_eq_getElem hn]
 have el : aEf fs (n : Int)=fs[n].lc:=by simp [aEf,List.getElem?_eq_getElem hn]
 rw [ep] at ha
 have hl : ((A++[bT.pv ⟨f,pc,loc,s++args⟩]).length : Int)=A.length+1:=by simp
 refine aG (Q:=λr=>(A.length=23∧r = [T,.lst (fs.map dA.pv),a2,a3,a4,a5,a6,a7,a8,.I 6,.lst (A++[bT.pv ⟨f,pc,loc,s++args⟩]),H,O])∨
  (A.length≠23∧r = [T,.lst (fs.map dA.pv),a2,a3,a4,a5,a6,a7,a8,.I 0,.lst (A++[bT.pv ⟨f,pc,loc,s1⟩]++[bT.pv (aAK fs n args)]),H,O])) ?_ ?_
 ·rw [aCr]
  refine aK hn (λ_=>rfl) (aE rfl (aA rfl (aA rfl (aA rfl (dL ?_)))))
  refine aI (aC (λh=>aB (.inl ⟨by omega,rfl⟩)) (λh=>?_))
  refine aB5 (by omega) (by omega) (fE (aC (λ_=>?_) (λh=>by omega)))
  refine aB5 (by omega) (by omega) (bF (by omega) ?_)
  have e1 : fs[n].p - 1=((args.length : Int)) - 1:=by omega
  have e2 : List.replicate fs[n].lc.toNat dO=List.replicate args.length dO++List.replicate (fs[n].lc.toNat - args.length) dO:=by
   rw [List.replicate_append_replicate];congr 1;omega
  rw [e1,e2]
  refine aP9 (by omega) hs hu args.length args _ _ rfl (by simp) (by simp;omega) (.inr ⟨by omega,?_⟩)
  simp only [aAK,el]
 ·rintro r (⟨h,rfl⟩ | ⟨h,rfl⟩)
  ·exact h1 h
  ·exact h2 h
end
def aFJ (v : cB) : List bT→List bT
 | []=>[]
 | [f]=>[⟨f.f,f.pc,f.loc,f.stk++[v]⟩]
 | f::g::r=>f::aFJ v (g::r)
theorem aDq (v : cB) : ∀ (l : List bT) (f : bT),aFJ v (l++[f])=l++[⟨f.f,f.pc,f.loc,f.stk++[v]⟩]
 | [],_=>rfl
 | [a],f=>rfl
 | a::b::l,f=>by
   show a::aFJ v (b::l++[f])=_
   rw [aDq v (b::l) f]
   rfl
def DoR (a0 a1 made a3 a4 a5 a6 a7 a8 H O : PV) (fs0 : List bT) : aEe→R→Prop
 | .trap c,r=>c≠0∧gd r 9 = .I c
 | .next fr hp made' out,r=>r = [a0,a1,.I made',a3,a4,a5,a6,a7,a8,.I 0,.lst (fs0.map bT.pv++[fr.pv]),.lst (hp.map aR),.lst (out.map PV.str)]
 | .call fr g,r=>r = [a0,a1,made,a3,a4,a5,a6,a7,a8,.I 0,.lst (fs0.map bT.pv++[fr.pv]++[g.pv]),H,O]
 | .ret v,r=>r=if fs0 = [] then [a0,a1,made,.I 1,a4,.I v.k,.I v.n,.str v.s,a8,.I 0,.lst [],H,O]
  else [a0,a1,made,a3,a4,a5,a6,a7,a8,.I 0,.lst ((aFJ v fs0).map bT.pv),H,O]
structure aQI (m : eN) (fs0 : List bT) (fr : bT) (took : List cB) (hp : List (List cB)) (made : Int) (out : List ByteArray) : Prop where
 nf : m.funcs.length≤12
 nt : m.texts.length≤20
 par : ∀ f∈m.funcs,0≤f.p∧f.p≤6∧f.p≤f.lc∧f.lc≤12
 n0 : fs0.length≤23
 stks : ∀ f∈fs0,f.stk.length≤16
 nl : fr.loc.length≤12
 ns : fr.stk.length+took.length≤16
 recs : ∀ r∈hp,r.length≤6
 nh : hp.length≤120
 nm : 0≤made∧made≤120
 no : out.length≤200
 aS : ∀ v∈took,cD m.funcs.length hp.length v=true
theorem bM {nf recs : Int} {v : cB} (h : cD nf recs v=true) : v.s.size≤60:=by
 by_cases h3 : v.k=3
 ·unfold cD at h
  rw [if_neg (λe=>e.1 h3),if_neg (by omega),if_neg (by omega),if_neg (by omega),if_pos h3] at h
  simp only [Bool.and_eq_true,dC,decide_eq_true_eq] at h
  omega
 ·unfold cD at h
  split at h
  ·cases h
  ·rename_i hn
   have he : jS v.s (bs [])=true:=by
    cases hs : jS v.s (bs []) with
    | true=>rfl
    | false=>exact absurd ⟨h3,hs⟩ hn
   have e0 : (bs []).toList = []:=by rw [Lib.toList_data];rfl
   unfold jS at he
   rw [e0] at he
   have hl : v.s.toList = []:=by simpa using he
   have hsz : v.s.size=v.s.toList.length:=by
    rw [Lib.toList_data,Array.length_toList]
    rfl
   rw [hsz,hl]
   simp
theorem aIU {nf recs : Int} {v : cB} (h : cD nf recs v=true) (hk : v.k=4) : 0≤v.n∧v.n<recs:=by
 unfold cD at h
 by_cases hc : v.k≠3∧jS v.s (bs [])=false
 ·rw [if_pos hc] at h;cases h
 ·rw [if_neg hc,if_neg (by omega),if_neg (by omega),if_neg (by omega),if_neg (by omega),if_pos hk] at h
  simp only [Bool.and_eq_true,decide_eq_true_eq] at h
  exact h
theorem aIV {nf recs : Int} {v : cB} (h : cD nf recs v=true) (hk : v.k=5) : 0≤v.n∧v.n<nf:=by
 unfold cD at h
 by_cases hc : v.k≠3∧jS v.s (bs [])=false
 ·rw [if_pos hc] at h;cases h
 ·rw [if_neg hc,if_neg (by omega),if_neg (by omega),if_neg (by omega),if_neg (by omega),if_neg (by omega),if_pos hk] at h
  have:=bH.1 h
  omega
theorem aE4 {nt nf lc nc : Int} {x : cK} (h : cP nt nf lc nc x.o x.a=true) : (1≤x.o∧x.o≤26)∧(x.o=3→0≤x.a∧x.a<nt)∧((x.o=6∨x.o=7)→0≤x.a∧x.a<lc)∧(x.o=20→0≤x.a∧x.a≤6)∧
 ((x.o=21∨x.o=22)→0≤x.a∧x.a≤5)∧(x.o=23→0≤x.a∧x.a≤6)∧((x.o=5∨x.o=24)→0≤x.a∧x.a<nf)∧((x.o=17∨x.o=18∨x.o=19)→0≤x.a∧x.a<nc)∧(x.o=1→dI x.a=true):=by
 unfold cP at h
 by_cases h1 : x.o=1
 ·rw [if_pos h1] at h
  have h:=bH.1 h
  exact ⟨by omega,λ_=>by omega,λ_=>by omega,λ_=>by omega,λ_=>by omega,λ_=>by omega,λ_=>by omega,λ_=>by omega,λ_=>by first | (unfold dI;exact bH.2 (by omega)) | (exfalso;omega)⟩
 rw [if_neg h1] at h
 by_cases h2 : x.o=2
 ·rw [if_pos h2] at h
  have h:=bH.1 h
  exact ⟨by omega,λ_=>by omega,λ_=>by omega,λ_=>by omega,λ_=>by omega,λ_=>by omega,λ_=>by omega,λ_=>by omega,λ_=>by first | (unfold dI;exact bH.2 (by omega)) | (exfalso;omega)⟩
 rw [if_neg h2] at h
 by_cases h3 : x.o=3
 ·rw [if_pos h3] at h
  have h:=bH.1 h
  exact ⟨by omega,λ_=>by omega,λ_=>by omega,λ_=>by omega,λ_=>by omega,λ_=>by omega,λ_=>by omega,λ_=>by omega,λ_=>by first | (unfold dI;exact bH.2 (by omega)) | (exfalso;omega)⟩
 rw [if_neg h3] at h
 by_cases h5 : x.o=5
 ·rw [if_pos h5] at h
  have h:=bH.1 h
  exact ⟨by omega,λ_=>by omega,λ_=>by omega,λ_=>by omega,λ_=>by omega,λ_=>by omega,λ_=>by omega,λ_=>by omega,λ_=>by first | (unfold dI;exact bH.2 (by omega)) | (exfalso;omega)⟩
 rw [if_neg h5] at h
 by_cases h24 : x.o=24
 ·rw [if_pos h24] at h
  have h:=bH.1 h
  exact ⟨by omega,λ_=>by omega,λ_=>by omega,λ_=>by omega,λ_=>by omega,λ_=>by omega,λ_=>by omega,λ_=>by omega,λ_=>by first | (unfold dI;exact bH.2 (by omega)) | (exfalso;omega)⟩
 rw [if_neg h24] at h
 by_cases h6 : x.o=6
 ·rw [if_pos h6] at h
  have h:=bH.1 h
  exact ⟨by omega,λ_=>by omega,λ_=>by omega,λ_=>by omega,λ_=>by omega,λ_=>by omega,λ_=>by omega,λ_=>by omega,λ_=>by first | (unfold dI;exact bH.2 (by omega)) | (exfalso;omega)⟩
 rw [if_neg h6] at h
 by_cases h7 : x.o=7
 ·rw [if_pos h7] at h
  have h:=bH.1 h
  exact ⟨by omega,λ_=>by omega,λ_=>by omega,λ_=>by omega,λ_=>by omega,λ_=>by omega,λ_=>by omega,λ_=>by omega,λ_=>by first | (unfold dI;exact bH.2 (by omega)) | (exfalso;omega)⟩
 rw [if_neg h7] at h
 by_cases h17 : x.o=17
 ·rw [if_pos h17] at h
  have h:=bH.1 h
  exact ⟨by omega,λ_=>by omega,λ_=>by omega,λ_=>by omega,λ_=>by omega,λ_=>by omega,λ_=>by omega,λ_=>by omega,λ_=>by first | (unfold dI;exact bH.2 (by omega)) | (exfalso;omega)⟩
 rw [if_neg h17] at h
 by_cases h18 : x.o=18
 ·rw [if_pos h18] at h
  have h:=bH.1 h
  exact ⟨by omega,λ_=>by omega,λ_=>by omega,λ_=>by omega,λ_=>by omega,λ_=>by omega,λ_=>by omega,λ_=>by omega,λ_=>by first | (unfold dI;exact bH.2 (by omega)) | (exfalso;omega)⟩
 rw [if_neg h18] at h
 by_cases h19 : x.o=19
 ·rw [if_pos h19] at h
  have h:=bH.1 h
  exact ⟨by omega,λ_=>by omega,λ_=>by omega,λ_=>by omega,λ_=>by omega,λ_=>by omega,λ_=>by omega,λ_=>by omega,λ_=>by first | (unfold dI;exact bH.2 (by omega)) | (exfalso;omega)⟩
 rw [if_neg h19] at h
 by_cases h20 : x.o=20
 ·rw [if_pos h20] at h
  have h:=bH.1 h
  exact ⟨by omega,λ_=>by omega,λ_=>by omega,λ_=>by omega,λ_=>by omega,λ_=>by omega,λ_=>by omega,λ_=>by omega,λ_=>by first | (unfold dI;exact bH.2 (by omega)) | (exfalso;omega)⟩
 rw [if_neg h20] at h
 by_cases h21 : x.o=21
 ·rw [if_pos h21] at h
  have h:=bH.1 h
  exact ⟨by omega,λ_=>by omega,λ_=>by omega,λ_=>by omega,λ_=>by omega,λ_=>by omega,λ_=>by omega,λ_=>by omega,λ_=>by first | (unfold dI;exact bH.2 (by omega)) | (exfalso;omega)⟩
 rw [if_neg h21] at h
 by_cases h22 : x.o=22
 ·rw [if_pos h22] at h
  have h:=bH.1 h
  exact ⟨by omega,λ_=>by omega,λ_=>by omega,λ_=>by omega,λ_=>by omega,λ_=>by omega,λ_=>by omega,λ_=>by omega,λ_=>by first | (unfold dI;exact bH.2 (by omega)) | (exfalso;omega)⟩
 rw [if_neg h22] at h
 by_cases h23 : x.o=23
 ·rw [if_pos h23] at h
  have h:=bH.1 h
  exact ⟨by omega,λ_=>by omega,λ_=>by omega,λ_=>by omega,λ_=>by omega,λ_=>by omega,λ_=>by omega,λ_=>by omega,λ_=>by first | (unfold dI;exact bH.2 (by omega)) | (exfalso;omega)⟩
 rw [if_neg h23] at h
 simp only [Bool.and_eq_true,decide_eq_true_eq,bH] at h
 exact ⟨by omega,λ_=>by omega,λ_=>by omega,λ_=>by omega,λ_=>by omega,λ_=>by omega,λ_=>by omega,λ_=>by omega,λ_=>by first | (unfold dI;exact bH.2 (by omega)) | (exfalso;omega)⟩
variable {a0 a1 a2 a3 a4 a5 a6 a7 a8 : PV}
section
variable {P : R → Prop} {k : PV → OR} {hp : List (List cB)}
theorem jY {i : Int} (h0 : 0≤i) (h1 : i<hp.length) (h : Ok P (k (aR (hp[i.toNat]?.getD [])))) : Ok P (bd (PV.at_ 1 true (.lst (hp.map aR)) (.I i)) k):=by
 obtain ⟨n,rfl⟩:=Int.eq_ofNat_of_zero_le h0
 have hn : n<hp.length:=by omega
 rw [Int.toNat_natCast,List.getElem?_eq_getElem hn] at h
 exact aK hn (λ_=>rfl) h
theorem aAc {i : Int} (h0 : 0≤i) (h1 : i<hp.length) (h : Ok P (k (.lst (hp.map aR)))) : Ok P (bd (PV.inb (.lst (hp.map aR)) (.I i)) k):=dF h0 (by rw [List.length_map];exact h1) h
theorem aMq {i : Int} {r : List cB} (h0 : 0≤i) (h1 : i<hp.length) (h : Ok P (k (.lst ((hp.set i.toNat r).map aR)))) : Ok P (bd (PV.setCell 1 (.lst (hp.map aR)) (.I i) 0 (aS r)) k):=by
 obtain ⟨n,rfl⟩:=Int.eq_ofNat_of_zero_le h0
 have hn : n<hp.length:=by omega
 refine fT (cs:=[aS hp[n]]) (by omega) (by rw [Int.toNat_natCast,List.getElem?_map,List.getElem?_eq_getElem hn];rfl) rfl (by omega) rfl ?_
 rw [List.map_set] at h
 exact h
theorem aM8 {hp : List (List cB)} (h : ∀ r∈hp,r.length≤6) (i : Nat) : (hp[i]?.getD []).length≤6:=by
 cases hx : hp[i]? with
 | none=>simp
 | some r=>exact h r (List.mem_of_getElem? hx)
end
theorem aDr {α : Type} {l : List α} (h : l.length=2) : ∃ a b,l = [a,b]:=by
 match l,h with
 | [a,b],_=>exact ⟨a,b,rfl⟩
theorem aOb {l : List bT} : ∀ x∈l.map bT.pv,x.isEl 4 true=true:=by
 intro x hx
 obtain ⟨a,_,rfl⟩:=List.mem_map.1 hx
 rfl
set_option maxRecDepth 100000 in
set_option maxHeartbeats 4000000 in
theorem aQa {m : eN} {fs0 : List bT} {fr : bT} {took : List cB} {hp : List (List cB)} {made : Int} {out : List ByteArray} {x : cK} {nc : Int}
 (S : aQI m fs0 fr took hp made out) (hx : cP m.texts.length m.funcs.length fr.loc.length nc x.o x.a=true) (hu : (took.length : Int)=(bZ m.funcs x).1) :
 Ok (DoR (.lst (m.texts.map PV.str)) (.lst (m.funcs.map dA.pv)) (.I made) a3 a4 a5 a6 a7 a8 (.lst (hp.map aR)) (.lst (out.map PV.str)) fs0 (rA m fr took (fs0.length+1) hp made out x))
  (vI (.I x.o) (.I x.a) (.lst (m.texts.map PV.str)) (.lst (m.funcs.map dA.pv)) (.I made) a3 a4 a5 a6 a7 a8 (.I 0)
   (.lst (fs0.map bT.pv++[bT.pv ⟨fr.f,fr.pc,fr.loc,fr.stk++took⟩])) (.lst (hp.map aR)) (.lst (out.map PV.str))):=by
 obtain ⟨q26,q3,q67,q20,q2122,q23,q524,qj,q1⟩:=aE4 hx
 obtain ⟨nf,nt,par,n0,stks,nl,ns,recs,nh,nm,no,vals0⟩:=S
 have nA : (fs0.map bT.pv).length≤23:=by rw [List.length_map];exact n0
 obtain ⟨ff,fpc,floc,fstk⟩:=fr
 simp only at *
 rw [aDZ]
 refine aBC (by omega) ?_
 refine aI (aC (λho=>?_) (λn1=>?_))
 ·have e0 : bZ m.funcs x=(0,1):=by unfold bZ;repeat (first | rfl | rw [if_pos (by omega)] | rw [if_neg (by omega)])
  rw [e0] at hu
  obtain rfl:=List.eq_nil_of_length_eq_zero (show took.length=0 by omega)
  simp only [List.length_nil,Nat.add_zero,List.append_nil] at ns ⊢
  have e : rA m ⟨ff,fpc,floc,fstk⟩ [] (fs0.length+1) hp made out x = .next ⟨ff,fpc,floc,fstk++[aAH x.a]⟩ hp made out:=by simp only [rA];repeat (first | rfl | rw [if_pos (by omega)] | rw [if_neg (by omega)])
  exact yW (aGj (by omega) (by omega) (aB (by rw [e];rfl)))
 refine aI (aC (λho=>?_) (λn2=>?_))
 ·have e0 : bZ m.funcs x=(0,1):=by unfold bZ;repeat (first | rfl | rw [if_pos (by omega)] | rw [if_neg (by omega)])
  rw [e0] at hu
  obtain rfl:=List.eq_nil_of_length_eq_zero (show took.length=0 by omega)
  simp only [List.length_nil,Nat.add_zero,List.append_nil] at ns ⊢
  have e : rA m ⟨ff,fpc,floc,fstk⟩ [] (fs0.length+1) hp made out x = .next ⟨ff,fpc,floc,fstk++[tV (decide (x.a=1))]⟩ hp made out:=by simp only [rA];repeat (first | rfl | rw [if_pos (by omega)] | rw [if_neg (by omega)])
  exact aI (qD (aGj (by omega) (by omega) (aB (by rw [e];rfl))))
 refine aI (aC (λho=>?_) (λn3=>?_))
 ·have e0 : bZ m.funcs x=(0,1):=by unfold bZ;repeat (first | rfl | rw [if_pos (by omega)] | rw [if_neg (by omega)])
  rw [e0] at hu
  obtain rfl:=List.eq_nil_of_length_eq_zero (show took.length=0 by omega)
  simp only [List.length_nil,Nat.add_zero,List.append_nil] at ns ⊢
  have e : rA m ⟨ff,fpc,floc,fstk⟩ [] (fs0.length+1) hp made out x = .next ⟨ff,fpc,floc,fstk++[aD5 (m.texts[x.a.toNat]?.getD (bs []))]⟩ hp made out:=by simp only [rA];repeat (first | rfl | rw [if_pos (by omega)] | rw [if_neg (by omega)])
  obtain ⟨i,hi⟩:=Int.eq_ofNat_of_zero_le (q3 ho).1
  have hil : i<m.texts.length:=by have:=q3 ho;omega
  rw [hi] at e ⊢
  rw [Int.toNat_natCast,List.getElem?_eq_getElem hil] at e
  exact aK hil (λ_=>rfl) (aX rfl (jK (by omega) (by omega) (aB (by rw [e];rfl))))
 refine aI (aC (λho=>?_) (λn4=>?_))
 ·have e0 : bZ m.funcs x=(0,1):=by unfold bZ;repeat (first | rfl | rw [if_pos (by omega)] | rw [if_neg (by omega)])
  rw [e0] at hu
  obtain rfl:=List.eq_nil_of_length_eq_zero (show took.length=0 by omega)
  simp only [List.length_nil,Nat.add_zero,List.append_nil] at ns ⊢
  have e : rA m ⟨ff,fpc,floc,fstk⟩ [] (fs0.length+1) hp made out x = .next ⟨ff,fpc,floc,fstk++[dO]⟩ hp made out:=by simp only [rA];repeat (first | rfl | rw [if_pos (by omega)] | rw [if_neg (by omega)])
  exact jK (by omega) (by omega) (aB (by rw [e];rfl))
 refine aI (aC (λho=>?_) (λn5=>?_))
 ·have e0 : bZ m.funcs x=(0,1):=by unfold bZ;repeat (first | rfl | rw [if_pos (by omega)] | rw [if_neg (by omega)])
  rw [e0] at hu
  obtain rfl:=List.eq_nil_of_length_eq_zero (show took.length=0 by omega)
  simp only [List.length_nil,Nat.add_zero,List.append_nil] at ns ⊢
  have e : rA m ⟨ff,fpc,floc,fstk⟩ [] (fs0.length+1) hp made out x = .next ⟨ff,fpc,floc,fstk++[aMo x.a]⟩ hp made out:=by simp only [rA];repeat (first | rfl | rw [if_pos (by omega)] | rw [if_neg (by omega)])
  exact aX rfl (jK (by omega) (by omega) (aB (by rw [e];rfl)))
 refine aI (aC (λho=>?_) (λn6=>?_))
 ·have e0 : bZ m.funcs x=(0,1):=by unfold bZ;repeat (first | rfl | rw [if_pos (by omega)] | rw [if_neg (by omega)])
  rw [e0] at hu
  obtain rfl:=List.eq_nil_of_length_eq_zero (show took.length=0 by omega)
  simp only [List.length_nil,Nat.add_zero,List.append_nil] at ns ⊢
  have e : rA m ⟨ff,fpc,floc,fstk⟩ [] (fs0.length+1) hp made out x = .next ⟨ff,fpc,floc,fstk++[floc[x.a.toNat]?.getD dO]⟩ hp made out:=by simp only [rA];repeat (first | rfl | rw [if_pos (by omega)] | rw [if_neg (by omega)])
  have hq:=q67 (.inl ho)
  refine cQ rfl rfl (cQ rfl rfl (aA (y:=aS floc) rfl (iV (by omega) (by omega) (cQ rfl rfl (aA (y:=aS floc) rfl (aAb (by omega) (by omega) (λv hv=>?_)))))))
  rw [hv] at e
  exact aGj (by omega) (by omega) (aB (by rw [e];rfl))
 refine aI (aC (λho=>?_) (λn7=>?_))
 ·have e0 : bZ m.funcs x=(1,0):=by unfold bZ;repeat (first | rfl | rw [if_pos (by omega)] | rw [if_neg (by omega)])
  rw [e0] at hu
  obtain ⟨a,rfl⟩:=List.length_eq_one_iff.1 (show took.length=1 by omega)
  have va:=vals0 a (by simp)
  have sa:=bM va
  have ns : fstk.length+1≤16:=ns
  have e : rA m ⟨ff,fpc,floc,fstk⟩ [a] (fs0.length+1) hp made out x = .next ⟨ff,fpc,floc.set x.a.toNat a,fstk⟩ hp made out:=by simp only [rA];repeat (first | rfl | rw [if_pos (by omega)] | rw [if_neg (by omega)])
  have hq:=q67 (.inr ho)
  refine iF (by omega) (by first | omega | (simp;omega)) (aE rfl (aA rfl (aA rfl (aA rfl (?_)))))
  refine cQ rfl rfl (cQ rfl rfl (aA (y:=aS floc) rfl (iV (by omega) (by omega) (cQ rfl rfl (aA (y:=aS floc) rfl (cQ rfl rfl (aA (y:=aS floc) rfl ?_)))))))
  refine xG (v:=a) (by omega) (by omega) (cQ rfl rfl (aA (y:=aS floc) rfl (gU rfl rfl (by omega) rfl (aB (by rw [e];rfl)))))
 refine aI (aC (λho=>?_) (λn8=>?_))
 ·have e0 : bZ m.funcs x=(1,2):=by unfold bZ;repeat (first | rfl | rw [if_pos (by omega)] | rw [if_neg (by omega)])
  rw [e0] at hu
  obtain ⟨a,rfl⟩:=List.length_eq_one_iff.1 (show took.length=1 by omega)
  have va:=vals0 a (by simp)
  have sa:=bM va
  have ns : fstk.length+1≤16:=ns
  have e : rA m ⟨ff,fpc,floc,fstk⟩ [a] (fs0.length+1) hp made out x = .next ⟨ff,fpc,floc,fstk++[a,a]⟩ hp made out:=by simp only [rA];repeat (first | rfl | rw [if_pos (by omega)] | rw [if_neg (by omega)])
  refine iF (by omega) (by first | omega | (simp;omega)) (aE rfl (aA rfl (aA rfl (aA rfl (?_)))))
  refine jK (by omega) (by omega) (jK (by omega) (by simp;omega) (aB ?_))
  rw [e]
  show _=_
  simp only [List.append_assoc]
  rfl
 refine aI (aC (λho=>?_) (λn9=>?_))
 ·have e0 : bZ m.funcs x=(1,0):=by unfold bZ;repeat (first | rfl | rw [if_pos (by omega)] | rw [if_neg (by omega)])
  rw [e0] at hu
  obtain ⟨a,rfl⟩:=List.length_eq_one_iff.1 (show took.length=1 by omega)
  have va:=vals0 a (by simp)
  have sa:=bM va
  have ns : fstk.length+1≤16:=ns
  have e : rA m ⟨ff,fpc,floc,fstk⟩ [a] (fs0.length+1) hp made out x = .next ⟨ff,fpc,floc,fstk++[]⟩ hp made out:=by simp only [rA];repeat (first | rfl | rw [if_pos (by omega)] | rw [if_neg (by omega)])
  refine iF (by omega) (by first | omega | (simp;omega)) (aB ?_)
  rw [e,List.append_nil]
  rfl
 refine aI (aC (λho=>?_) (λn10=>?_))
 ·have e0 : bZ m.funcs x=(2,2):=by unfold bZ;repeat (first | rfl | rw [if_pos (by omega)] | rw [if_neg (by omega)])
  rw [e0] at hu
  obtain ⟨a,b,rfl⟩:=aDr (show took.length=2 by omega)
  have va:=vals0 a (by simp)
  have vb:=vals0 b (by simp)
  have sa:=bM va
  have sb:=bM vb
  rw [show fstk++[a,b]=fstk++[a]++[b] by simp]
  have ns : fstk.length+2≤16:=ns
  have e : rA m ⟨ff,fpc,floc,fstk⟩ [a,b] (fs0.length+1) hp made out x = .next ⟨ff,fpc,floc,fstk++[b,a]⟩ hp made out:=by simp only [rA];repeat (first | rfl | rw [if_pos (by omega)] | rw [if_neg (by omega)])
  refine iF (by omega) (by first | omega | (simp;omega)) (aE rfl (aA rfl (aA rfl (aA rfl (?_)))))
  refine iF (by omega) (by first | omega | (simp;omega)) (aE rfl (aA rfl (aA rfl (aA rfl (?_)))))
  refine jK (by omega) (by omega) (jK (by omega) (by simp;omega) (aB ?_))
  rw [e]
  show _=_
  simp only [List.append_assoc]
  rfl
 refine aI (aC (λho=>?_) (λn11=>?_))
 ·have e0 : bZ m.funcs x=(2,1):=by unfold bZ;repeat (first | rfl | rw [if_pos (by omega)] | rw [if_neg (by omega)])
  rw [e0] at hu
  obtain ⟨a,b,rfl⟩:=aDr (show took.length=2 by omega)
  have va:=vals0 a (by simp)
  have vb:=vals0 b (by simp)
  have sa:=bM va
  have sb:=bM vb
  rw [show fstk++[a,b]=fstk++[a]++[b] by simp]
  have ns : fstk.length+2≤16:=ns
  have e : rA m ⟨ff,fpc,floc,fstk⟩ [a,b] (fs0.length+1) hp made out x=if (zC x.o a b).2≠0 then .trap (zC x.o a b).2 else .next ⟨ff,fpc,floc,fstk++[(zC x.o a b).1]⟩ hp made out:=by simp only [rA];repeat (first | rfl | rw [if_pos (by omega)] | rw [if_neg (by omega)])
  refine iF (by omega) (by first | omega | (simp;omega)) (aE rfl (aA rfl (aA rfl (aA rfl (?_)))))
  refine iF (by omega) (by first | omega | (simp;omega)) (aE rfl (aA rfl (aA rfl (aA rfl (?_)))))
  refine qZ (aD8 (o:=x.o) (a:=a) (b:=b) (by omega) ⟨by omega,by omega⟩) (bG rfl (bG rfl (aE rfl (aA rfl (aA rfl (aA rfl (aX rfl (jK (by omega) (by omega) (aB ?_)))))))))
  by_cases ht : (zC x.o a b).2≠0
  ·rw [e,if_pos ht];exact ⟨ht,rfl⟩
  ·rw [e,if_neg ht]
   have ht : (zC x.o a b).2=0:=by simpa using ht
   rw [ht];rfl
 refine aI (aC (λho=>?_) (λn12=>?_))
 ·have e0 : bZ m.funcs x=(2,1):=by unfold bZ;repeat (first | rfl | rw [if_pos (by omega)] | rw [if_neg (by omega)])
  rw [e0] at hu
  obtain ⟨a,b,rfl⟩:=aDr (show took.length=2 by omega)
  have va:=vals0 a (by simp)
  have vb:=vals0 b (by simp)
  have sa:=bM va
  have sb:=bM vb
  rw [show fstk++[a,b]=fstk++[a]++[b] by simp]
  have ns : fstk.length+2≤16:=ns
  have e : rA m ⟨ff,fpc,floc,fstk⟩ [a,b] (fs0.length+1) hp made out x=if (zC x.o a b).2≠0 then .trap (zC x.o a b).2 else .next ⟨ff,fpc,floc,fstk++[(zC x.o a b).1]⟩ hp made out:=by simp only [rA];repeat (first | rfl | rw [if_pos (by omega)] | rw [if_neg (by omega)])
  refine iF (by omega) (by first | omega | (simp;omega)) (aE rfl (aA rfl (aA rfl (aA rfl (?_)))))
  refine iF (by omega) (by first | omega | (simp;omega)) (aE rfl (aA rfl (aA rfl (aA rfl (?_)))))
  refine qZ (aD8 (o:=x.o) (a:=a) (b:=b) (by omega) ⟨by omega,by omega⟩) (bG rfl (bG rfl (aE rfl (aA rfl (aA rfl (aA rfl (aX rfl (jK (by omega) (by omega) (aB ?_)))))))))
  by_cases ht : (zC x.o a b).2≠0
  ·rw [e,if_pos ht];exact ⟨ht,rfl⟩
  ·rw [e,if_neg ht]
   have ht : (zC x.o a b).2=0:=by simpa using ht
   rw [ht];rfl
 refine aI (aC (λho=>?_) (λn13=>?_))
 ·have e0 : bZ m.funcs x=(2,1):=by unfold bZ;repeat (first | rfl | rw [if_pos (by omega)] | rw [if_neg (by omega)])
  rw [e0] at hu
  obtain ⟨a,b,rfl⟩:=aDr (show took.length=2 by omega)
  have va:=vals0 a (by simp)
  have vb:=vals0 b (by simp)
  have sa:=bM va
  have sb:=bM vb
  rw [show fstk++[a,b]=fstk++[a]++[b] by simp]
  have ns : fstk.length+2≤16:=ns
  have e : rA m ⟨ff,fpc,floc,fstk⟩ [a,b] (fs0.length+1) hp made out x=if (zC x.o a b).2≠0 then .trap (zC x.o a b).2 else .next ⟨ff,fpc,floc,fstk++[(zC x.o a b).1]⟩ hp made out:=by simp only [rA];repeat (first | rfl | rw [if_pos (by omega)] | rw [if_neg (by omega)])
  refine iF (by omega) (by first | omega | (simp;omega)) (aE rfl (aA rfl (aA rfl (aA rfl (?_)))))
  refine iF (by omega) (by first | omega | (simp;omega)) (aE rfl (aA rfl (aA rfl (aA rfl (?_)))))
  refine qZ (aD8 (o:=x.o) (a:=a) (b:=b) (by omega) ⟨by omega,by omega⟩) (bG rfl (bG rfl (aE rfl (aA rfl (aA rfl (aA rfl (aX rfl (jK (by omega) (by omega) (aB ?_)))))))))
  by_cases ht : (zC x.o a b).2≠0
  ·rw [e,if_pos ht];exact ⟨ht,rfl⟩
  ·rw [e,if_neg ht]
   have ht : (zC x.o a b).2=0:=by simpa using ht
   rw [ht];rfl
 refine aI (aC (λho=>?_) (λn14=>?_))
 ·have e0 : bZ m.funcs x=(2,1):=by unfold bZ;repeat (first | rfl | rw [if_pos (by omega)] | rw [if_neg (by omega)])
  rw [e0] at hu
  obtain ⟨a,b,rfl⟩:=aDr (show took.length=2 by omega)
  have va:=vals0 a (by simp)
  have vb:=vals0 b (by simp)
  have sa:=bM va
  have sb:=bM vb
  rw [show fstk++[a,b]=fstk++[a]++[b] by simp]
  have ns : fstk.length+2≤16:=ns
  have e : rA m ⟨ff,fpc,floc,fstk⟩ [a,b] (fs0.length+1) hp made out x=if (zC x.o a b).2≠0 then .trap (zC x.o a b).2 else .next ⟨ff,fpc,floc,fstk++[(zC x.o a b).1]⟩ hp made out:=by simp only [rA];repeat (first | rfl | rw [if_pos (by omega)] | rw [if_neg (by omega)])
  refine iF (by omega) (by first | omega | (simp;omega)) (aE rfl (aA rfl (aA rfl (aA rfl (?_)))))
  refine iF (by omega) (by first | omega | (simp;omega)) (aE rfl (aA rfl (aA rfl (aA rfl (?_)))))
  refine qZ (aD8 (o:=x.o) (a:=a) (b:=b) (by omega) ⟨by omega,by omega⟩) (bG rfl (bG rfl (aE rfl (aA rfl (aA rfl (aA rfl (aX rfl (jK (by omega) (by omega) (aB ?_)))))))))
  by_cases ht : (zC x.o a b).2≠0
  ·rw [e,if_pos ht];exact ⟨ht,rfl⟩
  ·rw [e,if_neg ht]
   have ht : (zC x.o a b).2=0:=by simpa using ht
   rw [ht];rfl
 refine aI (aC (λho=>?_) (λn15=>?_))
 ·have e0 : bZ m.funcs x=(2,1):=by unfold bZ;repeat (first | rfl | rw [if_pos (by omega)] | rw [if_neg (by omega)])
  rw [e0] at hu
  obtain ⟨a,b,rfl⟩:=aDr (show took.length=2 by omega)
  have va:=vals0 a (by simp)
  have vb:=vals0 b (by simp)
  have sa:=bM va
  have sb:=bM vb
  rw [show fstk++[a,b]=fstk++[a]++[b] by simp]
  have ns : fstk.length+2≤16:=ns
  have e : rA m ⟨ff,fpc,floc,fstk⟩ [a,b] (fs0.length+1) hp made out x=if (zC x.o a b).2≠0 then .trap (zC x.o a b).2 else .next ⟨ff,fpc,floc,fstk++[(zC x.o a b).1]⟩ hp made out:=by simp only [rA];repeat (first | rfl | rw [if_pos (by omega)] | rw [if_neg (by omega)])
  refine iF (by omega) (by first | omega | (simp;omega)) (aE rfl (aA rfl (aA rfl (aA rfl (?_)))))
  refine iF (by omega) (by first | omega | (simp;omega)) (aE rfl (aA rfl (aA rfl (aA rfl (?_)))))
  refine qZ (aD8 (o:=x.o) (a:=a) (b:=b) (by omega) ⟨by omega,by omega⟩) (bG rfl (bG rfl (aE rfl (aA rfl (aA rfl (aA rfl (aX rfl (jK (by omega) (by omega) (aB ?_)))))))))
  by_cases ht : (zC x.o a b).2≠0
  ·rw [e,if_pos ht];exact ⟨ht,rfl⟩
  ·rw [e,if_neg ht]
   have ht : (zC x.o a b).2=0:=by simpa using ht
   rw [ht];rfl
 refine aI (aC (λho=>?_) (λn16=>?_))
 ·have e0 : bZ m.funcs x=(1,1):=by unfold bZ;repeat (first | rfl | rw [if_pos (by omega)] | rw [if_neg (by omega)])
  rw [e0] at hu
  obtain ⟨a,rfl⟩:=List.length_eq_one_iff.1 (show took.length=1 by omega)
  have va:=vals0 a (by simp)
  have sa:=bM va
  have ns : fstk.length+1≤16:=ns
  have e : rA m ⟨ff,fpc,floc,fstk⟩ [a] (fs0.length+1) hp made out x=if (aDp a).2≠0 then .trap (aDp a).2 else .next ⟨ff,fpc,floc,fstk++[(aDp a).1]⟩ hp made out:=by simp only [rA];repeat (first | rfl | rw [if_pos (by omega)] | rw [if_neg (by omega)])
  refine iF (by omega) (by first | omega | (simp;omega)) (?_)
  refine qZ (aO0 (v:=a)) (bG rfl (bG rfl (aE rfl (aA rfl (aA rfl (aA rfl (aX rfl (jK (by omega) (by omega) (aB ?_)))))))))
  by_cases ht : (aDp a).2≠0
  ·rw [e,if_pos ht];exact ⟨ht,rfl⟩
  ·rw [e,if_neg ht]
   have ht : (aDp a).2=0:=by simpa using ht
   rw [ht];rfl
 refine aI (aC (λho=>?_) (λn17=>?_))
 ·have e0 : bZ m.funcs x=(0,0):=by unfold bZ;repeat (first | rfl | rw [if_pos (by omega)] | rw [if_neg (by omega)])
  rw [e0] at hu
  obtain rfl:=List.eq_nil_of_length_eq_zero (show took.length=0 by omega)
  simp only [List.length_nil,Nat.add_zero,List.append_nil] at ns ⊢
  have e : rA m ⟨ff,fpc,floc,fstk⟩ [] (fs0.length+1) hp made out x = .next ⟨ff,x.a,floc,fstk⟩ hp made out:=by simp only [rA];repeat (first | rfl | rw [if_pos (by omega)] | rw [if_neg (by omega)])
  exact aX rfl (gU rfl rfl (by omega) rfl (aB (by rw [e];rfl)))
 refine aI (aC (λho=>?_) (λn18=>?_))
 ·have e0 : bZ m.funcs x=(1,0):=by unfold bZ;repeat (first | rfl | rw [if_pos (by omega)] | rw [if_neg (by omega)])
  rw [e0] at hu
  obtain ⟨a,rfl⟩:=List.length_eq_one_iff.1 (show took.length=1 by omega)
  have va:=vals0 a (by simp)
  have sa:=bM va
  have ns : fstk.length+1≤16:=ns
  have e : rA m ⟨ff,fpc,floc,fstk⟩ [a] (fs0.length+1) hp made out x=if a.k≠2 then .trap 1 else if (decide (a.n=1)==decide (x.o=18))=true then .next ⟨ff,x.a,floc,fstk⟩ hp made out else .next ⟨ff,fpc,floc,fstk++[]⟩ hp made out:=by simp only [rA];repeat (first | rfl | rw [if_pos (by omega)] | rw [if_neg (by omega)])
  refine iF (by omega) (by first | omega | (simp;omega)) (aE rfl (aA rfl (aA rfl (aA rfl (?_)))))
  refine bQ (aO (λh=>aB (by rw [e,if_pos h];exact ⟨by omega,rfl⟩)) (λh=>?_))
  rw [if_neg (by simpa using h)] at e
  refine aI (aI (aGo (aQ (λhb=>?_) (λhb=>?_))))
  ·rw [if_pos hb] at e
   exact aX rfl (gU rfl rfl (by omega) rfl (aB (by rw [e];rfl)))
  ·rw [if_neg (by rw [hb];simp)] at e
   exact aB (by rw [e,List.append_nil];rfl)
 refine aI (aC (λho=>?_) (λn19=>?_))
 ·have e0 : bZ m.funcs x=(1,0):=by unfold bZ;repeat (first | rfl | rw [if_pos (by omega)] | rw [if_neg (by omega)])
  rw [e0] at hu
  obtain ⟨a,rfl⟩:=List.length_eq_one_iff.1 (show took.length=1 by omega)
  have va:=vals0 a (by simp)
  have sa:=bM va
  have ns : fstk.length+1≤16:=ns
  have e : rA m ⟨ff,fpc,floc,fstk⟩ [a] (fs0.length+1) hp made out x=if a.k≠2 then .trap 1 else if (decide (a.n=1)==decide (x.o=18))=true then .next ⟨ff,x.a,floc,fstk⟩ hp made out else .next ⟨ff,fpc,floc,fstk++[]⟩ hp made out:=by simp only [rA];repeat (first | rfl | rw [if_pos (by omega)] | rw [if_neg (by omega)])
  refine iF (by omega) (by first | omega | (simp;omega)) (aE rfl (aA rfl (aA rfl (aA rfl (?_)))))
  refine bQ (aO (λh=>aB (by rw [e,if_pos h];exact ⟨by omega,rfl⟩)) (λh=>?_))
  rw [if_neg (by simpa using h)] at e
  refine aI (aI (aGo (aQ (λhb=>?_) (λhb=>?_))))
  ·rw [if_pos hb] at e
   exact aX rfl (gU rfl rfl (by omega) rfl (aB (by rw [e];rfl)))
  ·rw [if_neg (by rw [hb];simp)] at e
   exact aB (by rw [e,List.append_nil];rfl)
 refine aI (aC (λho=>?_) (λn20=>?_))
 ·have e0 : bZ m.funcs x=(0,1):=by unfold bZ;repeat (first | rfl | rw [if_pos (by omega)] | rw [if_neg (by omega)])
  rw [e0] at hu
  obtain rfl:=List.eq_nil_of_length_eq_zero (show took.length=0 by omega)
  simp only [List.length_nil,Nat.add_zero,List.append_nil] at ns ⊢
  have e : rA m ⟨ff,fpc,floc,fstk⟩ [] (fs0.length+1) hp made out x=if made=120 then .trap 7 else .next ⟨ff,fpc,floc,fstk++[aP3 hp.length]⟩ (hp++[List.replicate x.a.toNat dO]) (made+1) out:=by simp only [rA];repeat (first | rfl | rw [if_pos (by omega)] | rw [if_neg (by omega)])
  have hq:=q20 ho
  refine aI (aC (λh=>aB (by rw [e,if_pos h];exact ⟨by omega,rfl⟩)) (λh=>?_))
  rw [if_neg h] at e
  refine aD (aX rfl (jK (by omega) (by omega) (?_)))
  refine aB5 (by omega) (by omega) (fE (aC (λ_=>?_) (λh=>by omega)))
  refine aB5 (by omega) (by omega) (fQ (by simp;omega) (λx hx=>by simp only [List.mem_singleton] at hx;subst hx;rfl) (aL (by omega) (aX rfl (aB ?_))))
  rw [e]
  show _=_
  rw [List.map_append]
  rfl
 refine aI (aC (λho=>?_) (λn21=>?_))
 ·have e0 : bZ m.funcs x=(1,1):=by unfold bZ;repeat (first | rfl | rw [if_pos (by omega)] | rw [if_neg (by omega)])
  rw [e0] at hu
  obtain ⟨a,rfl⟩:=List.length_eq_one_iff.1 (show took.length=1 by omega)
  have va:=vals0 a (by simp)
  have sa:=bM va
  have ns : fstk.length+1≤16:=ns
  have e : rA m ⟨ff,fpc,floc,fstk⟩ [a] (fs0.length+1) hp made out x=if a.k≠4 then .trap 1 else if (hp[a.n.toNat]?.getD []).length≤x.a then .trap 4 else .next ⟨ff,fpc,floc,fstk++[(hp[a.n.toNat]?.getD [])[x.a.toNat]?.getD dO]⟩ hp made out:=by simp only [rA];repeat (first | rfl | rw [if_pos (by omega)] | rw [if_neg (by omega)])
  refine iF (by omega) (by first | omega | (simp;omega)) (aE rfl (aA rfl (aA rfl (aA rfl (?_)))))
  have hq:=q2122 (.inl ho)
  refine bQ (aO (λh=>aB (by rw [e,if_pos h];exact ⟨by omega,rfl⟩)) (λh=>?_))
  rw [if_neg (by simpa using h)] at e
  have hr:=aIU va h
  have hlen:=aM8 recs a.n.toNat
  refine aAc (by omega) (by omega) (jY (by omega) (by omega) (jY (by omega) (by omega) (aA rfl (aY ?_))))
  refine eQ (aC (λh=>aB (by rw [e,if_pos h];exact ⟨by omega,rfl⟩)) (λh=>?_))
  rw [if_neg h] at e
  refine aAc (by omega) (by omega) (jY (by omega) (by omega) (jY (by omega) (by omega) (aA rfl (iV (by omega) (by omega) (jY (by omega) (by omega) (aA rfl ?_))))))
  refine aAb (by omega) (by omega) (λv hv=>?_)
  rw [hv] at e
  exact aGj (by omega) (by omega) (aB (by rw [e];rfl))
 refine aI (aC (λho=>?_) (λn22=>?_))
 ·have e0 : bZ m.funcs x=(2,0):=by unfold bZ;repeat (first | rfl | rw [if_pos (by omega)] | rw [if_neg (by omega)])
  rw [e0] at hu
  obtain ⟨a,b,rfl⟩:=aDr (show took.length=2 by omega)
  have va:=vals0 a (by simp)
  have vb:=vals0 b (by simp)
  have sa:=bM va
  have sb:=bM vb
  rw [show fstk++[a,b]=fstk++[a]++[b] by simp]
  have ns : fstk.length+2≤16:=ns
  have e : rA m ⟨ff,fpc,floc,fstk⟩ [a,b] (fs0.length+1) hp made out x=if a.k≠4 then .trap 1 else if (hp[a.n.toNat]?.getD []).length≤x.a then .trap 4 else .next ⟨ff,fpc,floc,fstk⟩ (hp.set a.n.toNat ((hp[a.n.toNat]?.getD []).set x.a.toNat b)) made out:=by simp only [rA];repeat (first | rfl | rw [if_pos (by omega)] | rw [if_neg (by omega)])
  refine iF (by omega) (by first | omega | (simp;omega)) (aE rfl (aA rfl (aA rfl (aA rfl (?_)))))
  refine iF (by omega) (by first | omega | (simp;omega)) (aE rfl (aA rfl (aA rfl (aA rfl (?_)))))
  have hq:=q2122 (.inr ho)
  refine bQ (aO (λh=>aB (by rw [e,if_pos h];exact ⟨by omega,rfl⟩)) (λh=>?_))
  rw [if_neg (by simpa using h)] at e
  have hr:=aIU va h
  have hlen:=aM8 recs a.n.toNat
  refine aAc (by omega) (by omega) (jY (by omega) (by omega) (jY (by omega) (by omega) (aA rfl (aY ?_))))
  refine eQ (aC (λh=>aB (by rw [e,if_pos h];exact ⟨by omega,rfl⟩)) (λh=>?_))
  rw [if_neg h] at e
  refine aAc (by omega) (by omega) (jY (by omega) (by omega) (jY (by omega) (by omega) (aA rfl (iV (by omega) (by omega) (jY (by omega) (by omega) (aA rfl ?_))))))
  refine jY (by omega) (by omega) (aA rfl (xG (v:=b) (by omega) (by omega) (jY (by omega) (by omega) (aA rfl (aMq (by omega) (by omega) (aB (by rw [e];rfl)))))))
 refine aI (aC (λho=>?_) (λn23=>?_))
 ·have hq:=q23 ho
  have e0 : bZ m.funcs x=(x.a+1,1):=by unfold bZ;repeat (first | rfl | rw [if_pos (by omega)] | rw [if_neg (by omega)])
  rw [e0] at hu
  obtain ⟨a,args,rfl⟩ : ∃ a l,took=a::l:=by
   cases took with
   | nil=>simp at hu;omega
   | cons a l=>exact ⟨a,l,rfl⟩
  have va:=vals0 a (by simp)
  have sa:=bM va
  have ns : fstk.length+(args.length+1)≤16:=ns
  have hu : ((args.length+1 : Nat) : Int)=x.a+1:=hu
  have e : rA m ⟨ff,fpc,floc,fstk⟩ (a::args) (fs0.length+1) hp made out x=if a.k≠5 then .trap 1 else if lR m.funcs a.n≠x.a then .trap 5 else if fs0.length+1=24 then .trap 6 else .call ⟨ff,fpc,floc,fstk⟩ (aAK m.funcs a.n args):=by simp only [rA];repeat (first | rfl | rw [if_pos (by omega)] | rw [if_neg (by omega)])
  have hlen : (fstk++a::args).length=fstk.length+args.length+1:=by simp;omega
  refine cQ rfl rfl (cQ rfl rfl (cQ rfl rfl (aA (y:=aS (fstk++a::args)) rfl (aY (bF (by omega) (bF (by omega) ?_))))))
  have ei : ((fstk++a::args).length : Int) - 1 - x.a=fstk.length:=by omega
  rw [ei]
  refine cQ rfl rfl (aA (y:=aS (fstk++a::args)) rfl (iV (by omega) (by omega) (cQ rfl rfl (aA (y:=aS (fstk++a::args)) rfl (aAb (by omega) (by omega) (λv hv=>?_))))))
  rw [Int.toNat_natCast,List.getElem?_append_right (Nat.le_refl _),Nat.sub_self] at hv
  cases hv
  refine aE rfl (aA rfl (aA rfl (aA rfl (?_))))
  refine bQ (aO (λh=>aB (by rw [e,if_pos h];exact ⟨by omega,rfl⟩)) (λh=>?_))
  rw [if_neg (by simpa using h)] at e
  have hr:=aIV va h
  refine aMn (by omega) (by omega) (by omega) (λ_ _=>aA rfl ?_)
  refine bQ (aO (λh=>aB (by rw [e,if_pos h];exact ⟨by omega,rfl⟩)) (λh=>?_))
  rw [if_neg (by simpa using h)] at e
  rw [show fstk++a::args=fstk++[a]++args by simp]
  refine aK9 (under:=true) (s1:=fstk) (by omega) par nA (by simp;omega) (.inl ⟨rfl,a,rfl⟩) hr (by omega) (λhd=>aB ?_) (λhd=>aB ?_)
  ·rw [e,if_pos (by rw [List.length_map] at hd;omega)];exact ⟨by omega,rfl⟩
  ·rw [e,if_neg (by rw [List.length_map] at hd;omega)];rfl
 refine aI (aC (λho=>?_) (λn24=>?_))
 ·have hq:=q524 (.inr ho)
  have e0 : bZ m.funcs x=(lR m.funcs x.a,1):=by unfold bZ;repeat (first | rfl | rw [if_pos (by omega)] | rw [if_neg (by omega)])
  rw [e0] at hu
  have e : rA m ⟨ff,fpc,floc,fstk⟩ took (fs0.length+1) hp made out x=if fs0.length+1=24 then .trap 6 else .call ⟨ff,fpc,floc,fstk⟩ (aAK m.funcs x.a took):=by simp only [rA];repeat (first | rfl | rw [if_pos (by omega)] | rw [if_neg (by omega)])
  refine aK9 (under:=false) (s1:=fstk) (by omega) par nA (by omega) (.inr ⟨rfl,rfl⟩) hq (by omega) (λhd=>aB ?_) (λhd=>aB ?_)
  ·rw [e,if_pos (by rw [List.length_map] at hd;omega)];exact ⟨by omega,rfl⟩
  ·rw [e,if_neg (by rw [List.length_map] at hd;omega)];rfl
 refine aI (aC (λho=>?_) (λn25=>?_))
 ·have e0 : bZ m.funcs x=(1,0):=by unfold bZ;repeat (first | rfl | rw [if_pos (by omega)] | rw [if_neg (by omega)])
  rw [e0] at hu
  obtain ⟨a,rfl⟩:=List.length_eq_one_iff.1 (show took.length=1 by omega)
  have va:=vals0 a (by simp)
  have sa:=bM va
  have ns : fstk.length+1≤16:=ns
  have e : rA m ⟨ff,fpc,floc,fstk⟩ [a] (fs0.length+1) hp made out x = .ret a:=by simp only [rA];repeat (first | rfl | rw [if_pos (by omega)] | rw [if_neg (by omega)])
  refine iF (by omega) (by first | omega | (simp;omega)) (aE rfl (aA rfl (aA rfl (aA rfl (?_)))))
  have e1 : ((fs0.map bT.pv++[bT.pv ⟨ff,fpc,floc,fstk⟩]).length : Int) - 1=fs0.length:=by simp
  have hel : ∀ y∈fs0.map bT.pv++[bT.pv ⟨ff,fpc,floc,fstk⟩],y.isEl 4 true=true:=λy hy=>(List.mem_append.1 hy).elim (aOb y) (λh=>by simp only [List.mem_singleton] at h;subst h;rfl)
  refine dL (bF (by simp;omega) ?_)
  rw [e1]
  have e2 : ((fs0.map bT.pv++[bT.pv ⟨ff,fpc,floc,fstk⟩]).take (fs0.length : Int).toNat).drop (0 : Int).toNat=fs0.map bT.pv:=by
   rw [Int.toNat_natCast,Int.toNat_zero,List.drop_zero,List.take_left' (by simp)]
  refine aCL (by omega) (by omega) (by simp;omega) hel ?_
  refine aCL (by omega) (by omega) (by simp;omega) hel ?_
  rw [e2]
  refine aD (aI (aC (λh=>aB ?_) (λh=>?_)))
  ·rw [e]
   have : fs0 = []:=List.eq_nil_of_length_eq_zero (by omega)
   subst this
   rfl
  ·obtain ⟨l,g,rfl⟩ : ∃ l g,fs0=l++[g]:=⟨fs0.dropLast,fs0.getLast (λe=>by rw [e] at h;simp at h),(List.dropLast_concat_getLast _).symm⟩
   have hg:=stks g (by simp)
   obtain ⟨gf,gpc,gloc,gstk⟩:=g
   simp only at hg
   rw [List.map_append]
   refine jK (by rw [List.length_map];simp at n0;omega) (by omega) (aB ?_)
   rw [e]
   show _=_
   rw [if_neg (by simp),aDq,List.map_append]
   rfl
 refine aI (aC (λho=>?_) (λn26=>?_))
 ·have e0 : bZ m.funcs x=(1,0):=by unfold bZ;repeat (first | rfl | rw [if_pos (by omega)] | rw [if_neg (by omega)])
  rw [e0] at hu
  obtain ⟨a,rfl⟩:=List.length_eq_one_iff.1 (show took.length=1 by omega)
  have va:=vals0 a (by simp)
  have sa:=bM va
  have ns : fstk.length+1≤16:=ns
  have e : rA m ⟨ff,fpc,floc,fstk⟩ [a] (fs0.length+1) hp made out x=if out.length=200 then .trap 8 else .next ⟨ff,fpc,floc,fstk⟩ hp made (out++[lS a hp]):=by simp only [rA];repeat (first | rfl | rw [if_pos (by omega)] | rw [if_neg (by omega)])
  refine iF (by omega) (by first | omega | (simp;omega)) (aE rfl (aA rfl (aA rfl (aA rfl (?_)))))
  refine aD (aI (aC (λh=>aB (by rw [e,if_pos (by omega)];exact ⟨by omega,rfl⟩)) (λh=>?_)))
  rw [if_neg (by omega)] at e
  refine aG (aJS (v:=a) (hp:=hp) (nf:=m.funcs.length) (by omega) (by omega) (λr hr=>by have:=recs r hr;omega) va) (λr hr=>?_)
  subst hr
  refine eR rfl (jN (by simp) (λx hx=>by simp only [List.mem_singleton] at hx;subst hx;rfl) (fQ (by simp;omega) (λx hx=>by simp only [List.mem_singleton] at hx;subst hx;rfl) (aB ?_)))
  rw [e]
  show _=_
  rw [List.map_append]
  rfl
 omega
structure eA where
 fr : List bT
 hp : List (List cB)
 made : Int
 out : List ByteArray
 st : Int
 tr : Int
 val : cB
 steps : Int
def eA.pv (v : eA) : PV:=.agg [.lst (v.fr.map bT.pv),.lst (v.hp.map aR),.I v.made,.lst (v.out.map PV.str),.I v.st,.I v.tr,.I v.val.k,.I v.val.n,.str v.val.s,.I v.steps]
def dD (v : eA) : R:=[.I v.made,.I v.st,.I v.tr,.I v.val.k,.I v.val.n,.str v.val.s,.I v.steps,.lst (v.fr.map bT.pv),.lst (v.hp.map aR),.lst (v.out.map PV.str)]
structure Sz (v : eA) : Prop where
 f : v.fr.length≤1000
 h : v.hp.length≤1000
 o : v.out.length≤1000
 fl : ∀ f∈v.fr,f.loc.length≤1000∧f.stk.length≤1000
 hl : ∀ r∈v.hp,r.length≤1000
theorem aB6 (l : List cB) : PV.flatEs true [] (l.map cB.pv)=true:=by
 induction l with
 | nil=>simp [PV.flatEs]
 | cons x r ih=>simp [PV.flatEs,PV.flatE,PV.flatCs,PV.flat,cB.pv,ih]
theorem pR (l : List cB) : PV.flatO (.own 3 32 true []) (aS l)=true:=aB6 l
theorem aBD (l : List bT) : PV.flatO (.own 4 64 true [.leaf,.leaf,(.own 3 32 true []),(.own 3 32 true [])]) (.lst (l.map bT.pv))=true:=by
 show PV.flatEs true _ (l.map bT.pv)=true
 induction l with
 | nil=>simp [PV.flatEs]
 | cons x r ih=>
   simp only [List.map_cons,PV.flatEs,Bool.and_eq_true]
   refine ⟨?_,ih⟩
   simp [bT.pv,PV.flatE,PV.flatCs,PV.flat,aS,aB6]
theorem aB7 (l : List (List cB)) : PV.flatO (.own 1 24 true [(.own 3 32 true [])]) (.lst (l.map aR))=true:=by
 show PV.flatEs true _ (l.map aR)=true
 induction l with
 | nil=>simp [PV.flatEs]
 | cons x r ih=>
   simp only [List.map_cons,PV.flatEs,Bool.and_eq_true]
   refine ⟨?_,ih⟩
   simp [aR,PV.flatE,PV.flatCs,aS,aB6]
theorem aE5 (l : List ByteArray) : PV.flatO (.own 1 16 false []) (.lst (l.map PV.str))=true:=by
 show PV.flatEs false [] (l.map PV.str)=true
 induction l with
 | nil=>simp [PV.flatEs]
 | cons x r ih=>simp [PV.flatEs,PV.flatE,PV.flat,ih]
theorem aM9 {l : List ByteArray} : ∀ x∈l.map PV.str,x.isEl 1 false=true:=by
 intro x hx
 obtain ⟨a,_,rfl⟩:=List.mem_map.1 hx
 rfl
theorem aIo {hp : List (List cB)} (h : hp.length≤1000) (hl : ∀ r∈hp,r.length≤1000) : Ok (λr=>r = [.lst (hp.map aR)]) (rZ (.lst (hp.map aR))):=by
 rw [aCn]
 refine cH (n:=hp.length) (P:=λ_ r=>r = [.lst (hp.map aR)]) (F:=λi=>kZ (.lst (hp.map aR)) (.I i) (.lst ((hp.take i).map aR))) ?_ ?_ 0 (by omega)
 ·rw [qW]
  refine aD (aH (aC (λh=>by omega) (λ_=>aB ?_)))
  rw [List.take_length]
 ·intro i hi ih
  rw [qW]
  have:=hl _ (List.getElem_mem hi)
  refine aD (aH (aC (λ_=>?_) (λh=>by omega)))
  refine aK hi (λ_=>rfl) (aA rfl (jN (by rw [List.length_map];omega) sP ?_))
  refine fQ (by simp;omega) (λx hx=>by simp only [List.mem_singleton] at hx;subst hx;rfl) (aL (by omega) ?_)
  have e : (hp.take i).map aR++[PV.agg [.lst (hp[i].map cB.pv)]]=(hp.take (i+1)).map aR:=by
   rw [List.take_add_one,List.getElem?_eq_getElem hi,List.map_append];rfl
  rw [e]
  exact ih
theorem aHw {f : bT} (h : f.loc.length≤1000∧f.stk.length≤1000) : Ok (λr=>r = [.I f.f,.I f.pc,aS f.loc,aS f.stk]) (qO f.pv):=by
 rw [aBs]
 refine aE rfl (aA rfl (aA rfl (aA rfl (aA rfl ?_))))
 exact jN (by rw [List.length_map];omega) sP (jN (by rw [List.length_map];omega) sP (aB rfl))
theorem aOc {v : eA} (z : Sz v) : Ok (λr=>r=dD v) (iR v.pv):=by
 obtain ⟨zf,zh,zo,zfl,zhl⟩:=z
 rw [aF3]
 refine aE rfl (aA rfl (aA rfl (aA rfl (aA rfl (aA rfl (aA rfl (aA rfl (aA rfl (aA rfl (aA rfl ?_))))))))))
 refine cH (n:=v.fr.length) (P:=λ_ r=>r=dD v) (F:=λi=>pK (.I i) (.lst (v.fr.map bT.pv)) (.lst (v.hp.map aR)) (.I v.made) (.lst (v.out.map PV.str)) (.I v.st) (.I v.tr) (.I v.val.k) (.I v.val.n) (.str v.val.s) (.I v.steps) (.I 0) (.I 0) (.I 0) (.I 0) (.I 0) (.str (bs [])) (.I 0) (.lst []) (.lst []) (.lst []) (.lst ((v.fr.take i).map bT.pv))) ?_ ?_ 0 (by omega)
 ·rw [vU]
  refine aD (aH (aC (λh=>by omega) (λ_=>?_)))
  refine aG (aIo zh zhl) (λr hr=>?_)
  subst hr
  refine kO (aB7 _) (jN (by rw [List.length_map];omega) aM9 (aB ?_))
  rw [List.take_length]
  rfl
 ·intro i hi ih
  rw [vU]
  refine aD (aH (aC (λ_=>?_) (λh=>by omega)))
  refine aK hi (λ_=>rfl) (aG (aHw (zfl _ (List.getElem_mem hi))) (λr hr=>?_))
  subst hr
  refine eR rfl (eR rfl (kO (pR _) (kO (pR _) ?_)))
  refine fQ (by simp;omega) (λx hx=>by simp only [List.mem_singleton] at hx;subst hx;rfl) (aL (by omega) ?_)
  have e : (v.fr.take i).map bT.pv++[PV.agg [.I v.fr[i].f,.I v.fr[i].pc,aS v.fr[i].loc,aS v.fr[i].stk]]=(v.fr.take (i+1)).map bT.pv:=by
   rw [List.take_add_one,List.getElem?_eq_getElem hi,List.map_append];rfl
  exact e▸ih
theorem aB8 {P : R→Prop} {k : R→OR} {v : eA} (z : Sz v) (h : Ok P (k (dD v))) : Ok P (bd (iR v.pv) k):=aG (aOc z) (λr hr=>by rw [hr];exact h)
theorem fD {P : R→Prop} {v : eA} {o : OR} (h : Ok P o) :
 Ok P (PV.guardFlat (gd (dD v) 0) (PV.guardFlat (gd (dD v) 1) (PV.guardFlat (gd (dD v) 2) (PV.guardFlat (gd (dD v) 3) (PV.guardFlat (gd (dD v) 4) (PV.guardFlat (gd (dD v) 5) (PV.guardFlat (gd (dD v) 6)
  (PV.guardOwn (.own 4 64 true [.leaf,.leaf,(.own 3 32 true []),(.own 3 32 true [])]) (gd (dD v) 7) (PV.guardOwn (.own 1 24 true [(.own 3 32 true [])]) (gd (dD v) 8) (PV.guardOwn (.own 1 16 false []) (gd (dD v) 9) o)))))))))):=
 eR rfl (eR rfl (eR rfl (eR rfl (eR rfl (eR rfl (eR rfl (kO (aBD _) (kO (aB7 _) (kO (aE5 _) h)))))))))
def dE (fs : List dA) (i : Int) : List cK:=(fs[i.toNat]?.map dA.code).getD []
def nP (fs : List dA) (f : bT) : cK:=(dE fs f.f)[f.pc.toNat]?.getD ⟨0,0⟩
def aF8 (_m : eN) (v : eA) (fs0 : List bT) : aEe→eA
 | .trap c=>⟨v.fr,v.hp,v.made,v.out,2,c,v.val,v.steps+1⟩
 | .next fr hp made out=>⟨fs0++[fr],hp,made,out,v.st,v.tr,v.val,v.steps+1⟩
 | .call fr g=>⟨fs0++[fr,g],v.hp,v.made,v.out,v.st,v.tr,v.val,v.steps+1⟩
 | .ret a=>if fs0 = [] then ⟨[],v.hp,v.made,v.out,1,v.tr,a,v.steps+1⟩ else ⟨aFJ a fs0,v.hp,v.made,v.out,v.st,v.tr,v.val,v.steps+1⟩
def aEg (m : eN) (v : eA) (fs0 : List bT) (f : bT) : aEe:=
 let x:=nP m.funcs f
 let b:=f.stk.length - (bZ m.funcs x).1.toNat
 rA m ⟨f.f,f.pc+1,f.loc,f.stk.take b⟩ (f.stk.drop b) (fs0.length+1) v.hp v.made v.out x
def pC (m : eN) (v : eA) : eA:=
 if v.st≠0 then v else if v.steps=50000 then v
 else match v.fr.getLast? with
 | none=>v
 | some f=>aF8 m v v.fr.dropLast (aEg m v v.fr.dropLast f)
theorem aE6 {m : eN} {v : eA} {fs0 : List bT} {f : bT} (h1 : v.st=0) (h2 : v.steps≠50000) (h3 : v.fr=fs0++[f]) : pC m v=aF8 m v fs0 (aEg m v fs0 f):=by
 unfold pC
 rw [if_neg (by omega),if_neg h2,h3]
 simp
structure aQJ (m : eN) (v : eA) (fs0 : List bT) (f : bT) : Prop where
 fr : v.fr=fs0++[f]
 fi : 0≤f.f∧f.f<m.funcs.length
 pc : 0≤f.pc∧f.pc<(dE m.funcs f.f).length
 nc : (dE m.funcs f.f).length≤120
 ins : cP m.texts.length m.funcs.length f.loc.length (dE m.funcs f.f).length (nP m.funcs f).o (nP m.funcs f).a=true
 us : 0≤(bZ m.funcs (nP m.funcs f)).1∧(bZ m.funcs (nP m.funcs f)).1≤f.stk.length
 small : ∀ b,aQI m fs0 ⟨f.f,f.pc+1,f.loc,f.stk.take b⟩ (f.stk.drop b) v.hp v.made v.out
end
noncomputable section
open Go
attribute [local irreducible] bd PV.ite PV.guardFlat PV.guardOwn PV.whole PV.one PV.cell PV.sub PV.at_ PV.len PV.slen PV.chr PV.beq PV.peq PV.ceq PV.bin PV.neg PV.not PV.conv PV.cut PV.scut PV.cat PV.setAt PV.setCell PV.ncopy PV.copyIn PV.zeros PV.toStr PV.toBytes PV.deref PV.isPtr PV.comp PV.inb PV.off PV.imin PV.imax PV.sel PV.apply PV.isLst PV.isInt PV.ix PV.nilT
def aEh (fs : List dA) (code : List cK) (d : List Int) (pc : Nat) : Option Int:=
 match code[pc]? with
 | none=>none
 | some x=>
   if d[pc]?.getD 0<0 then none
   else if can fs x (d[pc]?.getD 0)=false then some 2
   else if (hU x pc).any (λt=>decide ((code.length : Int)≤t))=true then some 3
   else if (hU x pc).any (λt=>!decide (d[t.toNat]?.getD 0=jT fs x (d[pc]?.getD 0)))=true then some 4
   else none
def aCH (fs : List dA) (code : List cK) (f pc : Nat) : Option (Int × Nat × Nat):=(aEh fs code (kR fs code) pc).map λc=>(c,f,pc)
def aIW (fs : List dA) (f : Nat) : Option (Int × Nat × Nat):=match fs[f]? with
 | some x=>(List.range' 0 x.code.length).findSome? (aCH fs x.code f)
 | none=>none
def bad (fs : List dA) : Option (Int × Nat × Nat):=(List.range' 0 fs.length).findSome? (aIW fs)
def aMr : Option (Int × Nat × Nat)→PV
 | some (c,f,pc)=>.agg [.I c,.I f,.I pc]
 | none=>.agg [.I 0,.I 0,.I 0]
def eN.verify (m : eN) : PV:=if m.okB then aMr (bad m.funcs) else .agg [.I 1,.I 0,.I 0]
theorem aGk {n : Nat} {F : Nat→OR} {P : R→Prop} (I : NP) (he : I n→Ok P (F n)) (hs : ∀ i,i<n→I i→(I (i+1)→Ok P (F (i+1)))→Ok P (F i)) (h0 : I 0) : Ok P (F 0):=
 vW (σ:=Unit) (F:=λi _=>F i) (λi _=>I i) (λ_ h=>he h) (λi _ hi hI ih=>hs i hi hI (λh=>ih () h)) 0 () (by omega) h0
theorem aEi {α : Type} {xs : List α} {i : Nat} (hi : i<xs.length) (p : α→Bool) : (xs.drop i).any p=(p xs[i]||(xs.drop (i+1)).any p):=by
 rw [List.drop_eq_getElem_cons hi,List.any_cons]
section
variable {fs : List dA} {code : List cK} {T x3 x4 x5 : PV} (F : Fit fs code) {f : Nat} (hf : f < fs.length)
include F hf
theorem aMs {P : R→Prop} {pc : Nat} (hpc : pc<code.length) {d : List Int} (hd : d.length=code.length) {left : Int} {ts : List Int} (hts : ∀ t∈ts,0≤t∧t<code.length) (hn : ts.length≤10)
 (h4 : ts.any (λt=>!decide (d[t.toNat]?.getD 0=left))=true→P [.agg [.I 4,.I f,.I pc]])
 (hgo : ts.any (λt=>!decide (d[t.toNat]?.getD 0=left))=false→Ok P (lJ (.I f) (.lst (code.map cK.pv)) (bD d) (.I ((pc : Int)+1)) T (.lst (fs.map dA.pv)) x3 x4 x5)) :
 Ok P (jW (.I f) (.lst (code.map cK.pv)) (bD d) (.I pc) (.I left) (bD ts) (.I 0) T (.lst (fs.map dA.pv)) x3 x4 x5):=by
 have hn2:=F.n2
 refine aGk (n:=ts.length) (F:=λi=>jW (.I f) (.lst (code.map cK.pv)) (bD d) (.I pc) (.I left) (bD ts) (.I i) T (.lst (fs.map dA.pv)) x3 x4 x5)
  (λi=>(ts.drop i).any (λt=>!decide (d[t.toNat]?.getD 0=left))=ts.any (λt=>!decide (d[t.toNat]?.getD 0=left))) ?_ ?_ (by rw [List.drop_zero])
 ·intro hI
  rw [List.drop_length] at hI
  rw [vM]
  exact cX (aH (aC (λh=>by omega) (λ_=>aL (by omega) (hgo hI.symm))))
 ·intro i hi hI ih
  rw [aEi hi] at hI
  have ht:=hts ts[i] (List.getElem_mem _)
  rw [vM]
  refine cX (aH (aC (λ_=>?_) (λh=>by omega)))
  refine cY hi (kM (by omega) (by omega) (λv hv=>?_))
  have hv' : d[ts[i].toNat]?.getD 0=v:=by rw [hv];rfl
  rw [hv'] at hI
  refine bQ (aO (λh=>?_) (λh=>?_))
  ·rw [decide_eq_false h] at hI
   exact aX rfl (aX rfl (aB (h4 hI.symm)))
  ·rw [decide_eq_true h] at hI
   exact aL (by omega) (ih hI)
theorem aOd {P : R→Prop} {pc : Nat} (hpc : pc<code.length) {d : List Int} (hd : d.length=code.length) {left : Int} {ts : List Int} (hts : ∀ t∈ts,0≤t∧t≤code.length) (hn : ts.length≤10)
 (h3 : ts.any (λt=>decide ((code.length : Int)≤t))=true→P [.agg [.I 3,.I f,.I pc]])
 (hgo : ts.any (λt=>decide ((code.length : Int)≤t))=false→Ok P (jW (.I f) (.lst (code.map cK.pv)) (bD d) (.I pc) (.I left) (bD ts) (.I 0) T (.lst (fs.map dA.pv)) x3 x4 x5)) :
 Ok P (mN (.I f) (.lst (code.map cK.pv)) (bD d) (.I pc) (.I left) (bD ts) (.I 0) T (.lst (fs.map dA.pv)) x3 x4 x5):=by
 have hn2:=F.n2
 refine aGk (n:=ts.length) (F:=λi=>mN (.I f) (.lst (code.map cK.pv)) (bD d) (.I pc) (.I left) (bD ts) (.I i) T (.lst (fs.map dA.pv)) x3 x4 x5)
  (λi=>(ts.drop i).any (λt=>decide ((code.length : Int)≤t))=ts.any (λt=>decide ((code.length : Int)≤t))) ?_ ?_ (by rw [List.drop_zero])
 ·intro hI
  rw [List.drop_length] at hI
  rw [vL]
  exact cX (aH (aC (λh=>by omega) (λ_=>hgo hI.symm)))
 ·intro i hi hI ih
  rw [aEi hi] at hI
  rw [vL]
  refine cX (aH (aC (λ_=>?_) (λh=>by omega)))
  refine cY hi (aD (eQ (aC (λh=>?_) (λh=>?_))))
  ·rw [decide_eq_true h] at hI
   exact aX rfl (aX rfl (aB (h3 hI.symm)))
  ·rw [decide_eq_false h] at hI
   exact aL (by omega) (ih hI)
theorem aNa {ts : List Int} {n : Int} (h : ts.any (λt=>decide (n≤t))=false) : ∀ t∈ts,t<n:=by
 clear F hf
 intro t ht
 rw [List.any_eq_false] at h
 have:=h t ht
 simp at this
 omega
theorem aMt {rest : Option (Int × Nat × Nat)} (hnext : Ok (λr=>r = [aMr rest]) (nI (.I ((f : Int)+1)) T (.lst (fs.map dA.pv)) x3 x4 x5)) : ∀ pc,pc≤code.length→
 Ok (λr=>r = [aMr (((List.range' pc (code.length - pc)).findSome? (aCH fs code f)).or rest)]) (lJ (.I f) (.lst (code.map cK.pv)) (bD (kR fs code)) (.I pc) T (.lst (fs.map dA.pv)) x3 x4 x5):=by
 have hn2:=F.n2
 have hnf:=F.nf
 have hg:=aAa F
 generalize hd : kR fs code=d at hg
 refine cH ?_ ?_
 ·rw [wX,aD4]
  exact aD (aH (aC (λh=>by omega) (λ_=>aL (by omega) hnext)))
 ·intro pc hpc ih
  have hx : code[pc]? = some code[pc]:=List.getElem?_eq_getElem hpc
  have hm : code[pc]∈code:=List.getElem_mem _
  have hu:=F.u code[pc] hm
  have hil : pc<d.length:=by rw [hg.1];exact hpc
  have hv:=hg.at pc
  have e2 : d[pc]=d[pc]?.getD 0:=aGi hil
  rw [aB2 hpc]
  have eb : aCH fs code f pc=(aEh fs code d pc).map λc=>(c,f,pc):=by unfold aCH;rw [hd]
  rw [eb]
  have ec : aEh fs code d pc=if d[pc]?.getD 0<0 then none
   else if can fs code[pc] (d[pc]?.getD 0)=false then some 2
   else if (hU code[pc] pc).any (λt=>decide ((code.length : Int)≤t))=true then some 3
   else if (hU code[pc] pc).any (λt=>!decide (d[t.toNat]?.getD 0=jT fs code[pc] (d[pc]?.getD 0)))=true then some 4
   else none:=by
   conv=>lhs;unfold aEh
   rw [hx]
  generalize hw : d[pc]?.getD 0=w at *
  generalize aEh fs code d pc=ch at *
  rw [wX]
  refine aD (aH (aC (λ_=>?_) (λh=>by omega)))
  refine cY hil ?_
  rw [e2]
  refine aH (aC (λh1=>?_) (λh1=>?_))
  ·rw [if_pos h1] at ec
   subst ec
   exact aL (by omega) ih
  rw [if_neg h1] at ec
  refine aK hpc (λ_=>rfl) (aG (aIO (T:=T) (by omega)) (λr hr=>?_))
  subst hr
  refine bG rfl (bG rfl (cY hil ?_))
  rw [e2]
  refine bF (by omega) (aL (by omega) (cY hil ?_))
  rw [e2]
  refine aH (aC (λh2=>?_) (λh2=>?_))
  ·have hc : can fs code[pc] w=false:=by simp only [can];rw [decide_eq_false (by omega)];rfl
   rw [if_pos hc] at ec
   subst ec
   exact aX rfl (aX rfl (aB rfl))
  refine cN (aC (λh3=>?_) (λh3=>?_))
  ·have hc : can fs code[pc] w=false:=by simp only [can];rw [decide_eq_false (p:=jT fs code[pc] w≤16) (by unfold jT;omega),Bool.and_false]
   rw [if_pos hc] at ec
   subst ec
   exact aX rfl (aX rfl (aB rfl))
  have hc : can fs code[pc] w=true:=by simp only [can];rw [decide_eq_true (by omega),decide_eq_true (p:=jT fs code[pc] w≤16) (by unfold jT;omega)];rfl
  rw [hc,if_neg (by simp)] at ec
  refine aK hpc (λ_=>rfl) (aG (aIP (by omega)) (λr hr=>?_))
  subst hr
  have hnx:=aBx F hm hpc
  have hl10 : (hU code[pc] pc).length≤10:=by unfold hU;repeat' split<;>simp
  refine aOd F hf hpc hg.1 (left:=jT fs code[pc] w) hnx hl10 (λh=>?_) (λh=>?_)
  ·rw [if_pos h] at ec
   subst ec
   rfl
  rw [if_neg (by rw [h];simp)] at ec
  refine aMs F hf hpc hg.1 (left:=jT fs code[pc] w) (λt ht=>⟨(hnx t ht).1,aNa F hf h t ht⟩) hl10 (λh=>?_) (λh=>?_)
  ·rw [if_pos h] at ec
   subst ec
   rfl
  ·rw [if_neg (by rw [h];simp)] at ec
   subst ec
   exact ih
end
theorem aHx {fs : List dA} {f : Nat} (hf : f<fs.length) : aIW fs f=(List.range' 0 fs[f].code.length).findSome? (aCH fs fs[f].code f):=by
 unfold aIW
 rw [List.getElem?_eq_getElem hf]
theorem aLa {m : eN} (h : m.sized) : Ok (λr=>r = [m.verify]) (aBb m.pv):=by
 rw [aHg]
 refine aE rfl (aA rfl (aA rfl (aG (aIm h) (λr hr=>?_))))
 subst hr
 unfold eN.verify
 refine bC (aQ (λhb=>aB ?_) (λhb=>?_))
 ·have : m.okB=false:=by simpa using hb
  rw [this];rfl
 have hb : m.okB=true:=by simpa using hb
 rw [hb,if_pos rfl]
 obtain ⟨h1,h2,h3⟩:=eN.okB_fit hb
 have key:=cH (n:=m.funcs.length) (P:=λf r=>r = [aMr ((List.range' f (m.funcs.length - f)).findSome? (aIW m.funcs))])
  (F:=λf=>nI (.I f) (.lst (m.texts.map PV.str)) (.lst (m.funcs.map dA.pv)) (.I 0) (.I 0) (.I 0)) ?_ ?_ 0 (by omega)
 ·exact key
 ·rw [wW,aD4]
  exact aD (aH (aC (λh=>by omega) (λ_=>aB rfl)))
 ·intro f hf ih
  have F:=(h3 m.funcs[f] (List.getElem_mem _)).1
  rw [wW,aB2 hf,aHx hf]
  refine aD (aH (aC (λ_=>?_) (λh=>by omega)))
  refine aK hf (λ_=>rfl) (aA rfl (aG (aBy F hf rfl) (λr hr=>?_)))
  subst hr
  exact aMt F hf ih 0 (by omega)
section
variable {P : R → Prop} {k : R → OR}
theorem aOe {xs : List Int} (hx : xs.length≤1000000000) (y : Int) : Ok (λr=>∃ n : Int,r = [.I n]∧(0≤n↔xs.any (λx=>decide (y=x))=true)) (fN (bD xs) (.I y)):=by
 rw [qA]
 refine cX ?_
 refine aGk (n:=xs.length) (F:=λi=>fO (bD xs) (.I y) (.I xs.length) (.I i)) (λi=>(xs.drop i).any (λx=>decide (y=x))=xs.any (λx=>decide (y=x))) ?_ ?_ (by rw [List.drop_zero])
 ·intro hI
  rw [List.drop_length] at hI
  rw [fY]
  refine aH (aC (λh=>by omega) (λ_=>aB ⟨-1,rfl,?_⟩))
  rw [← hI];simp
 ·intro i hi hI ih
  rw [aEi hi] at hI
  rw [fY]
  refine aH (aC (λ_=>?_) (λh=>by omega))
  refine cY hi (aI (aC (λh=>aB ⟨i,rfl,?_⟩) (λh=>?_)))
  ·rw [← hI,decide_eq_true h];simp
  ·rw [decide_eq_false h] at hI
   exact aL (by omega) (ih hI)
theorem aE7 {xs : List Int} (hx : xs.length≤1000000000) {y : Int} (h : Ok P (k [.bool (xs.any (λx=>decide (y=x)))])) : Ok P (bd (fM (bD xs) (.I y)) k):=by
 refine aG (Q:=λr=>r = [.bool (xs.any (λx=>decide (y=x)))]) ?_ (λr hr=>by rw [hr];exact h)
 rw [vQ]
 refine aG (aOe hx y) ?_
 rintro r ⟨n,rfl,hn⟩
 refine eQ (aB ?_)
 by_cases h0 : 0≤n
 ·rw [decide_eq_true h0,hn.1 h0]
 ·rw [decide_eq_false h0]
  cases h2 : xs.any (λx=>decide (y=x)) with
  | false=>rfl
  | true=>exact absurd (hn.2 h2) h0
theorem aOf {f : Nat} {caps : R} {xs : List Int} (hx : xs.length≤1000000000) (p : Int→Bool) (hp : ∀ x∈xs,Ok (λr=>r = [.bool (p x)]) (aZ f ([.I x]++caps))) (h : Ok P (k [.bool (xs.any p)])) :
 Ok P (bd (iQ (bD xs) (.fn f caps)) k):=by
 refine aG (Q:=λr=>r = [.bool (xs.any p)]) ?_ (λr hr=>by rw [hr];exact h)
 rw [sB]
 refine aG (Q:=λr=>∃ n : Int,r = [.I n]∧(0≤n↔xs.any p=true)) ?_ ?_
 ·rw [uC]
  refine cX ?_
  refine aGk (n:=xs.length) (F:=λi=>fP (bD xs) (.fn f caps) (.I xs.length) (.I i)) (λi=>(xs.drop i).any p=xs.any p) ?_ ?_ (by rw [List.drop_zero])
  ·intro hI
   rw [List.drop_length] at hI
   rw [lQ]
   refine aH (aC (λh=>by omega) (λ_=>aB ⟨-1,rfl,?_⟩))
   rw [← hI];simp
  ·intro i hi hI ih
   rw [aEi hi] at hI
   rw [lQ]
   refine aH (aC (λ_=>?_) (λh=>by omega))
   refine cY hi (uQ rfl (hp _ (List.getElem_mem _)) (λr hr=>?_))
   subst hr
   refine aQ (λh=>aB ⟨i,rfl,?_⟩) (λh=>?_)
   ·rw [← hI,h];simp
   ·rw [h,Bool.false_or] at hI
    exact aL (by omega) (ih hI)
 ·rintro r ⟨n,rfl,hn⟩
  refine eQ (aB ?_)
  by_cases h0 : 0≤n
  ·rw [decide_eq_true h0,hn.1 h0]
  ·rw [decide_eq_false h0]
   cases h2 : xs.any p with
   | false=>rfl
   | true=>exact absurd (hn.2 h2) h0
end
theorem aQb {ts : List Int} {n : Int} (h : ∀ t∈ts,t≤n) : ts.any (λx=>decide (n=x))=ts.any (λt=>decide (n≤t)):=by
 induction ts with
 | nil=>rfl
 | cons t r ih=>
   rw [List.any_cons,List.any_cons,ih (λx hx=>h x (List.mem_cons_of_mem _ hx))]
   have:=h t List.mem_cons_self
   congr 1
   by_cases h1 : n=t
   ·rw [decide_eq_true h1,decide_eq_true (by omega)]
   ·rw [decide_eq_false h1,decide_eq_false (by omega)]
section
variable {fs : List dA} {code : List cK} {T x3 x4 x5 : PV} (F : Fit fs code) {f : Nat} (hf : f < fs.length)
include F hf
theorem aMu {rest : Option (Int × Nat × Nat)} (hnext : Ok (λr=>r = [aMr rest]) (nJ (.I fs.length) (.I ((f : Int)+1)) T (.lst (fs.map dA.pv)) x3 x4 x5)) : ∀ pc,pc≤code.length→
 Ok (λr=>r = [aMr (((List.range' pc (code.length - pc)).findSome? (aCH fs code f)).or rest)])
  (nK (.I f) (.I fs.length) (.I f) (.lst (code.map cK.pv)) (.I code.length) (.I pc) T (.lst (fs.map dA.pv)) x3 x4 x5 (bD (kR fs code))):=by
 have hn2:=F.n2
 have hnf:=F.nf
 have hg:=aAa F
 generalize hd : kR fs code=d at hg
 refine cH ?_ ?_
 ·rw [xA,aD4]
  exact aH (aC (λh=>by omega) (λ_=>aL (by omega) hnext))
 ·intro pc hpc ih
  have hx : code[pc]? = some code[pc]:=List.getElem?_eq_getElem hpc
  have hm : code[pc]∈code:=List.getElem_mem _
  have hu:=F.u code[pc] hm
  have hil : pc<d.length:=by rw [hg.1];exact hpc
  have hv:=hg.at pc
  have e2 : d[pc]=d[pc]?.getD 0:=aGi hil
  rw [aB2 hpc]
  have eb : aCH fs code f pc=(aEh fs code d pc).map λc=>(c,f,pc):=by unfold aCH;rw [hd]
  rw [eb]
  have ec : aEh fs code d pc=if d[pc]?.getD 0<0 then none
   else if can fs code[pc] (d[pc]?.getD 0)=false then some 2
   else if (hU code[pc] pc).any (λt=>decide ((code.length : Int)≤t))=true then some 3
   else if (hU code[pc] pc).any (λt=>!decide (d[t.toNat]?.getD 0=jT fs code[pc] (d[pc]?.getD 0)))=true then some 4
   else none:=by
   conv=>lhs;unfold aEh
   rw [hx]
  generalize hw : d[pc]?.getD 0=w at *
  generalize aEh fs code d pc=ch at *
  rw [xA]
  refine aH (aC (λ_=>?_) (λh=>by omega))
  refine aK hpc (λ_=>rfl) (aE rfl (aA rfl (aA rfl (cY hil ?_))))
  rw [e2]
  refine aH (aC (λh1=>?_) (λh1=>?_))
  ·rw [if_pos h1] at ec
   subst ec
   exact aL (by omega) ih
  rw [if_neg h1] at ec
  refine cY hil ?_
  rw [e2]
  refine aG (aIT (T:=T) F hm hv) (λr hr=>?_)
  subst hr
  refine bG rfl (bG rfl (aX rfl (bC (aQ (λhc=>?_) (λhc=>?_)))))
  ·have hc : can fs code[pc] w=false:=by simpa using hc
   rw [if_pos hc] at ec
   subst ec
   exact aX rfl (aX rfl (aB rfl))
  have hc : can fs code[pc] w=true:=by simpa using hc
  rw [hc,if_neg (by simp)] at ec
  refine aG (aIQ (x:=code[pc]) (by omega)) (λr hr=>?_)
  subst hr
  have hnx:=aBx F hm hpc
  have hl10 : (hU code[pc] pc).length≤10:=by unfold hU;repeat' split<;>simp
  refine cX (aE7 (by omega) ?_)
  rw [hg.1,aQb (λt ht=>(hnx t ht).2)]
  refine aQ (λh=>?_) (λh=>?_)
  ·rw [if_pos h] at ec
   subst ec
   exact aX rfl (aX rfl (aB rfl))
  rw [if_neg (by rw [h];simp)] at ec
  refine aOf (by omega) (λt=>!decide (d[t.toNat]?.getD 0=jT fs code[pc] w)) (λt ht=>?_) ?_
  ·have:=hnx t ht
   have:=aNa F hf h t ht
   show Ok _ (aCD _ _ _)
   rw [aET]
   refine uR rfl (kM (by omega) (by rw [hg.1];omega) (λv hv=>uR rfl (bQ (aB ?_))))
   rw [hv];rfl
  ·refine eR rfl (aQ (λh=>?_) (λh=>?_))
   ·rw [if_pos h] at ec
    subst ec
    exact aX rfl (aX rfl (aB rfl))
   ·rw [if_neg (by rw [h];simp)] at ec
    subst ec
    exact aL (by omega) ih
end
theorem aLb {m : eN} (h : m.sized) : Ok (λr=>r = [m.verify]) (aBc m.pv):=by
 rw [aHh]
 refine aE rfl (aA rfl (aA rfl (aG (aIn h) (λr hr=>?_))))
 subst hr
 unfold eN.verify
 refine bC (aQ (λhb=>aB ?_) (λhb=>?_))
 ·have : m.okB=false:=by simpa using hb
  rw [this];rfl
 have hb : m.okB=true:=by simpa using hb
 rw [hb,if_pos rfl]
 obtain ⟨h1,h2,h3⟩:=eN.okB_fit hb
 refine aD ?_
 have key:=cH (n:=m.funcs.length) (P:=λf r=>r = [aMr ((List.range' f (m.funcs.length - f)).findSome? (aIW m.funcs))])
  (F:=λf=>nJ (.I m.funcs.length) (.I f) (.lst (m.texts.map PV.str)) (.lst (m.funcs.map dA.pv)) (.I 0) (.I 0) (.I 0)) ?_ ?_ 0 (by omega)
 ·exact key
 ·rw [wZ,aD4]
  exact aH (aC (λh=>by omega) (λ_=>aB rfl))
 ·intro f hf ih
  have F:=(h3 m.funcs[f] (List.getElem_mem _)).1
  rw [wZ,aB2 hf,aHx hf]
  refine aH (aC (λ_=>?_) (λh=>by omega))
  refine aG (aBB F hf rfl) (λr hr=>?_)
  subst hr
  refine aX rfl (aK hf (λ_=>rfl) (aA rfl (aD ?_)))
  exact aMu F hf ih 0 (by omega)
theorem aOg {fs : List dA} {code : List cK} {d : List Int} {pc : Nat} (hpc : pc<code.length) (h : aEh fs code d pc=none) (h0 : ¬ d[pc]?.getD 0<0) :
 can fs code[pc] (d[pc]?.getD 0)=true∧∀ t∈hU code[pc] pc,t<code.length∧d[t.toNat]?.getD 0=jT fs code[pc] (d[pc]?.getD 0):=by
 unfold aEh at h
 rw [List.getElem?_eq_getElem hpc] at h
 simp only at h
 rw [if_neg h0] at h
 split at h
 ·cases h
 rename_i h1
 split at h
 ·cases h
 rename_i h2
 split at h
 ·cases h
 rename_i h3
 refine ⟨by simpa using h1,λt ht=>?_⟩
 rw [Bool.not_eq_true,List.any_eq_false] at h2 h3
 have g2:=h2 t ht
 have g3:=h3 t ht
 simp at g2 g3
 exact ⟨by omega,g3⟩
theorem aO6 {fs : List dA} (h : bad fs=none) {f : Nat} (hf : f<fs.length) {pc : Nat} (hpc : pc<fs[f].code.length) : aEh fs fs[f].code (kR fs fs[f].code) pc=none:=by
 unfold bad at h
 rw [List.findSome?_eq_none_iff] at h
 have h1:=h f (by rw [List.mem_range'_1];omega)
 rw [aHx hf,List.findSome?_eq_none_iff] at h1
 have h2:=h1 pc (by rw [List.mem_range'_1];omega)
 simpa [aCH] using h2
end
noncomputable section
open Go Go.IntWalk
attribute [local irreducible] bd PV.ite PV.guardFlat PV.guardOwn PV.whole PV.one PV.cell PV.sub PV.at_ PV.len PV.slen PV.chr PV.beq PV.peq PV.ceq PV.bin PV.neg PV.not PV.conv PV.cut PV.scut PV.cat PV.setAt PV.setCell PV.ncopy PV.copyIn PV.zeros PV.toStr PV.toBytes PV.deref PV.isPtr PV.comp PV.inb PV.off PV.imin PV.imax PV.sel PV.apply PV.isLst PV.isInt PV.ix PV.nilT
structure eO (m : eN) : Prop where
 sz : m.sized
 ok : m.okB=true
 bad : bad m.funcs=none
def dAt (m : eN) (f pc : Int) : Int:=(kR m.funcs (dE m.funcs f))[pc.toNat]?.getD 0
def tB (m : eN) (f pc : Int) : cK:=(dE m.funcs f)[pc.toNat]?.getD ⟨0,0⟩
abbrev lE (m : eN) (n : Int) (v : cB) : Prop:=cD m.funcs.length n v=true
theorem aBE : jS (bs []) (bs [])=true:=aHt _
theorem oH {nf n : Int} : cD nf n dO=true:=by simp [cD,dO,aBE]
theorem aNb {nf n x : Int} (h : dI x=true) : cD nf n (aAH x)=true:=by simp [cD,aAH,aBE,h]
theorem aEj {nf n : Int} {b : Bool} : cD nf n (tV b)=true:=by cases b<;>simp [cD,tV,aBE,lV]
theorem aLc {nf n : Int} {s : ByteArray} (h : dC s=true) : cD nf n (aD5 s)=true:=by simp [cD,aD5,h]
theorem aQc {nf n i : Int} (h : 0≤i∧i<n) : cD nf n (aP3 i)=true:=by simp [cD,aP3,aBE,h]
theorem aQd {nf n i : Int} (h : 0≤i∧i<nf) : cD nf n (aMo i)=true:=by
 have : i≤nf - 1:=by omega
 simp [cD,aMo,aBE,lV,h,this]
theorem sC {nf n n' : Int} (hn : n≤n') {v : cB} (h : cD nf n v=true) : cD nf n' v=true:=by
 unfold cD at *
 split at h
 ·cases h
 rename_i h0
 rw [if_neg h0]
 split at h
 ·rename_i h1;rw [if_pos h1];exact h
 rename_i h1
 rw [if_neg h1]
 split at h
 ·rename_i h1;rw [if_pos h1];exact h
 rename_i h2
 rw [if_neg h2]
 split at h
 ·rename_i h1;rw [if_pos h1];exact h
 rename_i h3
 rw [if_neg h3]
 split at h
 ·rename_i h1;rw [if_pos h1];exact h
 rename_i h4
 rw [if_neg h4]
 split at h
 ·rename_i h1
  rw [if_pos h1]
  simp only [Bool.and_eq_true,decide_eq_true_eq] at *
  omega
 rename_i h5
 rw [if_neg h5]
 exact h
theorem aQe {a b : ByteArray} (ha : dC a=true) (hb : dC b=true) (h : ¬ (60 : Int)<a.size+b.size) : dC (a++b)=true:=by
 simp only [dC,Bool.and_eq_true,decide_eq_true_eq,List.all_eq_true] at *
 refine ⟨by rw [ByteArray.size_append];omega,λx hx=>?_⟩
 rw [ByteArray.data_append,Array.toList_append,List.mem_append] at hx
 rcases hx with hx | hx
 ·exact ha.2 x hx
 ·exact hb.2 x hx
theorem aE8 {nf n : Int} {v : cB} (h : cD nf n v=true) (hk : v.k=3) : dC v.s=true:=by
 unfold cD at h
 rw [if_neg (λe=>e.1 hk),if_neg (by omega),if_neg (by omega),if_neg (by omega),if_pos hk] at h
 simp only [Bool.and_eq_true] at h
 exact h.2
theorem aJT {nf n o : Int} {a b : cB} : cD nf n (aD7 o a b).1=true:=by
 unfold aD7
 repeat' split
 all_goals first
  | exact oH
  | (rename_i h;exact aNb (by simpa using h))
theorem aQ0 {nf n o : Int} {a b : cB} (ha : cD nf n a=true) (hb : cD nf n b=true) : cD nf n (zC o a b).1=true:=by
 unfold zC
 split
 ·split
  ·rename_i h
   split
   ·exact oH
   ·rename_i h2
    exact aLc (aQe (aE8 ha h.1) (aE8 hb h.2) h2)
  ·exact aJT
 split
 ·exact aJT
 split
 ·exact aJT
 split
 ·repeat' split
  all_goals first
   | exact oH
   | exact aEj
 ·exact aEj
theorem eO.fit {m : eN} (g : eO m) : 1≤m.funcs.length∧m.funcs.length≤12∧∀ f∈m.funcs,Fit m.funcs f.code∧0≤f.p∧f.p≤6∧f.p≤f.lc∧f.lc≤12:=eN.okB_fit g.ok
theorem eO.code {m : eN} (g : eO m) {f : Int} (h : 0≤f∧f<m.funcs.length) : ∃ i : Nat,∃ hi : i<m.funcs.length,f=i∧dE m.funcs f=m.funcs[i].code∧Fit m.funcs m.funcs[i].code∧0≤m.funcs[i].p∧m.funcs[i].p≤6∧m.funcs[i].p≤m.funcs[i].lc∧m.funcs[i].lc≤12∧aEf m.funcs f=m.funcs[i].lc∧lR m.funcs f=m.funcs[i].p∧
 ∀ x∈m.funcs[i].code,cP m.texts.length m.funcs.length m.funcs[i].lc m.funcs[i].code.length x.o x.a=true:=by
 obtain ⟨i,hi⟩:=Int.eq_ofNat_of_zero_le h.1
 have hl : i<m.funcs.length:=by omega
 have hm : m.funcs[i]∈m.funcs:=List.getElem_mem _
 obtain ⟨F,p1,p2,p3,p4⟩:=g.fit.2.2 _ hm
 refine ⟨i,hl,hi,by simp [dE,hi,List.getElem?_eq_getElem hl],F,p1,p2,p3,p4,by simp [aEf,hi,List.getElem?_eq_getElem hl],by simp [lR,hi,List.getElem?_eq_getElem hl],λx hx=>?_⟩
 have h:=g.ok
 simp only [eN.okB,Bool.and_eq_true,bH,decide_eq_true_eq,List.all_eq_true,vV] at h
 exact (h.2.2.2 _ hm).2.2.2 x hx
theorem eO.at_ {m : eN} (g : eO m) {f pc : Int} (h : 0≤f∧f<m.funcs.length) (hp : 0≤pc∧pc<(dE m.funcs f).length) (hd : 0≤dAt m f pc) :
 cP m.texts.length m.funcs.length (aEf m.funcs f) (dE m.funcs f).length (tB m f pc).o (tB m f pc).a=true∧
 (0≤(bZ m.funcs (tB m f pc)).1∧(bZ m.funcs (tB m f pc)).1≤dAt m f pc∧0≤(bZ m.funcs (tB m f pc)).2∧(bZ m.funcs (tB m f pc)).2≤2)∧dAt m f pc≤16∧jT m.funcs (tB m f pc) (dAt m f pc)≤16∧
 ∀ t∈hU (tB m f pc) pc,(0≤t∧t<(dE m.funcs f).length)∧dAt m f t=jT m.funcs (tB m f pc) (dAt m f pc):=by
 obtain ⟨i,hi,rfl,hc,F,p1,p2,p3,p4,hlc,hpar,hins⟩:=g.code h
 obtain ⟨j,rfl⟩:=Int.eq_ofNat_of_zero_le hp.1
 have hj : j<m.funcs[i].code.length:=by rw [hc] at hp;omega
 have hx : tB m i j=m.funcs[i].code[j]:=by simp [tB,hc,List.getElem?_eq_getElem hj]
 have hm : m.funcs[i].code[j]∈m.funcs[i].code:=List.getElem_mem _
 have hu:=F.u _ hm
 have hdd : ∀ t : Int,dAt m i t=(kR m.funcs m.funcs[i].code)[t.toNat]?.getD 0:=λt=>by rw [dAt,hc]
 have hb:=(aAa F).at j
 have hck:=aOg hj (aO6 g.bad hi hj)
 have hnx:=aBx F hm hj
 rw [hx,hc,hlc]
 rw [hdd,Int.toNat_natCast] at hd ⊢
 obtain ⟨hcan,hall⟩:=hck (by omega)
 simp only [can,Bool.and_eq_true,decide_eq_true_eq] at hcan
 refine ⟨hins _ hm,⟨hu.1,hcan.1,hu.2.2⟩,hb.2,hcan.2,λt ht=>?_⟩
 obtain ⟨q1,q2⟩:=hall t ht
 exact ⟨⟨(hnx t ht).1,q1⟩,by rw [hdd];exact q2⟩
structure FrI (m : eN) (n : Int) (f : bT) : Prop where
 fi : 0≤f.f∧f.f<m.funcs.length
 pc : 0≤f.pc∧f.pc<(dE m.funcs f.f).length
 loc : (f.loc.length : Int)=aEf m.funcs f.f
 d : 0≤dAt m f.f f.pc
 vl : ∀ v∈f.loc,lE m n v
 vs : ∀ v∈f.stk,lE m n v
structure aIp (m : eN) (n : Int) (f : bT) : Prop extends FrI m n f where
 h : (f.stk.length : Int)=dAt m f.f f.pc
structure aGa (m : eN) (n : Int) (f : bT) : Prop extends FrI m n f where
 low : 1≤f.pc∧0≤dAt m f.f (f.pc - 1)∧((tB m f.f (f.pc - 1)).o=23∨(tB m f.f (f.pc - 1)).o=24)
 h : (f.stk.length : Int)=dAt m f.f f.pc - 1
structure HpI (m : eN) (hp : List (List cB)) (made : Int) (out : List ByteArray) : Prop where
 made : hp.length≤made∧made≤120
 recs : ∀ r∈hp,r.length≤6∧∀ v∈r,lE m hp.length v
 out : out.length≤200
structure VmI (m : eN) (v : eA) : Prop where
 hp : HpI m v.hp v.made v.out
 steps : 0≤v.steps∧v.steps≤50000
 nfr : v.fr.length≤24
 run : v.st=0→v.fr≠[]
 top : ∀ fs0 f,v.fr=fs0++[f]→aIp m v.hp.length f∧∀ g∈fs0,aGa m v.hp.length g
theorem FrI.mono {m : eN} {n n' : Int} (hn : n≤n') {f : bT} (h : FrI m n f) : FrI m n' f:=
 ⟨h.fi,h.pc,h.loc,h.d,λv hv=>sC hn (h.vl v hv),λv hv=>sC hn (h.vs v hv)⟩
theorem aGa.mono {m : eN} {n n' : Int} (hn : n≤n') {f : bT} (h : aGa m n f) : aGa m n' f:=⟨h.toFrI.mono hn,h.low,h.h⟩
theorem FrI.small {m : eN} (g : eO m) {n : Int} {f : bT} (h : FrI m n f) : f.loc.length≤12:=by
 obtain ⟨i,hi,he,hc,F,p1,p2,p3,p4,hlc,hpar,hins⟩:=g.code h.fi
 have:=h.loc
 omega
theorem FrI.dle {m : eN} (g : eO m) {n : Int} {f : bT} (h : FrI m n f) : dAt m f.f f.pc≤16:=(g.at_ h.fi h.pc h.d).2.2.1
theorem VmI.sz {m : eN} (g : eO m) {v : eA} (h : VmI m v) : Sz v:=by
 have:=h.hp.made
 have:=h.hp.out
 have:=h.nfr
 refine ⟨by omega,by omega,by omega,λf hf=>?_,λr hr=>by have:=(h.hp.recs r hr).1;omega⟩
 rcases List.eq_nil_or_concat v.fr with h0 | ⟨fs0,f0,h0⟩
 ·rw [h0] at hf;cases hf
 ·obtain ⟨t,l⟩:=h.top fs0 f0 (by rw [h0];simp)
  rw [h0] at hf
  simp only [List.concat_eq_append,List.mem_append,List.mem_singleton] at hf
  rcases hf with hf | rfl
  ·have:=(l f hf).toFrI.small g
   have:=(l f hf).toFrI.dle g
   have:=(l f hf).h
   omega
  ·have:=t.toFrI.small g
   have:=t.toFrI.dle g
   have:=t.h
   omega
theorem VmI.goes {m : eN} (g : eO m) {v : eA} (h : VmI m v) (h0 : v.st=0) : ∃ fs0 f,aQJ m v fs0 f:=by
 rcases List.eq_nil_or_concat v.fr with e | ⟨fs0,f,e⟩
 ·exact absurd e (h.run h0)
 rw [List.concat_eq_append] at e
 refine ⟨fs0,f,?_⟩
 obtain ⟨t,l⟩:=h.top fs0 f e
 obtain ⟨i,hi,he,hc,F,p1,p2,p3,p4,hlc,hpar,hins⟩:=g.code t.fi
 obtain ⟨a1,a2,a3,a4,a5⟩:=g.at_ t.fi t.pc t.d
 have hx : nP m.funcs f=tB m f.f f.pc:=rfl
 have hh:=t.h
 have hm:=h.hp.made
 have hn:=h.nfr
 rw [e,List.length_append,List.length_singleton] at hn
 refine ⟨e,t.fi,t.pc,by rw [hc];exact F.n2,by rw [hx,t.loc];exact a1,by rw [hx,hh];exact ⟨a2.1,a2.2.1⟩,λb=>?_⟩
 refine ⟨g.fit.2.1,?_,λf hf=>?_,by omega,λf hf=>?_,by have:=t.toFrI.small g;exact this,?_,λr hr=>(h.hp.recs r hr).1,by omega,by omega,h.hp.out,λv hv=>t.vs v (List.mem_of_mem_drop hv)⟩
 ·have h:=g.ok
  simp only [eN.okB,Bool.and_eq_true,bH,decide_eq_true_eq] at h
  omega
 ·have:=g.fit.2.2 f hf
  exact this.2
 ·have:=(l f hf).toFrI.dle g
  have:=(l f hf).h
  omega
 ·simp only [List.length_take,List.length_drop]
  omega
def iA (L : List Int) (v : cB) : List Int:=if v.k=4∧v.n∉L then L++[v.n] else L
def iW (L : List Int) (l : List cB) : List Int:=l.foldl iA L
def xH (L : List Int) (f : bT) : List Int:=iW (iW L f.loc) f.stk
def aBF (v : eA) : List Int:=iA (v.fr.foldl xH []) v.val
def cA (hp : List (List cB)) (i : Int) : List cB:=hp[i.toNat]?.getD []
def jL (hp : List (List cB)) : Nat→Nat→List Int→List Int
 | 0,_,L=>L
 | d+1,i,L=>if i<L.length then jL hp d (i+1) (iW L (cA hp (L[i]?.getD 0))) else L
def cR (v : eA) : List Int:=jL v.hp v.hp.length 0 (aBF v)
def aBG (H : Nat) (v : cB) : Prop:=v.k=4→0≤v.n∧v.n<H
structure yX (H : Nat) (L : List Int) : Prop where
 nd : L.Nodup
 lt : ∀ x∈L,0≤x∧x<H
theorem aNc {m : eN} {H : Nat} {v : cB} (h : lE m H v) : aBG H v:=λhk=>by
 unfold lE cD at h
 split at h
 ·cases h
 ·rw [if_neg (by omega),if_neg (by omega),if_neg (by omega),if_neg (by omega)] at h
  try rw [if_pos hk] at h
  simp only [Bool.and_eq_true,decide_eq_true_eq] at h
  exact h
theorem yX.len {H : Nat} {L : List Int} (h : yX H L) : L.length≤H:=by
 have:=List.Nodup.length_le_of_subset h.nd (l₂:=(List.range H).map Int.ofNat) (λx hx=>by
  obtain ⟨h1,h2⟩:=h.lt x hx
  rw [List.mem_map]
  exact ⟨x.toNat,List.mem_range.2 (by omega),by show ((x.toNat : Nat) : Int)=x;omega⟩)
 simpa using this
theorem aE9 {L : List Int} {v : cB} {x : Int} (h : x∈L) : x∈iA L v:=by
 unfold iA;split
 ·exact List.mem_append_left _ h
 ·exact h
theorem aIX {L : List Int} {v : cB} (h : v.k=4) : v.n∈iA L v:=by
 unfold iA;split
 ·simp
 ·rename_i hn
  exact Classical.not_not.1 (λk=>hn ⟨h,k⟩)
theorem aEk {H : Nat} {L : List Int} {v : cB} (hL : yX H L) (hv : aBG H v) : yX H (iA L v):=by
 unfold iA;split
 ·rename_i h
  refine ⟨List.nodup_append.2 ⟨hL.nd,by simp,λa ha b hb=>?_⟩,λx hx=>?_⟩
  ·simp at hb;subst hb;rintro rfl;exact h.2 ha
  ·rcases List.mem_append.1 hx with hx | hx
   ·exact hL.lt x hx
   ·simp at hx;subst hx;exact hv h.1
 ·exact hL
theorem sD {x : Int} : ∀ {l : List cB} {L : List Int},x∈L→x∈iW L l
 | [],_,h=>h
 | v::r,_,h=>sD (l:=r) (aE9 h)
theorem aB9 {v : cB} (hk : v.k=4) : ∀ {l : List cB} {L : List Int},v∈l→v.n∈iW L l
 | a::r,L,h=>by
   rcases List.mem_cons.1 h with rfl | h
   ·exact sD (l:=r) (aIX hk)
   ·exact aB9 hk (l:=r) h
theorem nQ {H : Nat} : ∀ {l : List cB} {L : List Int},yX H L→(∀ v∈l,aBG H v)→yX H (iW L l)
 | [],_,h,_=>h
 | v::r,_,h,hv=>nQ (l:=r) (aEk h (hv v List.mem_cons_self)) (λx hx=>hv x (List.mem_cons_of_mem _ hx))
theorem aAd {hp : List (List cB)} {x : Int} : ∀ {d i : Nat} {L : List Int},x∈L→x∈jL hp d i L
 | 0,_,_,h=>h
 | d+1,i,L,h=>by
   unfold jL;split
   ·exact aAd (sD h)
   ·exact h
theorem aIY {H : Nat} {hp : List (List cB)} (hh : ∀ r∈hp,∀ v∈r,aBG H v) : ∀ {d i : Nat} {L : List Int},yX H L→yX H (jL hp d i L)
 | 0,_,_,h=>h
 | d+1,i,L,h=>by
   unfold jL;split
   ·refine aIY hh (nQ h (λv hv=>?_))
    unfold cA at hv
    cases hq : hp[(L[i]?.getD 0).toNat]? with
    | none=>rw [hq] at hv;cases hv
    | some r=>rw [hq] at hv;exact hh r (List.mem_of_getElem? hq) v hv
   ·exact h
def aNd (hp : List (List cB)) (L : List Int) (n : Nat) : Prop:=∀ j : Nat,j<n→j<L.length→∀ v∈cA hp (L[j]?.getD 0),v.k=4→v.n∈L
theorem aOh {l : List cB} : ∀ {L : List Int} {j : Nat},j<L.length→(iW L l)[j]? = L[j]?:=by
 induction l with
 | nil=>intro L j _;rfl
 | cons v r ih=>
   intro L j hj
   show (iW (iA L v) r)[j]? = _
   have h2 : j<(iA L v).length:=by
    unfold iA;split
    ·simp;omega
    ·exact hj
   rw [ih h2]
   unfold iA;split
   ·rw [List.getElem?_append_left hj]
   ·rfl
theorem aCI {H : Nat} {hp : List (List cB)} (hh : ∀ r∈hp,∀ v∈r,aBG H v) : ∀ {d i : Nat} {L : List Int},yX H L→H≤i+d→aNd hp L i→aNd hp (jL hp d i L) (jL hp d i L).length
 | 0,i,L,h,hd,hc=>λj hj hl=>hc j (by have:=h.len;have : j<L.length:=hj;omega) hl
 | d+1,i,L,h,hd,hc=>by
   unfold jL;split
   ·rename_i hi
    have hvv : ∀ v∈cA hp (L[i]?.getD 0),aBG H v:=λv hv=>by
     unfold cA at hv
     cases hq : hp[(L[i]?.getD 0).toNat]? with
     | none=>rw [hq] at hv;cases hv
     | some r=>rw [hq] at hv;exact hh r (List.mem_of_getElem? hq) v hv
    refine aCI hh (nQ h hvv) (by omega) (λj hj hl v hv hk=>?_)
    have hjL : j<L.length:=by omega
    rw [aOh hjL] at hv
    rcases Nat.lt_or_ge j i with h1 | h1
    ·exact sD (hc j h1 hjL v hv hk)
    ·have : j=i:=by omega
     subst this
     exact aB9 hk hv
   ·rename_i hi
    exact λj hj hl=>hc j (by omega) hl
def iP (H : Nat) (L : List Int) : List Nat:=(List.range H).filter λ(i : Nat)=>decide ((i : Int)∈L)
def aAL (L : List Int) (i : Nat) : Int:=(iP i L).length
def lW (L : List Int) (v : cB) : cB:=if v.k=4 then ⟨v.k,aAL L v.n.toNat,v.s⟩ else v
def aCt (L : List Int) (f : bT) : bT:=⟨f.f,f.pc,f.loc.map (lW L),f.stk.map (lW L)⟩
def aLd (v : eA) (L : List Int) : eA:=
 { v with fr:=v.fr.map (aCt L),hp:=(iP v.hp.length L).map λi=>(v.hp[i]?.getD []).map (lW L),val:=lW L v.val}
def eT (v : eA) : eA:=aLd v (cR v)
theorem aAe (L : List Int) (i : Nat) : iP (i+1) L=iP i L++(if (i : Int)∈L then [i] else []):=by
 unfold iP
 rw [List.range_succ,List.filter_append]
 congr 1
 by_cases h : (i : Int)∈L<;>simp [h]
theorem aO7 (L : List Int) (i : Nat) : aAL L (i+1)=aAL L i+(if (i : Int)∈L then 1 else 0):=by
 unfold aAL
 rw [aAe]
 split<;>simp
theorem aO8 (L : List Int) (i : Nat) : 0≤aAL L i∧aAL L i≤i:=by
 unfold aAL iP
 have:=List.length_filter_le (λ(j : Nat)=>decide ((j : Int)∈L)) (List.range i)
 rw [List.length_range] at this
 omega
theorem uN {H : Nat} {L : List Int} {i : Nat} : i∈iP H L↔i<H∧(i : Int)∈L:=by
 unfold iP
 simp
theorem aLe {H : Nat} {L : List Int} {i : Nat} (hi : i<H) (hm : (i : Int)∈L) : ∃ r,iP H L=iP i L++i::r:=by
 induction H with
 | zero=>omega
 | succ H ih=>
   rw [aAe]
   rcases Nat.lt_or_ge i H with h | h
   ·obtain ⟨r,hr⟩:=ih h
    exact ⟨r++(if (H : Int)∈L then [H] else []),by rw [hr];simp⟩
   ·have : i=H:=by omega
    subst this
    exact ⟨[],by rw [if_pos hm]⟩
theorem aFK {H : Nat} {L : List Int} (h : yX H L) : (L.mergeSort λx y=>decide (x≤y))=(iP H L).map Int.ofNat:=by
 have hp : (L.mergeSort λx y=>decide (x≤y)).Perm ((iP H L).map Int.ofNat):=by
  refine (List.mergeSort_perm L _).trans ?_
  refine (List.perm_ext_iff_of_nodup h.nd ?_).2 (λx=>?_)
  ·show List.Pairwise _ _
   rw [List.pairwise_map]
   exact List.Pairwise.imp (λh e=>h (Int.ofNat.inj e)) (List.Pairwise.filter _ List.nodup_range : (iP H L).Pairwise (·≠·))
  ·rw [List.mem_map]
   constructor
   ·intro hx
    obtain ⟨h1,h2⟩:=h.lt x hx
    have e : ((x.toNat : Nat) : Int)=x:=by omega
    exact ⟨x.toNat,uN.2 ⟨by omega,by rw [e];exact hx⟩,e⟩
   ·rintro ⟨i,hi,rfl⟩
    exact (uN.1 hi).2
 have s1:=List.pairwise_mergeSort (le:=λ(x y : Int)=>decide (x≤y)) (λa b c=>by simp;omega) (λa b=>by simp;omega) L
 have s2 : ((iP H L).map Int.ofNat).Pairwise λx y=>decide (x≤y)=true:=by
  rw [List.pairwise_map]
  refine List.Pairwise.filter _ (List.Pairwise.imp ?_ List.pairwise_lt_range)
  intro a b hab
  simp
  omega
 exact List.Perm.eq_of_pairwise (λa b _ _ h1 h2=>by simp at h1 h2;omega) s1 s2 hp
section
variable {P : R → Prop} {k : R → OR}
theorem aIq {n : Int} (h : Ok P (k [.bool (dI n)])) : Ok P (bd (vF (.I n)) k):=by
 refine aG (Q:=λr=>r = [.bool (dI n)]) ?_ (λr hr=>by rw [hr];exact h)
 rw [aCG]
 exact fH (aB rfl)
def aR0 (f : PV) (g : Int→Int→Int) : Prop:=∀ {a b : Int} {P : R→Prop} {k : R→OR},dI a=true→dI b=true→Ok P (k [.I (g a b)])→Ok P (bd (PV.apply aZ f [.I a,.I b]) k)
theorem aJU {a b : cB} {k : PV→OR} (h : Ok P (k (.bool (decide (a.k=b.k)&&(decide (a.n=b.n)&&jS a.s b.s))))) : Ok P (bd (PV.ceq [1,1,2] .eql (.agg [.I a.k,.I a.n,.str a.s]) (.agg [.I b.k,.I b.n,.str b.s])) k):=
 dP _ (by simp [PV.ceq,PV.eqCells,PV.eqScalar,PV.eqOr,jS];rfl) h
end
section
variable {P : R → Prop} {k : R → OR}
theorem aQf {s : ByteArray} (hs : s.size≤2097152) (h : Ok P (k [.bool (dC s)])) : Ok P (bd (pX (.str s)) k):=aG (aB1 hs) (λr hr=>by rw [hr];exact h)
theorem aHy {v : cB} {nf recs : Int} (hs : v.s.size≤2097152) (hn : -1000000000≤nf∧nf≤1000000000) (hr : -1000000000≤recs∧recs≤1000000000) : Ok (λr=>r = [.bool (cD nf recs v)]) (zS v.pv (.I nf) (.I recs)):=by
 rw [aF5]
 refine aE rfl (aA rfl (aA rfl (aA rfl ?_)))
 refine aI (aC (λh0=>?_) (λh0=>?_))
 rotate_left
 refine aI (aC (λh1=>aIq ?_) (λh1=>?_))
 rotate_left
 refine aI (aC (λh2=>fH ?_) (λh2=>?_))
 rotate_left
 refine aI (aC (λh3=>aI ?_) (λh3=>?_))
 rotate_left
 refine aI (aC (λh4=>gT hr ?_) (λh4=>?_))
 rotate_left
 refine aI (aC (λh5=>gT hn ?_) (λh5=>aB ?_))
 rotate_right 5
 ·refine aJU (a:=v) (b:=⟨0,0,bs []⟩) (aB ?_)
  unfold cD
  cases hse : jS v.s (bs []) with
  | false=>rw [if_pos ⟨by omega,rfl⟩];simp [hse]
  | true=>rw [if_neg (by simp),if_pos h0];simp [h0,hse]
 all_goals unfold cD
 ·cases hse : jS v.s (bs []) with
  | false=>
    rw [if_pos ⟨by omega,rfl⟩]
    cases dI v.n
    ·exact aT (aB rfl)
    ·exact bB (uF (aB (by rw [hse])))
  | true=>
    rw [if_neg (by simp),if_neg h0,if_pos h1]
    cases dI v.n
    ·exact aT (aB rfl)
    ·exact bB (uF (aB (by rw [hse])))
 ·cases hse : jS v.s (bs []) with
  | false=>
    rw [if_pos ⟨by omega,rfl⟩]
    cases lV v.n 0 1
    ·exact aT (aB rfl)
    ·exact bB (uF (aB (by rw [hse])))
  | true=>
    rw [if_neg (by simp),if_neg h0,if_neg h1,if_pos h2]
    cases lV v.n 0 1
    ·exact aT (aB rfl)
    ·exact bB (uF (aB (by rw [hse])))
 ·rw [if_neg (λh=>h.1 h3),if_neg h0,if_neg h1,if_neg h2,if_pos h3]
  refine aC (λh6=>aQf hs (aB ?_)) (λh6=>aB ?_)
  ·rw [decide_eq_true h6];rfl
  ·rw [decide_eq_false h6];rfl
 ·have e : lV v.n 0 (recs - 1)=(decide (0≤v.n)&&decide (v.n<recs)):=by
   unfold lV
   congr 1
   exact decide_eq_decide.2 (by omega)
  rw [e]
  cases hse : jS v.s (bs []) with
  | false=>
    rw [if_pos ⟨by omega,rfl⟩]
    cases (decide (0≤v.n)&&decide (v.n<recs))
    ·exact aT (aB rfl)
    ·exact bB (uF (aB (by rw [hse])))
  | true=>
    rw [if_neg (by simp),if_neg h0,if_neg h1,if_neg h2,if_neg h3,if_pos h4]
    cases (decide (0≤v.n)&&decide (v.n<recs))
    ·exact aT (aB rfl)
    ·exact bB (uF (aB (by rw [hse])))
 ·cases hse : jS v.s (bs []) with
  | false=>
    rw [if_pos ⟨by omega,rfl⟩]
    cases lV v.n 0 (nf - 1)
    ·exact aT (aB rfl)
    ·exact bB (uF (aB (by rw [hse])))
  | true=>
    rw [if_neg (by simp),if_neg h0,if_neg h1,if_neg h2,if_neg h3,if_neg h4,if_pos h5]
    cases lV v.n 0 (nf - 1)
    ·exact aT (aB rfl)
    ·exact bB (uF (aB (by rw [hse])))
 ·by_cases hse : jS v.s (bs [])=false
  ·rw [if_pos ⟨by omega,hse⟩]
  ·rw [if_neg (λh=>hse h.2),if_neg h0,if_neg h1,if_neg h2,if_neg h3,if_neg h4,if_neg h5]
end
section
variable {P : R → Prop} {k : R → OR}
theorem aAf {l : List cB} (hl : l.length≤2097152) (h : Ok P (k [aS l])) : Ok P (bd (cJ (aS l)) k):=by
 refine aG (Q:=λr=>r = [aS l]) ?_ (λr hr=>by rw [hr];exact h)
 rw [oF]
 refine aKi (aMQ (λe=>aB ?_) ?_)
 ·have : l = []:=List.map_eq_nil_iff.1 e
  subst this;rfl
 ·exact tA (l:=[]) (m:=l) (by simp;omega) (aB (by simp))
theorem aMv {l : List ByteArray} (hl : l.length≤2097152) (h : Ok P (k [.lst (l.map PV.str)])) : Ok P (bd (jI (.lst (l.map PV.str))) k):=by
 refine aG (Q:=λr=>r = [.lst (l.map PV.str)]) ?_ (λr hr=>by rw [hr];exact h)
 rw [sW]
 refine aKi (aMQ (λe=>aB ?_) ?_)
 ·have : l = []:=List.map_eq_nil_iff.1 e
  subst this;rfl
 ·exact jN (by simp;omega) aM9 (aB rfl)
theorem aQg {n : Int} (h0 : 0≤n) (h1 : n≤4194304) (h : Ok P (k [.lst []])) : Ok P (bd (fR (.I n)) k):=by
 refine aG (Q:=λr=>r = [.lst []]) ?_ (λr hr=>by rw [hr];exact h)
 rw [oN]
 unfold uS
 simp only
 rw [if_pos (by omega)]
 exact aB rfl
theorem aNe {a b : List cB} (ha : a.length≤2097152) (hb : b.length≤2097152) (h : Ok P (k [aS (a++b)])) : Ok P (bd (fF (.lst [aS a,aS b])) k):=by
 refine aG (Q:=λr=>r = [aS (a++b)]) ?_ (λr hr=>by rw [hr];exact h)
 have at0 : ∀ {P : R→Prop} {k : PV→OR},Ok P (k (aS a))→Ok P (bd (PV.at_ 1 false (.lst [aS a,aS b]) (.I 0)) k):=λh=>rO (by omega) rfl rfl h
 have at1 : ∀ {P : R→Prop} {k : PV→OR},Ok P (k (aS b))→Ok P (bd (PV.at_ 1 false (.lst [aS a,aS b]) (.I 1)) k):=λh=>rO (by omega) rfl rfl h
 rw [nO]
 refine dL ?_
 show Ok _ (bY _ (.I 0) _ (.I 2) (.I 0))
 rw [dW]
 refine aH (bB (at0 (aY (aL (by omega) (aH (aC (λh=>by omega) (λ_=>aL (by omega) ?_)))))))
 show Ok _ (bY _ _ _ (.I 2) (.I 1))
 rw [dW]
 refine aH (bB (at1 (aY (aL (by omega) (aH (aC (λh=>by omega) (λ_=>aL (by omega) ?_)))))))
 show Ok _ (bY _ _ _ (.I 2) (.I 2))
 rw [dW]
 refine aH (aT (aQg (by omega) (by omega) (dL ?_)))
 show Ok _ (bW _ (.I 2) (.I 0) (aS []))
 rw [dU]
 refine aH (bB (at0 (tA (by simp;omega) (aL (by omega) ?_))))
 show Ok _ (bW _ (.I 2) (.I 1) _)
 rw [dU]
 refine aH (bB (at1 (tA (by simp;omega) (aL (by omega) ?_))))
 show Ok _ (bW _ (.I 2) (.I 2) _)
 rw [dU]
 refine aH (aT (aB ?_))
 simp
theorem aMw {fs : List dA} {i : Int} {k : PV→OR} (h0 : 0≤i) (h1 : i<fs.length) (h : ∀ f : dA,fs[i.toNat]? = some f→Ok P (k f.pv)) : Ok P (bd (PV.at_ 3 true (.lst (fs.map dA.pv)) (.I i)) k):=by
 obtain ⟨n,rfl⟩:=Int.eq_ofNat_of_zero_le h0
 refine aK (by omega) (λ_=>rfl) (h _ ?_)
 rw [Int.toNat_natCast,List.getElem?_eq_getElem (by omega)]
theorem aLf {hp : List (List cB)} (h : hp.length≤1000) (hl : ∀ r∈hp,r.length≤1000) : Ok (λr=>r = [.lst (hp.map aR)]) (xT (.lst (hp.map aR))):=by
 rw [aEX]
 have e : (hp.map aR).length=hp.length:=List.length_map ..
 refine dL ?_
 rw [e]
 refine (cH (n:=hp.length) (F:=λi=>oA (.lst (hp.map aR)) (.I hp.length) (.I i) (.lst ((hp.take i).map aR))) (P:=λ_ r=>r = [.lst (hp.map aR)]) ?_ (λi hi ih=>?_) 0 (Nat.zero_le _))
 ·rw [tT]
  refine aH ?_
  rw [decide_eq_false (by omega)]
  refine aT (aB ?_)
  rw [List.take_length]
 ·rw [tT]
  refine aH ?_
  rw [decide_eq_true (by omega)]
  refine bB (aK hi (λ_=>rfl) (aE rfl (aA rfl (aAf (by have:=hl _ (List.getElem_mem hi);omega) (kO (pR _) ?_)))))
  refine fQ (by simp;omega) (λx hx=>by simp at hx;subst hx;rfl) (aL (by omega) ?_)
  have e : (hp.take (i+1)).map aR=(hp.take i).map aR++[PV.agg [aS hp[i]]]:=by
   rw [List.take_add_one,List.getElem?_eq_getElem hi,List.map_append];rfl
  rw [e] at ih
  exact ih
theorem aIr {fr : List bT} (h : fr.length≤1000) (hl : ∀ f∈fr,f.loc.length≤1000∧f.stk.length≤1000) : Ok (λr=>r = [.lst (fr.map bT.pv)]) (tJ (.lst (fr.map bT.pv))):=by
 rw [aDl]
 have e : (fr.map bT.pv).length=fr.length:=List.length_map ..
 refine dL ?_
 rw [e]
 refine (cH (n:=fr.length) (F:=λi=>mB (.lst (fr.map bT.pv)) (.I fr.length) (.I i) (.lst ((fr.take i).map bT.pv))) (P:=λ_ r=>r = [.lst (fr.map bT.pv)]) ?_ (λi hi ih=>?_) 0 (Nat.zero_le _))
 ·rw [rM]
  refine aH ?_
  rw [decide_eq_false (by omega)]
  refine aT (aB ?_)
  rw [List.take_length]
 ·rw [rM]
  refine aH ?_
  rw [decide_eq_true (by omega)]
  have hb:=hl _ (List.getElem_mem hi)
  refine bB (aK hi (λ_=>rfl) (aE rfl (aA rfl (aA rfl (aA rfl (aA rfl (aAf (by omega) (kO (pR _) (aAf (by omega) (kO (pR _) ?_))))))))))
  refine fQ (by simp;omega) (λx hx=>by simp at hx;subst hx;rfl) (aL (by omega) ?_)
  have e : (fr.take (i+1)).map bT.pv=(fr.take i).map bT.pv++[fr[i].pv]:=by
   rw [List.take_add_one,List.getElem?_eq_getElem hi,List.map_append];rfl
  rw [e] at ih
  exact ih
theorem aO9 {v : eA} (z : Sz v) (h : Ok P (k (dD v))) : Ok P (bd (xR v.pv) k):=by
 refine aG (Q:=λr=>r=dD v) ?_ (λr hr=>by rw [hr];exact h)
 rw [aEV]
 refine aE rfl (aA rfl (aA rfl (aA rfl (aA rfl (aA rfl (aA rfl (aA rfl (aA rfl (aA rfl (aA rfl ?_))))))))))
 refine aG (aIr z.f z.fl) (λr hr=>?_)
 rw [hr]
 refine kO (aBD _) (aG (aLf z.h z.hl) (λr hr=>?_))
 rw [hr]
 refine kO (aB7 _) (aMv (by have:=z.o;omega) (kO (aE5 _) (aB rfl)))
end
def DoI (made a3 a4 a5 a6 a7 a8 F H O : PV) (fs0 : List bT) : aEe→R→Prop
 | .trap c,r=>c≠0∧r = [.I c,made,a3,a4,a5,a6,a7,a8,F,H,O]
 | .next fr hp made' out,r=>r = [.I 0,.I made',a3,a4,a5,a6,a7,a8,.lst (fs0.map bT.pv++[fr.pv]),.lst (hp.map aR),.lst (out.map PV.str)]
 | .call fr g,r=>r = [.I 0,made,a3,a4,a5,a6,a7,a8,.lst (fs0.map bT.pv++[fr.pv]++[g.pv]),H,O]
 | .ret v,r=>r=if fs0 = [] then [.I 0,made,.I 1,a4,.I v.k,.I v.n,.str v.s,a8,.lst [],H,O]
  else [.I 0,made,a3,a4,a5,a6,a7,a8,.lst ((aFJ v fs0).map bT.pv),H,O]
section
variable {P : R → Prop} {k : R → OR} {A : R}
end
structure aLg (m : eN) (v : eA) (f : bT) (x : cK) (fr : bT) (hp : List (List cB)) (made : Int) (out : List ByteArray) : Prop where
 ff : fr.f=f.f
 pc : fr.pc∈hU x f.pc
 loc : fr.loc.length=f.loc.length
 len : (fr.stk.length : Int)=jT m.funcs x f.stk.length
 vl : ∀ y∈fr.loc,lE m hp.length y
 vs : ∀ y∈fr.stk,lE m hp.length y
 n : v.hp.length≤hp.length
 hpI : HpI m hp made out
structure aQK (m : eN) (v : eA) (fs0 : List bT) (f : bT) (x : cK) (fr g : bT) : Prop where
 n : fs0.length+1<24
 o : x.o=23∨x.o=24
 frr : fr=⟨f.f,f.pc+1,f.loc,f.stk.take (f.stk.length - (bZ m.funcs x).1.toNat)⟩
 gg : ∃ i args,g=aAK m.funcs i args∧(0≤i∧i<m.funcs.length)∧(args.length : Int)=lR m.funcs i∧∀ y∈args,lE m v.hp.length y
def aRn (m : eN) (v : eA) (fs0 : List bT) (f : bT) (x : cK) : aEe→Prop
 | .trap _=>True
 | .next fr hp made out=>aLg m v f x fr hp made out
 | .call fr g=>aQK m v fs0 f x fr g
 | .ret a=>lE m v.hp.length a
theorem aNf {m : eN} {n : Int} {l : List cB} (h : ∀ y∈l,lE m n y) (i : Nat) : lE m n (l[i]?.getD dO):=by
 cases hx : l[i]? with
 | none=>exact oH
 | some y=>exact h y (List.mem_of_getElem? hx)
theorem aJV {m : eN} {v : eA} (h : HpI m v.hp v.made v.out) (i : Nat) : (v.hp[i]?.getD []).length≤6∧∀ y∈v.hp[i]?.getD [],lE m v.hp.length y:=by
 cases hx : v.hp[i]? with
 | none=>simp
 | some y=>exact h.recs y (List.mem_of_getElem? hx)
theorem aPa {m : eN} {n : Int} {l : List cB} (h : ∀ y∈l,lE m n y) {y : cB} (hy : lE m n y) (i : Nat) : ∀ z∈l.set i y,lE m n z:=by
 intro z hz
 rcases List.mem_or_eq_of_mem_set hz with h1 | rfl
 ·exact h z h1
 ·exact hy
theorem aJW {m : eN} {n : Int} {a b : List cB} (h : ∀ y∈a,lE m n y) (h' : ∀ y∈b,lE m n y) : ∀ y∈a++b,lE m n y:=by
 intro y hy
 rcases List.mem_append.1 hy with h1 | h1
 ·exact h y h1
 ·exact h' y h1
theorem aIZ {x : cK} {pc : Int} (h : x.o≠17∧x.o≠25) : pc+1∈hU x pc:=by simp [hU,h]
theorem aHz {x : cK} {pc : Int} (h : x.o=17∨x.o=18∨x.o=19) : x.a∈hU x pc:=by unfold hU;rw [if_pos h];simp
section
variable {m : eN} {v : eA} {fs0 : List bT} {f : bT} {x : cK}
theorem aPb (g : eO m) (h : VmI m v) (t : aIp m v.hp.length f) (hx : nP m.funcs f=x) (hn : fs0.length+1≤24) : aRn m v fs0 f x (aEg m v fs0 f):=by
 obtain ⟨a1,a2,a3,a4,a5⟩:=g.at_ t.fi t.pc t.d
 have hi : tB m f.f f.pc=x:=hx
 rw [hi] at a1 a2 a4 a5
 have hh:=t.h
 rw [← hh] at a2 a3 a4
 rw [← t.loc] at a1
 have ib:=aE4 a1
 show aRn m v fs0 f x (rA m ⟨f.f,f.pc+1,f.loc,f.stk.take (f.stk.length - (bZ m.funcs (nP m.funcs f)).1.toNat)⟩ (f.stk.drop (f.stk.length - (bZ m.funcs (nP m.funcs f)).1.toNat)) (fs0.length+1) v.hp v.made v.out (nP m.funcs f))
 rw [hx]
 generalize hb : f.stk.length - (bZ m.funcs x).1.toNat=b
 have hlt : ((f.stk.take b).length : Int)=f.stk.length - (bZ m.funcs x).1:=by rw [List.length_take];omega
 have hld : ((f.stk.drop b).length : Int)=(bZ m.funcs x).1:=by rw [List.length_drop];omega
 have kt : ∀ y∈f.stk.take b,lE m v.hp.length y:=λy hy=>t.vs y (List.mem_of_mem_take hy)
 have kd : ∀ y∈f.stk.drop b,lE m v.hp.length y:=λy hy=>t.vs y (List.mem_of_mem_drop hy)
 have hlef : jT m.funcs x f.stk.length=f.stk.length - (bZ m.funcs x).1+(bZ m.funcs x).2:=rfl
 generalize htk : f.stk.take b=T at *
 generalize hdr : f.stk.drop b=D at *
 have ka : lE m v.hp.length (D.headD dO):=by
  cases D with
  | nil=>exact oH
  | cons y r=>exact kd y (by simp)
 have kb : lE m v.hp.length (D.tail.headD dO):=by
  cases D with
  | nil=>exact oH
  | cons y r=>cases r with
    | nil=>exact oH
    | cons z r=>exact kd z (by simp)
 have ktl : ∀ y∈D.tail,lE m v.hp.length y:=λy hy=>kd y (List.mem_of_mem_tail hy)
 have go : ∀ (l : List cB) (pc : Int),pc∈hU x f.pc→(∀ y∈l,lE m v.hp.length y)→(l.length : Int)=(bZ m.funcs x).2→aLg m v f x ⟨f.f,pc,f.loc,T++l⟩ v.hp v.made v.out:=λl pc hpc hl hn=>
  ⟨rfl,hpc,rfl,by rw [hlef,List.length_append];omega,t.vl,aJW kt hl,Nat.le_refl _,h.hp⟩
 have go0 : ∀ pc : Int,pc∈hU x f.pc→(bZ m.funcs x).2=0→aLg m v f x ⟨f.f,pc,f.loc,T⟩ v.hp v.made v.out:=λpc hpc hn=>by
  have:=go [] pc hpc (by simp) (by simp [hn])
  simpa using this
 have one : ∀ y,lE m v.hp.length y→∀ z∈[y],lE m v.hp.length z:=λy hy z hz=>by rw [List.mem_singleton] at hz;rw [hz];exact hy
 have two : ∀ y y',lE m v.hp.length y→lE m v.hp.length y'→∀ z∈[y,y'],lE m v.hp.length z:=λy y' hy hy' z hz=>by
  simp only [List.mem_cons,List.not_mem_nil,or_false] at hz
  rcases hz with rfl | rfl
  ·exact hy
  ·exact hy'
 obtain ⟨⟨o1,o2⟩,i3,i67,i20,i21,i23,i5,ij,i1⟩:=ib
 have inc : x.o≠17→x.o≠25→f.pc+1∈hU x f.pc:=λh1 h2=>aIZ ⟨h1,h2⟩
 unfold rA
 simp only
 by_cases h1 : x.o=1
 ·rw [if_pos h1]
  exact go _ _ (inc (by omega) (by omega)) (one _ (aNb (i1 h1))) (by simp [bZ,h1])
 rw [if_neg h1]
 by_cases h2 : x.o=2
 ·rw [if_pos h2]
  exact go _ _ (inc (by omega) (by omega)) (one _ aEj) (by simp [bZ,h2])
 rw [if_neg h2]
 by_cases h3 : x.o=3
 ·rw [if_pos h3]
  refine go _ _ (inc (by omega) (by omega)) (one _ (aLc ?_)) (by simp [bZ,h3])
  have hok:=g.ok
  simp only [eN.okB,Bool.and_eq_true,bH,decide_eq_true_eq,List.all_eq_true] at hok
  have:=i3 h3
  rw [List.getElem?_eq_getElem (by omega)]
  exact hok.2.2.1 _ (List.getElem_mem _)
 rw [if_neg h3]
 by_cases h4 : x.o=4
 ·rw [if_pos h4]
  exact go _ _ (inc (by omega) (by omega)) (one _ oH) (by simp [bZ,h4])
 rw [if_neg h4]
 by_cases h5 : x.o=5
 ·rw [if_pos h5]
  exact go _ _ (inc (by omega) (by omega)) (one _ (aQd (i5 (.inl h5)))) (by simp [bZ,h5])
 rw [if_neg h5]
 by_cases h6 : x.o=6
 ·rw [if_pos h6]
  exact go _ _ (inc (by omega) (by omega)) (one _ (aNf t.vl _)) (by simp [bZ,h6])
 rw [if_neg h6]
 by_cases h7 : x.o=7
 ·rw [if_pos h7]
  exact ⟨rfl,inc (by omega) (by omega),by simp,by rw [hlef];simp only;rw [hlt];simp [bZ,h7],aPa t.vl ka _,kt,Nat.le_refl _,h.hp⟩
 rw [if_neg h7]
 by_cases h8 : x.o=8
 ·rw [if_pos h8]
  exact go _ _ (inc (by omega) (by omega)) (two _ _ ka ka) (by simp [bZ,h8])
 rw [if_neg h8]
 by_cases h9 : x.o=9
 ·rw [if_pos h9]
  exact go _ _ (inc (by omega) (by omega)) (by simp) (by simp [bZ,h9])
 rw [if_neg h9]
 by_cases h10 : x.o=10
 ·rw [if_pos h10]
  exact go _ _ (inc (by omega) (by omega)) (two _ _ kb ka) (by simp [bZ,h10])
 rw [if_neg h10]
 by_cases h15 : x.o≤15
 ·rw [if_pos h15]
  have hu : (bZ m.funcs x).2=1:=by
   have : x.o=11∨x.o=12∨x.o=13∨x.o=14∨x.o=15:=by omega
   rcases this with h | h | h | h | h<;>simp [bZ,h]
  split
  ·trivial
  ·exact go _ _ (inc (by omega) (by omega)) (one _ (aQ0 ka kb)) (by rw [hu];rfl)
 rw [if_neg h15]
 by_cases h16 : x.o=16
 ·rw [if_pos h16]
  split
  ·trivial
  ·refine go _ _ (inc (by omega) (by omega)) (one _ ?_) (by simp [bZ,h16])
   unfold aDp
   split
   ·exact oH
   ·exact aEj
 rw [if_neg h16]
 by_cases h17 : x.o=17
 ·rw [if_pos h17]
  exact go0 _ (aHz (.inl h17)) (by simp [bZ,h17])
 rw [if_neg h17]
 by_cases h19 : x.o≤19
 ·rw [if_pos h19]
  have h89 : x.o=18∨x.o=19:=by omega
  have hu : (bZ m.funcs x).2=0:=by rcases h89 with h | h<;>simp [bZ,h]
  split
  ·trivial
  split
  ·exact go0 _ (aHz (.inr h89)) hu
  ·exact go _ _ (inc (by omega) (by omega)) (by simp) (by rw [hu];rfl)
 rw [if_neg h19]
 by_cases h20 : x.o=20
 ·rw [if_pos h20]
  split
  ·trivial
  rename_i hm
  have hm0:=h.hp.made
  have hl : (v.hp++[List.replicate x.a.toNat dO]).length=v.hp.length+1:=by simp
  refine ⟨rfl,inc (by omega) (by omega),rfl,?_,λy hy=>sC (by rw [hl];omega) (t.vl y hy),aJW (λy hy=>sC (by rw [hl];omega) (kt y hy)) (λy hy=>?_),by rw [hl];omega,⟨by rw [hl];omega,λr hr=>?_,h.hp.out⟩⟩
  ·rw [hlef];simp only [List.length_append,List.length_singleton]
   have hu : (bZ m.funcs x).2=1:=by simp [bZ,h20]
   omega
  ·rw [List.mem_singleton] at hy
   rw [hy]
   exact aQc (by rw [hl];omega)
  ·rcases List.mem_append.1 hr with hr | hr
   ·exact ⟨(h.hp.recs r hr).1,λy hy=>sC (by rw [hl];omega) ((h.hp.recs r hr).2 y hy)⟩
   ·rw [List.mem_singleton] at hr
    rw [hr]
    have:=i20 h20
    refine ⟨by rw [List.length_replicate];omega,λy hy=>?_⟩
    rw [List.eq_of_mem_replicate hy]
    exact oH
 rw [if_neg h20]
 by_cases h21 : x.o=21
 ·rw [if_pos h21]
  split
  ·trivial
  split
  ·trivial
  exact go _ _ (inc (by omega) (by omega)) (one _ (aNf (aJV h.hp _).2 _)) (by simp [bZ,h21])
 rw [if_neg h21]
 by_cases h22 : x.o=22
 ·rw [if_pos h22]
  split
  ·trivial
  split
  ·trivial
  have hl : ∀ r,(v.hp.set (D.headD dO).n.toNat r).length=v.hp.length:=λr=>List.length_set
  refine ⟨rfl,inc (by omega) (by omega),rfl,by rw [hlef];simp only;rw [hlt];simp [bZ,h22],λy hy=>by rw [lE,hl];exact t.vl y hy,λy hy=>by rw [lE,hl];exact kt y hy,by rw [hl];omega,⟨by rw [hl];exact h.hp.made,λr hr=>?_,h.hp.out⟩⟩
  rw [hl]
  rcases List.mem_or_eq_of_mem_set hr with hr | hr
  ·exact h.hp.recs r hr
  ·rw [hr]
   exact ⟨by rw [List.length_set];exact (aJV h.hp _).1,aPa (aJV h.hp _).2 kb _⟩
 rw [if_neg h22]
 by_cases h23 : x.o=23
 ·rw [if_pos h23]
  have hxa:=i23 h23
  have hu : bZ m.funcs x=(x.a+1,1):=by
   have : 0≤x.a∧x.a≤6:=hxa
   simp [bZ,h23,this]
  rw [hu] at hld hb
  simp only at hld hb
  split
  ·trivial
  rename_i hk
  have hk : (D.headD dO).k=5:=by omega
  split
  ·trivial
  rename_i hp
  have hp : lR m.funcs (D.headD dO).n=x.a:=by omega
  split
  ·trivial
  rename_i hd
  refine ⟨?_,.inl h23,?_,_,_,rfl,aIV ka hk,by rw [List.length_tail,hp];omega,ktl⟩
  ·omega
  ·rw [← htk,← hb,hu]
 rw [if_neg h23]
 by_cases h24 : x.o=24
 ·rw [if_pos h24]
  have hxa:=i5 (.inr h24)
  have hu : bZ m.funcs x=(lR m.funcs x.a,1):=by
   have : 0≤x.a∧x.a<m.funcs.length:=hxa
   simp [bZ,h24,this]
  rw [hu] at hld hb
  simp only at hld hb
  split
  ·trivial
  rename_i hd
  refine ⟨?_,.inr h24,?_,_,_,rfl,hxa,hld,kd⟩
  ·omega
  ·rw [← htk,← hb,hu]
 rw [if_neg h24]
 by_cases h25 : x.o=25
 ·rw [if_pos h25]
  exact ka
 rw [if_neg h25]
 have h26 : x.o=26:=by omega
 split
 ·trivial
 rename_i ho
 have:=h.hp.out
 exact ⟨rfl,inc (by omega) (by omega),rfl,by rw [hlef];simp only;rw [hlt];simp [bZ,h26],t.vl,kt,Nat.le_refl _,⟨h.hp.made,h.hp.recs,by simp;omega⟩⟩
end
theorem aEl {α : Type} {a b : List α} {x y : α} (h : a++[x]=b++[y]) : a=b∧x=y:=by
 have:=List.append_inj' h rfl
 exact ⟨this.1,by simpa using this.2⟩
theorem aGa.top {m : eN} {n : Int} {f : bT} {a : cB} (h : aGa m n f) (ha : lE m n a) : aIp m n ⟨f.f,f.pc,f.loc,f.stk++[a]⟩:=
 ⟨⟨h.fi,h.pc,h.loc,h.d,h.vl,aJW h.vs (λy hy=>by rw [List.mem_singleton] at hy;rw [hy];exact ha)⟩,by
   have:=h.h
   simp only [List.length_append,List.length_singleton]
   omega⟩
theorem aLh {m : eN} (g : eO m) {n i : Int} {args : List cB} (hi : 0≤i∧i<m.funcs.length) (hn : (args.length : Int)=lR m.funcs i) (ha : ∀ y∈args,lE m n y) : aIp m n (aAK m.funcs i args):=by
 obtain ⟨k,hk,he,hc,F,p1,p2,p3,p4,hlc,hpar,hins⟩:=g.code hi
 have h0 : dAt m i 0=0:=by
  rw [dAt,hc,Int.toNat_zero,aK4 F];rfl
 refine ⟨⟨hi,?_,?_,?_,?_,λy hy=>by cases hy⟩,?_⟩
 ·show (0 : Int)≤0∧0<((dE m.funcs i).length : Int)
  have:=F.n1
  rw [hc];omega
 ·show ((args++List.replicate ((aEf m.funcs i).toNat - args.length) dO).length : Int)=aEf m.funcs i
  rw [List.length_append,List.length_replicate]
  omega
 ·show 0≤dAt m i 0
  omega
 ·refine aJW ha (λy hy=>?_)
  rw [List.eq_of_mem_replicate hy]
  exact oH
 ·show ((0 : Nat) : Int)=dAt m i 0
  omega
theorem VmI.step {m : eN} (g : eO m) {v : eA} (h : VmI m v) : VmI m (pC m v):=by
 by_cases h0 : v.st≠0
 ·have : pC m v=v:=by unfold pC;rw [if_pos h0]
  rw [this];exact h
 have h0 : v.st=0:=by omega
 by_cases h5 : v.steps=50000
 ·have : pC m v=v:=by unfold pC;rw [if_neg (by omega),if_pos h5]
  rw [this];exact h
 obtain ⟨fs0,f,G⟩:=h.goes g h0
 obtain ⟨t,low⟩:=h.top fs0 f G.fr
 have hnf:=h.nfr
 rw [G.fr,List.length_append,List.length_singleton] at hnf
 have hst:=h.steps
 rw [aE6 h0 h5 G.fr]
 have A:=aPb (fs0:=fs0) g h t rfl hnf
 obtain ⟨a1,a2,a3,a4,a5⟩:=g.at_ t.fi t.pc t.d
 have hh:=t.h
 have hx : tB m f.f f.pc=nP m.funcs f:=rfl
 rw [hx] at a1 a2 a4 a5
 cases ha : aEg m v fs0 f with
 | trap c=>
   exact ⟨h.hp,by show 0≤v.steps+1∧v.steps+1≤50000;omega,h.nfr,λh=>absurd h (by show (2 : Int)≠0;omega),h.top⟩
 | next fr hp made out=>
   rw [ha] at A
   have A : aLg m v f (nP m.funcs f) fr hp made out:=A
   obtain ⟨b1,b2⟩:=a5 _ A.pc
   refine ⟨A.hpI,by show 0≤v.steps+1∧v.steps+1≤50000;omega,by show (fs0++[fr]).length≤24;rw [List.length_append,List.length_singleton];exact hnf,λ_=>by show fs0++[fr]≠[];simp,λfs1 f1 he=>?_⟩
   obtain ⟨rfl,rfl⟩:=aEl (show fs0++[fr]=fs1++[f1] from he)
   refine ⟨⟨⟨by rw [A.ff];exact t.fi,by rw [A.ff];exact b1,by rw [A.ff,A.loc];exact t.loc,by rw [A.ff,b2];have:=A.len;rw [hh] at this;omega,A.vl,A.vs⟩,by rw [A.len,A.ff,b2,hh]⟩,λf hf=>(low f hf).mono (n':=(hp.length : Int)) (by have:=A.n;omega)⟩
 | call fr gg=>
   rw [ha] at A
   have A : aQK m v fs0 f (nP m.funcs f) fr gg:=A
   obtain ⟨i,args,rfl,hi,hn,hv⟩:=A.gg
   have hnx : f.pc+1∈hU (nP m.funcs f) f.pc:=aIZ (by have:=A.o;omega)
   obtain ⟨b1,b2⟩:=a5 _ hnx
   have hu2 : (bZ m.funcs (nP m.funcs f)).2=1:=by
    have ib:=aE4 a1
    rcases A.o with ho | ho
    ·have:=ib.2.2.2.2.2.1 ho
     simp [bZ,ho,this]
    ·have:=ib.2.2.2.2.2.2.1 (.inr ho)
     simp [bZ,ho,this]
   have hlef : jT m.funcs (nP m.funcs f) (dAt m f.f f.pc)=dAt m f.f f.pc - (bZ m.funcs (nP m.funcs f)).1+(bZ m.funcs (nP m.funcs f)).2:=rfl
   refine ⟨h.hp,by show 0≤v.steps+1∧v.steps+1≤50000;omega,by show (fs0++[fr,aAK m.funcs i args]).length≤24;rw [List.length_append];have:=A.n;simp only [List.length_cons,List.length_nil];omega,λ_=>by show fs0++[fr,aAK m.funcs i args]≠[];simp,λfs1 f1 he=>?_⟩
   have he : fs0++[fr,aAK m.funcs i args]=fs1++[f1]:=he
   rw [show fs0++[fr,aAK m.funcs i args]=(fs0++[fr])++[aAK m.funcs i args] by simp] at he
   obtain ⟨rfl,rfl⟩:=aEl he
   refine ⟨aLh g hi hn hv,λy hy=>?_⟩
   rcases List.mem_append.1 hy with hy | hy
   ·exact low y hy
   ·rw [List.mem_singleton] at hy
    rw [hy,A.frr]
    refine ⟨⟨t.fi,b1,t.loc,by show 0≤dAt m f.f (f.pc+1);rw [b2];omega,t.vl,λy hy=>t.vs y (List.mem_of_mem_take hy)⟩,?_,?_⟩
    ·show 1≤f.pc+1∧0≤dAt m f.f (f.pc+1 - 1)∧((tB m f.f (f.pc+1 - 1)).o=23∨(tB m f.f (f.pc+1 - 1)).o=24)
     rw [show f.pc+1 - 1=f.pc by omega]
     exact ⟨by have:=t.pc;omega,t.d,A.o⟩
    ·show ((f.stk.take (f.stk.length - (bZ m.funcs (nP m.funcs f)).1.toNat)).length : Int)=dAt m f.f (f.pc+1) - 1
     rw [b2,List.length_take]
     omega
 | ret a=>
   rw [ha] at A
   have A : lE m v.hp.length a:=A
   by_cases hf : fs0 = []
   ·have e : aF8 m v fs0 (.ret a)=⟨[],v.hp,v.made,v.out,1,v.tr,a,v.steps+1⟩:=if_pos hf
    rw [e]
    exact ⟨h.hp,by show 0≤v.steps+1∧v.steps+1≤50000;omega,by simp,λh=>absurd h (by show (1 : Int)≠0;omega),λfs1 f1 he=>by simp at he⟩
   ·have e : aF8 m v fs0 (.ret a)=⟨aFJ a fs0,v.hp,v.made,v.out,v.st,v.tr,v.val,v.steps+1⟩:=if_neg hf
    rw [e]
    rcases List.eq_nil_or_concat fs0 with e0 | ⟨fs1,f1,e1⟩
    ·exact absurd e0 hf
    rw [List.concat_eq_append] at e1
    subst e1
    rw [aDq]
    simp only [List.length_append,List.length_singleton] at hnf
    refine ⟨h.hp,by show 0≤v.steps+1∧v.steps+1≤50000;omega,by simp only [List.length_append,List.length_singleton];omega,λ_=>by simp,λfs2 f2 he=>?_⟩
    obtain ⟨rfl,rfl⟩:=aEl he
    exact ⟨(low f1 (by simp)).top A,λy hy=>low y (by simp [hy])⟩
end
noncomputable section
open Go
attribute [local irreducible] bd PV.ite PV.guardFlat PV.guardOwn PV.whole PV.one PV.cell PV.sub PV.at_ PV.len PV.slen PV.chr PV.beq PV.peq PV.ceq PV.bin PV.neg PV.not PV.conv PV.cut PV.scut PV.cat PV.setAt PV.setCell PV.ncopy PV.copyIn PV.zeros PV.toStr PV.toBytes PV.deref PV.isPtr PV.comp PV.inb PV.off PV.imin PV.imax PV.sel PV.apply PV.isLst PV.isInt PV.ix PV.nilT
def aRo (x : PV) : Prop:=∃ o a : Int,x = .agg [.I o,.I a]∧(-9223372036854775808≤o∧o≤9223372036854775807)∧(-9223372036854775808≤a∧a≤9223372036854775807)
def Cd (cs : R) : Prop:=∀ x∈cs,aRo x
theorem Cd.el {cs : R} (h : Cd cs) : ∀ x∈cs,x.isEl 2 true=true:=by
 intro x hx
 obtain ⟨o,a,rfl,_⟩:=h x hx
 rfl
theorem Cd.nil : Cd []:=λx hx=>by cases hx
theorem Cd.append {a b : R} (h : Cd a) (k : Cd b) : Cd (a++b):=λx hx=>(List.mem_append.1 hx).elim (h x) (k x)
theorem Cd.one {o a : Int} (h : -9223372036854775808≤o∧o≤9223372036854775807) (k : -9223372036854775808≤a∧a≤9223372036854775807) : Cd [.agg [.I o,.I a]]:=by
 intro x hx
 simp only [List.mem_singleton] at hx
 exact ⟨o,a,hx,h,k⟩
section
variable {P : R → Prop} {k : R → OR}
theorem oO {o x : Int} {F T L M C A S : PV} {cs : R} (ho : -9223372036854775808≤o∧o≤9223372036854775807) (hx : -9223372036854775808≤x∧x≤9223372036854775807) (hc : Cd cs) (hl : (cs.length : Int)≤1000000000)
 (h : ∀ cs' : R,Cd cs'→(cs'.length : Int)=cs.length+1→Ok P (k [F,T,L,M,C,A,S,.lst cs'])) : Ok P (bd (aJ (.I o) (.I x) F T L M C A S (.lst cs)) k):=by
 refine aG (Q:=λr=>r = [F,T,L,M,C,A,S,.lst (cs++[.agg [.I o,.I x]])]) ?_ (λr hr=>?_)
 ·rw [aDm]
  refine aX rfl (aX rfl (fQ ?_ (Cd.one ho hx).el (aB rfl)))
  simp only [List.length_cons,List.length_nil]
  omega
 ·rw [hr]
  exact h _ (hc.append (Cd.one ho hx)) (by simp)
theorem vZ {x : Int} {F T L M C A S D : PV} (hx : 0≤x∧x≤1000000000) (h : Ok P (k [.I (x+1),F,T,L,M,C,A,S,D])) : Ok P (bd (mC (.I x) F T L M C A S D) k):=by
 refine aG (Q:=λr=>r = [.I (x+1),F,T,L,M,C,A,S,D]) ?_ (λr hr=>by rw [hr];exact h)
 rw [aAG]
 refine aL (by omega) (aB rfl)
end
def aMx : PV→Bool
 | .int .i64 n=>decide (-1000000000≤n)&&decide (n≤1000000000)
 | _=>false
theorem aHA {x : PV} (h : aMx x=true) : ∃ n : Int,x = .I n∧-1000000000≤n∧n≤1000000000:=by
 unfold aMx at h
 split at h
 ·rename_i n
  simp only [Bool.and_eq_true,decide_eq_true_eq] at h
  exact ⟨n,rfl,h⟩
 ·cases h
theorem pM {P : R→Prop} {k : PV→OR} {xs : R} {i : Int} (hx : xs.all aMx=true) (h0 : 0≤i) (h1 : i<xs.length) (h : ∀ x : Int,-1000000000≤x∧x≤1000000000→Ok P (k (.I x))) : Ok P (bd (PV.at_ 1 false (.lst xs) (.I i)) k):=by
 rw [List.all_eq_true] at hx
 refine uP h0 h1 (λx hm=>?_) (λx hm _=>?_)
 ·obtain ⟨n,rfl,_⟩:=aHA (hx x hm);rfl
 ·obtain ⟨n,rfl,hn⟩:=aHA (hx x hm);exact h n hn
theorem eK {P : R→Prop} {k : PV→OR} {cs : R} {m n : Int} (hc : Cd cs) (h0 : 0≤m) (h1 : m≤n) (h2 : n≤cs.length) (h : ∀ cs' : R,Cd cs'→(cs'.length : Int)=n - m→Ok P (k (.lst cs'))) :
 Ok P (bd (PV.cut 2 true (.lst cs) (.I m) (.I n)) k):=by
 refine aCL h0 h1 h2 hc.el (h _ (λx hx=>hc x (List.mem_of_mem_take (List.mem_of_mem_drop hx))) ?_)
 rw [List.length_drop,List.length_take]
 omega
theorem iG {P : R→Prop} {k : PV→OR} {cs : R} {i n : Int} (hc : Cd cs) (h0 : 0≤i) (h1 : i<cs.length) (hn : -9223372036854775808≤n∧n≤9223372036854775807) (h : ∀ cs' : R,Cd cs'→(cs'.length : Int)=cs.length→Ok P (k (.lst cs'))) :
 Ok P (bd (PV.setCell 2 (.lst cs) (.I i) 1 (.I n)) k):=by
 have hlt : i.toNat<cs.length:=by omega
 have hx : cs[i.toNat]? = some cs[i.toNat]:=List.getElem?_eq_getElem hlt
 obtain ⟨o,a,he,ho,ha⟩:=hc _ (List.mem_of_getElem? hx)
 rw [he] at hx
 refine fT h0 hx rfl (by omega) rfl (h _ (λx hm=>?_) (by rw [List.length_set]))
 rcases List.mem_or_eq_of_mem_set hm with h | h
 ·exact hc x h
 ·exact ⟨o,n,h,ho,hn⟩
def mE (x : PV) : Prop:=∃ p lc : Int,∃ cs : R,x = .agg [.I p,.I lc,.lst cs]∧(0≤p∧p≤2)∧(0≤lc∧lc≤100)∧Cd cs∧1≤(cs.length : Int)∧(cs.length : Int)≤100000000
structure Asm (l : List Int) (fs : R) (t lc : Int) : Prop where
 hl : Bts l
 hf : ∀ x∈fs,mE x
 hn : fs.length≤1000
 ht : 0≤t∧t≤1000
 hlc : 1≤lc∧lc≤1000
theorem mE.el {fs : R} (h : ∀ x∈fs,mE x) : ∀ x∈fs,x.isEl 3 true=true:=by
 intro x hx
 obtain ⟨p,lc,cs,rfl,_⟩:=h x hx
 rfl
def aRp (l : List Int) (fs : R) (t lc : Int) (mn : PV) (A B0 B : Int) (r : R) : Prop:=∃ a s : Int,∃ cs : R,r = [.lst fs,.I t,.I lc,mn,bI l,.I a,.I s,.lst cs]∧0≤a∧a≤A∧0≤s∧s<65521∧B0≤cs.length∧(cs.length : Int)≤B∧Cd cs
def oK (l : List Int) (fs : R) (t lc : Int) (mn : PV) (c : Int) (f : PV→PV→PV→PV→PV→PV→PV→PV→OR) : Prop:=
 ∀ (a s : Int) (cs : R),0≤a∧a+c≤1000000000∧0≤s∧s<65521→(cs.length : Int)+c≤1000000000→Cd cs→
   Ok (aRp l fs t lc mn (a+c) cs.length (cs.length+c)) (f (.lst fs) (.I t) (.I lc) mn (bI l) (.I a) (.I s) (.lst cs))
section
variable {P : R → Prop} {k : R → OR} {l : List Int} {fs : R} {t lc : Int} {mn : PV}
theorem kS {c : Int} {f : PV→PV→PV→PV→PV→PV→PV→PV→OR} (H : oK l fs t lc mn c f) {a s : Int} {cs : R} (h0 : 0≤a∧a+c≤1000000000∧0≤s∧s<65521) (hl : (cs.length : Int)+c≤1000000000) (hc : Cd cs)
 (h : ∀ (a' s' : Int) (cs' : R),0≤a'∧a'≤a+c∧0≤s'∧s'<65521∧(cs.length : Int)≤cs'.length∧(cs'.length : Int)≤cs.length+c→Cd cs'→
  Ok P (k [.lst fs,.I t,.I lc,mn,bI l,.I a',.I s',.lst cs'])) :
 Ok P (bd (f (.lst fs) (.I t) (.I lc) mn (bI l) (.I a) (.I s) (.lst cs)) k):=
 aG (H a s cs h0 hl hc) (λr ⟨a',s',cs',hr,h1,h2,h3,h4,h5,h6,h7⟩=>by rw [hr];exact h a' s' cs' ⟨h1,h2,h3,h4,h5,h6⟩ h7)
theorem oK.mono {c c' : Int} {f : PV→PV→PV→PV→PV→PV→PV→PV→OR} (H : oK l fs t lc mn c f) (hc : 0≤c∧c≤c') : oK l fs t lc mn c' f:=by
 intro a s cs h0 hl hcs
 refine (H a s cs (by omega) (by omega) hcs).mono ?_
 rintro r ⟨a',s',cs',hr,h1,h2,h3,h4,h5,h6,h7⟩
 exact ⟨a',s',cs',hr,h1,by omega,h3,h4,h5,by omega,h7⟩
theorem aLi (H : Asm l fs t lc) : oK l fs t lc mn 3 (λF T L M C A S D=>gS F T L M C A S D):=by
 intro a s cs h0 hl hc
 obtain ⟨hb,hfs,hfl,ht,hlc⟩:=H
 show Ok _ (gS _ _ _ _ _ _ _ _)
 rw [yT]
 repeat' (first | refine oO (by omega) (by omega) (by assumption) (by omega) (λ_ _ _=>?_) | refine bJ hb (by omega) (by omega) (λ_ _ _ _=>?_) | refine lD hb (by omega) (by omega) (λ_ _ _ _=>?_) | refine dF (by omega) (by first | omega | (simp;omega)) ?_ | refine pM rfl (by omega) (by first | omega | (simp;omega)) (λ_ _=>?_) | refine iG (by assumption) (by omega) (by omega) (by omega) (λ_ _ _=>?_) | refine vZ (by omega) ?_ | refine eK (by assumption) (by omega) (by omega) (by omega) (λ_ _ _=>?_) | refine aH ?_ | refine fE ?_ | refine cN ?_ | refine eQ ?_ | refine aI ?_ | refine bQ ?_ | (refine aC (λ_=>?_) (λ_=>?_)) | (refine aO (λ_=>?_) (λ_=>?_)) | refine aQ (λ_=>?_) (λ_=>?_) | refine aL (by omega) ?_ | refine bF (by omega) ?_ | refine jB (by omega) (by omega) ?_ | refine lG (by omega) (by omega) (by omega) ?_ | refine lF (by omega) ?_ | refine jU (by omega) ?_ | refine cG ?_ | refine dL ?_ | refine eW ?_ | refine bC ?_ | refine kN (by omega) ?_ | refine aX rfl ?_ | refine aA rfl ?_ | refine bG rfl ?_ | refine aE rfl ?_ | exact aB ⟨_,_,_,rfl,by omega,by omega,by omega,by omega,by omega,by omega,by assumption⟩)
theorem oI {c : Int} {f : PV→PV→PV→PV→PV→PV→PV→PV→OR} (H : oK l fs t lc mn c f) {a s A B0 B : Int} {cs : R} (h0 : 0≤a∧a+c≤1000000000∧0≤s∧s<65521) (hl : (cs.length : Int)+c≤1000000000) (hc : Cd cs)
 (hA : a+c≤A) (hB0 : B0≤cs.length) (hB : cs.length+c≤B) :
 Ok (aRp l fs t lc mn A B0 B) (f (.lst fs) (.I t) (.I lc) mn (bI l) (.I a) (.I s) (.lst cs)):=by
 refine (H a s cs h0 hl hc).mono ?_
 rintro r ⟨a',s',cs',hr,h1,h2,h3,h4,h5,h6,h7⟩
 exact ⟨a',s',cs',hr,h1,by omega,h3,h4,by omega,by omega,h7⟩
def aLj (l : List Int) (fs : R) (t lc : Int) (mn : PV) (n c : Int) : Prop:=∀ d : Int,-1000≤d→d≤n→oK l fs t lc mn c (λF T L M C A S D=>aP (.I d) F T L M C A S D)
theorem aNg (H : Asm l fs t lc) : aLj l fs t lc mn 0 3:=by
 intro d hd1 hd2 a s cs h0 hl hc
 show Ok _ (aP _ _ _ _ _ _ _ _ _)
 rw [sX]
 refine fE (aC (λ_=>?_) (λh=>absurd hd2 h))
 exact aLi H a s cs h0 hl hc
section
variable {n c : Int} (V : aLj l fs t lc mn n c) (H : Asm l fs t lc) (hc0 : 0 ≤ c ∧ c ≤ 2097152 ∧ 0 ≤ n ∧ n ≤ 100)
include V H hc0
theorem xI (m : Int) (hm : 1≤m∧m≤3) (K : Int) (hK : 4≤K∧K≤1000000000) (j : Int) (hj : 0≤j∧j≤10) (ih : ∀ d i : Int,-500≤d→d≤n+1→0≤i→i<j→oK l fs t lc mn K (λF T L M C A S D=>fC (.I d) (.I m) (.I i) F T L M C A S D)) :
 ∀ d i : Int,-500≤d→d≤n+1→0≤i→i≤j→oK l fs t lc mn (K+c+4) (λF T L M C A S D=>fC (.I d) (.I m) (.I i) F T L M C A S D):=by
 intro d i hd1 hd2 hi1 hi2 a s cs h0 hl hc
 obtain ⟨hb,hfs,hfl,ht,hlc⟩:=H
 show Ok _ (fC _ _ _ _ _ _ _ _ _ _ _)
 rw [yE]
 refine cN (aC (λ_=>?_) (λ_=>?_))
 ·refine oO (by omega) (by omega) (by assumption) (by omega) (λ_ _ _=>?_)
  refine bF (by omega) ?_
  refine kS (V _ (by omega) (by omega)) (by omega) (by omega) (by assumption) (λ_ _ _ _ _=>?_)
  refine bJ hb (by omega) (by omega) (λ_ _ _ _=>?_)
  refine oO (by omega) (by omega) (by assumption) (by omega) (λ_ _ _=>?_)
  refine bF (by omega) ?_
  exact oI (ih d _ hd1 hd2 (by omega) (by omega)) (by omega) (by omega) (by assumption) (by omega) (by omega) (by omega)
 ·repeat' (first | refine oO (by omega) (by omega) (by assumption) (by omega) (λ_ _ _=>?_) | refine bJ hb (by omega) (by omega) (λ_ _ _ _=>?_) | refine lD hb (by omega) (by omega) (λ_ _ _ _=>?_) | refine dF (by omega) (by first | omega | (simp;omega)) ?_ | refine pM rfl (by omega) (by first | omega | (simp;omega)) (λ_ _=>?_) | refine iG (by assumption) (by omega) (by omega) (by omega) (λ_ _ _=>?_) | refine vZ (by omega) ?_ | refine eK (by assumption) (by omega) (by omega) (by omega) (λ_ _ _=>?_) | refine aH ?_ | refine fE ?_ | refine cN ?_ | refine eQ ?_ | refine aI ?_ | refine bQ ?_ | (refine aC (λ_=>?_) (λ_=>?_)) | (refine aO (λ_=>?_) (λ_=>?_)) | refine aQ (λ_=>?_) (λ_=>?_) | refine aL (by omega) ?_ | refine bF (by omega) ?_ | refine jB (by omega) (by omega) ?_ | refine lG (by omega) (by omega) (by omega) ?_ | refine lF (by omega) ?_ | refine jU (by omega) ?_ | refine cG ?_ | refine dL ?_ | refine eW ?_ | refine bC ?_ | refine kN (by omega) ?_ | refine aX rfl ?_ | refine aA rfl ?_ | refine bG rfl ?_ | refine aE rfl ?_ | exact aB ⟨_,_,_,rfl,by omega,by omega,by omega,by omega,by omega,by omega,by assumption⟩)
theorem aOi : ∀ d : Int,-500≤d→d≤n+1→oK l fs t lc mn (4*c+40) (λF T L M C A S D=>jJ (.I d) F T L M C A S D):=by
 intro d hd1 hd2 a s cs h0 hl hc
 have H':=H
 obtain ⟨hb,hfs,hfl,ht,hlc⟩:=H
 show Ok _ (jJ _ _ _ _ _ _ _ _ _)
 rw [aAF]
 refine bJ hb (by omega) (by omega) (λv _ _ _=>?_)
 refine aL (by omega) ?_
 refine oO (by omega) (by omega) (by assumption) (by omega) (λ_ _ _=>?_)
 refine aL (by omega) ?_
 refine bJ hb (by omega) (by omega) (λw _ _ _=>?_)
 have L0:=xI V H' hc0 (1+v) (by omega) 4 (by omega) 0 (by omega) (λd i _ _ h1 h2=>by omega)
 have L1:=xI V H' hc0 (1+v) (by omega) (4+c+4) (by omega) 1 (by omega) (λd i g1 g2 h1 h2=>L0 d i g1 g2 h1 (by omega))
 have L2:=xI V H' hc0 (1+v) (by omega) (4+c+4+c+4) (by omega) 2 (by omega) (λd i g1 g2 h1 h2=>L1 d i g1 g2 h1 (by omega))
 have L3:=xI V H' hc0 (1+v) (by omega) (4+c+4+c+4+c+4) (by omega) 3 (by omega) (λd i g1 g2 h1 h2=>L2 d i g1 g2 h1 (by omega))
 exact oI (L3 d w hd1 hd2 (by omega) (by omega)) (by omega) (by omega) (by assumption) (by omega) (by omega) (by omega)
def Par (fs : R) (i p : Int) : Prop:=0≤i∧i<fs.length∧(0≤p∧p≤2)∧∃ q r : PV,fs[i.toNat]? = some (.agg [.I p,q,r])
omit V H hc0 in
theorem aJX (H : Asm l fs t lc) {P : R→Prop} {k : PV→OR} {i p : Int} (hp : Par fs i p) (h : ∀ q r : PV,Ok P (k (.agg [.I p,q,r]))) : Ok P (bd (PV.at_ 3 true (.lst fs) (.I i)) k):=by
 obtain ⟨h0,h1,_,q,r,hq⟩:=hp
 refine uP h0 h1 (mE.el H.hf) (λx _ hx=>?_)
 rw [hq] at hx
 cases hx
 exact h q r
omit V H hc0 in
theorem aPc (H : Asm l fs t lc) {i : Int} (h0 : 0≤i) (h1 : i<fs.length) : ∃ p,Par fs i p:=by
 have hlt : i.toNat<fs.length:=by omega
 have hx : fs[i.toNat]? = some fs[i.toNat]:=List.getElem?_eq_getElem hlt
 obtain ⟨p,lc,cs,he,hp,_⟩:=H.hf _ (List.mem_of_getElem? hx)
 exact ⟨p,h0,h1,hp,.I lc,.lst cs,by rw [hx,he]⟩
theorem aBH (f p : Int) (hp : Par fs f p) (K : Int) (hK : 1≤K∧K≤100000000) (j : Int) (ih : ∀ d i : Int,-500≤d→d≤n+1→0≤i→i≤p→p - i<j→oK l fs t lc mn K (λF T L M C A S D=>dK (.I d) (.I f) (.I i) F T L M C A S D)) :
 ∀ d i : Int,-500≤d→d≤n+1→0≤i→i≤p→p - i≤j→oK l fs t lc mn (K+c) (λF T L M C A S D=>dK (.I d) (.I f) (.I i) F T L M C A S D):=by
 intro d i hd1 hd2 hi1 hi2 hi3 a s cs h0 hl hc
 have H':=H
 obtain ⟨hb,hfs,hfl,ht,hlc⟩:=H
 have hp':=hp.2.2.1
 have hf1:=hp.1
 have hf2:=hp.2.1
 show Ok _ (dK _ _ _ _ _ _ _ _ _ _ _)
 rw [yB]
 refine aJX H' hp (λq r=>aA rfl (aH (aC (λ_=>?_) (λ_=>?_))))
 ·refine bF (by omega) ?_
  refine kS (V _ (by omega) (by omega)) (by omega) (by omega) (by assumption) (λ_ _ _ _ _=>?_)
  refine aL (by omega) ?_
  exact oI (ih d _ hd1 hd2 (by omega) (by omega) (by omega)) (by omega) (by omega) (by assumption) (by omega) (by omega) (by omega)
 ·repeat' (first | refine oO (by omega) (by omega) (by assumption) (by omega) (λ_ _ _=>?_) | refine bJ hb (by omega) (by omega) (λ_ _ _ _=>?_) | refine lD hb (by omega) (by omega) (λ_ _ _ _=>?_) | refine dF (by omega) (by first | omega | (simp;omega)) ?_ | refine pM rfl (by omega) (by first | omega | (simp;omega)) (λ_ _=>?_) | refine iG (by assumption) (by omega) (by omega) (by omega) (λ_ _ _=>?_) | refine vZ (by omega) ?_ | refine eK (by assumption) (by omega) (by omega) (by omega) (λ_ _ _=>?_) | refine aH ?_ | refine fE ?_ | refine cN ?_ | refine eQ ?_ | refine aI ?_ | refine bQ ?_ | (refine aC (λ_=>?_) (λ_=>?_)) | (refine aO (λ_=>?_) (λ_=>?_)) | refine aQ (λ_=>?_) (λ_=>?_) | refine aL (by omega) ?_ | refine bF (by omega) ?_ | refine jB (by omega) (by omega) ?_ | refine lG (by omega) (by omega) (by omega) ?_ | refine lF (by omega) ?_ | refine jU (by omega) ?_ | refine cG ?_ | refine dL ?_ | refine eW ?_ | refine bC ?_ | refine kN (by omega) ?_ | refine aX rfl ?_ | refine aA rfl ?_ | refine bG rfl ?_ | refine aE rfl ?_ | exact aB ⟨_,_,_,rfl,by omega,by omega,by omega,by omega,by omega,by omega,by assumption⟩)
theorem aOj (f : Int) (hf : 0≤f∧f<fs.length) : ∀ d : Int,-500≤d→d≤n+1→oK l fs t lc mn (3*c+10) (λF T L M C A S D=>dK (.I d) (.I f) (.I 0) F T L M C A S D):=by
 intro d hd1 hd2
 obtain ⟨p,hp⟩:=aPc H hf.1 hf.2
 have hp':=hp.2.2.1
 have L0:=aBH V H hc0 f p hp 1 (by omega) 0 (λd i _ _ h1 h2 h3=>by omega)
 have L1:=aBH V H hc0 f p hp (1+c) (by omega) 1 (λd i g1 g2 h1 h2 h3=>L0 d i g1 g2 h1 h2 (by omega))
 have L2:=aBH V H hc0 f p hp (1+c+c) (by omega) 2 (λd i g1 g2 h1 h2 h3=>L1 d i g1 g2 h1 h2 (by omega))
 exact (L2 d 0 hd1 hd2 (by omega) (by omega) (by omega)).mono (by omega)
theorem aFa (f p : Int) (hp : Par fs f p) (K : Int) (hK : 1≤K∧K≤100000000) (j : Int) (ih : ∀ d i : Int,-500≤d→d≤n+1→0≤i→i≤p→p - i<j→oK l fs t lc mn K (λF T L M C A S D=>fB (.I d) (.I f) (.I i) F T L M C A S D)) :
 ∀ d i : Int,-500≤d→d≤n+1→0≤i→i≤p→p - i≤j→oK l fs t lc mn (K+c) (λF T L M C A S D=>fB (.I d) (.I f) (.I i) F T L M C A S D):=by
 intro d i hd1 hd2 hi1 hi2 hi3 a s cs h0 hl hc
 have H':=H
 obtain ⟨hb,hfs,hfl,ht,hlc⟩:=H
 have hp':=hp.2.2.1
 have hf1:=hp.1
 have hf2:=hp.2.1
 show Ok _ (fB _ _ _ _ _ _ _ _ _ _ _)
 rw [yD]
 refine aJX H' hp (λq r=>aA rfl (aH (aC (λ_=>?_) (λ_=>?_))))
 ·refine bF (by omega) ?_
  refine kS (V _ (by omega) (by omega)) (by omega) (by omega) (by assumption) (λ_ _ _ _ _=>?_)
  refine aL (by omega) ?_
  exact oI (ih d _ hd1 hd2 (by omega) (by omega) (by omega)) (by omega) (by omega) (by assumption) (by omega) (by omega) (by omega)
 ·refine aJX H' hp (λq r=>aA rfl ?_)
  repeat' (first | refine oO (by omega) (by omega) (by assumption) (by omega) (λ_ _ _=>?_) | refine bJ hb (by omega) (by omega) (λ_ _ _ _=>?_) | refine lD hb (by omega) (by omega) (λ_ _ _ _=>?_) | refine dF (by omega) (by first | omega | (simp;omega)) ?_ | refine pM rfl (by omega) (by first | omega | (simp;omega)) (λ_ _=>?_) | refine iG (by assumption) (by omega) (by omega) (by omega) (λ_ _ _=>?_) | refine vZ (by omega) ?_ | refine eK (by assumption) (by omega) (by omega) (by omega) (λ_ _ _=>?_) | refine aH ?_ | refine fE ?_ | refine cN ?_ | refine eQ ?_ | refine aI ?_ | refine bQ ?_ | (refine aC (λ_=>?_) (λ_=>?_)) | (refine aO (λ_=>?_) (λ_=>?_)) | refine aQ (λ_=>?_) (λ_=>?_) | refine aL (by omega) ?_ | refine bF (by omega) ?_ | refine jB (by omega) (by omega) ?_ | refine lG (by omega) (by omega) (by omega) ?_ | refine lF (by omega) ?_ | refine jU (by omega) ?_ | refine cG ?_ | refine dL ?_ | refine eW ?_ | refine bC ?_ | refine kN (by omega) ?_ | refine aX rfl ?_ | refine aA rfl ?_ | refine bG rfl ?_ | refine aE rfl ?_ | exact aB ⟨_,_,_,rfl,by omega,by omega,by omega,by omega,by omega,by omega,by assumption⟩)
theorem aQh (f : Int) (hf : 0≤f∧f<fs.length) : ∀ d : Int,-500≤d→d≤n+1→oK l fs t lc mn (3*c+10) (λF T L M C A S D=>gF (.I d) (.I f) F T L M C A S D):=by
 intro d hd1 hd2 a s cs h0 hl hc
 obtain ⟨p,hp⟩:=aPc H hf.1 hf.2
 have hp':=hp.2.2.1
 have L0:=aFa V H hc0 f p hp 1 (by omega) 0 (λd i _ _ h1 h2 h3=>by omega)
 have L1:=aFa V H hc0 f p hp (1+c) (by omega) 1 (λd i g1 g2 h1 h2 h3=>L0 d i g1 g2 h1 h2 (by omega))
 have L2:=aFa V H hc0 f p hp (1+c+c) (by omega) 2 (λd i g1 g2 h1 h2 h3=>L1 d i g1 g2 h1 h2 (by omega))
 show Ok _ (gF _ _ _ _ _ _ _ _ _ _)
 rw [yC]
 exact oI (L2 d 0 hd1 hd2 (by omega) (by omega) (by omega)) (by omega) (by omega) (by assumption) (by omega) (by omega) (by omega)
set_option maxRecDepth 100000 in
set_option maxHeartbeats 4000000 in
theorem aHB : aLj l fs t lc mn (n+1) (4*c+50):=by
 intro d hd1 hd2 a s cs h0 hl hc
 have RO:=aOi V H hc0
 have IK:=aOj V H hc0
 have CO:=aQh V H hc0
 have C2:=aLi (mn:=mn) H
 obtain ⟨hb,hfs,hfl,ht,hlc⟩:=H
 show Ok _ (aP _ _ _ _ _ _ _ _ _)
 rw [sX]
 repeat' (first | refine kS (V _ (by omega) (by omega)) (by omega) (by omega) (by assumption) (λ_ _ _ _ _=>?_) | refine kS (RO _ (by omega) (by omega)) (by omega) (by omega) (by assumption) (λ_ _ _ _ _=>?_) | exact oI C2 (by omega) (by omega) (by assumption) (by omega) (by omega) (by omega) | exact oI (IK _ (by omega) _ (by omega) (by omega)) (by omega) (by omega) (by assumption) (by omega) (by omega) (by omega) | exact oI (CO _ (by omega) _ (by omega) (by omega)) (by omega) (by omega) (by assumption) (by omega) (by omega) (by omega) | refine oO (by omega) (by omega) (by assumption) (by omega) (λ_ _ _=>?_) | refine bJ hb (by omega) (by omega) (λ_ _ _ _=>?_) | refine lD hb (by omega) (by omega) (λ_ _ _ _=>?_) | refine dF (by omega) (by first | omega | (simp;omega)) ?_ | refine pM rfl (by omega) (by first | omega | (simp;omega)) (λ_ _=>?_) | refine iG (by assumption) (by omega) (by omega) (by omega) (λ_ _ _=>?_) | refine vZ (by omega) ?_ | refine eK (by assumption) (by omega) (by omega) (by omega) (λ_ _ _=>?_) | refine aH ?_ | refine fE ?_ | refine cN ?_ | refine eQ ?_ | refine aI ?_ | refine bQ ?_ | (refine aC (λ_=>?_) (λ_=>?_)) | (refine aO (λ_=>?_) (λ_=>?_)) | refine aQ (λ_=>?_) (λ_=>?_) | refine aL (by omega) ?_ | refine bF (by omega) ?_ | refine jB (by omega) (by omega) ?_ | refine lG (by omega) (by omega) (by omega) ?_ | refine lF (by omega) ?_ | refine jU (by omega) ?_ | refine cG ?_ | refine dL ?_ | refine eW ?_ | refine bC ?_ | refine kN (by omega) ?_ | refine aX rfl ?_ | refine aA rfl ?_ | refine bG rfl ?_ | refine aE rfl ?_ | exact aB ⟨_,_,_,rfl,by omega,by omega,by omega,by omega,by omega,by omega,by assumption⟩)
end
end
section
variable {l : List Int} {fs : R} {t lc : Int} {mn : PV}
theorem aEm (H : Asm l fs t lc) : aLj l fs t lc mn 1 62:=aHB (aNg H) H (by omega)
theorem aJY (H : Asm l fs t lc) : aLj l fs t lc mn 2 298:=aHB (aEm H) H (by omega)
theorem aQi (H : Asm l fs t lc) : oK l fs t lc mn 100 (λF T L M C A S D=>oC F T L M C A S D):=by
 intro a s cs h0 hl hc
 have V1:=aEm (mn:=mn) H
 have V0:=aNg (mn:=mn) H
 obtain ⟨hb,hfs,hfl,ht,hlc⟩:=H
 show Ok _ (oC _ _ _ _ _ _ _ _)
 rw [aCs]
 refine kS (V1 _ (by omega) (by omega)) (by omega) (by omega) (by assumption) (λ_ _ _ _ _=>?_)
 refine kS (V0 _ (by omega) (by omega)) (by omega) (by omega) (by assumption) (λ_ _ _ _ _=>?_)
 repeat' (first | refine oO (by omega) (by omega) (by assumption) (by omega) (λ_ _ _=>?_) | refine bJ hb (by omega) (by omega) (λ_ _ _ _=>?_) | refine lD hb (by omega) (by omega) (λ_ _ _ _=>?_) | refine dF (by omega) (by first | omega | (simp;omega)) ?_ | refine pM rfl (by omega) (by first | omega | (simp;omega)) (λ_ _=>?_) | refine iG (by assumption) (by omega) (by omega) (by omega) (λ_ _ _=>?_) | refine vZ (by omega) ?_ | refine eK (by assumption) (by omega) (by omega) (by omega) (λ_ _ _=>?_) | refine aH ?_ | refine fE ?_ | refine cN ?_ | refine eQ ?_ | refine aI ?_ | refine bQ ?_ | (refine aC (λ_=>?_) (λ_=>?_)) | (refine aO (λ_=>?_) (λ_=>?_)) | refine aQ (λ_=>?_) (λ_=>?_) | refine aL (by omega) ?_ | refine bF (by omega) ?_ | refine jB (by omega) (by omega) ?_ | refine lG (by omega) (by omega) (by omega) ?_ | refine lF (by omega) ?_ | refine jU (by omega) ?_ | refine cG ?_ | refine dL ?_ | refine eW ?_ | refine bC ?_ | refine kN (by omega) ?_ | refine aX rfl ?_ | refine aA rfl ?_ | refine bG rfl ?_ | refine aE rfl ?_ | exact aB ⟨_,_,_,rfl,by omega,by omega,by omega,by omega,by omega,by omega,by assumption⟩)
def aMz (l : List Int) (fs : R) (t lc : Int) (mn : PV) (n c : Int) : Prop:=∀ d : Int,-100≤d→d≤n→oK l fs t lc mn c (λF T L M C A S D=>lP (.I d) F T L M C A S D)
def aJZ (l : List Int) (fs : R) (t lc : Int) (mn : PV) (n q c : Int) : Prop:=∀ d : Int,-100≤d→d≤n→oK l fs t lc mn c (λF T L M C A S D=>gN (.I d) (.I q) F T L M C A S D)
set_option maxRecDepth 100000 in
set_option maxHeartbeats 4000000 in
theorem aQ1 (H : Asm l fs t lc) : aMz l fs t lc mn 0 500:=by
 intro d hd1 hd2 a s cs h0 hl hc
 have V1:=aEm (mn:=mn) H
 have V2:=aJY (mn:=mn) H
 obtain ⟨hb,hfs,hfl,ht,hlc⟩:=H
 show Ok _ (lP _ _ _ _ _ _ _ _ _)
 rw [tU]
 repeat' (first | (exfalso;omega) | (first | refine kS (V1 _ (by omega) (by omega)) (by omega) (by omega) (by assumption) (λ_ _ _ _ _=>?_) | refine kS (V2 _ (by omega) (by omega)) (by omega) (by omega) (by assumption) (λ_ _ _ _ _=>?_) | refine kS TE (by omega) (by omega) (by assumption) (λ_ _ _ _ _=>?_) | refine kS (L _ (by omega) (by omega)) (by omega) (by omega) (by assumption) (λ_ _ _ _ _=>?_) | exact oI (C7 _ _ (by omega) (by omega) (by omega)) (by omega) (by omega) (by assumption) (by omega) (by omega) (by omega) | refine oO (by omega) (by omega) (by assumption) (by omega) (λ_ _ _=>?_) | refine bJ hb (by omega) (by omega) (λ_ _ _ _=>?_) | refine lD hb (by omega) (by omega) (λ_ _ _ _=>?_) | refine dF (by omega) (by first | omega | (simp;omega)) ?_ | refine pM rfl (by omega) (by first | omega | (simp;omega)) (λ_ _=>?_) | refine iG (by assumption) (by omega) (by omega) (by omega) (λ_ _ _=>?_) | refine vZ (by omega) ?_ | refine eK (by assumption) (by omega) (by omega) (by omega) (λ_ _ _=>?_) | refine aH ?_ | refine fE ?_ | refine cN ?_ | refine eQ ?_ | refine aI ?_ | refine bQ ?_ | (refine aC (λ_=>?_) (λ_=>?_)) | (refine aO (λ_=>?_) (λ_=>?_)) | refine aQ (λ_=>?_) (λ_=>?_) | refine aL (by omega) ?_ | refine bF (by omega) ?_ | refine jB (by omega) (by omega) ?_ | refine lG (by omega) (by omega) (by omega) ?_ | refine lF (by omega) ?_ | refine jU (by omega) ?_ | refine cG ?_ | refine dL ?_ | refine eW ?_ | refine bC ?_ | refine kN (by omega) ?_ | refine aX rfl ?_ | refine aA rfl ?_ | refine bG rfl ?_ | refine aE rfl ?_ | exact aB ⟨_,_,_,rfl,by omega,by omega,by omega,by omega,by omega,by omega,by assumption⟩))
section
variable {n c : Int} (L : aJZ l fs t lc mn n 2 c) (H : Asm l fs t lc) (hc0 : 0 ≤ c ∧ c ≤ 100000 ∧ 0 ≤ n ∧ n ≤ 50)
include L H hc0
set_option maxRecDepth 100000 in
set_option maxHeartbeats 4000000 in
theorem aQj : ∀ d x : Int,1≤d→d≤n+1→0≤x∧x≤1000→oK l fs t lc mn (c+100) (λF T L M C A S D=>iN (.I d) (.I x) F T L M C A S D):=by
 intro d x hd1 hd2 hx a s cs h0 hl hc
 obtain ⟨hb,hfs,hfl,ht,hlc⟩:=H
 show Ok _ (iN _ _ _ _ _ _ _ _ _ _)
 rw [zX]
 repeat' (first | refine kS (L _ (by omega) (by omega)) (by omega) (by omega) (by assumption) (λ_ _ _ _ _=>?_) | (first | refine oO (by omega) (by omega) (by assumption) (by omega) (λ_ _ _=>?_) | refine bJ hb (by omega) (by omega) (λ_ _ _ _=>?_) | refine lD hb (by omega) (by omega) (λ_ _ _ _=>?_) | refine dF (by omega) (by first | omega | (simp;omega)) ?_ | refine pM rfl (by omega) (by first | omega | (simp;omega)) (λ_ _=>?_) | refine iG (by assumption) (by omega) (by omega) (by omega) (λ_ _ _=>?_) | refine vZ (by omega) ?_ | refine eK (by assumption) (by omega) (by omega) (by omega) (λ_ _ _=>?_) | refine aH ?_ | refine fE ?_ | refine cN ?_ | refine eQ ?_ | refine aI ?_ | refine bQ ?_ | (refine aC (λ_=>?_) (λ_=>?_)) | (refine aO (λ_=>?_) (λ_=>?_)) | refine aQ (λ_=>?_) (λ_=>?_) | refine aL (by omega) ?_ | refine bF (by omega) ?_ | refine jB (by omega) (by omega) ?_ | refine lG (by omega) (by omega) (by omega) ?_ | refine lF (by omega) ?_ | refine jU (by omega) ?_ | refine cG ?_ | refine dL ?_ | refine eW ?_ | refine bC ?_ | refine kN (by omega) ?_ | refine aX rfl ?_ | refine aA rfl ?_ | refine bG rfl ?_ | refine aE rfl ?_ | exact aB ⟨_,_,_,rfl,by omega,by omega,by omega,by omega,by omega,by omega,by assumption⟩))
set_option maxRecDepth 100000 in
set_option maxHeartbeats 4000000 in
theorem aI0 : aMz l fs t lc mn (n+1) (c+600):=by
 intro d hd1 hd2 a s cs h0 hl hc
 have V1:=aEm (mn:=mn) H
 have V2:=aJY (mn:=mn) H
 have TE:=aQi (mn:=mn) H
 have C7:=aQj L H hc0
 obtain ⟨hb,hfs,hfl,ht,hlc⟩:=H
 show Ok _ (lP _ _ _ _ _ _ _ _ _)
 rw [tU]
 repeat' (first | refine kS (V1 _ (by omega) (by omega)) (by omega) (by omega) (by assumption) (λ_ _ _ _ _=>?_) | refine kS (V2 _ (by omega) (by omega)) (by omega) (by omega) (by assumption) (λ_ _ _ _ _=>?_) | refine kS TE (by omega) (by omega) (by assumption) (λ_ _ _ _ _=>?_) | refine kS (L _ (by omega) (by omega)) (by omega) (by omega) (by assumption) (λ_ _ _ _ _=>?_) | exact oI (C7 _ _ (by omega) (by omega) (by omega)) (by omega) (by omega) (by assumption) (by omega) (by omega) (by omega) | refine oO (by omega) (by omega) (by assumption) (by omega) (λ_ _ _=>?_) | refine bJ hb (by omega) (by omega) (λ_ _ _ _=>?_) | refine lD hb (by omega) (by omega) (λ_ _ _ _=>?_) | refine dF (by omega) (by first | omega | (simp;omega)) ?_ | refine pM rfl (by omega) (by first | omega | (simp;omega)) (λ_ _=>?_) | refine iG (by assumption) (by omega) (by omega) (by omega) (λ_ _ _=>?_) | refine vZ (by omega) ?_ | refine eK (by assumption) (by omega) (by omega) (by omega) (λ_ _ _=>?_) | refine aH ?_ | refine fE ?_ | refine cN ?_ | refine eQ ?_ | refine aI ?_ | refine bQ ?_ | (refine aC (λ_=>?_) (λ_=>?_)) | (refine aO (λ_=>?_) (λ_=>?_)) | refine aQ (λ_=>?_) (λ_=>?_) | refine aL (by omega) ?_ | refine bF (by omega) ?_ | refine jB (by omega) (by omega) ?_ | refine lG (by omega) (by omega) (by omega) ?_ | refine lF (by omega) ?_ | refine jU (by omega) ?_ | refine cG ?_ | refine dL ?_ | refine eW ?_ | refine bC ?_ | refine kN (by omega) ?_ | refine aX rfl ?_ | refine aA rfl ?_ | refine bG rfl ?_ | refine aE rfl ?_ | exact aB ⟨_,_,_,rfl,by omega,by omega,by omega,by omega,by omega,by omega,by assumption⟩)
end
section
variable {n c : Int} (S : aMz l fs t lc mn n c) (H : Asm l fs t lc) (hc0 : 0 ≤ c ∧ c ≤ 100000 ∧ 0 ≤ n ∧ n ≤ 50)
include S H hc0
theorem sE (K : Int) (hK : 0≤K∧K≤10000000) (j : Int) (hj : 0≤j∧j≤100) (ih : ∀ d i : Int,-100≤d→d≤n→0≤i→i<j→oK l fs t lc mn K (λF T L M C A S D=>gA (.I d) (.I i) F T L M C A S D)) :
 ∀ d i : Int,-100≤d→d≤n→0≤i→i≤j→oK l fs t lc mn (K+c) (λF T L M C A S D=>gA (.I d) (.I i) F T L M C A S D):=by
 intro d i hd1 hd2 hi1 hi2 a s cs h0 hl hc
 obtain ⟨hb,hfs,hfl,ht,hlc⟩:=H
 show Ok _ (gA _ _ _ _ _ _ _ _ _ _)
 rw [zW]
 refine cN (aC (λ_=>?_) (λ_=>?_))
 ·refine dL (aH (aC (λ_=>?_) (λ_=>?_)))
  ·refine kS (S _ hd1 hd2) (by omega) (by omega) (by assumption) (λ_ _ _ _ _=>?_)
   refine bF (by omega) ?_
   exact oI (ih d _ hd1 hd2 (by omega) (by omega)) (by omega) (by omega) (by assumption) (by omega) (by omega) (by omega)
  ·repeat' (first | refine oO (by omega) (by omega) (by assumption) (by omega) (λ_ _ _=>?_) | refine bJ hb (by omega) (by omega) (λ_ _ _ _=>?_) | refine lD hb (by omega) (by omega) (λ_ _ _ _=>?_) | refine dF (by omega) (by first | omega | (simp;omega)) ?_ | refine pM rfl (by omega) (by first | omega | (simp;omega)) (λ_ _=>?_) | refine iG (by assumption) (by omega) (by omega) (by omega) (λ_ _ _=>?_) | refine vZ (by omega) ?_ | refine eK (by assumption) (by omega) (by omega) (by omega) (λ_ _ _=>?_) | refine aH ?_ | refine fE ?_ | refine cN ?_ | refine eQ ?_ | refine aI ?_ | refine bQ ?_ | (refine aC (λ_=>?_) (λ_=>?_)) | (refine aO (λ_=>?_) (λ_=>?_)) | refine aQ (λ_=>?_) (λ_=>?_) | refine aL (by omega) ?_ | refine bF (by omega) ?_ | refine jB (by omega) (by omega) ?_ | refine lG (by omega) (by omega) (by omega) ?_ | refine lF (by omega) ?_ | refine jU (by omega) ?_ | refine cG ?_ | refine dL ?_ | refine eW ?_ | refine bC ?_ | refine kN (by omega) ?_ | refine aX rfl ?_ | refine aA rfl ?_ | refine bG rfl ?_ | refine aE rfl ?_ | exact aB ⟨_,_,_,rfl,by omega,by omega,by omega,by omega,by omega,by omega,by assumption⟩)
 ·repeat' (first | refine oO (by omega) (by omega) (by assumption) (by omega) (λ_ _ _=>?_) | refine bJ hb (by omega) (by omega) (λ_ _ _ _=>?_) | refine lD hb (by omega) (by omega) (λ_ _ _ _=>?_) | refine dF (by omega) (by first | omega | (simp;omega)) ?_ | refine pM rfl (by omega) (by first | omega | (simp;omega)) (λ_ _=>?_) | refine iG (by assumption) (by omega) (by omega) (by omega) (λ_ _ _=>?_) | refine vZ (by omega) ?_ | refine eK (by assumption) (by omega) (by omega) (by omega) (λ_ _ _=>?_) | refine aH ?_ | refine fE ?_ | refine cN ?_ | refine eQ ?_ | refine aI ?_ | refine bQ ?_ | (refine aC (λ_=>?_) (λ_=>?_)) | (refine aO (λ_=>?_) (λ_=>?_)) | refine aQ (λ_=>?_) (λ_=>?_) | refine aL (by omega) ?_ | refine bF (by omega) ?_ | refine jB (by omega) (by omega) ?_ | refine lG (by omega) (by omega) (by omega) ?_ | refine lF (by omega) ?_ | refine jU (by omega) ?_ | refine cG ?_ | refine dL ?_ | refine eW ?_ | refine bC ?_ | refine kN (by omega) ?_ | refine aX rfl ?_ | refine aA rfl ?_ | refine bG rfl ?_ | refine aE rfl ?_ | exact aB ⟨_,_,_,rfl,by omega,by omega,by omega,by omega,by omega,by omega,by assumption⟩)
theorem aJ0 (q : Int) (hq : 1≤q∧q≤6) : aJZ l fs t lc mn n q (7*c+2):=by
 intro d hd1 hd2 a s cs h0 hl hc
 have L0:=sE S H hc0 0 (by omega) 0 (by omega) (λd i _ _ h1 h2=>by omega)
 have L1:=sE S H hc0 (0+c) (by omega) 1 (by omega) (λd i g1 g2 h1 h2=>L0 d i g1 g2 h1 (by omega))
 have L2:=sE S H hc0 (0+c+c) (by omega) 2 (by omega) (λd i g1 g2 h1 h2=>L1 d i g1 g2 h1 (by omega))
 have L3:=sE S H hc0 (0+c+c+c) (by omega) 3 (by omega) (λd i g1 g2 h1 h2=>L2 d i g1 g2 h1 (by omega))
 have L4:=sE S H hc0 (0+c+c+c+c) (by omega) 4 (by omega) (λd i g1 g2 h1 h2=>L3 d i g1 g2 h1 (by omega))
 have L5:=sE S H hc0 (0+c+c+c+c+c) (by omega) 5 (by omega) (λd i g1 g2 h1 h2=>L4 d i g1 g2 h1 (by omega))
 have hb:=H.hl
 show Ok _ (gN _ _ _ _ _ _ _ _ _ _)
 rw [aCo]
 refine bJ hb (by omega) (by omega) (λv _ _ _=>?_)
 refine aL (by omega) ?_
 by_cases hv : 1+v≤5
 ·exact oI ((L5 d (1+v) hd1 hd2 (by omega) hv)) (by omega) (by omega) (by assumption) (by omega) (by omega) (by omega)
 ·have L6:=sE S H hc0 (0+c+c+c+c+c+c) (by omega) 6 (by omega) (λd i g1 g2 h1 h2=>L5 d i g1 g2 h1 (by omega))
  exact oI ((L6 d (1+v) hd1 hd2 (by omega) (by omega))) (by omega) (by omega) (by assumption) (by omega) (by omega) (by omega)
end
theorem aPd (H : Asm l fs t lc) : aJZ l fs t lc mn 1 2 30000:=λd h1 h2=>
 (aJ0 (aI0 (aJ0 (aQ1 (mn:=mn) H) H (by omega) 2 (by omega)) H (by omega)) H (by omega) 2 (by omega) d h1 (by omega)).mono (by omega)
theorem aQ2 (H : Asm l fs t lc) (q : Int) (hq : 1≤q∧q≤6) : aJZ l fs t lc mn 2 q 500000:=λd h1 h2=>
 (aJ0 (aI0 (aPd (mn:=mn) H) H (by omega)) H (by omega) q hq d h1 (by omega)).mono (by omega)
end
def kU (x : PV) : Prop:=∃ b : ByteArray,x = .str b∧b.size≤1000
theorem kU.el {ts : R} (h : ∀ x∈ts,kU x) : ∀ x∈ts,x.isEl 1 false=true:=by
 intro x hx
 obtain ⟨b,rfl,_⟩:=h x hx
 rfl
def aHC (l : List Int) (A : Int) (r : R) : Prop:=∃ a s : Int,∃ ts fs : R,r = [.agg [.lst ts,.lst fs],bI l,.I a,.I s]∧0≤a∧a≤A∧0≤s∧s<65521∧(∀ x∈ts,kU x)∧ts.length≤10∧(∀ x∈fs,mE x)∧1≤fs.length∧fs.length≤10
section
variable {l : List Int} (hl : Bts l) {ts : R} (hts : ∀ x ∈ ts, kU x) (htn : ts.length ≤ 10)
include hl hts htn
set_option maxRecDepth 100000 in
set_option maxHeartbeats 4000000 in
theorem aNh {a s : Int} {hs : R} {x4 x5 x7 : PV} (h0 : 0≤a∧a+2097152≤900000000∧0≤s∧s<65521) (hh : ∀ x∈hs,mE x) (hn : hs.length≤3) :
 Ok (aHC l (a+2097152)) (gE (.I 0) (bI l) (.I a) (.I s) x4 x5 (.lst ts) x7 (.lst hs)):=by
 rw [pA]
 refine cN (aC (λh=>by omega) (λ_=>?_))
 refine bJ hl (by omega) (by omega) (λp a1 s1 h1=>?_)
 refine bJ hl (by omega) (by omega) (λq a2 s2 h2=>?_)
 refine aL (by omega) (aX rfl (aX rfl (dL (aX rfl (aX rfl ?_)))))
 have H : Asm l hs (ts.length : Int) (3+q):=⟨hl,hh,by omega,by omega,by omega⟩
 refine aPZ hl (by omega) (by omega) (λw a3 s3 h3=>?_)
 refine aL (by omega) ?_
 refine kS (aQ2 (mn:=.bool true) H (1+w) (by omega) 2 (by omega) (by omega)) (by omega) (by simp) Cd.nil (λa4 s4 c4 h4 k4=>?_)
 simp only [List.length_nil,Int.natCast_zero] at h4
 refine kS (aEm (mn:=.bool true) H 1 (by omega) (by omega)) (by omega) (by omega) k4 (λa5 s5 c5 h5 k5=>?_)
 refine oO (by omega) (by omega) k5 (by omega) (λc6 k6 h6=>?_)
 refine fQ (by simp;omega) (mE.el hh) ?_
 refine aB ⟨a5,s5,ts,_,rfl,by omega,by omega,by omega,by omega,hts,htn,?_,by simp,by simp;omega⟩
 intro x hx
 rcases List.mem_append.1 hx with hx | hx
 ·simp only [List.mem_singleton] at hx
  exact ⟨p,3+q,c6,hx,by omega,by omega,k6,by omega,by omega⟩
 ·exact hh x hx
set_option maxRecDepth 100000 in
set_option maxHeartbeats 4000000 in
theorem aHD (x4 x5 x7 : PV) : ∀ (j : Nat) (k a s : Int) (hs : R),0≤k→k≤j→(0≤a∧a+2097152+100000*k≤900000000∧0≤s∧s<65521)→(∀ x∈hs,mE x)→(hs.length : Int)+k≤3→
 Ok (aHC l (a+2097152+100000*k)) (gE (.I k) (bI l) (.I a) (.I s) x4 x5 (.lst ts) x7 (.lst hs)):=by
 intro j
 induction j with
 | zero=>
   intro k a s hs hk1 hk2 h0 hh hn
   have : k=0:=by omega
   subst this
   refine (aNh hl hts htn (by omega) hh (by omega)).mono ?_
   rintro r ⟨a',s',ts',fs',hr,h1,h2,h3⟩
   exact ⟨a',s',ts',fs',hr,h1,by omega,h3⟩
 | succ j ih=>
   intro k a s hs hk1 hk2 h0 hh hn
   by_cases hk : k=0
   ·subst hk
    refine (aNh hl hts htn (by omega) hh (by omega)).mono ?_
    rintro r ⟨a',s',ts',fs',hr,h1,h2,h3⟩
    exact ⟨a',s',ts',fs',hr,h1,by omega,h3⟩
   rw [pA]
   refine cN (aC (λ_=>?_) (λh=>by omega))
   refine bJ hl (by omega) (by omega) (λp a1 s1 h1=>?_)
   refine aX rfl (aL (by omega) ?_)
   refine bJ hl (by omega) (by omega) (λq a2 s2 h2=>?_)
   refine aL (by omega) (aX rfl (dL ?_))
   refine jN (by omega) (mE.el hh) (aX rfl (aX rfl ?_))
   have H : Asm l hs (ts.length : Int) (1+p+q):=⟨hl,hh,by omega,by omega,by omega⟩
   have C15 : ∀ (a s : Int) (cs : R),(0≤a∧a+2097152+100000*(k - 1)+1000≤900000000∧0≤s∧s<65521)→Cd cs→(cs.length : Int)≤2097152→
    Ok (aHC l (a+2097152+100000*(k - 1)+1000)) (iS (.I k) (bI l) (.I a) (.I s) (.I p) (.I (1+p+q)) (.lst hs) (.I ts.length) (.I (1+p+q)) (.bool false) x4 x5 (.lst ts) x7 (.lst hs) (.lst []) (.lst cs)):=by
    intro a s cs h0 hc hcl
    rw [wE]
    refine kS (aJY (mn:=.bool false) H 2 (by omega) (by omega)) (by omega) (by omega) hc (λa5 s5 c5 h5 k5=>?_)
    refine oO (by omega) (by omega) k5 (by omega) (λc6 k6 h6=>?_)
    have hnew : ∀ x∈[PV.agg [.I p,.I (1+p+q),.lst c6]],mE x:=by
     intro x hx
     simp only [List.mem_singleton] at hx
     exact ⟨p,1+p+q,c6,hx,by omega,by omega,k6,by omega,by omega⟩
    refine fQ (by simp;omega) (mE.el hnew) (bF (by omega) ?_)
    refine (ih (k - 1) a5 s5 (hs++[.agg [.I p,.I (1+p+q),.lst c6]]) (by omega) (by omega) (by omega) (λx hx=>(List.mem_append.1 hx).elim (hh x) (hnew x)) (by simp;omega)).mono ?_
    rintro r ⟨a',s',ts',fs',hr,h1,h2,h3⟩
    exact ⟨a',s',ts',fs',hr,h1,by omega,h3⟩
   refine lD hl (by omega) (by omega) (λb a3 s3 h3=>?_)
   refine aQ (λ_=>?_) (λ_=>?_)
   ·refine kS (aPd (mn:=.bool false) H 1 (by omega) (by omega)) (by omega) (by simp) Cd.nil (λa4 s4 c4 h4 k4=>?_)
    simp only [List.length_nil,Int.natCast_zero] at h4
    refine (C15 a4 s4 c4 (by omega) k4 (by omega)).mono ?_
    rintro r ⟨a',s',ts',fs',hr,h1,h2,h3⟩
    exact ⟨a',s',ts',fs',hr,h1,by omega,h3⟩
   ·refine (C15 a3 s3 [] (by omega) Cd.nil (by simp)).mono ?_
    rintro r ⟨a',s',ts',fs',hr,h1,h2,h3⟩
    exact ⟨a',s',ts',fs',hr,h1,by omega,h3⟩
end
theorem aLk : ∀ x∈[PV.str (bs []),PV.str (bs [97]),PV.str (bs [98,99]),PV.str (bs [104,101,108,108,111,32,119,111,114,108,100]),PV.str (bs [120,32,121])],kU x:=by
 intro x hx
 simp only [List.mem_cons,List.not_mem_nil,or_false] at hx
 rcases hx with rfl | rfl | rfl | rfl | rfl<;>exact ⟨_,rfl,Nat.le_of_ble_eq_true rfl⟩
theorem aPe {l : List Int} (hl : Bts l) (x4 x5 : PV) : ∀ (j : Nat) (k a s : Int) (ts : R),0≤k→k≤j→(0≤a∧a+2500000+k≤900000000∧0≤s∧s<65521)→(∀ x∈ts,kU x)→(ts.length : Int)+k≤10→
 Ok (aHC l (a+2500000+k)) (jO (.I k) (bI l) (.I a) (.I s) x4 x5 (.lst ts) (.lst [])):=by
 intro j
 induction j with
 | zero=>
   intro k a s ts hk1 hk2 h0 ht hn
   rw [oZ]
   refine cN (aC (λh=>by omega) (λ_=>?_))
   refine bJ hl (by omega) (by omega) (λp a1 s1 h1=>?_)
   refine (aHD hl ht (by omega) x4 x5 (.lst []) 3 p a1 s1 [] (by omega) (by omega) (by omega) (λx hx=>by cases hx) (by simp;omega)).mono ?_
   rintro r ⟨a',s',ts',fs',hr,h1,h2,h3⟩
   exact ⟨a',s',ts',fs',hr,h1,by omega,h3⟩
 | succ j ih=>
   intro k a s ts hk1 hk2 h0 ht hn
   rw [oZ]
   refine cN (aC (λ_=>?_) (λ_=>?_))
   ·refine bJ hl (by omega) (by omega) (λp a1 s1 h1=>?_)
    refine dF (by omega) (by simp;omega) ?_
    refine uP (by omega) (by simp;omega) (kU.el aLk) (λx hx _=>?_)
    have hone : ∀ y∈[x],kU y:=λy hy=>by simp only [List.mem_singleton] at hy;rw [hy];exact aLk x hx
    refine jN (by simp) (kU.el hone) ?_
    refine fQ (by simp;omega) (kU.el hone) (bF (by omega) ?_)
    refine (ih (k - 1) a1 s1 (ts++[x]) (by omega) (by omega) (by omega) (λy hy=>(List.mem_append.1 hy).elim (ht y) (hone y)) (by simp;omega)).mono ?_
    rintro r ⟨a',s',ts',fs',hr,h1,h2,h3⟩
    exact ⟨a',s',ts',fs',hr,h1,by omega,h3⟩
   ·refine bJ hl (by omega) (by omega) (λp a1 s1 h1=>?_)
    refine (aHD hl ht (by omega) x4 x5 (.lst []) 3 p a1 s1 [] (by omega) (by omega) (by omega) (λx hx=>by cases hx) (by simp;omega)).mono ?_
    rintro r ⟨a',s',ts',fs',hr,h1,h2,h3⟩
    exact ⟨a',s',ts',fs',hr,h1,by omega,h3⟩
theorem aCJ {l : List Int} (hl : Bts l) {a s : Int} (h0 : 0≤a∧a≤800000000∧0≤s∧s<65521) : Ok (aHC l (a+3000000)) (mA (bI l) (.I a) (.I s)):=by
 rw [aAD]
 refine bJ hl (by omega) (by omega) (λp a1 s1 h1=>?_)
 refine (aPe hl (.lst []) (.lst []) 2 p a1 s1 [] (by omega) (by omega) (by omega) (λx hx=>by cases hx) (by simp;omega)).mono ?_
 rintro r ⟨a',s',ts',fs',hr,h1,h2,h3⟩
 exact ⟨a',s',ts',fs',hr,h1,by omega,h3⟩
theorem aOk {ts fs : R} (hf : ∀ x∈fs,mE x) (hn : fs.length≤100) (x3 x4 : PV) : ∀ (j i : Nat),fs.length - i=j→i≤fs.length→
 Ok (λr=>r = [.lst ts,.lst fs]) (jP (.I i) (.lst ts) (.lst fs) x3 x4 (.lst ts) (.lst (fs.take i))):=by
 intro j
 induction j with
 | zero=>
   intro i h1 h2
   rw [pB]
   have : i=fs.length:=by omega
   subst this
   refine dL (aH (aC (λh=>by omega) (λ_=>aB ?_)))
   rw [List.take_length]
 | succ j ih=>
   intro i h1 h2
   rw [pB]
   refine dL (aH (aC (λ_=>?_) (λh=>by omega)))
   refine uP (by omega) (by omega) (mE.el hf) (λx hx hi=>?_)
   obtain ⟨p,lc,cs,rfl,hp,hlc,hc,hc1,hc2⟩:=hf x hx
   refine aE rfl (aA rfl (aA rfl (aA rfl ?_)))
   refine jN (by omega) hc.el (aX rfl (aX rfl ?_))
   have hone : ∀ y∈[PV.agg [.I p,.I lc,.lst cs]],mE y:=λy hy=>by
    simp only [List.mem_singleton] at hy
    exact ⟨p,lc,cs,hy,hp,hlc,hc,hc1,hc2⟩
   refine fQ (by simp;omega) (mE.el hone) (aL (by omega) ?_)
   have htk : fs.take i++[PV.agg [.I p,.I lc,.lst cs]]=fs.take (i+1):=by
    have hi' : fs[i]? = some (.agg [.I p,.I lc,.lst cs]):=by simpa using hi
    rw [List.take_add_one,hi'];rfl
   rw [htk]
   exact ih (i+1) (by omega) (by omega)
theorem aQk {ts fs : R} (ht : ∀ x∈ts,kU x) (htn : ts.length≤10) (hf : ∀ x∈fs,mE x) (hn : fs.length≤100) :
 Ok (λr=>r = [.lst ts,.lst fs]) (pP (.agg [.lst ts,.lst fs])):=by
 rw [aAE]
 refine aE rfl (aA rfl (aA rfl ?_))
 refine jN (by omega) (kU.el ht) ?_
 have:=aOk (ts:=ts) hf hn (.lst []) (.lst []) fs.length 0 (by omega) (by omega)
 exact this
def nE (x : PV) : Prop:=∃ p lc : Int,∃ cs : R,x = .agg [.I p,.I lc,.lst cs]∧(-9223372036854775808≤p∧p≤9223372036854775807)∧(-9223372036854775808≤lc∧lc≤9223372036854775807)∧Cd cs∧(cs.length : Int)≤200000000
theorem mE.toFun {x : PV} (h : mE x) : nE x:=by
 obtain ⟨p,lc,cs,rfl,h1,h2,h3,h4,h5⟩:=h
 exact ⟨p,lc,cs,rfl,by omega,by omega,h3,by omega⟩
theorem nE.el {fs : R} (h : ∀ x∈fs,nE x) : ∀ x∈fs,x.isEl 3 true=true:=by
 intro x hx
 obtain ⟨p,lc,cs,rfl,_⟩:=h x hx
 rfl
def aQl (l : List Int) (A : Int) (r : R) : Prop:=∃ a s : Int,∃ ts fs : R,r = [.agg [.lst ts,.lst fs],bI l,.I a,.I s]∧0≤a∧a≤A∧0≤s∧s<65521∧(∀ x∈ts,kU x)∧ts.length≤100∧(∀ x∈fs,nE x)∧fs.length≤100∧1≤fs.length
theorem aI1 : ∀ {ts : R},(∀ x∈ts,kU x)→PV.flatEs false [] ts=true
 | [],_=>by simp [PV.flatEs]
 | x::r,h=>by
   obtain ⟨b,rfl,_⟩:=h x List.mem_cons_self
   simp [PV.flatEs,PV.flatE,PV.flat,aI1 (λy hy=>h y (List.mem_cons_of_mem _ hy))]
theorem aI2 : ∀ {cs : R},Cd cs→PV.flatEs true [] cs=true
 | [],_=>by simp [PV.flatEs]
 | x::r,h=>by
   obtain ⟨o,a,rfl,_⟩:=h x List.mem_cons_self
   simp [PV.flatEs,PV.flatE,PV.flatCs,PV.flat,aI2 (λy hy=>h y (List.mem_cons_of_mem _ hy))]
theorem aI3 : ∀ {fs : R},(∀ x∈fs,nE x)→PV.flatEs true [.leaf,.leaf,.own 2 16 true []] fs=true
 | [],_=>by simp [PV.flatEs]
 | x::r,h=>by
   obtain ⟨p,lc,cs,rfl,_,_,hc,_⟩:=h x List.mem_cons_self
   simp [PV.flatEs,PV.flatE,PV.flatCs,PV.flat,aI2 hc,aI3 (λy hy=>h y (List.mem_cons_of_mem _ hy))]
theorem fZ {fs : R} (hf : ∀ x∈fs,nE x) {P : R→Prop} {k : PV→OR} {i : Int} {x : PV} (h0 : 0≤i) (hx : fs[i.toNat]? = some x) (h : Ok P (k x)) : Ok P (bd (PV.at_ 3 true (.lst fs) (.I i)) k):=by
 refine uP h0 (by have:=(List.getElem?_eq_some_iff.1 hx).1;omega) (nE.el hf) (λy _ hy=>?_)
 rw [hx] at hy
 cases hy
 exact h
theorem aPf {P : R→Prop} {k : PV→OR} {cs : R} {i n : Int} (hc : Cd cs) (h0 : 0≤i) (h1 : i<cs.length) (hn : -9223372036854775808≤n∧n≤9223372036854775807) (h : ∀ cs' : R,Cd cs'→(cs'.length : Int)=cs.length→Ok P (k (.lst cs'))) :
 Ok P (bd (PV.setCell 2 (.lst cs) (.I i) 0 (.I n)) k):=by
 have hlt : i.toNat<cs.length:=by omega
 have hx : cs[i.toNat]? = some cs[i.toNat]:=List.getElem?_eq_getElem hlt
 obtain ⟨o,a,he,ho,ha⟩:=hc _ (List.mem_of_getElem? hx)
 rw [he] at hx
 refine fT h0 hx rfl (by omega) rfl (h _ (λx hm=>?_) (by rw [List.length_set]))
 rcases List.mem_or_eq_of_mem_set hm with h | h
 ·exact hc x h
 ·exact ⟨n,a,h,hn,ha⟩
theorem nE.set {fs : R} (hf : ∀ x∈fs,nE x) {i : Nat} {y : PV} (hy : nE y) : ∀ x∈fs.set i y,nE x:=by
 intro x hx
 rcases List.mem_or_eq_of_mem_set hx with h | h
 ·exact hf x h
 ·rw [h];exact hy
section
variable {l : List Int} (hl : Bts l) {ts : R} (ht : ∀ x ∈ ts, kU x) (htn : ts.length ≤ 20)
include hl ht htn
theorem aOl (x3 x4 : PV) : ∀ (j : Nat) (a s : Int) (fs : R),13 - fs.length≤j→(0≤a∧a+j+1≤900000000∧0≤s∧s<65521)→(∀ x∈fs,nE x)→fs.length≤50→
 Ok (aQl l (a+j+1)) (nB (bI l) (.I a) (.I s) x3 x4 (.lst ts) (.lst fs)):=by
 intro j
 induction j with
 | zero=>
   intro a s fs hj h0 hf hn
   rw [sV]
   refine dL (bJ hl (by omega) (by omega) (λp a1 s1 h1=>?_))
   refine aL (by omega) (aH (aC (λ_=>by omega) (λ_=>?_)))
   exact aB ⟨a1,s1,ts,fs,rfl,by omega,by omega,by omega,by omega,ht,by omega,hf,by omega⟩
 | succ j ih=>
   intro a s fs hj h0 hf hn
   rw [sV]
   refine dL (bJ hl (by omega) (by omega) (λp a1 s1 h1=>?_))
   refine aL (by omega) (aH (aC (λ_=>?_) (λ_=>?_)))
   ·have hone : ∀ y∈[PV.agg [.I 0,.I 0,.lst [.agg [.I 4,.I 0],.agg [.I 25,.I 0]]]],nE y:=λy hy=>by
     simp only [List.mem_singleton] at hy
     exact ⟨0,0,_,hy,by omega,by omega,(Cd.one (by omega) (by omega)).append (Cd.one (by omega) (by omega)),by simp⟩
    refine fQ (by simp;omega) (nE.el hone) ?_
    refine (ih a1 s1 _ (by simp;omega) (by omega) (λx hx=>(List.mem_append.1 hx).elim (hf x) (hone x)) (by simp;omega)).mono ?_
    rintro r ⟨a',s',ts',fs',hr,h1,h2,h3⟩
    exact ⟨a',s',ts',fs',hr,h1,by omega,h3⟩
   ·exact aB ⟨a1,s1,ts,fs,rfl,by omega,by omega,by omega,by omega,ht,by omega,hf,by omega⟩
theorem aPg (x3 x4 : PV) (f o i : Int) (hf0 : 0≤f) (ho : -9223372036854775808≤o∧o≤9223372036854775807) (hi : -9223372036854775808≤i∧i≤9223372036854775807) :
 ∀ (j : Nat) (a s : Int) (fs : R) (p lc : Int) (cs : R),fs[f.toNat]? = some (.agg [.I p,.I lc,.lst cs])→121 - cs.length≤j→(0≤a∧a+j+1≤900000000∧0≤s∧s<65521)→(∀ x∈fs,nE x)→fs.length≤50→
 Ok (aQl l (a+j+1)) (nZ (.I f) (bI l) (.I a) (.I s) (.I o) (.I i) x3 x4 (.lst ts) (.lst fs)):=by
 intro j
 induction j with
 | zero=>
   intro a s fs p lc cs hx hj h0 hf hn
   rw [tS]
   have hlt:=(List.getElem?_eq_some_iff.1 hx).1
   refine dF hf0 (by omega) (fZ hf hf0 hx (fZ hf hf0 hx (aA rfl (dL (bJ hl (by omega) (by omega) (λq a1 s1 h1=>?_))))))
   refine aL (by omega) (aH (aC (λ_=>by omega) (λ_=>?_)))
   exact aB ⟨a1,s1,ts,fs,rfl,by omega,by omega,by omega,by omega,ht,by omega,hf,by omega⟩
 | succ j ih=>
   intro a s fs p lc cs hx hj h0 hf hn
   rw [tS]
   have hlt:=(List.getElem?_eq_some_iff.1 hx).1
   obtain ⟨p',lc',cs',he,hp,hlc,hc,hcl⟩:=hf _ (List.mem_of_getElem? hx)
   cases he
   refine dF hf0 (by omega) (fZ hf hf0 hx (fZ hf hf0 hx (aA rfl (dL (bJ hl (by omega) (by omega) (λq a1 s1 h1=>?_))))))
   refine aL (by omega) (aH (aC (λ_=>?_) (λ_=>?_)))
   ·refine dF hf0 (by omega) (fZ hf hf0 hx (fZ hf hf0 hx (aA rfl (fZ hf hf0 hx (aA rfl ?_)))))
    refine fT hf0 hx rfl (by omega) rfl ?_
    refine fQ (by simp;omega) (Cd.one ho hi).el ?_
    refine dF hf0 (by rw [List.length_set];omega) ?_
    refine fT (cs:=[.I p,.I lc,.hole]) hf0 (List.getElem?_set_self hlt) rfl (by omega) rfl ?_
    rw [List.set_set]
    have hcode : Cd (cs++[.agg [.I o,.I i]]):=hc.append (Cd.one ho hi)
    refine (ih a1 s1 _ p lc (cs++[.agg [.I o,.I i]]) (List.getElem?_set_self hlt) (by simp;omega) (by omega) (nE.set hf ⟨p,lc,_,rfl,hp,hlc,hcode,by simp;omega⟩) (by rw [List.length_set];exact hn)).mono ?_
    rintro r ⟨a',s',ts',fs',hr,h1,h2,h3⟩
    exact ⟨a',s',ts',fs',hr,h1,by omega,h3⟩
   ·exact aB ⟨a1,s1,ts,fs,rfl,by omega,by omega,by omega,by omega,ht,by omega,hf,by omega⟩
end
theorem aI4 : ∀ x∈[PV.str (bs [113,34]),PV.str (bs [10]),PV.str (bs [48,49,50,51,52,53,54,55,56,57,48,49,50,51,52,53,54,55,56,57,48,49,50,51,52,53,54,55,56,57,48,49,50,51,52,53,54,55,56,57,48,49,50,51,52,53,54,55,56,57,48,49,50,51,52,53,54,55,56,57,48]),PV.str (bs [195,169])],kU x:=by
 intro x hx
 simp only [List.mem_cons,List.not_mem_nil,or_false] at hx
 rcases hx with rfl | rfl | rfl | rfl<;>exact ⟨_,rfl,Nat.le_of_ble_eq_true rfl⟩
set_option maxRecDepth 100000 in
set_option maxHeartbeats 4000000 in
theorem aPh {l : List Int} (hl : Bts l) {ts fs : R} (ht : ∀ x∈ts,kU x) (htn : ts.length≤10) (hh : ∀ x∈fs,mE x) (hn1 : 1≤fs.length) (hn : fs.length≤10) {a s : Int} (h0 : 0≤a∧a≤850000000∧0≤s∧s<65521) :
 Ok (aQl l (a+1000)) (xS (.lst ts) (.lst fs) (bI l) (.I a) (.I s)):=by
 have hf : ∀ x∈fs,nE x:=λx hx=>(hh x hx).toFun
 rw [aEW]
 refine aG (aQk ht htn hh (by omega)) (λr hr=>?_)
 subst hr
 refine kO (aI1 ht) (kO (aI3 hf) ?_)
 refine dL (bJ hl (by omega) (by omega) (λf a1 s1 h1=>?_))
 have hlt : f.toNat<fs.length:=by omega
 have hx : fs[f.toNat]? = some fs[f.toNat]:=List.getElem?_eq_getElem hlt
 obtain ⟨p,lc,cs,he,hp,hlc,hc,hc1,hcl⟩:=hh _ (List.mem_of_getElem? hx)
 rw [he] at hx
 refine dF (by omega) (by omega) (fZ hf (by omega) hx (fZ hf (by omega) hx (aA rfl (dL (bJ hl (by omega) (by omega) (λi a2 s2 h2=>?_))))))
 refine bJ hl (by omega) (by omega) (λq a3 s3 h3=>?_)
 have hset : ∀ cs' : R,Cd cs'→(cs'.length : Int)≤cs.length→∀ x∈fs.set f.toNat (.agg [.I p,.I lc,.lst cs']),nE x:=λcs' h1 h2=>nE.set hf ⟨p,lc,cs',rfl,by omega,by omega,h1,by omega⟩
 refine aI (aC (λ_=>?_) (λ_=>?_))
 ·refine dF (by omega) (by omega) (fZ hf (by omega) hx (bJ hl (by omega) (by omega) (λw a4 s4 h4=>?_)))
  refine bF (by omega) (fZ hf (by omega) hx (aA rfl (dF (by omega) (by omega) (fZ hf (by omega) hx (aA rfl (aX rfl (fZ hf (by omega) hx (aA rfl ?_))))))))
  refine aPf hc (by omega) (by omega) (by omega) (λcs' hc' hl'=>fZ hf (by omega) hx (aA rfl ?_))
  refine fT (by omega) hx rfl (by omega) rfl ?_
  exact aB ⟨a4,s4,ts,_,rfl,by omega,by omega,by omega,by omega,ht,by omega,hset cs' hc' (by omega),by rw [List.length_set];omega⟩
 refine aI (aC (λ_=>?_) (λ_=>?_))
 ·refine dF (by omega) (by omega) (fZ hf (by omega) hx (aE0 hl (by omega) (λw a4 s4 h4=>?_)))
  refine fZ hf (by omega) hx (aA rfl (dF (by omega) (by omega) (fZ hf (by omega) hx (aA rfl (aX rfl (fZ hf (by omega) hx (aA rfl ?_)))))))
  refine iG hc (by omega) (by omega) (by omega) (λcs' hc' hl'=>fZ hf (by omega) hx (aA rfl ?_))
  refine fT (by omega) hx rfl (by omega) rfl ?_
  exact aB ⟨a4,s4,ts,_,rfl,by omega,by omega,by omega,by omega,ht,by omega,hset cs' hc' (by omega),by rw [List.length_set];omega⟩
 refine aI (aC (λ_=>?_) (λ_=>?_))
 ·refine bJ hl (by omega) (by omega) (λw a4 s4 h4=>?_)
  refine bF (by omega) (dF (by omega) (by omega) (aX rfl ?_))
  refine fT (by omega) hx rfl (by omega) rfl ?_
  exact aB ⟨a4,s4,ts,_,rfl,by omega,by omega,by omega,by omega,ht,by omega,nE.set hf ⟨w - 1,lc,cs,rfl,by omega,by omega,hc,by omega⟩,by rw [List.length_set];omega⟩
 refine aI (aC (λ_=>?_) (λ_=>?_))
 ·refine bJ hl (by omega) (by omega) (λw a4 s4 h4=>?_)
  refine dF (by omega) (by simp;omega) (pM rfl (by omega) (by simp;omega) (λy hy=>?_))
  refine dF (by omega) (by omega) (aX rfl ?_)
  refine fT (by omega) hx rfl (by omega) rfl ?_
  exact aB ⟨a4,s4,ts,_,rfl,by omega,by omega,by omega,by omega,ht,by omega,nE.set hf ⟨p,y,cs,rfl,by omega,by omega,hc,by omega⟩,by rw [List.length_set];omega⟩
 refine aI (aC (λ_=>?_) (λ_=>?_))
 ·refine bJ hl (by omega) (by omega) (λw a4 s4 h4=>?_)
  refine dF (by omega) (by simp;omega) (uP (by omega) (by simp;omega) (kU.el aI4) (λy hy _=>?_))
  have hone : ∀ z∈[y],kU z:=λz hz=>by simp only [List.mem_singleton] at hz;rw [hz];exact aI4 y hy
  refine jN (by simp) (kU.el hone) (fQ (by simp;omega) (kU.el hone) ?_)
  exact aB ⟨a4,s4,_,fs,rfl,by omega,by omega,by omega,by omega,λz hz=>(List.mem_append.1 hz).elim (ht z) (hone z),by simp;omega,hf,by omega⟩
 refine aI (aC (λ_=>?_) (λ_=>?_))
 ·refine dF (by omega) (by omega) (fZ hf (by omega) hx (fZ hf (by omega) hx (aA rfl (eK hc (by omega) (by omega) (by omega) (λc1 k1 e1=>?_)))))
  refine dF (by omega) (by omega) (fZ hf (by omega) hx (aL (by omega) (fZ hf (by omega) hx (aA rfl (dL (eK hc (by omega) (by omega) (by omega) (λc2 k2 e2=>?_)))))))
  refine fZ hf (by omega) hx (aA rfl (fZ hf (by omega) hx (aA rfl (eK hc (by omega) (by omega) (by omega) (λc3 k3 e3=>?_)))))
  refine eK hc (by omega) (by omega) (by omega) (λc4 k4 e4=>fZ hf (by omega) hx (aA rfl ?_))
  refine fT (by omega) hx rfl (by omega) rfl ?_
  refine fQ (by omega) k3.el ?_
  refine dF (by omega) (by rw [List.length_set];omega) ?_
  refine fT (cs:=[.I p,.I lc,.hole]) (by omega) (List.getElem?_set_self hlt) rfl (by omega) rfl ?_
  rw [List.set_set]
  exact aB ⟨a3,s3,ts,_,rfl,by omega,by omega,by omega,by omega,ht,by omega,hset _ (k4.append k3) (by rw [List.length_append];omega),by rw [List.length_set];omega⟩
 refine aI (aC (λ_=>?_) (λ_=>?_))
 ·refine (aOl hl ht (by omega) (.lst []) (.lst []) 13 a3 s3 fs (by omega) (by omega) hf (by omega)).mono ?_
  rintro r ⟨a',s',ts',fs',hr,h1,h2,h3⟩
  exact ⟨a',s',ts',fs',hr,h1,by omega,h3⟩
 ·refine dF (by omega) (by omega) (fZ hf (by omega) hx (fZ hf (by omega) hx (aA rfl (dF (by omega) (by omega) (fZ hf (by omega) hx (aA rfl ?_))))))
  refine uP (by omega) (by omega) hc.el (λy hy _=>?_)
  obtain ⟨o,b,rfl,ho,hb⟩:=hc y hy
  refine aE rfl (aA rfl (aA rfl ?_))
  refine (aPg hl ht (by omega) (.lst []) (.lst []) f o b (by omega) ho hb 121 a3 s3 fs p lc cs hx (by omega) (by omega) hf (by omega)).mono ?_
  rintro r ⟨a',s',ts',fs',hr,h1,h2,h3⟩
  exact ⟨a',s',ts',fs',hr,h1,by omega,h3⟩
theorem aMA {l : List Int} (hl : Bts l) {n a s : Int} (hn : 1≤n∧n≤1000) (h0 : 0≤a∧a≤800000000∧0≤s∧s<65521) : Ok (aQl l (a+4000000)) (tI (.I n) (bI l) (.I a) (.I s)):=by
 rw [aDk]
 refine aG (aCJ hl h0) ?_
 rintro r ⟨a1,s1,ts,fs,rfl,h1,h2,h3,h4,ht,htn,hf,hn1,hn2⟩
 refine aE rfl (aA rfl (aA rfl ?_))
 refine lD hl (by omega) (by omega) (λb a2 s2 h5=>aQ (λ_=>?_) (λ_=>?_))
 ·refine aG (aPh hl ht htn hf hn1 hn2 (by omega)) ?_
  rintro r ⟨a3,s3,ts3,fs3,rfl,g1,g2,g3,g4,g5,g6,g7,g8⟩
  refine aE rfl (aA rfl (aA rfl ?_))
  exact aB ⟨a3,s3,ts3,fs3,rfl,by omega,by omega,by omega,by omega,g5,g6,g7,g8⟩
 ·exact aB ⟨a2,s2,ts,fs,rfl,by omega,by omega,by omega,by omega,ht,by omega,λx hx=>(hf x hx).toFun,by omega⟩
theorem aQm {l : List Int} (hl : Bts l) {P : R→Prop} {k : R→OR} (h : ∀ s : Int,0≤s∧s<65521→Ok P (k [bI l,.I 0,.I s])) : Ok P (bd (zR (bI l)) k):=by
 refine aG (Q:=λr=>∃ s : Int,r = [bI l,.I 0,.I s]∧0≤s∧s<65521) ?_ (λr ⟨s,hr,hs⟩=>by rw [hr];exact h s hs)
 rw [aF2]
 refine cG (jB (by omega) (by omega) (aL (by omega) (aX rfl (aX rfl (aB ⟨_,rfl,by omega,by omega⟩)))))
def aRH (x : PV) : Prop:=∃ ts fs : R,x = .agg [.lst ts,.lst fs]∧(∀ x∈ts,kU x)∧ts.length≤100∧(∀ x∈fs,nE x)∧fs.length≤100∧1≤fs.length
def Byt (l : List Int) : Prop:=∀ x∈l,0≤x∧x≤255
theorem aNi : ∀ {ts : R},(∀ x∈ts,kU x)→∃ l : List ByteArray,ts=l.map PV.str∧∀ t∈l,t.size≤1000
 | [],_=>⟨[],rfl,λt ht=>by cases ht⟩
 | x::r,h=>by
   obtain ⟨b,rfl,hb⟩:=h x List.mem_cons_self
   obtain ⟨l,rfl,hl⟩:=aNi (λy hy=>h y (List.mem_cons_of_mem _ hy))
   refine ⟨b::l,rfl,λt ht=>?_⟩
   rcases List.mem_cons.1 ht with rfl | ht
   ·exact hb
   ·exact hl t ht
theorem aNj : ∀ {cs : R},Cd cs→∃ l : List cK,cs=l.map cK.pv
 | [],_=>⟨[],rfl⟩
 | x::r,h=>by
   obtain ⟨o,a,rfl,_⟩:=h x List.mem_cons_self
   obtain ⟨l,rfl⟩:=aNj (λy hy=>h y (List.mem_cons_of_mem _ hy))
   exact ⟨⟨o,a⟩::l,rfl⟩
theorem aNk : ∀ {fs : R},(∀ x∈fs,nE x)→∃ l : List dA,fs=l.map dA.pv∧∀ f∈l,f.code.length≤1000000000
 | [],_=>⟨[],rfl,λt ht=>by cases ht⟩
 | x::r,h=>by
   obtain ⟨p,lc,cs,rfl,_,_,hc,hl⟩:=h x List.mem_cons_self
   obtain ⟨l,rfl,hl2⟩:=aNk (λy hy=>h y (List.mem_cons_of_mem _ hy))
   obtain ⟨c,rfl⟩:=aNj hc
   refine ⟨⟨p,lc,c⟩::l,rfl,λt ht=>?_⟩
   rcases List.mem_cons.1 ht with rfl | ht
   ·rw [List.length_map] at hl
    show c.length≤_
    omega
   ·exact hl2 t ht
theorem aQ3 {l : List Int} (hb : Byt l) {P : R→Prop} {k : R→OR} (h1 : Bts l→Ok P (k [.bool false])) (h2 : Ok P (k [.bool true])) : Ok P (bd (aHb (bI l)) k):=by
 refine aG (Q:=λr=>r = [.bool (decide ((1048576 : Int)<l.length))]) ?_ (λr hr=>?_)
 ·rw [aKY]
  exact cG (cN (aB rfl))
 ·subst hr
  by_cases h : (1048576 : Int)<l.length
  ·rw [decide_eq_true h];exact h2
  ·rw [decide_eq_false h];exact h1 ⟨hb,by omega⟩
end
noncomputable section
open Go Go.IntWalk
attribute [local irreducible] bd PV.ite PV.guardFlat PV.guardOwn PV.whole PV.one PV.cell PV.sub PV.at_ PV.len PV.slen PV.chr PV.beq PV.peq PV.ceq PV.bin PV.neg PV.not PV.conv PV.cut PV.scut PV.cat PV.setAt PV.setCell PV.ncopy PV.copyIn PV.zeros PV.toStr PV.toBytes PV.deref PV.isPtr PV.comp PV.inb PV.off PV.imin PV.imax PV.sel PV.apply PV.isLst PV.isInt PV.ix PV.nilT
def aAz (m : eN) : Bool:=m.okB&&(bad m.funcs).isNone
theorem aAg {m : eN} (hs : m.sized) (h : aAz m=true) : eO m:=by
 simp only [aAz,Bool.and_eq_true,Option.isNone_iff_eq_none] at h
 exact ⟨hs,h.1,h.2⟩
theorem aOm {fs : List dA} {code : List cK} {d : List Int} {pc : Nat} {c : Int} (h : aEh fs code d pc=some c) : c≠0:=by
 unfold aEh at h
 repeat' split at h
 all_goals first
  | (cases h;done)
  | (injection h with h;omega)
theorem aLl {fs : List dA} {c : Int} {f pc : Nat} (h : bad fs=some (c,f,pc)) : c≠0:=by
 unfold bad at h
 obtain ⟨i,_,h⟩:=List.exists_of_findSome?_eq_some h
 unfold aIW at h
 split at h
 ·obtain ⟨j,_,h⟩:=List.exists_of_findSome?_eq_some h
  unfold aCH at h
  simp only [Option.map_eq_some_iff] at h
  obtain ⟨c',h1,h2⟩:=h
  injection h2 with h2 h3
  rw [← h2]
  exact aOm h1
 ·cases h
section
variable {P : R → Prop} {k : R → OR}
theorem aGl {m : eN} (hs : m.sized) (h : Ok P (k [.bool (aAz m)])) : Ok P (bd (qK m.pv) k):=by
 refine aG (Q:=λr=>r = [.bool (aAz m)]) ?_ (λr hr=>by rw [hr];exact h)
 rw [aFS]
 refine aE rfl (aA rfl (aA rfl (aG (aLa hs) (λr hr=>?_))))
 subst hr
 show Ok _ (bd (PV.cell m.verify 0) _)
 unfold eN.verify aAz
 cases ho : m.okB with
 | false=>exact aA (y:=.I 1) rfl (aI (aB rfl))
 | true=>
   simp only [if_true,Bool.true_and]
   cases hb : bad m.funcs with
   | none=>exact aA (y:=.I 0) rfl (aI (aB rfl))
   | some p=>
     obtain ⟨c,f,pc⟩:=p
     have:=aLl hb
     refine aA (y:=.I c) rfl (aI (aB ?_))
     rw [decide_eq_false this];rfl
theorem aLm {m : eN} (hs : m.sized) (h : Ok P (k [.bool (aAz m)])) : Ok P (bd (aA9 m.pv) k):=by
 refine aG (Q:=λr=>r = [.bool (aAz m)]) ?_ (λr hr=>by rw [hr];exact h)
 rw [aHe]
 refine aE rfl (aA rfl (aA rfl (aG (aLb hs) (λr hr=>?_))))
 subst hr
 show Ok _ (bd (PV.whole 3 m.verify) _)
 have eq : ∀ a b c : Int,(PV.ceq [1,1,1] .eql (.agg [.I a,.I b,.I c]) (.agg [.I 0,.I 0,.I 0]))=some (.bool (decide (a=0)&&(decide (b=0)&&decide (c=0)))):=by
  intro a b c
  simp [PV.ceq,PV.eqCells,PV.eqScalar,PV.eqOr]
  rfl
 unfold eN.verify aAz
 cases ho : m.okB with
 | false=>exact aE (cs:=[.I 1,.I 0,.I 0]) rfl (aA rfl (aA rfl (aA rfl (dP _ (eq _ _ _) (aB rfl)))))
 | true=>
   simp only [if_true,Bool.true_and]
   cases hb : bad m.funcs with
   | none=>exact aE (cs:=[.I 0,.I 0,.I 0]) rfl (aA rfl (aA rfl (aA rfl (dP _ (eq _ _ _) (aB rfl)))))
   | some p=>
     obtain ⟨c,f,pc⟩:=p
     have:=aLl hb
     refine aE (cs:=[.I c,.I f,.I pc]) rfl (aA rfl (aA rfl (aA rfl (dP _ (eq _ _ _) (aB ?_)))))
     rw [decide_eq_false this];rfl
end
section
variable {P : R → Prop} {m : eN}
theorem aLn {kp : PV→OR} {i : Int} (h0 : 0≤i∧i<m.funcs.length) (h : ∀ lc,Ok P (kp (.agg [.I (lR m.funcs i),lc,.lst ((dE m.funcs i).map cK.pv)]))) : Ok P (bd (PV.at_ 3 true (.lst (m.funcs.map dA.pv)) (.I i)) kp):=by
 obtain ⟨j,rfl⟩:=Int.eq_ofNat_of_zero_le h0.1
 have hj : j<m.funcs.length:=by omega
 refine aK hj (λ_=>rfl) ?_
 have:=h (.I m.funcs[j].lc)
 have e1 : dE m.funcs j=m.funcs[j].code:=by simp [dE,List.getElem?_eq_getElem hj]
 have e2 : lR m.funcs j=m.funcs[j].p:=by simp [lR,List.getElem?_eq_getElem hj]
 rw [e1,e2] at this
 exact this
theorem sF {kp : PV→OR} {i : Int} (h0 : 0≤i∧i<m.funcs.length) (h : Ok P (kp (.agg [.I (lR m.funcs i),.I (aEf m.funcs i),.lst ((dE m.funcs i).map cK.pv)]))) : Ok P (bd (PV.at_ 3 true (.lst (m.funcs.map dA.pv)) (.I i)) kp):=by
 obtain ⟨j,rfl⟩:=Int.eq_ofNat_of_zero_le h0.1
 have hj : j<m.funcs.length:=by omega
 refine aK hj (λ_=>rfl) ?_
 have e1 : dE m.funcs j=m.funcs[j].code:=by simp [dE,List.getElem?_eq_getElem hj]
 have e2 : lR m.funcs j=m.funcs[j].p:=by simp [lR,List.getElem?_eq_getElem hj]
 have e3 : aEf m.funcs j=m.funcs[j].lc:=by simp [aEf,List.getElem?_eq_getElem hj]
 rw [e1,e2,e3] at h
 exact h
def vmZ : eA:=⟨[],[],0,[],0,0,dO,0⟩
end
def aLo (m : eN) : Nat→eA→eA
 | 0,v=>v
 | n+1,v=>aLo m n (pC m v)
def lT (m : eN) (args : List cB) : eA:=⟨[aAK m.funcs 0 args],[],0,[],0,0,dO,0⟩
def rB (m : eN) (args : List cB) : Bool:=aAz m&&(decide ((args.length : Int)=lR m.funcs 0)&&args.all (cD m.funcs.length 0))
def aJ1 (m : eN) (args : List cB) (fuel : Int) : Bool:=rB m args&&lV fuel 0 50000
def aHE (m : eN) (args : List cB) (fuel : Int) : eA:=if aJ1 m args fuel then aLo m fuel.toNat (lT m args) else vmZ
theorem aHF {m : eN} {v : eA} (h : v.st≠0) : pC m v=v:=by unfold pC;rw [if_pos h]
theorem aI5 {m : eN} {v : eA} (h : v.st≠0) : ∀ n,aLo m n v=v
 | 0=>rfl
 | n+1=>by rw [aLo,aHF h,aI5 h n]
theorem aMB {m : eN} {v : eA} {fs0 : List bT} (a : aEe) : (aF8 m v fs0 a).steps=v.steps+1:=by
 cases a with
 | ret x=>simp only [aF8];split<;>rfl
 | _=>rfl
theorem aLp {m : eN} {v : eA} (hs : v.steps≤50000) : v.steps≤(pC m v).steps∧(pC m v).steps≤v.steps+1:=by
 unfold pC
 split
 ·omega
 ·split
  ·omega
  ·split
   ·omega
   ·rw [aMB];omega
section
variable {P : R → Prop} {k : R → OR}
theorem aI6 {m : eN} {args : List cB} (hs : m.sized) (h : rB m args=true) : eO m∧VmI m (lT m args):=by
 simp only [rB,Bool.and_eq_true,decide_eq_true_eq,List.all_eq_true] at h
 have g:=aAg hs h.1
 obtain ⟨f1,f2,ff⟩:=g.fit
 have h0 : (0 : Int)≤0∧(0 : Int)<m.funcs.length:=by omega
 refine ⟨g,⟨by simp [lT],by simp [lT],by simp [lT]⟩,by simp [lT],by simp [lT],by simp [lT],λfs0 f hf=>?_⟩
 obtain ⟨rfl,rfl⟩:=aEl (a:=[]) (show []++[aAK m.funcs 0 args]=fs0++[f] from hf)
 exact ⟨aLh g h0 h.2.1 h.2.2,by simp⟩
end
section
variable {P : R → Prop} {k : R → OR}
end
section
variable {P : R → Prop} {k : R → OR}
end
def TC (a : ByteArray) : Prop:=a.data.toList.all chB=true
theorem aDs {a b : ByteArray} (ha : TC a) (hb : TC b) : TC (a++b):=by
 unfold TC at *
 rw [ByteArray.data_append,Array.toList_append,List.all_append,ha,hb];rfl
theorem aMC : ∀ n : Nat,n<10→TC (dig n):=by
 intro n h
 have : ∀ n : Fin 10,(dig (n.val : Int)).data.toList.all chB=true:=by decide
 exact this ⟨n,h⟩
theorem aNl : ∀ (j n : Nat),n<10 ^ (j+1)→TC (aBv j n)
 | 0,n,h=>aMC n (by simpa using h)
 | j+1,n,h=>by
   unfold aBv
   split
   ·exact aMC n (by omega)
   ·have e1 : (n : Int) / 10=((n / 10 : Nat) : Int):=by omega
    have e2 : (n : Int) % 10=((n % 10 : Nat) : Int):=by omega
    rw [e1,e2]
    exact aDs (aNl j (n / 10) (by rw [Nat.pow_succ] at h;omega)) (aMC _ (by omega))
theorem aJ2 {n : Int} (h0 : 0≤n) (h : n≤1000000000) : TC (aBv 18 n):=by
 obtain ⟨k,rfl⟩:=Int.eq_ofNat_of_zero_le h0
 exact aNl 18 k (by omega)
theorem aFb {n : Int} (h : -1000000000≤n∧n≤1000000000) : TC (oG n):=by
 have m45 : TC (bs [45]):=by unfold TC;decide
 unfold oG
 split
 ·rename_i h1
  split
  ·refine aDs (aDs m45 (aJ2 ?_ ?_)) (aJ2 ?_ ?_)
   ·have:=Int.tdiv_eq_ediv_of_nonneg (a:=-n) (b:=10) (by omega)
    rw [Int.neg_tdiv] at this
    omega
   ·have:=Int.tdiv_eq_ediv_of_nonneg (a:=-n) (b:=10) (by omega)
    rw [Int.neg_tdiv] at this
    omega
   ·have:=Int.tmod_eq_emod_of_nonneg (a:=-n) (b:=10) (by omega)
    rw [Int.neg_tmod] at this
    omega
   ·have:=Int.tmod_eq_emod_of_nonneg (a:=-n) (b:=10) (by omega)
    rw [Int.neg_tmod] at this
    omega
  ·exact aDs m45 (aJ2 (by omega) (by omega))
 ·exact aJ2 (by omega) (by omega)
theorem aBI (n : Int) : (oG n).size≤50:=by
 unfold oG
 have:=λn=>hX 18 n
 split
 ·split
  ·have:=hX 18 (-(n.tdiv 10))
   have:=hX 18 (-(n.tmod 10))
   have e : (bs [45]).size=1:=rfl
   rw [ByteArray.size_append,ByteArray.size_append];omega
  ·have:=hX 18 (-n)
   have e : (bs [45]).size=1:=rfl
   rw [ByteArray.size_append];omega
 ·have:=hX 18 n
  omega
theorem aMD {nf : Int} {v : cB} {hp : List (List cB)} (hr : ∀ i : Nat,(hp[i]?.getD []).length≤6) (hf : nf≤1000) (h : cD nf hp.length v=true) : dC (lS v hp)=true:=by
 have mk : ∀ s : ByteArray,s.size≤60→TC s→dC s=true:=λs h1 h2=>by
  unfold dC
  rw [decide_eq_true (by omega),h2];rfl
 have hn : (v.k=1→-1000000000≤v.n∧v.n≤1000000000)∧(v.k=5→0≤v.n∧v.n≤nf - 1):=by
  have hv:=h
  unfold cD at hv
  repeat' split at hv
  all_goals first
   | (cases hv;done)
   | (simp only [dI,bH,Bool.and_eq_true,decide_eq_true_eq] at hv;omega)
 unfold lS
 split
 ·decide
 rename_i k0
 split
 ·rename_i k1
  exact mk _ (by have:=aBI v.n;omega) (aFb (hn.1 k1))
 rename_i k1
 split
 ·split<;>decide
 rename_i k2
 split
 ·rename_i k3
  exact aE8 h k3
 rename_i k3
 split
 ·rename_i k5
  have h':=hn.2 k5
  refine mk _ ?_ (aDs (by unfold TC;decide) (aFb (by omega)))
  have:=aBI v.n
  have e : (bs [102,117,110]).size=3:=rfl
  rw [ByteArray.size_append];omega
 rename_i k5
 split
 ·have:=hr v.n.toNat
  refine mk _ ?_ (aDs (aDs (by unfold TC;decide) (aFb (by omega))) (by unfold TC;decide))
  have:=aBI ((hp[v.n.toNat]?.getD []).length : Int)
  have e : (bs [123]).size=1:=rfl
  have e' : (bs [125]).size=1:=rfl
  rw [ByteArray.size_append,ByteArray.size_append];omega
 ·decide
def aOn : aEe→Prop
 | .trap c=>1≤c∧c≤8
 | .next _ _ _ out=>∀ s∈out,dC s=true
 | _=>True
theorem aOo (o : Int) (a b : cB) : 0≤(aD7 o a b).2∧(aD7 o a b).2≤8:=by
 unfold aD7
 repeat' split
 all_goals simp
theorem aPi (o : Int) (a b : cB) : 0≤(zC o a b).2∧(zC o a b).2≤8:=by
 unfold zC
 repeat' split
 all_goals first
  | exact aOo _ _ _
  | simp
theorem aOp (a : cB) : 0≤(aDp a).2∧(aDp a).2≤8:=by
 unfold aDp
 split<;>simp
theorem ifk {c : Prop} [Decidable c] {a b : aEe} (h1 : c→aOn a) (h2 : ¬ c→aOn b) : aOn (if c then a else b):=by
 split
 ·exact h1 (by assumption)
 ·exact h2 (by assumption)
theorem aRq {m : eN} {fr : bT} {took : List cB} {depth : Nat} {hp : List (List cB)} {made : Int} {out : List ByteArray} {x : cK} (ho : ∀ s∈out,dC s=true) (ha : dC (lS (took.headD dO) hp)=true) :
 aOn (rA m fr took depth hp made out x):=by
 have t : ∀ c : Int,1≤c→c≤8→aOn (.trap c):=λc h1 h2=>⟨h1,h2⟩
 unfold rA
 simp only
 repeat' (refine ifk (λ_=>?_) (λ_=>?_))
 all_goals first
  | exact ho
  | exact True.intro
  | exact t _ (by omega) (by omega)
  | (have:=aPi x.o (took.headD dO) (took.tail.headD dO);exact t _ (by omega) (by omega))
  | (have:=aOp (took.headD dO);exact t _ (by omega) (by omega))
  | (refine (?_ : ∀ s∈out++[_],dC s=true)
     intro s hs
     rcases List.mem_append.1 hs with hs | hs
     ·exact ho s hs
     ·rw [List.mem_singleton] at hs
      rw [hs];exact ha)
structure VmK (m : eN) (v : eA) : Prop extends VmI m v where
 outs : ∀ s∈v.out,dC s=true
 vok : lE m v.hp.length v.val
 end_ : (v.st=0∧v.tr=0∧v.val=dO)∨(v.st=2∧1≤v.tr∧v.tr≤8∧v.val=dO∧v.fr≠[])∨(v.st=1∧v.tr=0∧v.fr = [])
theorem VmK.step {m : eN} (g : eO m) {v : eA} (h : VmK m v) : VmK m (pC m v):=by
 by_cases h0 : v.st≠0
 ·rw [aHF h0];exact h
 have h0 : v.st=0:=by omega
 by_cases h5 : v.steps=50000
 ·have : pC m v=v:=by unfold pC;rw [if_neg (by omega),if_pos h5]
  rw [this];exact h
 have I':=h.toVmI.step g
 obtain ⟨fs0,f,G⟩:=h.goes g h0
 obtain ⟨t,low⟩:=h.top fs0 f G.fr
 have hnf:=h.nfr
 rw [G.fr,List.length_append,List.length_singleton] at hnf
 have A:=aPb (fs0:=fs0) g h.toVmI t rfl hnf
 have K : aOn (aEg m v fs0 f):=by
  refine aRq h.outs (aMD (nf:=m.funcs.length) (λi=>(aJV h.hp i).1) (by have:=g.fit.2.1;omega) ?_)
  generalize hd : f.stk.drop (f.stk.length - (bZ m.funcs (nP m.funcs f)).1.toNat)=D
  cases D with
  | nil=>exact oH
  | cons y r=>exact t.vs y (List.mem_of_mem_drop (by rw [hd];simp))
 obtain ⟨e1,e2⟩ : v.tr=0∧v.val=dO:=by
  rcases h.end_ with e | e | e
  ·exact e.2
  ·omega
  ·omega
 have hst:=aE6 h0 h5 G.fr (m:=m)
 rw [hst] at I' ⊢
 cases ha : aEg m v fs0 f with
 | trap c=>
   rw [ha] at K I'
   exact ⟨I',h.outs,h.vok,.inr (.inl ⟨rfl,K.1,K.2,e2,by show v.fr≠[];rw [G.fr];simp⟩)⟩
 | next fr hp made out=>
   rw [ha] at K I' A
   have A : aLg m v f _ fr hp made out:=A
   exact ⟨I',K,sC (n:=v.hp.length) (by have:=A.n;show (v.hp.length : Int)≤hp.length;omega) h.vok,.inl ⟨h0,e1,e2⟩⟩
 | call fr gg=>
   rw [ha] at I'
   exact ⟨I',h.outs,h.vok,.inl ⟨h0,e1,e2⟩⟩
 | ret a=>
   rw [ha] at A I'
   have A : lE m v.hp.length a:=A
   by_cases hf : fs0 = []
   ·have e : aF8 m v fs0 (.ret a)=⟨[],v.hp,v.made,v.out,1,v.tr,a,v.steps+1⟩:=if_pos hf
    rw [e] at I' ⊢
    exact ⟨I',h.outs,A,.inr (.inr ⟨rfl,e1,rfl⟩)⟩
   ·have e : aF8 m v fs0 (.ret a)=⟨aFJ a fs0,v.hp,v.made,v.out,v.st,v.tr,v.val,v.steps+1⟩:=if_neg hf
    rw [e] at I' ⊢
    exact ⟨I',h.outs,h.vok,.inl ⟨h0,e1,e2⟩⟩
theorem VmK.runs {m : eN} (g : eO m) : ∀ (n : Nat) {v : eA},VmK m v→VmK m (aLo m n v)
 | 0,_,h=>h
 | n+1,_,h=>VmK.runs g n (h.step g)
theorem aQn {m : eN} {args : List cB} (hs : m.sized) (h : rB m args=true) : eO m∧VmK m (lT m args):=by
 obtain ⟨g,I⟩:=aI6 hs h
 exact ⟨g,⟨I,λs hs=>(by cases hs),oH,.inl ⟨rfl,rfl,rfl⟩⟩⟩
def aHG (m : eN) (v : eA) : R:=[.bool true,.lst (m.texts.map PV.str),.lst (m.funcs.map dA.pv),.lst (v.fr.map bT.pv),.lst (v.hp.map aR),.I v.made,.lst (v.out.map PV.str),.I v.st,.I v.tr,.I v.val.k,.I v.val.n,.str v.val.s,.I v.steps]
def aIs (m : eN) : PV:=.lst (m.funcs.map λf=>bD (kR m.funcs f.code))
section
variable {P : R → Prop} {k : R → OR} {m : eN}
theorem eO.b (g : eO m) : aAz m=true:=by simp [aAz,g.ok,g.bad]
theorem aHH (g : eO m) : Ok (λr=>r = [aIs m]) (zP m.pv):=by
 obtain ⟨f1,f2,ff⟩:=g.fit
 rw [aFT]
 refine aE rfl (aA rfl (aA rfl (aD ?_)))
 have loop : ∀ i,i≤m.funcs.length→Ok (λr=>r = [aIs m]) (mL (.I m.funcs.length) (.I i) (.lst (m.texts.map PV.str)) (.lst (m.funcs.map dA.pv)) (.lst ((m.funcs.take i).map λf=>bD (kR m.funcs f.code)))):=by
  refine cH (n:=m.funcs.length) (F:=λi=>mL (.I m.funcs.length) (.I i) (.lst (m.texts.map PV.str)) (.lst (m.funcs.map dA.pv)) (.lst ((m.funcs.take i).map λf=>bD (kR m.funcs f.code)))) (P:=λ_ r=>r = [aIs m]) ?_ (λi hi ih=>?_)
  ·rw [vK,List.take_length]
   exact aH (aC (λh=>by omega) (λ_=>aB rfl))
  ·rw [vK]
   refine aH (aC (λ_=>?_) (λh=>by omega))
   refine aG (aBB (T:=(.lst (m.texts.map PV.str))) (ff _ (List.getElem_mem hi)).1 hi rfl) (λr hr=>?_)
   rw [hr]
   refine fQ (by simp) (λx hx=>by simp only [hd,List.nil_append,List.mem_singleton] at hx;subst hx;rfl) (fQ (by simp;omega) (λx hx=>by simp only [hd,List.nil_append,List.mem_singleton] at hx;subst hx;rfl) (aL (by omega) ?_))
   rw [List.take_add_one,List.getElem?_eq_getElem hi,Option.toList_some,List.map_append] at ih
   exact ih
 exact loop 0 (by omega)
theorem aLq {hp : List (List cB)} (hn : hp.length≤120) (hr : ∀ r∈hp,r.length≤6) : Ok (λr=>r = [.bool true]) (wO (.lst (hp.map aR))):=by
 have loop : ∀ i,i≤hp.length→Ok (λr=>r = [.I (-1)]) (bP (.lst (hp.map aR)) (.fn 164 []) (.I hp.length) (.I i)):=by
  refine cH (n:=hp.length) (F:=λi=>bP (.lst (hp.map aR)) (.fn 164 []) (.I hp.length) (.I i)) (P:=λ_ r=>r = [.I (-1)]) ?_ (λi hi ih=>?_)
  ·rw [cW]
   exact aH (aC (λh=>by omega) (λ_=>aB rfl))
  ·rw [cW]
   refine aH (aC (λ_=>?_) (λh=>by omega))
   refine aK hi (λ_=>rfl) (uQ (o:=xQ (aR hp[i])) (Q:=λr=>r = [.bool false]) rfl ?_ (λr hr=>?_))
   ·rw [yR]
    have:=hr _ (List.getElem_mem hi)
    exact aE rfl (aA rfl (aY (cN (aB (by rw [decide_eq_false (by omega)])))))
   ·rw [hr]
    exact aT (aL (by omega) ih)
 rw [aBk]
 refine aD (fE (aC (λ_=>?_) (λh=>by omega)))
 refine aG (Q:=λr=>r = [.bool false]) ?_ (λr hr=>by rw [hr];exact bC (aB rfl))
 rw [gG]
 refine aG (Q:=λr=>r = [.I (-1)]) ?_ (λr hr=>by rw [hr];exact eQ (aB rfl))
 rw [hJ]
 exact aD (loop 0 (by omega))
theorem aME {v : eA} {x : cB} (hf : m.funcs.length≤1000) (hh : v.hp.length≤1000) (hx : lE m v.hp.length x) : Ok (λr=>r=aHG m v) (pZ (.I x.k) (.I x.n) (.str x.s) (.bool true) (.lst (m.texts.map PV.str)) (.lst (m.funcs.map dA.pv)) (.lst (v.fr.map bT.pv)) (.lst (v.hp.map aR)) (.I v.made) (.lst (v.out.map PV.str)) (.I v.st) (.I v.tr) (.I v.val.k) (.I v.val.n) (.str v.val.s) (.I v.steps)):=by
 have hs:=bM hx
 rw [aBq]
 refine bB (aD (aD (aG (aHy (v:=x) (nf:=m.funcs.length) (recs:=v.hp.length) (by omega) (by omega) (by omega)) (λr hr=>?_))))
 rw [hr,hx]
 exact aX rfl (aB rfl)
theorem aOq (g : eO m) {v : eA} (h : VmK m v) : Ok (λr=>r=aHG m v) (qN (.lst (v.fr.map bT.pv)) (.lst (v.hp.map aR)) (.I v.made) (.lst (v.out.map PV.str)) (.I v.st) (.I v.tr) (.I v.val.k) (.I v.val.n) (.str v.val.s) (.I v.steps) (.bool true) (.lst (m.texts.map PV.str)) (.lst (m.funcs.map dA.pv)) (.lst (v.fr.map bT.pv)) (.lst (v.hp.map aR)) (.I v.made) (.lst (v.out.map PV.str)) (.I v.st) (.I v.tr) (.I v.val.k) (.I v.val.n) (.str v.val.s) (.I v.steps)):=by
 have hf:=g.fit.2.1
 have z:=h.toVmI.sz g
 have zf:=z.f
 have zh:=z.h
 have inv : ∀ f∈v.fr,(∀ y∈f.loc++f.stk,lE m v.hp.length y)∧(f.loc++f.stk).length≤2000:=λf hf=>by
  have:=z.fl f hf
  refine ⟨λy hy=>?_,by rw [List.length_append];omega⟩
  rcases List.eq_nil_or_concat v.fr with h0 | ⟨fs0,f0,h0⟩
  ·rw [h0] at hf;cases hf
  ·obtain ⟨t,l⟩:=h.top fs0 f0 (by rw [h0];simp)
   rw [h0] at hf
   simp only [List.concat_eq_append,List.mem_append,List.mem_singleton] at hf
   rcases hf with hf | rfl
   ·rcases List.mem_append.1 hy with hy | hy
    ·exact (l f hf).vl y hy
    ·exact (l f hf).vs y hy
   ·rcases List.mem_append.1 hy with hy | hy
    ·exact t.vl y hy
    ·exact t.vs y hy
 have last : Ok (λr=>r=aHG m v) (dS (.lst (v.hp.map aR)) (.I v.hp.length) (.I v.hp.length) (.bool true) (.lst (m.texts.map PV.str)) (.lst (m.funcs.map dA.pv)) (.lst (v.fr.map bT.pv)) (.lst (v.hp.map aR)) (.I v.made) (.lst (v.out.map PV.str)) (.I v.st) (.I v.tr) (.I v.val.k) (.I v.val.n) (.str v.val.s) (.I v.steps) (.lst (v.fr.map bT.pv)) (.lst (v.hp.map aR)) (.I v.made) (.lst (v.out.map PV.str)) (.I v.st) (.I v.tr) (.I v.val.k) (.I v.val.n) (.str v.val.s) (.I v.steps)):=by
  rw [jQ]
  refine aH (aC (λh=>by omega) (λ_=>aG (aME (by omega) zh h.vok) (λr hr=>?_)))
  rw [hr]
  exact aB rfl
 have heap : ∀ i,i≤v.hp.length→Ok (λr=>r=aHG m v) (dS (.lst (v.hp.map aR)) (.I v.hp.length) (.I i) (.bool true) (.lst (m.texts.map PV.str)) (.lst (m.funcs.map dA.pv)) (.lst (v.fr.map bT.pv)) (.lst (v.hp.map aR)) (.I v.made) (.lst (v.out.map PV.str)) (.I v.st) (.I v.tr) (.I v.val.k) (.I v.val.n) (.str v.val.s) (.I v.steps) (.lst (v.fr.map bT.pv)) (.lst (v.hp.map aR)) (.I v.made) (.lst (v.out.map PV.str)) (.I v.st) (.I v.tr) (.I v.val.k) (.I v.val.n) (.str v.val.s) (.I v.steps)):=by
  refine cH (n:=v.hp.length) (F:=λi=>dS (.lst (v.hp.map aR)) (.I v.hp.length) (.I i) (.bool true) (.lst (m.texts.map PV.str)) (.lst (m.funcs.map dA.pv)) (.lst (v.fr.map bT.pv)) (.lst (v.hp.map aR)) (.I v.made) (.lst (v.out.map PV.str)) (.I v.st) (.I v.tr) (.I v.val.k) (.I v.val.n) (.str v.val.s) (.I v.steps) (.lst (v.fr.map bT.pv)) (.lst (v.hp.map aR)) (.I v.made) (.lst (v.out.map PV.str)) (.I v.st) (.I v.tr) (.I v.val.k) (.I v.val.n) (.str v.val.s) (.I v.steps)) (P:=λ_ r=>r=aHG m v) last (λi hi ih=>?_)
  obtain ⟨q1,q2⟩:=h.hp.recs _ (List.getElem_mem hi)
  rw [jQ]
  refine aH (aC (λ_=>?_) (λh=>by omega))
  refine aK hi (λ_=>rfl) (aE rfl (aA rfl (aY ?_)))
  have inner : ∀ j,j≤v.hp[i].length→Ok (λr=>r=aHG m v) (fK (.lst (v.hp.map aR)) (.I v.hp.length) (.I i) (aS v.hp[i]) (.I v.hp[i].length) (.I j) (.bool true) (.lst (m.texts.map PV.str)) (.lst (m.funcs.map dA.pv)) (.lst (v.fr.map bT.pv)) (.lst (v.hp.map aR)) (.I v.made) (.lst (v.out.map PV.str)) (.I v.st) (.I v.tr) (.I v.val.k) (.I v.val.n) (.str v.val.s) (.I v.steps) (.lst (v.fr.map bT.pv)) (.lst (v.hp.map aR)) (.I v.made) (.lst (v.out.map PV.str)) (.I v.st) (.I v.tr) (.I v.val.k) (.I v.val.n) (.str v.val.s) (.I v.steps)):=by
   refine cH (n:=v.hp[i].length) (F:=λj=>fK (.lst (v.hp.map aR)) (.I v.hp.length) (.I i) (aS v.hp[i]) (.I v.hp[i].length) (.I j) (.bool true) (.lst (m.texts.map PV.str)) (.lst (m.funcs.map dA.pv)) (.lst (v.fr.map bT.pv)) (.lst (v.hp.map aR)) (.I v.made) (.lst (v.out.map PV.str)) (.I v.st) (.I v.tr) (.I v.val.k) (.I v.val.n) (.str v.val.s) (.I v.steps) (.lst (v.fr.map bT.pv)) (.lst (v.hp.map aR)) (.I v.made) (.lst (v.out.map PV.str)) (.I v.st) (.I v.tr) (.I v.val.k) (.I v.val.n) (.str v.val.s) (.I v.steps)) (P:=λ_ r=>r=aHG m v) ?_ (λj hj ih'=>?_)
   ·rw [jR]
    exact aH (aC (λh=>by omega) (λ_=>aL (by omega) ih))
   ·rw [jR]
    refine aH (aC (λ_=>?_) (λh=>by omega))
    refine aK hj (λ_=>rfl) (aE rfl (aA rfl (aA rfl (aA rfl (aG (aME (by omega) zh (q2 _ (List.getElem_mem hj))) (λr hr=>?_))))))
    rw [hr]
    exact aL (by omega) ih'
  exact inner 0 (by omega)
 have frames : ∀ i,i≤v.fr.length→Ok (λr=>r=aHG m v) (fW (.lst (v.fr.map bT.pv)) (.I v.fr.length) (.I i) (.bool true) (.lst (m.texts.map PV.str)) (.lst (m.funcs.map dA.pv)) (.lst (v.fr.map bT.pv)) (.lst (v.hp.map aR)) (.I v.made) (.lst (v.out.map PV.str)) (.I v.st) (.I v.tr) (.I v.val.k) (.I v.val.n) (.str v.val.s) (.I v.steps) (.lst (v.fr.map bT.pv)) (.lst (v.hp.map aR)) (.I v.made) (.lst (v.out.map PV.str)) (.I v.st) (.I v.tr) (.I v.val.k) (.I v.val.n) (.str v.val.s) (.I v.steps)):=by
  refine cH (n:=v.fr.length) (F:=λi=>fW (.lst (v.fr.map bT.pv)) (.I v.fr.length) (.I i) (.bool true) (.lst (m.texts.map PV.str)) (.lst (m.funcs.map dA.pv)) (.lst (v.fr.map bT.pv)) (.lst (v.hp.map aR)) (.I v.made) (.lst (v.out.map PV.str)) (.I v.st) (.I v.tr) (.I v.val.k) (.I v.val.n) (.str v.val.s) (.I v.steps) (.lst (v.fr.map bT.pv)) (.lst (v.hp.map aR)) (.I v.made) (.lst (v.out.map PV.str)) (.I v.st) (.I v.tr) (.I v.val.k) (.I v.val.n) (.str v.val.s) (.I v.steps)) (P:=λ_ r=>r=aHG m v) ?_ (λi hi ih=>?_)
  ·rw [kK]
   exact aH (aC (λh=>by omega) (λ_=>aD (heap 0 (by omega))))
  obtain ⟨q2,q1⟩:=inv _ (List.getElem_mem hi)
  have zz:=z.fl _ (List.getElem_mem hi)
  rw [kK]
  refine aH (aC (λ_=>?_) (λh=>by omega))
  refine aK hi (λ_=>rfl) (aE rfl (aA rfl (aA rfl (aA rfl (aA rfl ?_)))))
  refine fQ (by simp) (λx hx=>by simp only [List.nil_append,List.mem_cons,List.not_mem_nil,or_false] at hx;rcases hx with rfl | rfl<;>rfl) ?_
  refine aNe (by omega) (by omega) (kO (pR _) (aY ?_))
  generalize hl : v.fr[i].loc++v.fr[i].stk=l at q1 q2
  have inner : ∀ j,j≤l.length→Ok (λr=>r=aHG m v) (fX (.lst (v.fr.map bT.pv)) (.I v.fr.length) (.I i) (.I l.length) (.I j) (.bool true) (.lst (m.texts.map PV.str)) (.lst (m.funcs.map dA.pv)) (.lst (v.fr.map bT.pv)) (.lst (v.hp.map aR)) (.I v.made) (.lst (v.out.map PV.str)) (.I v.st) (.I v.tr) (.I v.val.k) (.I v.val.n) (.str v.val.s) (.I v.steps) (.lst (v.fr.map bT.pv)) (.lst (v.hp.map aR)) (.I v.made) (.lst (v.out.map PV.str)) (.I v.st) (.I v.tr) (.I v.val.k) (.I v.val.n) (.str v.val.s) (.I v.steps) (aS l)):=by
   refine cH (n:=l.length) (F:=λj=>fX (.lst (v.fr.map bT.pv)) (.I v.fr.length) (.I i) (.I l.length) (.I j) (.bool true) (.lst (m.texts.map PV.str)) (.lst (m.funcs.map dA.pv)) (.lst (v.fr.map bT.pv)) (.lst (v.hp.map aR)) (.I v.made) (.lst (v.out.map PV.str)) (.I v.st) (.I v.tr) (.I v.val.k) (.I v.val.n) (.str v.val.s) (.I v.steps) (.lst (v.fr.map bT.pv)) (.lst (v.hp.map aR)) (.I v.made) (.lst (v.out.map PV.str)) (.I v.st) (.I v.tr) (.I v.val.k) (.I v.val.n) (.str v.val.s) (.I v.steps) (aS l)) (P:=λ_ r=>r=aHG m v) ?_ (λj hj ih'=>?_)
   ·rw [kL]
    exact aH (aC (λh=>by omega) (λ_=>aL (by omega) ih))
   ·rw [kL]
    refine aH (aC (λ_=>?_) (λh=>by omega))
    refine iV (by omega) (by omega) (aK hj (λ_=>rfl) (aE rfl (aA rfl (aA rfl (aA rfl (aG (aME (by omega) zh (q2 _ (List.getElem_mem hj))) (λr hr=>?_)))))))
    rw [hr]
    exact aL (by omega) ih'
  exact inner 0 (by omega)
 rw [xD]
 exact aD (frames 0 (by omega))
end
end
end Go.Proofs.YtllmobkkbpdchaaGreat
