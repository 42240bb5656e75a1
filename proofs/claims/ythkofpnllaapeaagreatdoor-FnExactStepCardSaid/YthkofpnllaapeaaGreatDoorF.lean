/-
  Texts of the proof, part 6: a value-level evaluator and its soundness, what the functions compute, laws about it.
  Conditions: none.
-/
import Derived.Test.YthkofpnllaapeaaGreatDoorE
import Derived.Lib.Strings
set_option linter.all false
namespace Go.Proofs.YthkofpnllaapeaaGreatDoor
noncomputable section
open Go Go.IntWalk
attribute [local irreducible] bd PV.ite PV.guardFlat PV.guardOwn PV.whole PV.one PV.cell PV.sub PV.at_ PV.len PV.slen PV.chr PV.beq PV.peq PV.ceq PV.bin PV.neg PV.not PV.conv PV.cut PV.scut PV.cat PV.setAt PV.setCell PV.ncopy PV.copyIn PV.zeros PV.toStr PV.toBytes PV.deref PV.isPtr PV.comp PV.inb PV.off PV.imin PV.imax PV.sel PV.apply PV.isLst PV.isInt PV.ix PV.nilT
section
variable {fs : List cD} {code : List bM} {T : PV} (F : Fit fs code)
include F
theorem aAs {f : Nat} (hf : f<fs.length) (hc : fs[f].code=code) : Ok (fun r=>r = [dN (iG fs code)]) (iV (.agg [T,.lst (fs.map cD.pv)]) (.int .i64 f)):=by
 have hn2:=F.n2
 have hn1:=F.n1
 rw [aCN]
 refine aD rfl (aA rfl (aA rfl (aS hf (fun _=>rfl) (aA (y:=.lst (code.map bM.pv)) (by rw [← hc];rfl) ?_))))
 have key:=eK (n:=code.length) (P:=fun _ r=>r = [dN (iG fs code)])
  (F:=fun i=>kG (.lst (code.map bM.pv)) (.int .i64 i) T (.lst (fs.map cD.pv)) (dN (List.replicate i (-1)))) ?_ ?_ 0 (by omega)
 ·exact key
 ·rw [pW]
  refine aE (aF (aC (fun h=>by omega) (fun _=>?_)))
  refine fY (by omega) (by rw [List.length_replicate];omega) (uL (i:=0) (by rw [List.length_replicate];omega) ?_)
  exact aMi F code.length _ (by have:=(yT.start (n:=code.length)).1;unfold nn;exact Nat.le_trans List.countP_le_length (by omega)) yT.start
 ·intro i hi ih
  rw [pW]
  refine aE (aF (aC (fun h=>?_) (fun h=>by omega)))
  refine qA (ys:=[-1]) (by rw [List.length_replicate];simp only [List.length_cons,List.length_nil];omega) (aN (by omega) ?_)
  rw [← List.replicate_succ']
  exact ih
end
section
variable {P : R → Prop} {k : PV → Option R}
theorem aAR {m n : Nat} {kk : IntKind} (h : n≤m) : PV.bound m (.int kk (n : Int))=some n:=by
 simp only [PV.bound]
 rw [if_pos (by omega),Int.toNat_natCast]
theorem aJV {xs ys : List PV} {lo hi : Nat} {k1 k2 : IntKind} (h1 : lo≤hi) (h2 : hi≤xs.length) (h3 : xs.length≤1000000000) (h : Ok P (k (.int .i64 (min (hi - lo) ys.length : Nat)))) :
 Ok P (bd (PV.ncopy (.lst xs) (.int k1 (lo : Int)) (.int k2 (hi : Int)) (.lst ys)) k):=
 dB _ (by
  simp only [PV.ncopy]
  rw [aAR (by omega),aAR (by omega)]
  simp only [PV.elems]
  rw [if_pos ⟨h1,h2⟩]) h
theorem aHV {s : Nat} {g : Bool} {xs ys : List PV} {lo hi : Nat} {k1 k2 : IntKind} (h1 : lo≤hi) (h2 : hi≤xs.length) (h3 : xs.length≤1000000000) (he : ∀ y∈ys,y.isEl s g=true)
 (h : Ok P (k (.lst (xs.take lo++ys.take (hi - lo)++xs.drop (lo+min (hi - lo) ys.length))))) :
 Ok P (bd (PV.copyIn s g (.lst xs) (.int k1 (lo : Int)) (.int k2 (hi : Int)) (.lst ys)) k):=
 dB _ (by
  simp only [PV.copyIn]
  rw [aAR (by omega),aAR (by omega)]
  simp only [PV.elems]
  rw [if_pos ⟨h1,h2,List.all_eq_true.2 he⟩]) h
theorem aJW {e n : Nat} {z : PV} {kk : IntKind} (h1 : n*e≤140737488355328) (h2 : n≤1000000000) (h : Ok P (k (.lst (List.replicate n z)))) : Ok P (bd (PV.zeros e z (.int kk (n : Int))) k):=
 dB _ (by
  simp only [PV.zeros]
  rw [if_pos ⟨by omega,by rw [Int.toNat_natCast];exact h1,by omega⟩,Int.toNat_natCast]) h
theorem aC8 {l : List Int} : ∀ x∈l.map (PV.int .i64),x.isEl 1 false=true:=by
 intro x hx
 obtain ⟨a,_,rfl⟩:=List.mem_map.1 hx
 rfl
end
theorem aJX {n : Nat} (hn : n≤1000) : ∀ (j a : Nat),n - a≤j→1≤a→a≤n→
 Ok (fun r=>r = [dN (List.replicate n (-1))]) (fA (.int .i64 a) (dN (List.replicate a (-1)++List.replicate (n - a) 0))):=by
 intro j
 induction j with
 | zero=>
   intro a h1 h2 h3
   have : a=n:=by omega
   subst this
   rw [kL]
   refine eH (aF (aC (fun h=>?_) (fun _=>aB ?_)))
   ·simp at h
   ·simp
 | succ j ih=>
   intro a h1 h2 h3
   rw [kL]
   have hl : (List.replicate a (-1 : Int)++List.replicate (n - a) 0).length=n:=by simp;omega
   have hlm : ((List.replicate a (-1 : Int)++List.replicate (n - a) 0).map (PV.int .i64)).length=n:=by rw [List.length_map,hl]
   have ht : (List.replicate a (-1 : Int)++List.replicate (n - a) 0).take a=List.replicate a (-1):=by
    rw [List.take_left' (by simp)]
   refine eH (aF (aC (fun h=>?_) (fun h=>aB ?_)))
   ·rw [hl] at h
    refine eH ?_
    rw [hl]
    refine zP (by omega) (by omega) (by omega) aC8 ?_
    refine zP (by omega) (by omega) (by omega) aC8 ?_
    refine zP (by omega) (by omega) (by omega) aC8 ?_
    simp only [Int.toNat_natCast,Int.toNat_zero,List.drop_zero,← List.map_take]
    rw [ht]
    refine aJV (by omega) (by omega) (by omega) (aHV (by omega) (by omega) (by omega) aC8 ?_)
    rw [← List.map_take,ht,← List.map_take,← List.map_drop,← List.map_append,← List.map_append,List.length_map,List.length_replicate]
    have e : List.replicate a (-1 : Int)++(List.replicate a (-1)).take (n - a)++(List.replicate a (-1)++List.replicate (n - a) 0).drop (a+min (n - a) a)=List.replicate (a+min (n - a) a) (-1)++List.replicate (n - (a+min (n - a) a)) 0:=by
     rw [List.take_replicate,List.replicate_append_replicate,List.drop_append,List.length_replicate,List.drop_eq_nil_of_le (by simp),List.nil_append,List.drop_replicate]
     congr 2
     omega
    rw [e]
    exact aN (by omega) (ih (a+min (n - a) a) (by omega) (by omega) (by omega))
   ·have : a=n:=by rw [hl] at h;omega
    subst this
    simp
theorem aIG {P : R→Prop} {k : PV→Option R} {a : Int} (h1 : 0≤a∧a≤2097152) (h : Ok P (k (.int .u64 a))) : Ok P (bd (PV.bin .and (.int .u64 a) (.int .u64 4294967295)) k):=
 dB _ (by
  obtain ⟨n,rfl⟩:=Int.eq_ofNat_of_zero_le h1.1
  rw [iH (by simp) (by simp)]
  simp only [PV.intBin]
  have hb : IntKind.u64.bits=64:=rfl
  have e : (BitVec.ofInt 64 (n : Int)&&& BitVec.ofInt 64 4294967295).toNat=n:=by
   rw [BitVec.toNat_and,BitVec.ofInt_natCast,BitVec.toNat_ofNat]
   have : (BitVec.ofInt 64 4294967295).toNat=2 ^ 32 - 1:=by decide
   rw [this,Nat.and_two_pow_sub_one_eq_mod,Nat.mod_eq_of_lt (by omega),Nat.mod_eq_of_lt (by omega)]
  rw [hb,e,u64_in _ (by omega)]) h
theorem aAt {P : R→Prop} {k : PV→Option R} {a : Int} (h1 : 0≤a∧a≤2097152) (h : Ok P (k (.int .u64 0))) : Ok P (bd (PV.bin .shr (.int .u64 a) (.int .u64 32)) k):=
 dB _ (by
  simp only [PV.bin]
  rw [if_neg (by omega)]
  have : a.fdiv (2 ^ min (Int.toNat 32) IntKind.u64.bits)=0:=by
   have e : (2 : Int) ^ min (Int.toNat 32) IntKind.u64.bits=4294967296:=by decide
   rw [e,Int.fdiv_eq_ediv_of_nonneg _ (by omega)]
   omega
  rw [this]) h
theorem aAu {P : R→Prop} {k : PV→Option R} {a b : Int} (h1 : 0≤a*b∧a*b≤2097152) (h : Ok P (k (.int .u64 (a*b)))) : Ok P (bd (PV.bin .mul (.int .u64 a) (.int .u64 b)) k):=
 dB _ (by rw [iH (by simp) (by simp)];simp only [PV.intBin];rw [u64_in _ (by omega)]) h
theorem aC9 {P : R→Prop} {k : PV→Option R} {a b : Int} (h1 : 0≤a+b∧a+b≤2097152) (h : Ok P (k (.int .u64 (a+b)))) : Ok P (bd (PV.bin .add (.int .u64 a) (.int .u64 b)) k):=
 dB _ (by rw [iH (by simp) (by simp)];simp only [PV.intBin];rw [u64_in _ (by omega)]) h
theorem aNh {P : R→Prop} {k : PV→Option R} {a : Int} {kk : IntKind} (h1 : 0≤a∧a≤2097152) (h : Ok P (k (.int .u64 a))) : Ok P (bd (PV.conv .u64 (.int kk a)) k):=dB _ (by simp only [PV.conv];rw [u64_in _ (by omega)]) h
theorem aMj {n : Nat} (h1 : 1≤n) (hn : n≤1000) : Ok (fun r=>r = [dN (List.replicate n (-1))]) (kC (.lst [.int .i64 (-1)]) (.int .i64 n)):=by
 rw [vD]
 refine aF (aC (fun h=>by omega) (fun _=>?_))
 rw [rO]
 refine bJ (aNh (by simp) (aNh (by omega) ?_))
 refine aH (Q:=fun r=>r = [.tup [.int .u64 0,.int .u64 n]]) ?_ (fun r hr=>?_)
 ·rw [aDT,aCd]
  simp only [List.length_cons,List.length_nil]
  refine aH (Q:=fun r=>r = [.tup [.int .u64 0,.int .u64 n]]) ?_ (fun r hr=>?_)
  ·refine aIG (by omega) (aAt (by omega) (aIG (by omega) (aAt (by omega) ?_)))
   refine aAu (by omega) (aAu (by omega) (aAt (by omega) (aC9 (by omega) ?_)))
   refine aIG (by omega) (aAt (by omega) (aAu (by omega) (aC9 (by omega) ?_)))
   refine aAu (by omega) (aC9 (by omega) (aAt (by omega) (aC9 (by omega) (aAu (by omega) (aB ?_)))))
   simp
  ·subst hr
   exact bE rfl (bE rfl (aB rfl))
 subst hr
 refine bE rfl (bE rfl (gE (aC (fun h=>by omega) (fun _=>gE (aC (fun h=>by omega) (fun _=>?_))))))
 rw [rP]
 refine aOV (by omega) (aJW (by omega) (by omega) (jF (aC (fun _=>?_) (fun h=>by omega))))
 refine aJW (by omega) (by omega) (bJ ?_)
 rw [List.length_replicate]
 refine aJV (lo:=0) (by omega) (by simp) (by simp;omega) (aHV (lo:=0) (by omega) (by simp) (by simp;omega) (aC8 (l:=[-1])) ?_)
 have:=aJX hn n 1 (by omega) (by omega) h1
 have e : (min (n - 0) [PV.int .i64 (-1)].length : Nat)=1:=by simp;omega
 rw [e]
 have e2 : (List.replicate n (PV.int .i64 0)).take 0++[PV.int .i64 (-1)].take (n - 0)++(List.replicate n (PV.int .i64 0)).drop (0+1)=(List.replicate 1 (-1 : Int)++List.replicate (n - 1) 0).map (PV.int .i64):=by
  rw [List.take_zero,List.nil_append,List.take_of_length_le (by simp;omega),List.drop_replicate]
  simp
 rw [e2]
 exact this
end
noncomputable section
open Go
attribute [local irreducible] bd PV.ite PV.guardFlat PV.guardOwn PV.whole PV.one PV.cell PV.sub PV.at_ PV.len PV.slen PV.chr PV.beq PV.peq PV.ceq PV.bin PV.neg PV.not PV.conv PV.cut PV.scut PV.cat PV.setAt PV.setCell PV.ncopy PV.copyIn PV.zeros PV.toStr PV.toBytes PV.deref PV.isPtr PV.comp PV.inb PV.off PV.imin PV.imax PV.sel PV.apply PV.isLst PV.isInt PV.ix PV.nilT
section
variable {fs : List cD} {code : List bM} {T : PV} (F : Fit fs code)
include F
theorem aHW {x : bM} (hx : x∈code) {h : Int} (hh : -1≤h∧h≤16) : Ok (fun r=>r = [.tup [.int .i64 (gO fs x h),.bool (can fs x h)]]) (tW (.agg [T,.lst (fs.map cD.pv)]) x.pv (.int .i64 h)):=by
 have hu:=F.u x hx
 have hnf:=F.nf
 rw [aGl]
 refine aD rfl (aA rfl (aA rfl (aD rfl (aA rfl (aA rfl ?_)))))
 refine aH (aHR (x:=x) (T:=T) (by omega)) (fun r hr=>?_)
 subst hr
 refine bE rfl (bE rfl (bN (by omega) (aN (by omega) (jF (aC (fun h1=>?_) (fun h1=>aB ?_))))))
 ·refine jF (aB ?_)
  unfold can gO
  rw [decide_eq_true h1];rfl
 ·unfold can gO
  rw [decide_eq_false h1];rfl
theorem aMk {P : R→Prop} {pc : Nat} (hpc : pc<code.length) {left : Int} {b : Bool} {ts : List Int} (hts : ∀ t∈ts,0≤t∧t≤code.length) (hn : ts.length≤10) {s : Hs} (hs : s.1.length=code.length)
 (h : Ok P (gF (.lst (code.map bM.pv)) (.bool (if b then ts.foldl (rS left) s else s).2) (.lst (code.map bM.pv)) (.int .i64 code.length) (.int .i64 ((pc : Int)+1)) T (.lst (fs.map cD.pv)) (dN (if b then ts.foldl (rS left) s else s).1))) :
 Ok P (eR (.lst (code.map bM.pv)) (.bool s.2) (.int .i64 left) (.bool b) (.lst (code.map bM.pv)) (.int .i64 code.length) (.int .i64 pc) (dN ts) (.int .i64 ts.length) (.int .i64 0) T (.lst (fs.map cD.pv)) (dN s.1)):=by
 have hn2:=F.n2
 refine aGz (n:=ts.length) (F:=fun i (q : Hs)=>eR (.lst (code.map bM.pv)) (.bool q.2) (.int .i64 left) (.bool b) (.lst (code.map bM.pv)) (.int .i64 code.length) (.int .i64 pc) (dN ts) (.int .i64 ts.length) (.int .i64 i) T (.lst (fs.map cD.pv)) (dN q.1))
  (fun i q=>q.1.length=code.length∧(if b then (ts.drop i).foldl (rS left) q else q)=(if b then ts.foldl (rS left) s else s)) ?_ ?_ 0 s (by omega) ⟨hs,by rw [List.drop_zero]⟩
 ·rintro q ⟨hq,he⟩
  rw [List.drop_length] at he
  have he : q=(if b then ts.foldl (rS left) s else s):=by rw [← he];split<;>rfl
  subst he
  rw [sY]
  exact aF (aC (fun h=>by omega) (fun _=>aN (by omega) h))
 ·rintro i q hi ⟨hq,he⟩ ih
  have ht:=hts ts[i] (List.getElem_mem _)
  rw [List.drop_eq_getElem_cons hi,List.foldl_cons] at he
  rw [sY]
  refine aF (aC (fun _=>?_) (fun h=>by omega))
  refine dU hi (aZ (fun hb=>?_) (fun hb=>?_))
  ·subst hb
   simp only [if_true] at he ih
   refine aE (aF (aC (fun h1=>?_) (fun h1=>?_)))
   ·refine fY (by omega) (by omega) (qB (by omega) (by omega) (fun v hv=>?_))
    refine aF (aC (fun h2=>?_) (fun h2=>?_))
    ·rw [aB7]
     refine fY (by omega) (by omega) ?_
     obtain ⟨t,et⟩:=Int.eq_ofNat_of_zero_le ht.1
     rw [et]
     refine uL (by omega) (aN (by omega) ?_)
     refine ih (q.1.set t left,true) ⟨by simpa using hq,?_⟩
     rw [aLy (by omega) (by rw [hv];exact h2),et] at he
     exact he
    ·refine aN (by omega) (ih q ⟨hq,?_⟩)
     rw [aIF (by rw [hv];simp only [Option.getD_some];omega)] at he
     exact he
   ·refine aN (by omega) (ih q ⟨hq,?_⟩)
    rw [aIF (by omega)] at he
    exact he
  ·subst hb
   exact aN (by omega) (ih q ⟨hq,he⟩)
theorem aOg {x : bM} (hx : x∈code) {h : Int} (hh : h<0) : can fs x h=false:=by
 have hu:=F.u x hx
 simp only [can]
 rw [decide_eq_false (by omega)];rfl
theorem aGC {P : R→Prop} {s : List Int} (hs : yT code.length s)
 (h : Ok P (kR (.lst (code.map bM.pv)) (.bool (qC fs code s).2) T (.lst (fs.map cD.pv)) (dN (qC fs code s).1))) :
 Ok P (gF (.lst (code.map bM.pv)) (.bool false) (.lst (code.map bM.pv)) (.int .i64 code.length) (.int .i64 0) T (.lst (fs.map cD.pv)) (dN s)):=by
 have hn2:=F.n2
 have hnf:=F.nf
 refine aGz (n:=code.length) (F:=fun i (q : Hs)=>gF (.lst (code.map bM.pv)) (.bool q.2) (.lst (code.map bM.pv)) (.int .i64 code.length) (.int .i64 i) T (.lst (fs.map cD.pv)) (dN q.1))
  (fun i q=>yT code.length q.1∧(List.range' i (code.length - i)).foldl (yS fs code) q=qC fs code s) ?_ ?_ 0 (s,false) (by omega) ⟨hs,rfl⟩
 ·rintro q ⟨hq,he⟩
  rw [Nat.sub_self] at he
  have he : q=qC fs code s:=he
  subst he
  rw [uG]
  exact aF (aC (fun h=>by omega) (fun _=>h))
 ·rintro i q hi ⟨hq,he⟩ ih
  have e1 : code.length - i=(code.length - (i+1))+1:=by omega
  rw [e1,List.range'_succ,List.foldl_cons] at he
  have hx : code[i]? = some code[i]:=List.getElem?_eq_getElem hi
  have hm : code[i]∈code:=List.getElem_mem _
  have hil : i<q.1.length:=by rw [hq.1];exact hi
  have hv:=hq.at i
  have e2 : q.1[i]=q.1[i]?.getD 0:=aFh hil
  have hone:=hq.one F i
  have hgo:=ih (yS fs code q i) ⟨hone,he⟩
  have eo : yS fs code q i=if can fs code[i] (q.1[i]?.getD 0) then (fG code[i] i).foldl (rS (gO fs code[i] (q.1[i]?.getD 0))) q else q:=by
   conv=>lhs;unfold yS
   rw [hx]
  generalize hw : q.1[i]?.getD 0=w at *
  rw [uG]
  refine aF (aC (fun _=>?_) (fun h=>by omega))
  refine aS hi (fun _=>rfl) (aD rfl (aA rfl (aA rfl ?_)))
  refine fY (by omega) (by omega) (dU hil ?_)
  rw [e2]
  refine aF (aC (fun h1=>?_) (fun h1=>?_))
  ·rw [aOg F hm h1,if_neg (by simp)] at eo
   rw [eo] at hgo
   exact aN (by omega) hgo
  refine fY (by omega) (by omega) (dU hil ?_)
  rw [e2]
  refine aH (aHW (T:=T) F hm hv) (fun r hr=>?_)
  subst hr
  refine bE rfl (bE rfl (aH (aHT (x:=code[i]) (by omega)) (fun r hr=>?_)))
  subst hr
  refine eH ?_
  refine aMk F hi (aAr F hm hi) (by unfold fG;repeat' split<;>simp) hq.1 ?_
  rw [← eo]
  exact hgo
theorem aMl : ∀ (j : Nat) (s : List Int),nn s≤j→yT code.length s→Ok (fun r=>r = [dN (aC7 fs code (j+1) s)]) (kR (.lst (code.map bM.pv)) (.bool true) T (.lst (fs.map cD.pv)) (dN s)):=by
 intro j
 induction j with
 | zero=>
   intro s hs hg
   rw [kK]
   refine aW (aE (aGC F hg ?_))
   rcases Dec.pass F s with h | ⟨h,h2⟩
   ·unfold aC7
    rw [h,kK]
    exact aP (aB rfl)
   ·have h3 : nn (qC fs code s).1<nn s:=h2
    omega
 | succ j ih=>
   intro s hs hg
   rw [kK]
   refine aW (aE (aGC F hg ?_))
   rcases Dec.pass F s with h | ⟨h,h2⟩
   ·unfold aC7
    rw [h,kK]
    exact aP (aB rfl)
   ·rw [aC7,h,if_pos rfl]
    exact ih _ (by have h3 : nn (qC fs code s).1<nn s:=h2;omega) (hg.pass F)
theorem aMm (l : List Int) : PV.flatO (.own 1 8 false []) (dN l)=true:=by
 clear F
 show PV.flatEs false [] (l.map (PV.int .i64))=true
 induction l with
 | nil=>simp [PV.flatEs]
 | cons x r ih=>simp [PV.flatEs,PV.flatE,PV.flat,ih]
theorem aAv {f : Nat} (hf : f<fs.length) (hc : fs[f].code=code) : Ok (fun r=>r = [dN (iG fs code)]) (tU (.agg [T,.lst (fs.map cD.pv)]) (.int .i64 f)):=by
 have hn2:=F.n2
 have hn1:=F.n1
 rw [aGk]
 refine aD rfl (aA rfl (aA rfl (aS hf (fun _=>rfl) (aA (y:=.lst (code.map bM.pv)) (by rw [← hc];rfl) (aE ?_)))))
 refine aH (aMj hn1 (by omega)) (fun r hr=>?_)
 subst hr
 refine dR (aMm F _) (fY (by omega) (by rw [List.length_replicate];omega) (uL (i:=0) (by rw [List.length_replicate];omega) ?_))
 exact aMl F code.length _ (by have:=(yT.start (n:=code.length)).1;unfold nn;exact Nat.le_trans List.countP_le_length (by omega)) yT.start
end
theorem eM.okB_fit {m : eM} (h : m.okB=true) : 1≤m.funcs.length∧m.funcs.length≤12∧∀ f∈m.funcs,Fit m.funcs f.code∧0≤f.p∧f.p≤6∧f.p≤f.lc∧f.lc≤12:=by
 simp only [eM.okB,Bool.and_eq_true,bA,decide_eq_true_eq,List.all_eq_true,tC] at h
 obtain ⟨⟨h1,h2⟩,_,_,h3⟩:=h
 have hp : ∀ i : Int,0≤fZ m.funcs i∧fZ m.funcs i≤6:=by
  intro i
  unfold fZ
  cases hx : m.funcs[i.toNat]? with
  | none=>simp
  | some f=>exact (h3 f (List.mem_of_getElem? hx)).1
 refine ⟨by omega,by omega,fun f hf=>?_⟩
 obtain ⟨p1,p2,p3,p4⟩:=h3 f hf
 refine ⟨⟨by omega,by omega,by omega,fun x hx=>?_,fun x hx hj=>?_⟩,p1.1,p1.2,p2.1,p2.2⟩
 ·have:=hp x.a
  unfold aX
  repeat' split
  all_goals (simp only;omega)
 ·have:=p4 x hx
  unfold cC at this
  rcases hj with hj | hj | hj<;>simp [hj,jM] at this<;>omega
end
noncomputable section
open Go Go.IntWalk
attribute [local irreducible] bd PV.ite PV.guardFlat PV.guardOwn PV.whole PV.one PV.cell PV.sub PV.at_ PV.len PV.slen PV.chr PV.beq PV.peq PV.ceq PV.bin PV.neg PV.not PV.conv PV.cut PV.scut PV.cat PV.setAt PV.setCell PV.ncopy PV.copyIn PV.zeros PV.toStr PV.toBytes PV.deref PV.isPtr PV.comp PV.inb PV.off PV.imin PV.imax PV.sel PV.apply PV.isLst PV.isInt PV.ix PV.nilT
structure bO where
 f : Int
 pc : Int
 loc : List cJ
 stk : List cJ
def aT (l : List cJ) : PV:=.lst (l.map cJ.pv)
def bO.pv (f : bO) : PV:=.agg [.int .i64 f.f,.int .i64 f.pc,aT f.loc,aT f.stk]
def aQ (r : List cJ) : PV:=.agg [aT r]
theorem aAS {l : List cJ} : ∀ x∈l.map cJ.pv,x.isEl 3 true=true:=by
 intro x hx
 obtain ⟨a,_,rfl⟩:=List.mem_map.1 hx
 rfl
section
variable {P : R → Prop} {k : PV → Option R}
theorem bY {A cs : List PV} {s : Nat} {i : Int} (hi : i=A.length) (hs : cs.length=s) (h : Ok P (k (.agg cs))) : Ok P (bd (PV.at_ s true (.lst (A++[.agg cs])) (.int .i64 i)) k):=
 dB _ (by
  subst hi
  simp only [PV.at_]
  rw [if_pos (by omega),Int.toNat_natCast,List.getElem?_append_right (Nat.le_refl _),Nat.sub_self]
  simp only [List.getElem?_cons_zero]
  rw [if_pos (by simp [PV.isEl,hs])]) h
theorem cN {A cs : List PV} {s off : Nat} {i : Int} {v : PV} (hi : i=A.length) (hs : cs.length=s) (ho : off<s) (hv : v.isEl 1 false=true) (h : Ok P (k (.lst (A++[.agg (cs.set off v)])))) :
 Ok P (bd (PV.setCell s (.lst (A++[.agg cs])) (.int .i64 i) off v) k):=by
 subst hi
 refine aBJ (by omega) (cs:=cs) (by rw [Int.toNat_natCast,List.getElem?_append_right (Nat.le_refl _),Nat.sub_self];rfl) hs ho hv ?_
 rw [Int.toNat_natCast,List.set_append_right _ _ (Nat.le_refl _),Nat.sub_self]
 exact h
theorem nD {l : List cJ} {i : Int} (h0 : 0≤i) (h1 : i<l.length) (h : ∀ v,l[i.toNat]? = some v→Ok P (k v.pv)) : Ok P (bd (PV.at_ 3 true (aT l) (.int .i64 i)) k):=by
 refine aM8 h0 (by rw [List.length_map];exact h1) aAS (fun x _ hx=>?_)
 rw [List.getElem?_map] at hx
 cases hl : l[i.toNat]? with
 | none=>rw [hl] at hx;cases hx
 | some v=>rw [hl] at hx;cases hx;exact h v hl
theorem bB {l : List cJ} (h : Ok P (k (.int .i64 l.length))) : Ok P (bd (PV.len (aT l)) k):=aE h
theorem eI {l : List cJ} {i : Int} (h0 : 0≤i) (h1 : i<l.length) (h : Ok P (k (aT l))) : Ok P (bd (PV.inb (aT l) (.int .i64 i)) k):=aBI h0 (by rw [List.length_map];exact h1) h
theorem gA {l : List cJ} {m n : Int} (h0 : 0≤m) (h1 : m≤n) (h2 : n≤l.length) (h : Ok P (k (aT ((l.take n.toNat).drop m.toNat)))) : Ok P (bd (PV.cut 3 true (aT l) (.int .i64 m) (.int .i64 n)) k):=by
 refine zP h0 h1 (by rw [List.length_map];exact h2) aAS ?_
 rw [← List.map_take,← List.map_drop]
 exact h
theorem iC {l m : List cJ} (hb : l.length+m.length≤1000000000) (h : Ok P (k (aT (l++m)))) : Ok P (bd (PV.cat 3 32 true (aT l) (.lst (m.map cJ.pv))) k):=by
 refine kB (by simp only [List.length_map];omega) aAS ?_
 rw [← List.map_append]
 exact h
theorem qD {l : List cJ} {i : Int} {v : cJ} (h0 : 0≤i) (h1 : i<l.length) (h : Ok P (k (aT (l.set i.toNat v)))) : Ok P (bd (PV.setAt 3 true (aT l) (.int .i64 i) v.pv) k):=by
 refine aF5 h0 (by rw [List.length_map];exact h1) rfl ?_
 rw [← List.map_set]
 exact h
theorem aAT {n : Int} (h0 : 0≤n) (h1 : n≤1000000000) (h : Ok P (k (aT (List.replicate n.toNat dC)))) : Ok P (bd (PV.zeros 32 (.agg [.int .i64 0,.int .i64 0,.str (bs [])]) (.int .i64 n)) k):=by
 obtain ⟨m,rfl⟩:=Int.eq_ofNat_of_zero_le h0
 refine dB _ ?_ h
 simp only [PV.zeros]
 rw [if_pos ⟨by omega,by omega,by omega⟩,Int.toNat_natCast,aT,List.map_replicate]
 rfl
end
section
variable {P : R → Prop} {k : R → Option R} {a0 a1 a2 a3 a4 a5 a6 a7 a8 a9 H O : PV} {A : List PV}
theorem aAw {x : PV} (hA : A.length≤2097152) (h : Ok P (k [.int .i64 A.length,a0,a1,a2,a3,a4,a5,a6,a7,a8,a9,.lst (A++[x]),H,O])) :
 Ok P (bd (dY a0 a1 a2 a3 a4 a5 a6 a7 a8 a9 (.lst (A++[x])) H O) k):=by
 refine aH (Q:=fun r=>r = [.int .i64 A.length,a0,a1,a2,a3,a4,a5,a6,a7,a8,a9,.lst (A++[x]),H,O]) ?_ (fun r hr=>by rw [hr];exact h)
 rw [aAm]
 have e : ((A++[x]).length : Int) - 1=A.length:=by simp
 refine bJ (bN (by simp;omega) ?_)
 rw [e]
 exact aBI (by omega) (by simp;omega) (aB rfl)
theorem fL {f pc : Int} {loc s : List cJ} {v : cJ} (hA : A.length≤2097152) (hs : s.length≤2097152)
 (h : Ok P (k [v.pv,a0,a1,a2,a3,a4,a5,a6,a7,a8,a9,.lst (A++[bO.pv ⟨f,pc,loc,s⟩]),H,O])) :
 Ok P (bd (aV a0 a1 a2 a3 a4 a5 a6 a7 a8 a9 (.lst (A++[bO.pv ⟨f,pc,loc,s++[v]⟩])) H O) k):=by
 refine aH (Q:=fun r=>r = [v.pv,a0,a1,a2,a3,a4,a5,a6,a7,a8,a9,.lst (A++[bO.pv ⟨f,pc,loc,s⟩]),H,O]) ?_ (fun r hr=>by rw [hr];exact h)
 rw [aCi]
 have e : ((s++[v]).length : Int) - 1=s.length:=by simp
 have hl : (s++[v]).length=s.length+1:=by simp
 have at3 : ∀ {P : R→Prop} {k : PV→Option R},Ok P (k (aT (s++[v])))→Ok P (bd (PV.at_ 4 true (.lst (A++[bO.pv ⟨f,pc,loc,s++[v]⟩])) (.int .i64 A.length)) fun x=>bd (PV.cell x 3) k):=
  fun h=>bY rfl rfl (aA rfl h)
 have at_ : ∀ {P : R→Prop} {k : PV→Option R},(∀ x,Ok P (k x))→Ok P (bd (PV.at_ 4 true (.lst (A++[bO.pv ⟨f,pc,loc,s++[v]⟩])) (.int .i64 A.length)) k):=
  fun h=>bY rfl rfl (h _)
 have el : (s++[v])[(s.length : Int).toNat]? = some v:=by rw [Int.toNat_natCast,List.getElem?_append_right (Nat.le_refl _),Nat.sub_self];rfl
 refine aAw hA (at_ (fun _=>at_ (fun _=>at3 (bB (bN (by omega) ?_)))))
 rw [e]
 refine at3 (eI (by omega) (by omega) (at3 (nD (by omega) (by omega) (fun w hw=>?_))))
 rw [el] at hw
 cases hw
 refine aD rfl (aA rfl (aA rfl (aA rfl (at_ (fun _=>at_ (fun _=>at3 (bB (bN (by omega) ?_))))))))
 rw [e]
 refine at3 (gA (by omega) (by omega) (by omega) (at3 (gA (by omega) (by omega) (by omega) (at3 ?_))))
 refine cN rfl rfl (by omega) rfl (cN rfl rfl (by omega) rfl (aB ?_))
 simp only [Int.toNat_natCast,Int.toNat_zero,List.drop_zero,List.take_left']
 rfl
theorem aFi {f pc : Int} {loc s : List cJ} {v : cJ} (hA : A.length≤2097152) (hs : s.length≤2097152)
 (h : Ok P (k [a0,a1,a2,a3,a4,a5,a6,a7,a8,a9,.lst (A++[bO.pv ⟨f,pc,loc,s++[v]⟩]),H,O])) :
 Ok P (bd (gC v.pv a0 a1 a2 a3 a4 a5 a6 a7 a8 a9 (.lst (A++[bO.pv ⟨f,pc,loc,s⟩])) H O) k):=by
 refine aH (Q:=fun r=>r = [a0,a1,a2,a3,a4,a5,a6,a7,a8,a9,.lst (A++[bO.pv ⟨f,pc,loc,s++[v]⟩]),H,O]) ?_ (fun r hr=>by rw [hr];exact h)
 rw [aBa]
 refine aD rfl (aA rfl (aA rfl (aA rfl (aAw hA ?_))))
 refine bY rfl rfl (bY rfl rfl (aA rfl (bY rfl rfl (aA rfl ?_))))
 refine cN rfl rfl (by omega) rfl (iC (m:=[v]) (by simp;omega) (cN rfl rfl (by omega) rfl (aB rfl)))
theorem gJ {f pc : Int} {loc s : List cJ} {vk vn : Int} {vs : ByteArray} (hA : A.length≤2097152) (hs : s.length≤2097152)
 (h : Ok P (k [a0,a1,a2,a3,a4,a5,a6,a7,a8,a9,.lst (A++[bO.pv ⟨f,pc,loc,s++[⟨vk,vn,vs⟩]⟩]),H,O])) :
 Ok P (bd (bI (.int .i64 vk) (.int .i64 vn) (.str vs) a0 a1 a2 a3 a4 a5 a6 a7 a8 a9 (.lst (A++[bO.pv ⟨f,pc,loc,s⟩])) H O) k):=by
 refine aH (Q:=fun r=>r = [a0,a1,a2,a3,a4,a5,a6,a7,a8,a9,.lst (A++[bO.pv ⟨f,pc,loc,s++[⟨vk,vn,vs⟩]⟩]),H,O]) ?_ (fun r hr=>by rw [hr];exact h)
 rw [xK]
 refine aAw hA ?_
 refine bY rfl rfl (bY rfl rfl (aA rfl (bY rfl rfl (aA rfl ?_))))
 refine cN rfl rfl (by omega) rfl (iC (m:=[⟨vk,vn,vs⟩]) (by simp;omega) (cN rfl rfl (by omega) rfl (aB rfl)))
end
inductive aIH where
 | trap (c : Int)
 | next (fr : bO) (hp : List (List cJ)) (made : Int) (out : List ByteArray)
 | call (fr : bO) (g : bO)
 | ret (v : cJ)
def fP (v : cJ) (hp : List (List cJ)) : ByteArray:=
 if v.k=0 then bs [110,105,108] else if v.k=1 then gM v.n else if v.k=2 then (if v.n=1 then bs [116,114,117,101] else bs [102,97,108,115,101]) else if v.k=3 then v.s
 else if v.k=5 then bs [102,117,110]++gM v.n
 else if v.k=4 then bs [123]++gM ((hp[v.n.toNat]?.getD []).length)++bs [125] else bs []
def xQ (fs : List cD) (i : Int) : Int:=(fs[i.toNat]?.map cD.lc).getD 0
def vE (fs : List cD) (g : Int) (args : List cJ) : bO:=⟨g,0,args++List.replicate ((xQ fs g).toNat - args.length) dC,[]⟩
def dO (m : eM) (fr : bO) (took : List cJ) (depth : Nat) (hp : List (List cJ)) (made : Int) (out : List ByteArray) (x : bM) : aIH:=
 let a:=took.headD dC
 let b:=took.tail.headD dC
 let go : List cJ→aIH:=fun l=>.next ⟨fr.f,fr.pc,fr.loc,fr.stk++l⟩ hp made out
 let rec_ : List cJ:=hp[a.n.toNat]?.getD []
 if x.o=1 then go [aC1 x.a]
 else if x.o=2 then go [nM (decide (x.a=1))]
 else if x.o=3 then go [aC2 (m.texts[x.a.toNat]?.getD (bs []))]
 else if x.o=4 then go [dC]
 else if x.o=5 then go [aMg x.a]
 else if x.o=6 then go [fr.loc[x.a.toNat]?.getD dC]
 else if x.o=7 then .next ⟨fr.f,fr.pc,fr.loc.set x.a.toNat a,fr.stk⟩ hp made out
 else if x.o=8 then go [a,a]
 else if x.o=9 then go []
 else if x.o=10 then go [b,a]
 else if x.o≤15 then (if (nP x.o a b).2≠0 then .trap (nP x.o a b).2 else go [(nP x.o a b).1])
 else if x.o=16 then (if (vY a).2≠0 then .trap (vY a).2 else go [(vY a).1])
 else if x.o=17 then .next ⟨fr.f,x.a,fr.loc,fr.stk⟩ hp made out
 else if x.o≤19 then (if a.k≠2 then .trap 1 else if (decide (a.n=1)==decide (x.o=18))=true then .next ⟨fr.f,x.a,fr.loc,fr.stk⟩ hp made out else go [])
 else if x.o=20 then (if made=120 then .trap 7 else .next ⟨fr.f,fr.pc,fr.loc,fr.stk++[aMf hp.length]⟩ (hp++[List.replicate x.a.toNat dC]) (made+1) out)
 else if x.o=21 then (if a.k≠4 then .trap 1 else if rec_.length≤x.a then .trap 4 else go [rec_[x.a.toNat]?.getD dC])
 else if x.o=22 then (if a.k≠4 then .trap 1 else if rec_.length≤x.a then .trap 4 else .next fr (hp.set a.n.toNat (rec_.set x.a.toNat b)) made out)
 else if x.o=23 then (if a.k≠5 then .trap 1 else if fZ m.funcs a.n≠x.a then .trap 5 else if depth=24 then .trap 6 else .call fr (vE m.funcs a.n took.tail))
 else if x.o=24 then (if depth=24 then .trap 6 else .call fr (vE m.funcs x.a took))
 else if x.o=25 then .ret a
 else if out.length=200 then .trap 8 else .next fr hp made (out++[fP a hp])
theorem aII {v : cJ} {hp : List (List cJ)} {nf : Int} (hnf : nf≤1000) (hh : hp.length≤1000) (hr : ∀ r∈hp,r.length≤1000) (hv : cB nf hp.length v=true) :
 Ok (fun r=>r = [.str (fP v hp)]) (sO v.pv (.lst (hp.map aQ))):=by
 have hn : -1000000000≤v.n∧v.n≤1000000000∧(v.k=4→0≤v.n∧v.n<hp.length)∧0≤v.k∧v.k≤5:=by
  unfold cB at hv
  repeat' split at hv
  all_goals first
   | (cases hv;done)
   | (simp only [cG,bA,Bool.and_eq_true,decide_eq_true_eq] at hv;omega)
 rw [aCT]
 refine aD rfl (aA rfl (aA rfl (aA rfl ?_)))
 refine aG (aC (fun h=>aB ?_) (fun h0=>aG (aC (fun h=>?_) (fun h1=>aG (aC (fun h=>?_) (fun h2=>aG (aC (fun h=>aB ?_) (fun h3=>aG (aC (fun h=>?_) (fun h5=>?_))))))))))
 ·unfold fP;rw [if_pos h]
 ·refine aH (aAq (by omega)) (fun r hr=>?_)
  subst hr
  refine aB ?_
  unfold fP;rw [if_neg h0,if_pos h];rfl
 ·refine aG (aC (fun h'=>aB ?_) (fun h'=>aB ?_))
  ·unfold fP;rw [if_neg h0,if_neg h1,if_pos h,if_pos h']
  ·unfold fP;rw [if_neg h0,if_neg h1,if_pos h,if_neg h']
 ·unfold fP;rw [if_neg h0,if_neg h1,if_neg h2,if_pos h]
 ·refine aH (aAq (by omega)) (fun r hr=>?_)
  subst hr
  have:=rR v.n
  refine jN (by have e : (bs [102,117,110]).size=3:=rfl
                omega) (aB ?_)
  unfold fP;rw [if_neg h0,if_neg h1,if_neg h2,if_neg h3,if_pos h]
 ·refine aG (aC (fun h4=>?_) (fun h4=>by omega))
  refine aE (bN (by omega) (dI ?_))
  rw [show jM v.n 0 (hp.length - 1)=true from bA.2 (by omega)]
  refine aW ?_
  obtain ⟨i,hi⟩:=Int.eq_ofNat_of_zero_le (hn.2.2.1 h4).1
  have hil : i<hp.length:=by omega
  rw [hi]
  have hrl:=hr _ (List.getElem_mem hil)
  refine aS hil (fun _=>rfl) (aA rfl (bB ?_))
  refine aH (aAq (by omega)) (fun r hr=>?_)
  subst hr
  have:=rR ((hp[i].length : Nat) : Int)
  have e1 : (bs [123]).size=1:=rfl
  have e2 : (bs [125]).size=1:=rfl
  refine jN (by omega) (jN (by rw [ByteArray.size_append];omega) (aB ?_))
  unfold fP;rw [if_neg h0,if_neg h1,if_neg h2,if_neg h3,if_neg h5,if_pos h4,hi,Int.toNat_natCast,List.getElem?_eq_getElem hil]
  rfl
section
variable {a2 a3 a4 a5 a6 a7 a8 H O T : PV} {A : List PV} {fs : List cD}
theorem aJY {P : R→Prop} {g : Int} {loc : List cJ} (hA : A.length≤1000) (h : P [T,.lst (fs.map cD.pv),a2,a3,a4,a5,a6,a7,a8,.int .i64 0,.lst (A++[bO.pv ⟨g,0,loc,[]⟩]),H,O]) :
 Ok P (hU (.int .i64 g) T (.lst (fs.map cD.pv)) a2 a3 a4 a5 a6 a7 a8 (.int .i64 0) (.lst A) H O (aT loc)):=by
 rw [vW]
 refine bD rfl (kB (by simp;omega) (fun x hx=>by simp only [List.mem_singleton] at hx;subst hx;rfl) (aB h))
theorem aOh {P : R→Prop} {g f pc : Int} {under : Bool} {loc s s1 : List cJ} (hA : A.length≤100) (hs : s.length≤100) (hu : (under=true∧∃ w,s=s1++[w])∨(under=false∧s=s1)) :
 ∀ (j : Nat) (args post pre : List cJ),args.length=j→pre.length=j→j+post.length≤50→
 P [T,.lst (fs.map cD.pv),a2,a3,a4,a5,a6,a7,a8,.int .i64 0,.lst (A++[bO.pv ⟨f,pc,loc,s1⟩]++[bO.pv ⟨g,0,args++post,[]⟩]),H,O]→
 Ok P (iL (.int .i64 g) (.bool under) (.int .i64 ((j : Int) - 1)) T (.lst (fs.map cD.pv)) a2 a3 a4 a5 a6 a7 a8 (.int .i64 0) (.lst (A++[bO.pv ⟨f,pc,loc,s++args⟩])) H O (aT (pre++post))):=by
 intro j
 induction j with
 | zero=>
   intro args post pre h1 h2 h3 h
   rw [List.eq_nil_of_length_eq_zero h1,List.nil_append] at h
   rw [List.eq_nil_of_length_eq_zero h1,List.eq_nil_of_length_eq_zero h2,List.append_nil,List.nil_append,oN]
   refine nW (aC (fun h=>by omega) (fun _=>?_))
   rcases hu with ⟨rfl,w,rfl⟩ | ⟨rfl,rfl⟩
   ·refine aW (fL (by omega) (by simp at hs;omega) ?_)
    exact aJY (by simp;omega) h
   ·exact aP (aJY (by simp;omega) h)
 | succ j ih=>
   intro args post pre h1 h2 h3 h
   obtain ⟨args',v,rfl⟩ : ∃ l v,args=l++[v]:=⟨args.dropLast,args.getLast (fun e=>by rw [e] at h1;simp at h1),(List.dropLast_concat_getLast _).symm⟩
   obtain ⟨pre',u,rfl⟩ : ∃ l v,pre=l++[v]:=⟨pre.dropLast,pre.getLast (fun e=>by rw [e] at h2;simp at h2),(List.dropLast_concat_getLast _).symm⟩
   simp only [List.length_append,List.length_cons,List.length_nil,Nat.zero_add,Nat.add_right_cancel_iff] at h1 h2
   have ej : ((j+1 : Nat) : Int) - 1=j:=by omega
   rw [ej,oN,← List.append_assoc]
   refine nW (aC (fun _=>?_) (fun h=>by omega))
   refine fL (by omega) (by simp;omega) ?_
   have hlen : (pre'++[u]++post).length=j+1+post.length:=by simp;omega
   refine eI (by omega) (by omega) (qD (by omega) (by omega) (bN (by omega) ?_))
   have e : (pre'++[u]++post).set (j : Int).toNat v=pre'++(v::post):=by
    rw [Int.toNat_natCast,← h2,List.append_assoc,List.set_append_right _ _ (Nat.le_refl _),Nat.sub_self]
    rfl
   rw [e]
   refine ih args' (v::post) pre' h1 h2 (by simp;omega) ?_
   rw [show args'++v::post=args'++[v]++post by simp]
   exact h
theorem aJZ {P : R→Prop} {k : R→Option R} {g f pc : Int} {under : Bool} {loc s s1 args : List cJ} (hF : fs.length≤1000) (hpar : ∀ f∈fs,0≤f.p∧f.p≤6∧f.p≤f.lc∧f.lc≤12) (hA : A.length≤23) (hs : s.length≤100)
 (hu : (under=true∧∃ w,s=s1++[w])∨(under=false∧s=s1)) (hg : 0≤g∧g<fs.length) (ha : args.length=fZ fs g)
 (h1 : A.length=23→Ok P (k [T,.lst (fs.map cD.pv),a2,a3,a4,a5,a6,a7,a8,.int .i64 6,.lst (A++[bO.pv ⟨f,pc,loc,s++args⟩]),H,O]))
 (h2 : A.length≠23→Ok P (k [T,.lst (fs.map cD.pv),a2,a3,a4,a5,a6,a7,a8,.int .i64 0,.lst (A++[bO.pv ⟨f,pc,loc,s1⟩]++[bO.pv (vE fs g args)]),H,O])) :
 Ok P (bd (lQ (.int .i64 g) (.bool under) T (.lst (fs.map cD.pv)) a2 a3 a4 a5 a6 a7 a8 (.int .i64 0) (.lst (A++[bO.pv ⟨f,pc,loc,s++args⟩])) H O) k):=by
 obtain ⟨n,rfl⟩:=Int.eq_ofNat_of_zero_le hg.1
 have hn : n<fs.length:=by omega
 have hp:=hpar _ (List.getElem_mem hn)
 have ep : fZ fs (n : Int)=fs[n].p:=by simp [fZ,List.getElem?_eq_getElem hn]
 have el : xQ fs (n : Int)=fs[n].lc:=by simp [xQ,List.getElem?_eq_getElem hn]
 rw [ep] at ha
 have hl : ((A++[bO.pv ⟨f,pc,loc,s++args⟩]).length : Int)=A.length+1:=by simp
 refine aH (Q:=fun r=>(A.length=23∧r = [T,.lst (fs.map cD.pv),a2,a3,a4,a5,a6,a7,a8,.int .i64 6,.lst (A++[bO.pv ⟨f,pc,loc,s++args⟩]),H,O])∨
  (A.length≠23∧r = [T,.lst (fs.map cD.pv),a2,a3,a4,a5,a6,a7,a8,.int .i64 0,.lst (A++[bO.pv ⟨f,pc,loc,s1⟩]++[bO.pv (vE fs n args)]),H,O])) ?_ ?_
 ·rw [aBb]
  refine aS hn (fun _=>rfl) (aD rfl (aA rfl (aA rfl (aA rfl (bJ ?_)))))
  refine aG (aC (fun h=>aB (.inl ⟨by omega,rfl⟩)) (fun h=>?_))
  refine aAT (by omega) (by omega) (jF (aC (fun _=>?_) (fun h=>by omega)))
  refine aAT (by omega) (by omega) (bN (by omega) ?_)
  have e1 : fs[n].p - 1=((args.length : Int)) - 1:=by omega
  have e2 : List.replicate fs[n].lc.toNat dC=List.replicate args.length dC++List.replicate (fs[n].lc.toNat - args.length) dC:=by
   rw [List.replicate_append_replicate];congr 1;omega
  rw [e1,e2]
  refine aOh (by omega) hs hu args.length args _ _ rfl (by simp) (by simp;omega) (.inr ⟨by omega,?_⟩)
  simp only [vE,el]
 ·rintro r (⟨h,rfl⟩ | ⟨h,rfl⟩)
  ·exact h1 h
  ·exact h2 h
end
section
variable {P : R → Prop} {k : R → Option R}
theorem rT {a b : cJ} {q : Int} (h : Ok P (k [.bool (decide (a.k=q)&&decide (b.k=q))])) : Ok P (bd (rY a.pv b.pv (.int .i64 q)) k):=by
 refine aH (Q:=fun r=>r = [.bool (decide (a.k=q)&&decide (b.k=q))]) ?_ (fun r hr=>by rw [hr];exact h)
 rw [aIy]
 refine aD rfl (aA rfl (aA rfl (aA rfl (aD rfl (aA rfl (aA rfl (aA rfl (aG ?_))))))))
 refine aC (fun h1=>aG (aB ?_)) (fun h1=>aB ?_)
 ·rw [decide_eq_true h1];rfl
 ·rw [decide_eq_false h1];rfl
theorem pR {n : Int} (h : Ok P (k [.bool (cG n)])) : Ok P (bd (kT (.int .i64 n)) k):=by
 refine aH (Q:=fun r=>r = [.bool (cG n)]) ?_ (fun r hr=>by rw [hr];exact h)
 rw [aBo]
 exact eA (aB rfl)
theorem aBq {n : Int} (h : Ok P (k [(aC1 n).pv])) : Ok P (bd (xF (.int .i64 n)) k):=by
 refine aH (Q:=fun r=>r = [(aC1 n).pv]) ?_ (fun r hr=>by rw [hr];exact h)
 rw [aHj]
 exact bD rfl (aB rfl)
theorem kY {c : Bool} (h : Ok P (k [(nM c).pv])) : Ok P (bd (kV (.bool c)) k):=by
 refine aH (Q:=fun r=>r = [(nM c).pv]) ?_ (fun r hr=>by rw [hr];exact h)
 rw [aGt]
 cases c
 ·exact aP (aB rfl)
 ·exact aW (aB rfl)
def aNi (f : PV) (g : Int→Int→Int) : Prop:=∀ {a b : Int} {P : R→Prop} {k : R→Option R},cG a=true→cG b=true→Ok P (k [.int .i64 (g a b)])→Ok P (bd (PV.apply aL f [.int .i64 a,.int .i64 b]) k)
theorem aIJ {a : Int} (h : cG a=true) : -1000000000≤a∧a≤1000000000:=bA.1 h
theorem qN {a b : cJ} {o : Int} {f : PV} (hf : aNi f (xM o)) (h : Ok P (k (opR (yR o a b)))) : Ok P (bd (oG a.pv b.pv f) k):=by
 refine aH (Q:=fun r=>r=opR (yR o a b)) ?_ (fun r hr=>by rw [hr];exact h)
 rw [aE3]
 unfold yR
 refine aD rfl (aA rfl (aA rfl (aA rfl (aD rfl (aA rfl (aA rfl (aA rfl (rT (bH ?_)))))))))
 by_cases h1 : a.k=1∧b.k=1
 ·rw [decide_eq_true h1.1,decide_eq_true h1.2,if_neg (by omega),if_neg (by omega)]
  refine aP (pR (bH ?_))
  cases h2 : cG a.n with
  | false=>exact aW (aB (by simp [opR,cJ.pv,dC]))
  | true=>
    refine aP (pR (bH ?_))
    cases h3 : cG b.n with
    | false=>exact aW (aB (by simp [opR,cJ.pv,dC]))
    | true=>
      refine aP (hf h2 h3 (pR (bH ?_)))
      cases h4 : cG (xM o a.n b.n) with
      | false=>exact aW (aB (by simp [opR,cJ.pv,dC,h4]))
      | true=>
        refine aP (hf h2 h3 (aBq ?_))
        exact aD rfl (aA rfl (aA rfl (aA rfl (aB (by simp [opR,cJ.pv,aC1,h4])))))
 ·have h5 : (decide (a.k=1)&&decide (b.k=1))=false:=by
   cases h : (decide (a.k=1)&&decide (b.k=1))
   ·rfl
   ·simp only [Bool.and_eq_true,decide_eq_true_eq] at h;exact absurd h h1
  rw [h5]
  refine aW (aB ?_)
  by_cases h6 : a.k=1
  ·rw [if_neg (by omega),if_pos (fun h7=>h1 ⟨h6,h7⟩)];rfl
  ·rw [if_pos h6];rfl
theorem aIK {f : Nat} {o : Int} {g : PV→PV→Option R} (hg : ∀ x y,aL f [x,y]=g x y) (h : ∀ {a b : Int},cG a=true→cG b=true→Ok (fun r=>r = [.int .i64 (xM o a b)]) (g (.int .i64 a) (.int .i64 b))) : aNi (.fn f []) (xM o):=
 fun ha hb hk=>sJ (f:=f) (hg _ _) (h ha hb) (fun r hr=>by rw [hr];exact hk)
theorem aNj {s : ByteArray} (h : Ok P (k [.bool false])) : Ok P (bd (lP (.str s)) k):=by
 refine aH (Q:=fun r=>r = [.bool false]) ?_ (fun r hr=>by rw [hr];exact h)
 rw [aA8]
 exact vQ (aB rfl)
theorem aKV {s t : ByteArray} (h : Ok P (k [.bool (PV.bytesLt s.toList t.toList)])) : Ok P (bd (qM (.str s) (.str t)) k):=by
 refine aH (Q:=fun r=>r = [.bool (PV.bytesLt s.toList t.toList)]) ?_ (fun r hr=>by rw [hr];exact h)
 rw [aCh]
 exact aNj (aP (aLw (aB rfl)))
theorem aO1 {f : Nat} (hg : ∀ x y,aL f [x,y]=xG x y) : aNi (.fn f []) (xM 11):=aIK (g:=xG) hg (fun ha hb=>by
 have:=aIJ ha;have:=aIJ hb
 rw [aE4]
 exact aN (by omega) (aB rfl))
theorem aO2 {f : Nat} (hg : ∀ x y,aL f [x,y]=xH x y) : aNi (.fn f []) (xM 12):=aIK (g:=xH) hg (fun ha hb=>by
 have:=aIJ ha;have:=aIJ hb
 rw [aE5]
 exact bN (by omega) (aB rfl))
theorem aO3 {f : Nat} (hg : ∀ x y,aL f [x,y]=xI x y) : aNi (.fn f []) (xM 13):=aIK (g:=xI) hg (fun ha hb=>by
 have:=aNc ha hb
 rw [aE6]
 exact aM5 (by omega) (aB rfl))
theorem aNk {a b : cJ} (hs : a.s.size≤2097152∧b.s.size≤2097152) : Ok (fun r=>r=opR (nP 11 a b)) (aBW a.pv b.pv):=by
 rw [aHl]
 refine aD rfl (aA rfl (aA rfl (aA rfl (aD rfl (aA rfl (aA rfl (aA rfl (rT ?_))))))))
 have e : nP 11 a b=(if a.k=3∧b.k=3 then (if (60 : Int)<a.s.size+b.s.size then (dC,3) else (aC2 (a.s++b.s),0)) else yR 11 a b):=rfl
 rw [e]
 by_cases h1 : a.k=3∧b.k=3
 ·rw [if_pos h1,decide_eq_true h1.1,decide_eq_true h1.2]
  refine aW (nX (nX (aN (by omega) (gE (aC (fun h2=>aB ?_) (fun h2=>jN (by omega) (bD rfl (aB ?_))))))))
  ·rw [if_pos h2];rfl
  ·rw [if_neg h2];rfl
 ·have h5 : (decide (a.k=3)&&decide (b.k=3))=false:=by
   cases h : (decide (a.k=3)&&decide (b.k=3))
   ·rfl
   ·simp only [Bool.and_eq_true,decide_eq_true_eq] at h;exact absurd h h1
  rw [if_neg h1,h5]
  refine aP (qN (aO1 (fun _ _=>rfl)) (bE rfl (bE rfl (aD rfl (aA rfl (aA rfl (aA rfl (aB rfl))))))))
theorem aNl {a b : cJ} : Ok (fun r=>r=opR (nP 12 a b)) (aBX a.pv b.pv):=by
 rw [aHm]
 exact aD rfl (aA rfl (aA rfl (aA rfl (aD rfl (aA rfl (aA rfl (aA rfl (qN (aO2 (fun _ _=>rfl)) (bE rfl (bE rfl (aD rfl (aA rfl (aA rfl (aA rfl (aB rfl)))))))))))))))
theorem aNm {a b : cJ} : Ok (fun r=>r=opR (nP 13 a b)) (aBY a.pv b.pv):=by
 rw [aHn]
 exact aD rfl (aA rfl (aA rfl (aA rfl (aD rfl (aA rfl (aA rfl (aA rfl (qN (aO3 (fun _ _=>rfl)) (bE rfl (bE rfl (aD rfl (aA rfl (aA rfl (aA rfl (aB rfl)))))))))))))))
theorem aNn {p q : Prop} [Decidable p] [Decidable q] (h : ¬ (p∧q)) : (decide p&&decide q)=false:=by
 cases h' : (decide p&&decide q)
 ·rfl
 ·simp only [Bool.and_eq_true,decide_eq_true_eq] at h';exact absurd h' h
theorem aMn {a b : cJ} : Ok (fun r=>r=opR (nP 14 a b)) (aAi a.pv b.pv):=by
 rw [aGv]
 have e : nP 14 a b=(if a.k=3∧b.k=3 then (nM (PV.bytesLt a.s.toList b.s.toList),0) else if a.k=1∧b.k=1 then (nM (decide (a.n<b.n)),0) else (dC,1)):=rfl
 rw [e]
 refine aD rfl (aA rfl (aA rfl (aA rfl (aD rfl (aA rfl (aA rfl (aA rfl (rT ?_))))))))
 by_cases h1 : a.k=1∧b.k=1
 ·rw [if_neg (by omega),if_pos h1,decide_eq_true h1.1,decide_eq_true h1.2]
  exact aW (aF (kY (aD rfl (aA rfl (aA rfl (aA rfl (aB rfl)))))))
 ·rw [aNn h1]
  refine aP (rT ?_)
  by_cases h2 : a.k=3∧b.k=3
  ·rw [if_pos h2,decide_eq_true h2.1,decide_eq_true h2.2]
   exact aW (aKV (kY (aD rfl (aA rfl (aA rfl (aA rfl (aB rfl)))))))
  ·rw [if_neg h2,if_neg h1,aNn h2]
   exact aP (aB rfl)
theorem aFj {a b : cJ} {k : PV→Option R} (h : Ok P (k (.bool (decide (a.k=b.k)&&(decide (a.n=b.n)&&gN a.s b.s))))) : Ok P (bd (PV.ceq [1,1,2] .eql (.agg [.int .i64 a.k,.int .i64 a.n,.str a.s]) (.agg [.int .i64 b.k,.int .i64 b.n,.str b.s])) k):=
 dB _ (by simp [PV.ceq,PV.eqCells,PV.eqScalar,PV.eqOr,gN];rfl) h
theorem aMo {a b : cJ} : Ok (fun r=>r = [(aBp a b).pv]) (aAh a.pv b.pv):=by
 rw [aGu]
 exact aD rfl (aA rfl (aA rfl (aA rfl (aD rfl (aA rfl (aA rfl (aA rfl (aFj (kY (aD rfl (aA rfl (aA rfl (aA rfl (aB rfl))))))))))))))
theorem aNo {v : cJ} : Ok (fun r=>r=opR (vY v)) (aBV v.pv):=by
 rw [aHk]
 unfold vY
 refine aD rfl (aA rfl (aA rfl (aA rfl (bF (aI (fun h=>aB ?_) (fun h=>bF (kY (aD rfl (aA rfl (aA rfl (aA rfl (aB ?_))))))))))))
 ·rw [if_pos h];rfl
 ·rw [if_neg (by omega)];rfl
end
def aBr (v : cJ) : List bO→List bO
 | []=>[]
 | [f]=>[⟨f.f,f.pc,f.loc,f.stk++[v]⟩]
 | f::g::r=>f::aBr v (g::r)
theorem xR (v : cJ) : ∀ (l : List bO) (f : bO),aBr v (l++[f])=l++[⟨f.f,f.pc,f.loc,f.stk++[v]⟩]
 | [],_=>rfl
 | [a],f=>rfl
 | a::b::l,f=>by
   show a::aBr v (b::l++[f])=_
   rw [xR v (b::l) f]
   rfl
def DoR (a0 a1 made a3 a4 a5 a6 a7 a8 H O : PV) (fs0 : List bO) : aIH→R→Prop
 | .trap c,r=>c≠0∧gd r 9 = .int .i64 c
 | .next fr hp made' out,r=>r = [a0,a1,.int .i64 made',a3,a4,a5,a6,a7,a8,.int .i64 0,.lst (fs0.map bO.pv++[fr.pv]),.lst (hp.map aQ),.lst (out.map PV.str)]
 | .call fr g,r=>r = [a0,a1,made,a3,a4,a5,a6,a7,a8,.int .i64 0,.lst (fs0.map bO.pv++[fr.pv]++[g.pv]),H,O]
 | .ret v,r=>r=if fs0 = [] then [a0,a1,made,.int .i64 1,a4,.int .i64 v.k,.int .i64 v.n,.str v.s,a8,.int .i64 0,.lst [],H,O]
  else [a0,a1,made,a3,a4,a5,a6,a7,a8,.int .i64 0,.lst ((aBr v fs0).map bO.pv),H,O]
structure aNp (m : eM) (fs0 : List bO) (fr : bO) (took : List cJ) (hp : List (List cJ)) (made : Int) (out : List ByteArray) : Prop where
 nf : m.funcs.length≤12
 nt : m.texts.length≤20
 par : ∀ f∈m.funcs,0≤f.p∧f.p≤6∧f.p≤f.lc∧f.lc≤12
 n0 : fs0.length≤23
 stks : ∀ f∈fs0,f.stk.length≤16
 nl : fr.loc.length≤12
 ns : fr.stk.length+took.length≤16
 recs : ∀ r∈hp,r.length≤6
 nh : hp.length≤120
 nm : 0≤made∧made≤120
 no : out.length≤200
 aT : ∀ v∈took,cB m.funcs.length hp.length v=true
theorem bV {nf recs : Int} {v : cJ} (h : cB nf recs v=true) : v.s.size≤60:=by
 by_cases h3 : v.k=3
 ·unfold cB at h
  rw [if_neg (fun e=>e.1 h3),if_neg (by omega),if_neg (by omega),if_neg (by omega),if_pos h3] at h
  simp only [Bool.and_eq_true,cY,decide_eq_true_eq] at h
  omega
 ·unfold cB at h
  split at h
  ·cases h
  ·rename_i hn
   have he : gN v.s (bs [])=true:=by
    cases hs : gN v.s (bs []) with
    | true=>rfl
    | false=>exact absurd ⟨h3,hs⟩ hn
   have e0 : (bs []).toList = []:=by rw [Lib.toList_data];rfl
   unfold gN at he
   rw [e0] at he
   have hl : v.s.toList = []:=by simpa using he
   have hsz : v.s.size=v.s.toList.length:=by
    rw [Lib.toList_data,Array.length_toList]
    rfl
   rw [hsz,hl]
   simp
theorem rZ {nf recs : Int} {v : cJ} (h : cB nf recs v=true) (hk : v.k=4) : 0≤v.n∧v.n<recs:=by
 unfold cB at h
 by_cases hc : v.k≠3∧gN v.s (bs [])=false
 ·rw [if_pos hc] at h;cases h
 ·rw [if_neg hc,if_neg (by omega),if_neg (by omega),if_neg (by omega),if_neg (by omega),if_pos hk] at h
  simp only [Bool.and_eq_true,decide_eq_true_eq] at h
  exact h
theorem aD2 {nf recs : Int} {v : cJ} (h : cB nf recs v=true) (hk : v.k=5) : 0≤v.n∧v.n<nf:=by
 unfold cB at h
 by_cases hc : v.k≠3∧gN v.s (bs [])=false
 ·rw [if_pos hc] at h;cases h
 ·rw [if_neg hc,if_neg (by omega),if_neg (by omega),if_neg (by omega),if_neg (by omega),if_neg (by omega),if_pos hk] at h
  have:=bA.1 h
  omega
theorem aAU {nt nf lc nc : Int} {x : bM} (h : cC nt nf lc nc x.o x.a=true) : (1≤x.o∧x.o≤26)∧(x.o=3→0≤x.a∧x.a<nt)∧((x.o=6∨x.o=7)→0≤x.a∧x.a<lc)∧(x.o=20→0≤x.a∧x.a≤6)∧
 ((x.o=21∨x.o=22)→0≤x.a∧x.a≤5)∧(x.o=23→0≤x.a∧x.a≤6)∧((x.o=5∨x.o=24)→0≤x.a∧x.a<nf)∧((x.o=17∨x.o=18∨x.o=19)→0≤x.a∧x.a<nc)∧(x.o=1→cG x.a=true):=by
 unfold cC at h
 by_cases h1 : x.o=1
 ·rw [if_pos h1] at h
  have h:=bA.1 h
  exact ⟨by omega,fun _=>by omega,fun _=>by omega,fun _=>by omega,fun _=>by omega,fun _=>by omega,fun _=>by omega,fun _=>by omega,fun _=>by first | (unfold cG;exact bA.2 (by omega)) | (exfalso;omega)⟩
 rw [if_neg h1] at h
 by_cases h2 : x.o=2
 ·rw [if_pos h2] at h
  have h:=bA.1 h
  exact ⟨by omega,fun _=>by omega,fun _=>by omega,fun _=>by omega,fun _=>by omega,fun _=>by omega,fun _=>by omega,fun _=>by omega,fun _=>by first | (unfold cG;exact bA.2 (by omega)) | (exfalso;omega)⟩
 rw [if_neg h2] at h
 by_cases h3 : x.o=3
 ·rw [if_pos h3] at h
  have h:=bA.1 h
  exact ⟨by omega,fun _=>by omega,fun _=>by omega,fun _=>by omega,fun _=>by omega,fun _=>by omega,fun _=>by omega,fun _=>by omega,fun _=>by first | (unfold cG;exact bA.2 (by omega)) | (exfalso;omega)⟩
 rw [if_neg h3] at h
 by_cases h5 : x.o=5
 ·rw [if_pos h5] at h
  have h:=bA.1 h
  exact ⟨by omega,fun _=>by omega,fun _=>by omega,fun _=>by omega,fun _=>by omega,fun _=>by omega,fun _=>by omega,fun _=>by omega,fun _=>by first | (unfold cG;exact bA.2 (by omega)) | (exfalso;omega)⟩
 rw [if_neg h5] at h
 by_cases h24 : x.o=24
 ·rw [if_pos h24] at h
  have h:=bA.1 h
  exact ⟨by omega,fun _=>by omega,fun _=>by omega,fun _=>by omega,fun _=>by omega,fun _=>by omega,fun _=>by omega,fun _=>by omega,fun _=>by first | (unfold cG;exact bA.2 (by omega)) | (exfalso;omega)⟩
 rw [if_neg h24] at h
 by_cases h6 : x.o=6
 ·rw [if_pos h6] at h
  have h:=bA.1 h
  exact ⟨by omega,fun _=>by omega,fun _=>by omega,fun _=>by omega,fun _=>by omega,fun _=>by omega,fun _=>by omega,fun _=>by omega,fun _=>by first | (unfold cG;exact bA.2 (by omega)) | (exfalso;omega)⟩
 rw [if_neg h6] at h
 by_cases h7 : x.o=7
 ·rw [if_pos h7] at h
  have h:=bA.1 h
  exact ⟨by omega,fun _=>by omega,fun _=>by omega,fun _=>by omega,fun _=>by omega,fun _=>by omega,fun _=>by omega,fun _=>by omega,fun _=>by first | (unfold cG;exact bA.2 (by omega)) | (exfalso;omega)⟩
 rw [if_neg h7] at h
 by_cases h17 : x.o=17
 ·rw [if_pos h17] at h
  have h:=bA.1 h
  exact ⟨by omega,fun _=>by omega,fun _=>by omega,fun _=>by omega,fun _=>by omega,fun _=>by omega,fun _=>by omega,fun _=>by omega,fun _=>by first | (unfold cG;exact bA.2 (by omega)) | (exfalso;omega)⟩
 rw [if_neg h17] at h
 by_cases h18 : x.o=18
 ·rw [if_pos h18] at h
  have h:=bA.1 h
  exact ⟨by omega,fun _=>by omega,fun _=>by omega,fun _=>by omega,fun _=>by omega,fun _=>by omega,fun _=>by omega,fun _=>by omega,fun _=>by first | (unfold cG;exact bA.2 (by omega)) | (exfalso;omega)⟩
 rw [if_neg h18] at h
 by_cases h19 : x.o=19
 ·rw [if_pos h19] at h
  have h:=bA.1 h
  exact ⟨by omega,fun _=>by omega,fun _=>by omega,fun _=>by omega,fun _=>by omega,fun _=>by omega,fun _=>by omega,fun _=>by omega,fun _=>by first | (unfold cG;exact bA.2 (by omega)) | (exfalso;omega)⟩
 rw [if_neg h19] at h
 by_cases h20 : x.o=20
 ·rw [if_pos h20] at h
  have h:=bA.1 h
  exact ⟨by omega,fun _=>by omega,fun _=>by omega,fun _=>by omega,fun _=>by omega,fun _=>by omega,fun _=>by omega,fun _=>by omega,fun _=>by first | (unfold cG;exact bA.2 (by omega)) | (exfalso;omega)⟩
 rw [if_neg h20] at h
 by_cases h21 : x.o=21
 ·rw [if_pos h21] at h
  have h:=bA.1 h
  exact ⟨by omega,fun _=>by omega,fun _=>by omega,fun _=>by omega,fun _=>by omega,fun _=>by omega,fun _=>by omega,fun _=>by omega,fun _=>by first | (unfold cG;exact bA.2 (by omega)) | (exfalso;omega)⟩
 rw [if_neg h21] at h
 by_cases h22 : x.o=22
 ·rw [if_pos h22] at h
  have h:=bA.1 h
  exact ⟨by omega,fun _=>by omega,fun _=>by omega,fun _=>by omega,fun _=>by omega,fun _=>by omega,fun _=>by omega,fun _=>by omega,fun _=>by first | (unfold cG;exact bA.2 (by omega)) | (exfalso;omega)⟩
 rw [if_neg h22] at h
 by_cases h23 : x.o=23
 ·rw [if_pos h23] at h
  have h:=bA.1 h
  exact ⟨by omega,fun _=>by omega,fun _=>by omega,fun _=>by omega,fun _=>by omega,fun _=>by omega,fun _=>by omega,fun _=>by omega,fun _=>by first | (unfold cG;exact bA.2 (by omega)) | (exfalso;omega)⟩
 rw [if_neg h23] at h
 simp only [Bool.and_eq_true,decide_eq_true_eq,bA] at h
 exact ⟨by omega,fun _=>by omega,fun _=>by omega,fun _=>by omega,fun _=>by omega,fun _=>by omega,fun _=>by omega,fun _=>by omega,fun _=>by first | (unfold cG;exact bA.2 (by omega)) | (exfalso;omega)⟩
section
variable {P : R → Prop} {k : PV → Option R} {hp : List (List cJ)}
theorem dM {i : Int} (h0 : 0≤i) (h1 : i<hp.length) (h : Ok P (k (aQ (hp[i.toNat]?.getD [])))) : Ok P (bd (PV.at_ 1 true (.lst (hp.map aQ)) (.int .i64 i)) k):=by
 obtain ⟨n,rfl⟩:=Int.eq_ofNat_of_zero_le h0
 have hn : n<hp.length:=by omega
 rw [Int.toNat_natCast,List.getElem?_eq_getElem hn] at h
 exact aS hn (fun _=>rfl) h
theorem pJ {i : Int} (h0 : 0≤i) (h1 : i<hp.length) (h : Ok P (k (.lst (hp.map aQ)))) : Ok P (bd (PV.inb (.lst (hp.map aQ)) (.int .i64 i)) k):=aBI h0 (by rw [List.length_map];exact h1) h
theorem aGD {i : Int} {r : List cJ} (h0 : 0≤i) (h1 : i<hp.length) (h : Ok P (k (.lst ((hp.set i.toNat r).map aQ)))) : Ok P (bd (PV.setCell 1 (.lst (hp.map aQ)) (.int .i64 i) 0 (aT r)) k):=by
 obtain ⟨n,rfl⟩:=Int.eq_ofNat_of_zero_le h0
 have hn : n<hp.length:=by omega
 refine aBJ (cs:=[aT hp[n]]) (by omega) (by rw [Int.toNat_natCast,List.getElem?_map,List.getElem?_eq_getElem hn];rfl) rfl (by omega) rfl ?_
 rw [List.map_set] at h
 exact h
theorem aLz {hp : List (List cJ)} (h : ∀ r∈hp,r.length≤6) (i : Nat) : (hp[i]?.getD []).length≤6:=by
 cases hx : hp[i]? with
 | none=>simp
 | some r=>exact h r (List.mem_of_getElem? hx)
end
theorem oO {α : Type} {l : List α} (h : l.length=2) : ∃ a b,l = [a,b]:=by
 match l,h with
 | [a,b],_=>exact ⟨a,b,rfl⟩
theorem aHX {l : List bO} : ∀ x∈l.map bO.pv,x.isEl 4 true=true:=by
 intro x hx
 obtain ⟨a,_,rfl⟩:=List.mem_map.1 hx
 rfl
set_option maxRecDepth 100000 in
set_option maxHeartbeats 4000000 in
theorem aOi {m : eM} {fs0 : List bO} {fr : bO} {took : List cJ} {hp : List (List cJ)} {made : Int} {out : List ByteArray} {x : bM} {nc : Int} {a3 a4 a5 a6 a7 a8 : PV}
 (S : aNp m fs0 fr took hp made out) (hx : cC m.texts.length m.funcs.length fr.loc.length nc x.o x.a=true) (hu : (took.length : Int)=(aX m.funcs x).1) :
 Ok (DoR (.lst (m.texts.map PV.str)) (.lst (m.funcs.map cD.pv)) (.int .i64 made) a3 a4 a5 a6 a7 a8 (.lst (hp.map aQ)) (.lst (out.map PV.str)) fs0 (dO m fr took (fs0.length+1) hp made out x))
  (sN (.int .i64 x.o) (.int .i64 x.a) (.lst (m.texts.map PV.str)) (.lst (m.funcs.map cD.pv)) (.int .i64 made) a3 a4 a5 a6 a7 a8 (.int .i64 0)
   (.lst (fs0.map bO.pv++[bO.pv ⟨fr.f,fr.pc,fr.loc,fr.stk++took⟩])) (.lst (hp.map aQ)) (.lst (out.map PV.str))):=by
 obtain ⟨q26,q3,q67,q20,q2122,q23,q524,qj,q1⟩:=aAU hx
 obtain ⟨nf,nt,par,n0,stks,nl,ns,recs,nh,nm,no,vals0⟩:=S
 have nA : (fs0.map bO.pv).length≤23:=by rw [List.length_map];exact n0
 obtain ⟨ff,fpc,floc,fstk⟩:=fr
 simp only at *
 rw [aCS]
 refine aAw (by omega) ?_
 refine aG (aC (fun ho=>?_) (fun n1=>?_))
 ·have e0 : aX m.funcs x=(0,1):=by unfold aX;repeat (first | rfl | rw [if_pos (by omega)] | rw [if_neg (by omega)])
  rw [e0] at hu
  obtain rfl:=List.eq_nil_of_length_eq_zero (show took.length=0 by omega)
  simp only [List.length_nil,Nat.add_zero,List.append_nil] at ns ⊢
  have e : dO m ⟨ff,fpc,floc,fstk⟩ [] (fs0.length+1) hp made out x = .next ⟨ff,fpc,floc,fstk++[aC1 x.a]⟩ hp made out:=by simp only [dO];repeat (first | rfl | rw [if_pos (by omega)] | rw [if_neg (by omega)])
  exact aJQ (aFi (by omega) (by omega) (aB (by rw [e];rfl)))
 refine aG (aC (fun ho=>?_) (fun n2=>?_))
 ·have e0 : aX m.funcs x=(0,1):=by unfold aX;repeat (first | rfl | rw [if_pos (by omega)] | rw [if_neg (by omega)])
  rw [e0] at hu
  obtain rfl:=List.eq_nil_of_length_eq_zero (show took.length=0 by omega)
  simp only [List.length_nil,Nat.add_zero,List.append_nil] at ns ⊢
  have e : dO m ⟨ff,fpc,floc,fstk⟩ [] (fs0.length+1) hp made out x = .next ⟨ff,fpc,floc,fstk++[nM (decide (x.a=1))]⟩ hp made out:=by simp only [dO];repeat (first | rfl | rw [if_pos (by omega)] | rw [if_neg (by omega)])
  exact aG (pI (aFi (by omega) (by omega) (aB (by rw [e];rfl))))
 refine aG (aC (fun ho=>?_) (fun n3=>?_))
 ·have e0 : aX m.funcs x=(0,1):=by unfold aX;repeat (first | rfl | rw [if_pos (by omega)] | rw [if_neg (by omega)])
  rw [e0] at hu
  obtain rfl:=List.eq_nil_of_length_eq_zero (show took.length=0 by omega)
  simp only [List.length_nil,Nat.add_zero,List.append_nil] at ns ⊢
  have e : dO m ⟨ff,fpc,floc,fstk⟩ [] (fs0.length+1) hp made out x = .next ⟨ff,fpc,floc,fstk++[aC2 (m.texts[x.a.toNat]?.getD (bs []))]⟩ hp made out:=by simp only [dO];repeat (first | rfl | rw [if_pos (by omega)] | rw [if_neg (by omega)])
  obtain ⟨i,hi⟩:=Int.eq_ofNat_of_zero_le (q3 ho).1
  have hil : i<m.texts.length:=by have:=q3 ho;omega
  rw [hi] at e ⊢
  rw [Int.toNat_natCast,List.getElem?_eq_getElem hil] at e
  exact aS hil (fun _=>rfl) (bD rfl (gJ (by omega) (by omega) (aB (by rw [e];rfl))))
 refine aG (aC (fun ho=>?_) (fun n4=>?_))
 ·have e0 : aX m.funcs x=(0,1):=by unfold aX;repeat (first | rfl | rw [if_pos (by omega)] | rw [if_neg (by omega)])
  rw [e0] at hu
  obtain rfl:=List.eq_nil_of_length_eq_zero (show took.length=0 by omega)
  simp only [List.length_nil,Nat.add_zero,List.append_nil] at ns ⊢
  have e : dO m ⟨ff,fpc,floc,fstk⟩ [] (fs0.length+1) hp made out x = .next ⟨ff,fpc,floc,fstk++[dC]⟩ hp made out:=by simp only [dO];repeat (first | rfl | rw [if_pos (by omega)] | rw [if_neg (by omega)])
  exact gJ (by omega) (by omega) (aB (by rw [e];rfl))
 refine aG (aC (fun ho=>?_) (fun n5=>?_))
 ·have e0 : aX m.funcs x=(0,1):=by unfold aX;repeat (first | rfl | rw [if_pos (by omega)] | rw [if_neg (by omega)])
  rw [e0] at hu
  obtain rfl:=List.eq_nil_of_length_eq_zero (show took.length=0 by omega)
  simp only [List.length_nil,Nat.add_zero,List.append_nil] at ns ⊢
  have e : dO m ⟨ff,fpc,floc,fstk⟩ [] (fs0.length+1) hp made out x = .next ⟨ff,fpc,floc,fstk++[aMg x.a]⟩ hp made out:=by simp only [dO];repeat (first | rfl | rw [if_pos (by omega)] | rw [if_neg (by omega)])
  exact bD rfl (gJ (by omega) (by omega) (aB (by rw [e];rfl)))
 refine aG (aC (fun ho=>?_) (fun n6=>?_))
 ·have e0 : aX m.funcs x=(0,1):=by unfold aX;repeat (first | rfl | rw [if_pos (by omega)] | rw [if_neg (by omega)])
  rw [e0] at hu
  obtain rfl:=List.eq_nil_of_length_eq_zero (show took.length=0 by omega)
  simp only [List.length_nil,Nat.add_zero,List.append_nil] at ns ⊢
  have e : dO m ⟨ff,fpc,floc,fstk⟩ [] (fs0.length+1) hp made out x = .next ⟨ff,fpc,floc,fstk++[floc[x.a.toNat]?.getD dC]⟩ hp made out:=by simp only [dO];repeat (first | rfl | rw [if_pos (by omega)] | rw [if_neg (by omega)])
  have hq:=q67 (.inl ho)
  refine bY rfl rfl (bY rfl rfl (aA (y:=aT floc) rfl (eI (by omega) (by omega) (bY rfl rfl (aA (y:=aT floc) rfl (nD (by omega) (by omega) (fun v hv=>?_)))))))
  rw [hv] at e
  exact aFi (by omega) (by omega) (aB (by rw [e];rfl))
 refine aG (aC (fun ho=>?_) (fun n7=>?_))
 ·have e0 : aX m.funcs x=(1,0):=by unfold aX;repeat (first | rfl | rw [if_pos (by omega)] | rw [if_neg (by omega)])
  rw [e0] at hu
  obtain ⟨a,rfl⟩:=List.length_eq_one_iff.1 (show took.length=1 by omega)
  have va:=vals0 a (by simp)
  have sa:=bV va
  have ns : fstk.length+1≤16:=ns
  have e : dO m ⟨ff,fpc,floc,fstk⟩ [a] (fs0.length+1) hp made out x = .next ⟨ff,fpc,floc.set x.a.toNat a,fstk⟩ hp made out:=by simp only [dO];repeat (first | rfl | rw [if_pos (by omega)] | rw [if_neg (by omega)])
  have hq:=q67 (.inr ho)
  refine fL (by omega) (by first | omega | (simp;omega)) (aD rfl (aA rfl (aA rfl (aA rfl (?_)))))
  refine bY rfl rfl (bY rfl rfl (aA (y:=aT floc) rfl (eI (by omega) (by omega) (bY rfl rfl (aA (y:=aT floc) rfl (bY rfl rfl (aA (y:=aT floc) rfl ?_)))))))
  refine qD (v:=a) (by omega) (by omega) (bY rfl rfl (aA (y:=aT floc) rfl (cN rfl rfl (by omega) rfl (aB (by rw [e];rfl)))))
 refine aG (aC (fun ho=>?_) (fun n8=>?_))
 ·have e0 : aX m.funcs x=(1,2):=by unfold aX;repeat (first | rfl | rw [if_pos (by omega)] | rw [if_neg (by omega)])
  rw [e0] at hu
  obtain ⟨a,rfl⟩:=List.length_eq_one_iff.1 (show took.length=1 by omega)
  have va:=vals0 a (by simp)
  have sa:=bV va
  have ns : fstk.length+1≤16:=ns
  have e : dO m ⟨ff,fpc,floc,fstk⟩ [a] (fs0.length+1) hp made out x = .next ⟨ff,fpc,floc,fstk++[a,a]⟩ hp made out:=by simp only [dO];repeat (first | rfl | rw [if_pos (by omega)] | rw [if_neg (by omega)])
  refine fL (by omega) (by first | omega | (simp;omega)) (aD rfl (aA rfl (aA rfl (aA rfl (?_)))))
  refine gJ (by omega) (by omega) (gJ (by omega) (by simp;omega) (aB ?_))
  rw [e]
  show _=_
  simp only [List.append_assoc]
  rfl
 refine aG (aC (fun ho=>?_) (fun n9=>?_))
 ·have e0 : aX m.funcs x=(1,0):=by unfold aX;repeat (first | rfl | rw [if_pos (by omega)] | rw [if_neg (by omega)])
  rw [e0] at hu
  obtain ⟨a,rfl⟩:=List.length_eq_one_iff.1 (show took.length=1 by omega)
  have va:=vals0 a (by simp)
  have sa:=bV va
  have ns : fstk.length+1≤16:=ns
  have e : dO m ⟨ff,fpc,floc,fstk⟩ [a] (fs0.length+1) hp made out x = .next ⟨ff,fpc,floc,fstk++[]⟩ hp made out:=by simp only [dO];repeat (first | rfl | rw [if_pos (by omega)] | rw [if_neg (by omega)])
  refine fL (by omega) (by first | omega | (simp;omega)) (aB ?_)
  rw [e,List.append_nil]
  rfl
 refine aG (aC (fun ho=>?_) (fun n10=>?_))
 ·have e0 : aX m.funcs x=(2,2):=by unfold aX;repeat (first | rfl | rw [if_pos (by omega)] | rw [if_neg (by omega)])
  rw [e0] at hu
  obtain ⟨a,b,rfl⟩:=oO (show took.length=2 by omega)
  have va:=vals0 a (by simp)
  have vb:=vals0 b (by simp)
  have sa:=bV va
  have sb:=bV vb
  rw [show fstk++[a,b]=fstk++[a]++[b] by simp]
  have ns : fstk.length+2≤16:=ns
  have e : dO m ⟨ff,fpc,floc,fstk⟩ [a,b] (fs0.length+1) hp made out x = .next ⟨ff,fpc,floc,fstk++[b,a]⟩ hp made out:=by simp only [dO];repeat (first | rfl | rw [if_pos (by omega)] | rw [if_neg (by omega)])
  refine fL (by omega) (by first | omega | (simp;omega)) (aD rfl (aA rfl (aA rfl (aA rfl (?_)))))
  refine fL (by omega) (by first | omega | (simp;omega)) (aD rfl (aA rfl (aA rfl (aA rfl (?_)))))
  refine gJ (by omega) (by omega) (gJ (by omega) (by simp;omega) (aB ?_))
  rw [e]
  show _=_
  simp only [List.append_assoc]
  rfl
 refine aG (aC (fun ho=>?_) (fun n11=>?_))
 ·have e0 : aX m.funcs x=(2,1):=by unfold aX;repeat (first | rfl | rw [if_pos (by omega)] | rw [if_neg (by omega)])
  rw [e0] at hu
  obtain ⟨a,b,rfl⟩:=oO (show took.length=2 by omega)
  have va:=vals0 a (by simp)
  have vb:=vals0 b (by simp)
  have sa:=bV va
  have sb:=bV vb
  rw [show fstk++[a,b]=fstk++[a]++[b] by simp]
  have ns : fstk.length+2≤16:=ns
  have e : dO m ⟨ff,fpc,floc,fstk⟩ [a,b] (fs0.length+1) hp made out x=if (nP x.o a b).2≠0 then .trap (nP x.o a b).2 else .next ⟨ff,fpc,floc,fstk++[(nP x.o a b).1]⟩ hp made out:=by simp only [dO];repeat (first | rfl | rw [if_pos (by omega)] | rw [if_neg (by omega)])
  refine fL (by omega) (by first | omega | (simp;omega)) (aD rfl (aA rfl (aA rfl (aA rfl (?_)))))
  refine fL (by omega) (by first | omega | (simp;omega)) (aD rfl (aA rfl (aA rfl (aA rfl (?_)))))
  refine nC (aC4 (o:=x.o) (a:=a) (b:=b) (by omega) ⟨by omega,by omega⟩) (bE rfl (bE rfl (aD rfl (aA rfl (aA rfl (aA rfl (bD rfl (gJ (by omega) (by omega) (aB ?_)))))))))
  by_cases ht : (nP x.o a b).2≠0
  ·rw [e,if_pos ht];exact ⟨ht,rfl⟩
  ·rw [e,if_neg ht]
   have ht : (nP x.o a b).2=0:=by simpa using ht
   rw [ht];rfl
 refine aG (aC (fun ho=>?_) (fun n12=>?_))
 ·have e0 : aX m.funcs x=(2,1):=by unfold aX;repeat (first | rfl | rw [if_pos (by omega)] | rw [if_neg (by omega)])
  rw [e0] at hu
  obtain ⟨a,b,rfl⟩:=oO (show took.length=2 by omega)
  have va:=vals0 a (by simp)
  have vb:=vals0 b (by simp)
  have sa:=bV va
  have sb:=bV vb
  rw [show fstk++[a,b]=fstk++[a]++[b] by simp]
  have ns : fstk.length+2≤16:=ns
  have e : dO m ⟨ff,fpc,floc,fstk⟩ [a,b] (fs0.length+1) hp made out x=if (nP x.o a b).2≠0 then .trap (nP x.o a b).2 else .next ⟨ff,fpc,floc,fstk++[(nP x.o a b).1]⟩ hp made out:=by simp only [dO];repeat (first | rfl | rw [if_pos (by omega)] | rw [if_neg (by omega)])
  refine fL (by omega) (by first | omega | (simp;omega)) (aD rfl (aA rfl (aA rfl (aA rfl (?_)))))
  refine fL (by omega) (by first | omega | (simp;omega)) (aD rfl (aA rfl (aA rfl (aA rfl (?_)))))
  refine nC (aC4 (o:=x.o) (a:=a) (b:=b) (by omega) ⟨by omega,by omega⟩) (bE rfl (bE rfl (aD rfl (aA rfl (aA rfl (aA rfl (bD rfl (gJ (by omega) (by omega) (aB ?_)))))))))
  by_cases ht : (nP x.o a b).2≠0
  ·rw [e,if_pos ht];exact ⟨ht,rfl⟩
  ·rw [e,if_neg ht]
   have ht : (nP x.o a b).2=0:=by simpa using ht
   rw [ht];rfl
 refine aG (aC (fun ho=>?_) (fun n13=>?_))
 ·have e0 : aX m.funcs x=(2,1):=by unfold aX;repeat (first | rfl | rw [if_pos (by omega)] | rw [if_neg (by omega)])
  rw [e0] at hu
  obtain ⟨a,b,rfl⟩:=oO (show took.length=2 by omega)
  have va:=vals0 a (by simp)
  have vb:=vals0 b (by simp)
  have sa:=bV va
  have sb:=bV vb
  rw [show fstk++[a,b]=fstk++[a]++[b] by simp]
  have ns : fstk.length+2≤16:=ns
  have e : dO m ⟨ff,fpc,floc,fstk⟩ [a,b] (fs0.length+1) hp made out x=if (nP x.o a b).2≠0 then .trap (nP x.o a b).2 else .next ⟨ff,fpc,floc,fstk++[(nP x.o a b).1]⟩ hp made out:=by simp only [dO];repeat (first | rfl | rw [if_pos (by omega)] | rw [if_neg (by omega)])
  refine fL (by omega) (by first | omega | (simp;omega)) (aD rfl (aA rfl (aA rfl (aA rfl (?_)))))
  refine fL (by omega) (by first | omega | (simp;omega)) (aD rfl (aA rfl (aA rfl (aA rfl (?_)))))
  refine nC (aC4 (o:=x.o) (a:=a) (b:=b) (by omega) ⟨by omega,by omega⟩) (bE rfl (bE rfl (aD rfl (aA rfl (aA rfl (aA rfl (bD rfl (gJ (by omega) (by omega) (aB ?_)))))))))
  by_cases ht : (nP x.o a b).2≠0
  ·rw [e,if_pos ht];exact ⟨ht,rfl⟩
  ·rw [e,if_neg ht]
   have ht : (nP x.o a b).2=0:=by simpa using ht
   rw [ht];rfl
 refine aG (aC (fun ho=>?_) (fun n14=>?_))
 ·have e0 : aX m.funcs x=(2,1):=by unfold aX;repeat (first | rfl | rw [if_pos (by omega)] | rw [if_neg (by omega)])
  rw [e0] at hu
  obtain ⟨a,b,rfl⟩:=oO (show took.length=2 by omega)
  have va:=vals0 a (by simp)
  have vb:=vals0 b (by simp)
  have sa:=bV va
  have sb:=bV vb
  rw [show fstk++[a,b]=fstk++[a]++[b] by simp]
  have ns : fstk.length+2≤16:=ns
  have e : dO m ⟨ff,fpc,floc,fstk⟩ [a,b] (fs0.length+1) hp made out x=if (nP x.o a b).2≠0 then .trap (nP x.o a b).2 else .next ⟨ff,fpc,floc,fstk++[(nP x.o a b).1]⟩ hp made out:=by simp only [dO];repeat (first | rfl | rw [if_pos (by omega)] | rw [if_neg (by omega)])
  refine fL (by omega) (by first | omega | (simp;omega)) (aD rfl (aA rfl (aA rfl (aA rfl (?_)))))
  refine fL (by omega) (by first | omega | (simp;omega)) (aD rfl (aA rfl (aA rfl (aA rfl (?_)))))
  refine nC (aC4 (o:=x.o) (a:=a) (b:=b) (by omega) ⟨by omega,by omega⟩) (bE rfl (bE rfl (aD rfl (aA rfl (aA rfl (aA rfl (bD rfl (gJ (by omega) (by omega) (aB ?_)))))))))
  by_cases ht : (nP x.o a b).2≠0
  ·rw [e,if_pos ht];exact ⟨ht,rfl⟩
  ·rw [e,if_neg ht]
   have ht : (nP x.o a b).2=0:=by simpa using ht
   rw [ht];rfl
 refine aG (aC (fun ho=>?_) (fun n15=>?_))
 ·have e0 : aX m.funcs x=(2,1):=by unfold aX;repeat (first | rfl | rw [if_pos (by omega)] | rw [if_neg (by omega)])
  rw [e0] at hu
  obtain ⟨a,b,rfl⟩:=oO (show took.length=2 by omega)
  have va:=vals0 a (by simp)
  have vb:=vals0 b (by simp)
  have sa:=bV va
  have sb:=bV vb
  rw [show fstk++[a,b]=fstk++[a]++[b] by simp]
  have ns : fstk.length+2≤16:=ns
  have e : dO m ⟨ff,fpc,floc,fstk⟩ [a,b] (fs0.length+1) hp made out x=if (nP x.o a b).2≠0 then .trap (nP x.o a b).2 else .next ⟨ff,fpc,floc,fstk++[(nP x.o a b).1]⟩ hp made out:=by simp only [dO];repeat (first | rfl | rw [if_pos (by omega)] | rw [if_neg (by omega)])
  refine fL (by omega) (by first | omega | (simp;omega)) (aD rfl (aA rfl (aA rfl (aA rfl (?_)))))
  refine fL (by omega) (by first | omega | (simp;omega)) (aD rfl (aA rfl (aA rfl (aA rfl (?_)))))
  refine nC (aC4 (o:=x.o) (a:=a) (b:=b) (by omega) ⟨by omega,by omega⟩) (bE rfl (bE rfl (aD rfl (aA rfl (aA rfl (aA rfl (bD rfl (gJ (by omega) (by omega) (aB ?_)))))))))
  by_cases ht : (nP x.o a b).2≠0
  ·rw [e,if_pos ht];exact ⟨ht,rfl⟩
  ·rw [e,if_neg ht]
   have ht : (nP x.o a b).2=0:=by simpa using ht
   rw [ht];rfl
 refine aG (aC (fun ho=>?_) (fun n16=>?_))
 ·have e0 : aX m.funcs x=(1,1):=by unfold aX;repeat (first | rfl | rw [if_pos (by omega)] | rw [if_neg (by omega)])
  rw [e0] at hu
  obtain ⟨a,rfl⟩:=List.length_eq_one_iff.1 (show took.length=1 by omega)
  have va:=vals0 a (by simp)
  have sa:=bV va
  have ns : fstk.length+1≤16:=ns
  have e : dO m ⟨ff,fpc,floc,fstk⟩ [a] (fs0.length+1) hp made out x=if (vY a).2≠0 then .trap (vY a).2 else .next ⟨ff,fpc,floc,fstk++[(vY a).1]⟩ hp made out:=by simp only [dO];repeat (first | rfl | rw [if_pos (by omega)] | rw [if_neg (by omega)])
  refine fL (by omega) (by first | omega | (simp;omega)) (?_)
  refine nC (aNd (v:=a)) (bE rfl (bE rfl (aD rfl (aA rfl (aA rfl (aA rfl (bD rfl (gJ (by omega) (by omega) (aB ?_)))))))))
  by_cases ht : (vY a).2≠0
  ·rw [e,if_pos ht];exact ⟨ht,rfl⟩
  ·rw [e,if_neg ht]
   have ht : (vY a).2=0:=by simpa using ht
   rw [ht];rfl
 refine aG (aC (fun ho=>?_) (fun n17=>?_))
 ·have e0 : aX m.funcs x=(0,0):=by unfold aX;repeat (first | rfl | rw [if_pos (by omega)] | rw [if_neg (by omega)])
  rw [e0] at hu
  obtain rfl:=List.eq_nil_of_length_eq_zero (show took.length=0 by omega)
  simp only [List.length_nil,Nat.add_zero,List.append_nil] at ns ⊢
  have e : dO m ⟨ff,fpc,floc,fstk⟩ [] (fs0.length+1) hp made out x = .next ⟨ff,x.a,floc,fstk⟩ hp made out:=by simp only [dO];repeat (first | rfl | rw [if_pos (by omega)] | rw [if_neg (by omega)])
  exact bD rfl (cN rfl rfl (by omega) rfl (aB (by rw [e];rfl)))
 refine aG (aC (fun ho=>?_) (fun n18=>?_))
 ·have e0 : aX m.funcs x=(1,0):=by unfold aX;repeat (first | rfl | rw [if_pos (by omega)] | rw [if_neg (by omega)])
  rw [e0] at hu
  obtain ⟨a,rfl⟩:=List.length_eq_one_iff.1 (show took.length=1 by omega)
  have va:=vals0 a (by simp)
  have sa:=bV va
  have ns : fstk.length+1≤16:=ns
  have e : dO m ⟨ff,fpc,floc,fstk⟩ [a] (fs0.length+1) hp made out x=if a.k≠2 then .trap 1 else if (decide (a.n=1)==decide (x.o=18))=true then .next ⟨ff,x.a,floc,fstk⟩ hp made out else .next ⟨ff,fpc,floc,fstk++[]⟩ hp made out:=by simp only [dO];repeat (first | rfl | rw [if_pos (by omega)] | rw [if_neg (by omega)])
  refine fL (by omega) (by first | omega | (simp;omega)) (aD rfl (aA rfl (aA rfl (aA rfl (?_)))))
  refine bF (aI (fun h=>aB (by rw [e,if_pos h];exact ⟨by omega,rfl⟩)) (fun h=>?_))
  rw [if_neg (by simpa using h)] at e
  refine aG (aG (wQ (aZ (fun hb=>?_) (fun hb=>?_))))
  ·rw [if_pos hb] at e
   exact bD rfl (cN rfl rfl (by omega) rfl (aB (by rw [e];rfl)))
  ·rw [if_neg (by rw [hb];simp)] at e
   exact aB (by rw [e,List.append_nil];rfl)
 refine aG (aC (fun ho=>?_) (fun n19=>?_))
 ·have e0 : aX m.funcs x=(1,0):=by unfold aX;repeat (first | rfl | rw [if_pos (by omega)] | rw [if_neg (by omega)])
  rw [e0] at hu
  obtain ⟨a,rfl⟩:=List.length_eq_one_iff.1 (show took.length=1 by omega)
  have va:=vals0 a (by simp)
  have sa:=bV va
  have ns : fstk.length+1≤16:=ns
  have e : dO m ⟨ff,fpc,floc,fstk⟩ [a] (fs0.length+1) hp made out x=if a.k≠2 then .trap 1 else if (decide (a.n=1)==decide (x.o=18))=true then .next ⟨ff,x.a,floc,fstk⟩ hp made out else .next ⟨ff,fpc,floc,fstk++[]⟩ hp made out:=by simp only [dO];repeat (first | rfl | rw [if_pos (by omega)] | rw [if_neg (by omega)])
  refine fL (by omega) (by first | omega | (simp;omega)) (aD rfl (aA rfl (aA rfl (aA rfl (?_)))))
  refine bF (aI (fun h=>aB (by rw [e,if_pos h];exact ⟨by omega,rfl⟩)) (fun h=>?_))
  rw [if_neg (by simpa using h)] at e
  refine aG (aG (wQ (aZ (fun hb=>?_) (fun hb=>?_))))
  ·rw [if_pos hb] at e
   exact bD rfl (cN rfl rfl (by omega) rfl (aB (by rw [e];rfl)))
  ·rw [if_neg (by rw [hb];simp)] at e
   exact aB (by rw [e,List.append_nil];rfl)
 refine aG (aC (fun ho=>?_) (fun n20=>?_))
 ·have e0 : aX m.funcs x=(0,1):=by unfold aX;repeat (first | rfl | rw [if_pos (by omega)] | rw [if_neg (by omega)])
  rw [e0] at hu
  obtain rfl:=List.eq_nil_of_length_eq_zero (show took.length=0 by omega)
  simp only [List.length_nil,Nat.add_zero,List.append_nil] at ns ⊢
  have e : dO m ⟨ff,fpc,floc,fstk⟩ [] (fs0.length+1) hp made out x=if made=120 then .trap 7 else .next ⟨ff,fpc,floc,fstk++[aMf hp.length]⟩ (hp++[List.replicate x.a.toNat dC]) (made+1) out:=by simp only [dO];repeat (first | rfl | rw [if_pos (by omega)] | rw [if_neg (by omega)])
  have hq:=q20 ho
  refine aG (aC (fun h=>aB (by rw [e,if_pos h];exact ⟨by omega,rfl⟩)) (fun h=>?_))
  rw [if_neg h] at e
  refine aE (bD rfl (gJ (by omega) (by omega) (?_)))
  refine aAT (by omega) (by omega) (jF (aC (fun _=>?_) (fun h=>by omega)))
  refine aAT (by omega) (by omega) (kB (by simp;omega) (fun x hx=>by simp only [List.mem_singleton] at hx;subst hx;rfl) (aN (by omega) (bD rfl (aB ?_))))
  rw [e]
  show _=_
  rw [List.map_append]
  rfl
 refine aG (aC (fun ho=>?_) (fun n21=>?_))
 ·have e0 : aX m.funcs x=(1,1):=by unfold aX;repeat (first | rfl | rw [if_pos (by omega)] | rw [if_neg (by omega)])
  rw [e0] at hu
  obtain ⟨a,rfl⟩:=List.length_eq_one_iff.1 (show took.length=1 by omega)
  have va:=vals0 a (by simp)
  have sa:=bV va
  have ns : fstk.length+1≤16:=ns
  have e : dO m ⟨ff,fpc,floc,fstk⟩ [a] (fs0.length+1) hp made out x=if a.k≠4 then .trap 1 else if (hp[a.n.toNat]?.getD []).length≤x.a then .trap 4 else .next ⟨ff,fpc,floc,fstk++[(hp[a.n.toNat]?.getD [])[x.a.toNat]?.getD dC]⟩ hp made out:=by simp only [dO];repeat (first | rfl | rw [if_pos (by omega)] | rw [if_neg (by omega)])
  refine fL (by omega) (by first | omega | (simp;omega)) (aD rfl (aA rfl (aA rfl (aA rfl (?_)))))
  have hq:=q2122 (.inl ho)
  refine bF (aI (fun h=>aB (by rw [e,if_pos h];exact ⟨by omega,rfl⟩)) (fun h=>?_))
  rw [if_neg (by simpa using h)] at e
  have hr:=rZ va h
  have hlen:=aLz recs a.n.toNat
  refine pJ (by omega) (by omega) (dM (by omega) (by omega) (dM (by omega) (by omega) (aA rfl (bB ?_))))
  refine nW (aC (fun h=>aB (by rw [e,if_pos h];exact ⟨by omega,rfl⟩)) (fun h=>?_))
  rw [if_neg h] at e
  refine pJ (by omega) (by omega) (dM (by omega) (by omega) (dM (by omega) (by omega) (aA rfl (eI (by omega) (by omega) (dM (by omega) (by omega) (aA rfl ?_))))))
  refine nD (by omega) (by omega) (fun v hv=>?_)
  rw [hv] at e
  exact aFi (by omega) (by omega) (aB (by rw [e];rfl))
 refine aG (aC (fun ho=>?_) (fun n22=>?_))
 ·have e0 : aX m.funcs x=(2,0):=by unfold aX;repeat (first | rfl | rw [if_pos (by omega)] | rw [if_neg (by omega)])
  rw [e0] at hu
  obtain ⟨a,b,rfl⟩:=oO (show took.length=2 by omega)
  have va:=vals0 a (by simp)
  have vb:=vals0 b (by simp)
  have sa:=bV va
  have sb:=bV vb
  rw [show fstk++[a,b]=fstk++[a]++[b] by simp]
  have ns : fstk.length+2≤16:=ns
  have e : dO m ⟨ff,fpc,floc,fstk⟩ [a,b] (fs0.length+1) hp made out x=if a.k≠4 then .trap 1 else if (hp[a.n.toNat]?.getD []).length≤x.a then .trap 4 else .next ⟨ff,fpc,floc,fstk⟩ (hp.set a.n.toNat ((hp[a.n.toNat]?.getD []).set x.a.toNat b)) made out:=by simp only [dO];repeat (first | rfl | rw [if_pos (by omega)] | rw [if_neg (by omega)])
  refine fL (by omega) (by first | omega | (simp;omega)) (aD rfl (aA rfl (aA rfl (aA rfl (?_)))))
  refine fL (by omega) (by first | omega | (simp;omega)) (aD rfl (aA rfl (aA rfl (aA rfl (?_)))))
  have hq:=q2122 (.inr ho)
  refine bF (aI (fun h=>aB (by rw [e,if_pos h];exact ⟨by omega,rfl⟩)) (fun h=>?_))
  rw [if_neg (by simpa using h)] at e
  have hr:=rZ va h
  have hlen:=aLz recs a.n.toNat
  refine pJ (by omega) (by omega) (dM (by omega) (by omega) (dM (by omega) (by omega) (aA rfl (bB ?_))))
  refine nW (aC (fun h=>aB (by rw [e,if_pos h];exact ⟨by omega,rfl⟩)) (fun h=>?_))
  rw [if_neg h] at e
  refine pJ (by omega) (by omega) (dM (by omega) (by omega) (dM (by omega) (by omega) (aA rfl (eI (by omega) (by omega) (dM (by omega) (by omega) (aA rfl ?_))))))
  refine dM (by omega) (by omega) (aA rfl (qD (v:=b) (by omega) (by omega) (dM (by omega) (by omega) (aA rfl (aGD (by omega) (by omega) (aB (by rw [e];rfl)))))))
 refine aG (aC (fun ho=>?_) (fun n23=>?_))
 ·have hq:=q23 ho
  have e0 : aX m.funcs x=(x.a+1,1):=by unfold aX;repeat (first | rfl | rw [if_pos (by omega)] | rw [if_neg (by omega)])
  rw [e0] at hu
  obtain ⟨a,args,rfl⟩ : ∃ a l,took=a::l:=by
   cases took with
   | nil=>simp at hu;omega
   | cons a l=>exact ⟨a,l,rfl⟩
  have va:=vals0 a (by simp)
  have sa:=bV va
  have ns : fstk.length+(args.length+1)≤16:=ns
  have hu : ((args.length+1 : Nat) : Int)=x.a+1:=hu
  have e : dO m ⟨ff,fpc,floc,fstk⟩ (a::args) (fs0.length+1) hp made out x=if a.k≠5 then .trap 1 else if fZ m.funcs a.n≠x.a then .trap 5 else if fs0.length+1=24 then .trap 6 else .call ⟨ff,fpc,floc,fstk⟩ (vE m.funcs a.n args):=by simp only [dO];repeat (first | rfl | rw [if_pos (by omega)] | rw [if_neg (by omega)])
  have hlen : (fstk++a::args).length=fstk.length+args.length+1:=by simp;omega
  refine bY rfl rfl (bY rfl rfl (bY rfl rfl (aA (y:=aT (fstk++a::args)) rfl (bB (bN (by omega) (bN (by omega) ?_))))))
  have ei : ((fstk++a::args).length : Int) - 1 - x.a=fstk.length:=by omega
  rw [ei]
  refine bY rfl rfl (aA (y:=aT (fstk++a::args)) rfl (eI (by omega) (by omega) (bY rfl rfl (aA (y:=aT (fstk++a::args)) rfl (nD (by omega) (by omega) (fun v hv=>?_))))))
  rw [Int.toNat_natCast,List.getElem?_append_right (Nat.le_refl _),Nat.sub_self] at hv
  cases hv
  refine aD rfl (aA rfl (aA rfl (aA rfl (?_))))
  refine bF (aI (fun h=>aB (by rw [e,if_pos h];exact ⟨by omega,rfl⟩)) (fun h=>?_))
  rw [if_neg (by simpa using h)] at e
  have hr:=aD2 va h
  refine aKT (by omega) (by omega) (by omega) (fun _ _=>aA rfl ?_)
  refine bF (aI (fun h=>aB (by rw [e,if_pos h];exact ⟨by omega,rfl⟩)) (fun h=>?_))
  rw [if_neg (by simpa using h)] at e
  rw [show fstk++a::args=fstk++[a]++args by simp]
  refine aJZ (under:=true) (s1:=fstk) (by omega) par nA (by simp;omega) (.inl ⟨rfl,a,rfl⟩) hr (by omega) (fun hd=>aB ?_) (fun hd=>aB ?_)
  ·rw [e,if_pos (by rw [List.length_map] at hd;omega)];exact ⟨by omega,rfl⟩
  ·rw [e,if_neg (by rw [List.length_map] at hd;omega)];rfl
 refine aG (aC (fun ho=>?_) (fun n24=>?_))
 ·have hq:=q524 (.inr ho)
  have e0 : aX m.funcs x=(fZ m.funcs x.a,1):=by unfold aX;repeat (first | rfl | rw [if_pos (by omega)] | rw [if_neg (by omega)])
  rw [e0] at hu
  have e : dO m ⟨ff,fpc,floc,fstk⟩ took (fs0.length+1) hp made out x=if fs0.length+1=24 then .trap 6 else .call ⟨ff,fpc,floc,fstk⟩ (vE m.funcs x.a took):=by simp only [dO];repeat (first | rfl | rw [if_pos (by omega)] | rw [if_neg (by omega)])
  refine aJZ (under:=false) (s1:=fstk) (by omega) par nA (by omega) (.inr ⟨rfl,rfl⟩) hq (by omega) (fun hd=>aB ?_) (fun hd=>aB ?_)
  ·rw [e,if_pos (by rw [List.length_map] at hd;omega)];exact ⟨by omega,rfl⟩
  ·rw [e,if_neg (by rw [List.length_map] at hd;omega)];rfl
 refine aG (aC (fun ho=>?_) (fun n25=>?_))
 ·have e0 : aX m.funcs x=(1,0):=by unfold aX;repeat (first | rfl | rw [if_pos (by omega)] | rw [if_neg (by omega)])
  rw [e0] at hu
  obtain ⟨a,rfl⟩:=List.length_eq_one_iff.1 (show took.length=1 by omega)
  have va:=vals0 a (by simp)
  have sa:=bV va
  have ns : fstk.length+1≤16:=ns
  have e : dO m ⟨ff,fpc,floc,fstk⟩ [a] (fs0.length+1) hp made out x = .ret a:=by simp only [dO];repeat (first | rfl | rw [if_pos (by omega)] | rw [if_neg (by omega)])
  refine fL (by omega) (by first | omega | (simp;omega)) (aD rfl (aA rfl (aA rfl (aA rfl (?_)))))
  have e1 : ((fs0.map bO.pv++[bO.pv ⟨ff,fpc,floc,fstk⟩]).length : Int) - 1=fs0.length:=by simp
  have hel : ∀ y∈fs0.map bO.pv++[bO.pv ⟨ff,fpc,floc,fstk⟩],y.isEl 4 true=true:=fun y hy=>(List.mem_append.1 hy).elim (aHX y) (fun h=>by simp only [List.mem_singleton] at h;subst h;rfl)
  refine bJ (bN (by simp;omega) ?_)
  rw [e1]
  have e2 : ((fs0.map bO.pv++[bO.pv ⟨ff,fpc,floc,fstk⟩]).take (fs0.length : Int).toNat).drop (0 : Int).toNat=fs0.map bO.pv:=by
   rw [Int.toNat_natCast,Int.toNat_zero,List.drop_zero,List.take_left' (by simp)]
  refine zP (by omega) (by omega) (by simp;omega) hel ?_
  refine zP (by omega) (by omega) (by simp;omega) hel ?_
  rw [e2]
  refine aE (aG (aC (fun h=>aB ?_) (fun h=>?_)))
  ·rw [e]
   have : fs0 = []:=List.eq_nil_of_length_eq_zero (by omega)
   subst this
   rfl
  ·obtain ⟨l,g,rfl⟩ : ∃ l g,fs0=l++[g]:=⟨fs0.dropLast,fs0.getLast (fun e=>by rw [e] at h;simp at h),(List.dropLast_concat_getLast _).symm⟩
   have hg:=stks g (by simp)
   obtain ⟨gf,gpc,gloc,gstk⟩:=g
   simp only at hg
   rw [List.map_append]
   refine gJ (by rw [List.length_map];simp at n0;omega) (by omega) (aB ?_)
   rw [e]
   show _=_
   rw [if_neg (by simp),xR,List.map_append]
   rfl
 refine aG (aC (fun ho=>?_) (fun n26=>?_))
 ·have e0 : aX m.funcs x=(1,0):=by unfold aX;repeat (first | rfl | rw [if_pos (by omega)] | rw [if_neg (by omega)])
  rw [e0] at hu
  obtain ⟨a,rfl⟩:=List.length_eq_one_iff.1 (show took.length=1 by omega)
  have va:=vals0 a (by simp)
  have sa:=bV va
  have ns : fstk.length+1≤16:=ns
  have e : dO m ⟨ff,fpc,floc,fstk⟩ [a] (fs0.length+1) hp made out x=if out.length=200 then .trap 8 else .next ⟨ff,fpc,floc,fstk⟩ hp made (out++[fP a hp]):=by simp only [dO];repeat (first | rfl | rw [if_pos (by omega)] | rw [if_neg (by omega)])
  refine fL (by omega) (by first | omega | (simp;omega)) (aD rfl (aA rfl (aA rfl (aA rfl (?_)))))
  refine aE (aG (aC (fun h=>aB (by rw [e,if_pos (by omega)];exact ⟨by omega,rfl⟩)) (fun h=>?_)))
  rw [if_neg (by omega)] at e
  refine aH (aII (v:=a) (hp:=hp) (nf:=m.funcs.length) (by omega) (by omega) (fun r hr=>by have:=recs r hr;omega) va) (fun r hr=>?_)
  subst hr
  refine eS rfl (rG (by simp) (fun x hx=>by simp only [List.mem_singleton] at hx;subst hx;rfl) (kB (by simp;omega) (fun x hx=>by simp only [List.mem_singleton] at hx;subst hx;rfl) (aB ?_)))
  rw [e]
  show _=_
  rw [List.map_append]
  rfl
 omega
theorem aO4 {a b : ByteArray} (h : a.data.toList=b.data.toList) : a=b:=by
 cases a;cases b;congr 1;exact Array.toList_inj.1 h
theorem aAV (a b : ByteArray) : (a++b).data.toList=a.data.toList++b.data.toList:=by
 rw [ByteArray.data_append,Array.toList_append]
theorem vZ : ∀ (j : Nat) (n : Nat),n<10 ^ (j+1)→(xO j (n : Int)).data.toList=Lib.decDigits n
 | 0,n,h=>by
   rw [Lib.decDigits_one (by omega)]
   show [UInt8.ofNat (48+(n : Int)).toNat]=_
   rw [show (48+(n : Int)).toNat=48+n by omega]
 | j+1,n,h=>by
   unfold xO
   by_cases h1 : (n : Int)<10
   ·rw [if_pos h1,Lib.decDigits_one (by omega)]
    show [UInt8.ofNat (48+(n : Int)).toNat]=_
    rw [show (48+(n : Int)).toNat=48+n by omega]
   ·rw [if_neg h1,aAV,show ((n : Int) / 10)=((n / 10 : Nat) : Int) by omega,vZ j (n / 10) (by have : 10 ^ (j+1+1)=10 ^ (j+1)*10:=Nat.pow_succ ..;omega)]
    conv=>rhs;rw [Lib.decDigits,dif_neg (by omega)]
    show _++[UInt8.ofNat (48+(n : Int) % 10).toNat]=_
    rw [show (48+(n : Int) % 10).toNat=48+n % 10 by omega]
theorem aJ0 {n : Int} (hn : -1000000000≤n∧n≤1000000000) : (⟨(Lib.itoa n).toArray⟩ : ByteArray)=gM n:=by
 refine aO4 ?_
 show Lib.itoa n=(gM n).data.toList
 unfold Lib.itoa gM
 by_cases h0 : n<0
 ·rw [if_pos h0,if_pos h0]
  obtain ⟨q,rfl⟩ : ∃ q : Nat,n = -(q : Int):=⟨n.natAbs,by omega⟩
  rw [show (-(q : Int)).natAbs=q by omega]
  by_cases h9 : -(q : Int) < -9
  ·obtain ⟨e1,e2⟩:=aJR h0
   rw [if_pos h9,e1,e2,Int.neg_neg,Int.neg_neg,Int.neg_neg,aAV,aAV,show (q : Int) / 10=((q / 10 : Nat) : Int) by omega,show (q : Int) % 10=((q % 10 : Nat) : Int) by omega,
    vZ 18 (q / 10) (by omega),vZ 18 (q % 10) (by omega),Lib.decDigits_one (show q % 10<10 by omega)]
   conv=>lhs;rw [Lib.decDigits,dif_neg (by omega)]
   rfl
  ·rw [if_neg h9,Int.neg_neg,aAV,vZ 18 q (by omega)]
   rfl
 ·rw [if_neg h0,if_neg h0]
  obtain ⟨q,rfl⟩:=Int.eq_ofNat_of_zero_le (show 0≤n by omega)
  rw [Int.toNat_natCast,vZ 18 q (by omega)]
section
variable {P : R → Prop} {k : R → Option R}
theorem aIL {n : Int} (hn : -1000000000≤n∧n≤1000000000) (h : Ok P (k [.str (gM n)])) : Ok P (bd (strconv_Itoa (.int .i64 n)) k):=by
 refine aH (Q:=fun r=>r = [.str (gM n)]) ?_ (fun r hr=>by rw [hr];exact h)
 rw [aE2]
 unfold yU
 simp only
 rw [if_pos (by omega)]
 exact aB (by rw [aJ0 hn])
theorem aKW {b : Bool} (h : Ok P (k [.str (if b then bs [116,114,117,101] else bs [102,97,108,115,101])])) : Ok P (bd (nB (.bool b)) k):=by
 refine aH (Q:=fun r=>r = [.str (if b then bs [116,114,117,101] else bs [102,97,108,115,101])]) ?_ (fun r hr=>by rw [hr];exact h)
 rw [yQ]
 refine aH (Q:=fun r=>r = [.str (if b then bs [116,114,117,101] else bs [102,97,108,115,101])]) ?_ (fun r hr=>by rw [hr];exact aB rfl)
 rw [pH]
 cases b
 ·exact aP (aB rfl)
 ·exact aW (aB rfl)
theorem aOj {s : ByteArray} (hs : s.size≤2097152) (h : Ok P (k [.bool (cY s)])) : Ok P (bd (nH (.str s)) k):=aH (aAO hs) (fun r hr=>by rw [hr];exact h)
theorem aGE {v : cJ} {nf recs : Int} (hs : v.s.size≤2097152) (hn : -1000000000≤nf∧nf≤1000000000) (hr : -1000000000≤recs∧recs≤1000000000) : Ok (fun r=>r = [.bool (cB nf recs v)]) (xD v.pv (.int .i64 nf) (.int .i64 recs)):=by
 rw [aE0]
 refine aD rfl (aA rfl (aA rfl (aA rfl ?_)))
 refine aG (aC (fun h0=>?_) (fun h0=>?_))
 rotate_left
 refine aG (aC (fun h1=>pR ?_) (fun h1=>?_))
 rotate_left
 refine aG (aC (fun h2=>eA ?_) (fun h2=>?_))
 rotate_left
 refine aG (aC (fun h3=>aG ?_) (fun h3=>?_))
 rotate_left
 refine aG (aC (fun h4=>eW hr ?_) (fun h4=>?_))
 rotate_left
 refine aG (aC (fun h5=>eW hn ?_) (fun h5=>aB ?_))
 rotate_right 5
 ·refine aFj (a:=v) (b:=⟨0,0,bs []⟩) (aB ?_)
  unfold cB
  cases hse : gN v.s (bs []) with
  | false=>rw [if_pos ⟨by omega,rfl⟩];simp [hse]
  | true=>rw [if_neg (by simp),if_pos h0];simp [h0,hse]
 all_goals unfold cB
 ·cases hse : gN v.s (bs []) with
  | false=>
    rw [if_pos ⟨by omega,rfl⟩]
    cases cG v.n
    ·exact aP (aB rfl)
    ·exact aW (rQ (aB (by rw [hse])))
  | true=>
    rw [if_neg (by simp),if_neg h0,if_pos h1]
    cases cG v.n
    ·exact aP (aB rfl)
    ·exact aW (rQ (aB (by rw [hse])))
 ·cases hse : gN v.s (bs []) with
  | false=>
    rw [if_pos ⟨by omega,rfl⟩]
    cases jM v.n 0 1
    ·exact aP (aB rfl)
    ·exact aW (rQ (aB (by rw [hse])))
  | true=>
    rw [if_neg (by simp),if_neg h0,if_neg h1,if_pos h2]
    cases jM v.n 0 1
    ·exact aP (aB rfl)
    ·exact aW (rQ (aB (by rw [hse])))
 ·rw [if_neg (fun h=>h.1 h3),if_neg h0,if_neg h1,if_neg h2,if_pos h3]
  refine aC (fun h6=>aOj hs (aB ?_)) (fun h6=>aB ?_)
  ·rw [decide_eq_true h6];rfl
  ·rw [decide_eq_false h6];rfl
 ·have e : jM v.n 0 (recs - 1)=(decide (0≤v.n)&&decide (v.n<recs)):=by
   unfold jM
   congr 1
   exact decide_eq_decide.2 (by omega)
  rw [e]
  cases hse : gN v.s (bs []) with
  | false=>
    rw [if_pos ⟨by omega,rfl⟩]
    cases (decide (0≤v.n)&&decide (v.n<recs))
    ·exact aP (aB rfl)
    ·exact aW (rQ (aB (by rw [hse])))
  | true=>
    rw [if_neg (by simp),if_neg h0,if_neg h1,if_neg h2,if_neg h3,if_pos h4]
    cases (decide (0≤v.n)&&decide (v.n<recs))
    ·exact aP (aB rfl)
    ·exact aW (rQ (aB (by rw [hse])))
 ·cases hse : gN v.s (bs []) with
  | false=>
    rw [if_pos ⟨by omega,rfl⟩]
    cases jM v.n 0 (nf - 1)
    ·exact aP (aB rfl)
    ·exact aW (rQ (aB (by rw [hse])))
  | true=>
    rw [if_neg (by simp),if_neg h0,if_neg h1,if_neg h2,if_neg h3,if_neg h4,if_pos h5]
    cases jM v.n 0 (nf - 1)
    ·exact aP (aB rfl)
    ·exact aW (rQ (aB (by rw [hse])))
 ·by_cases hse : gN v.s (bs [])=false
  ·rw [if_pos ⟨by omega,hse⟩]
  ·rw [if_neg (fun h=>hse h.2),if_neg h0,if_neg h1,if_neg h2,if_neg h3,if_neg h4,if_neg h5]
theorem aIM {v : cJ} {hp : List (List cJ)} {nf : Int} (hnf : nf≤1000) (hh : hp.length≤1000) (hr : ∀ r∈hp,r.length≤1000) (hv : cB nf hp.length v=true) :
 Ok (fun r=>r = [.str (fP v hp)]) (sP v.pv (.lst (hp.map aQ))):=by
 have hn : -1000000000≤v.n∧v.n≤1000000000∧(v.k=4→0≤v.n∧v.n<hp.length)∧0≤v.k∧v.k≤5:=by
  unfold cB at hv
  repeat' split at hv
  all_goals first
   | (cases hv;done)
   | (simp only [cG,bA,Bool.and_eq_true,decide_eq_true_eq] at hv;omega)
 rw [aCY]
 unfold fP
 have hdig:=rR v.n
 refine aD rfl (aA rfl (aA rfl (aA rfl ?_)))
 refine aG (aC (fun h0=>aB ?_) (fun h0=>?_))
 ·rw [if_pos h0]
 refine aG (aC (fun h1=>aIL (by omega) (aB ?_)) (fun h1=>?_))
 ·rw [if_neg h0,if_pos h1];rfl
 refine aG (aC (fun h2=>aG (aKW (aB ?_))) (fun h2=>?_))
 ·rw [if_neg h0,if_neg h1,if_pos h2]
  by_cases h : v.n=1
  ·rw [decide_eq_true h,if_pos h,if_pos rfl];rfl
  ·rw [decide_eq_false h,if_neg h,if_neg (by simp)];rfl
 refine aG (aC (fun h3=>aB ?_) (fun h3=>?_))
 ·rw [if_neg h0,if_neg h1,if_neg h2,if_pos h3]
 refine aG (aC (fun h5=>aIL (by omega) (jN ?_ (aB ?_))) (fun h5=>?_))
 ·have : (bs [102,117,110]).size=3:=rfl
  omega
 ·rw [if_neg h0,if_neg h1,if_neg h2,if_neg h3,if_pos h5]
 refine aG (aC (fun h4=>aE (eW (by omega) ?_)) (fun h4=>aB ?_))
 ·have h6:=hn.2.2.1 h4
  rw [bA.2 (by omega),if_neg h0,if_neg h1,if_neg h2,if_neg h3,if_neg h5,if_pos h4]
  have hlen : (hp[v.n.toNat]?.getD []).length≤1000:=by
   cases hg : hp[v.n.toNat]? with
   | none=>simp
   | some r=>exact hr r (List.mem_of_getElem? hg)
  have hd:=rR (hp[v.n.toNat]?.getD []).length
  have e1 : (bs [123]).size=1:=rfl
  have e2 : (bs [125]).size=1:=rfl
  refine aW (dM h6.1 h6.2 (aA rfl (aE (aIL (by omega) (jN ?_ (jN ?_ (aB rfl)))))))
  ·omega
  ·rw [ByteArray.size_append]
   omega
 ·rw [if_neg h0,if_neg h1,if_neg h2,if_neg h3,if_neg h5,if_neg h4]
end
structure jD where
 fr : List bO
 hp : List (List cJ)
 made : Int
 out : List ByteArray
 st : Int
 tr : Int
 val : cJ
 steps : Int
def jD.pv (v : jD) : PV:=.agg [.lst (v.fr.map bO.pv),.lst (v.hp.map aQ),.int .i64 v.made,.lst (v.out.map PV.str),.int .i64 v.st,.int .i64 v.tr,.int .i64 v.val.k,.int .i64 v.val.n,.str v.val.s,.int .i64 v.steps]
def gB (v : jD) : R:=[.int .i64 v.made,.int .i64 v.st,.int .i64 v.tr,.int .i64 v.val.k,.int .i64 v.val.n,.str v.val.s,.int .i64 v.steps,.lst (v.fr.map bO.pv),.lst (v.hp.map aQ),.lst (v.out.map PV.str)]
structure Sz (v : jD) : Prop where
 f : v.fr.length≤1000
 h : v.hp.length≤1000
 o : v.out.length≤1000
 fl : ∀ f∈v.fr,f.loc.length≤1000∧f.stk.length≤1000
 hl : ∀ r∈v.hp,r.length≤1000
theorem aD3 (l : List cJ) : PV.flatEs true [] (l.map cJ.pv)=true:=by
 induction l with
 | nil=>simp [PV.flatEs]
 | cons x r ih=>simp [PV.flatEs,PV.flatE,PV.flatCs,PV.flat,cJ.pv,ih]
theorem dG (l : List cJ) : PV.flatO (.own 3 32 true []) (aT l)=true:=aD3 l
theorem aAx (l : List bO) : PV.flatO (.own 4 64 true [.leaf,.leaf,(.own 3 32 true []),(.own 3 32 true [])]) (.lst (l.map bO.pv))=true:=by
 show PV.flatEs true _ (l.map bO.pv)=true
 induction l with
 | nil=>simp [PV.flatEs]
 | cons x r ih=>
   simp only [List.map_cons,PV.flatEs,Bool.and_eq_true]
   refine ⟨?_,ih⟩
   simp [bO.pv,PV.flatE,PV.flatCs,PV.flat,aT,aD3]
theorem aAW (l : List (List cJ)) : PV.flatO (.own 1 24 true [(.own 3 32 true [])]) (.lst (l.map aQ))=true:=by
 show PV.flatEs true _ (l.map aQ)=true
 induction l with
 | nil=>simp [PV.flatEs]
 | cons x r ih=>
   simp only [List.map_cons,PV.flatEs,Bool.and_eq_true]
   refine ⟨?_,ih⟩
   simp [aQ,PV.flatE,PV.flatCs,aT,aD3]
theorem aD4 (l : List ByteArray) : PV.flatO (.own 1 16 false []) (.lst (l.map PV.str))=true:=by
 show PV.flatEs false [] (l.map PV.str)=true
 induction l with
 | nil=>simp [PV.flatEs]
 | cons x r ih=>simp [PV.flatEs,PV.flatE,PV.flat,ih]
theorem aLA {l : List ByteArray} : ∀ x∈l.map PV.str,x.isEl 1 false=true:=by
 intro x hx
 obtain ⟨a,_,rfl⟩:=List.mem_map.1 hx
 rfl
theorem aHs {hp : List (List cJ)} (h : hp.length≤1000) (hl : ∀ r∈hp,r.length≤1000) : Ok (fun r=>r = [.lst (hp.map aQ)]) (pF (.lst (hp.map aQ))):=by
 rw [aA9]
 refine eK (n:=hp.length) (P:=fun _ r=>r = [.lst (hp.map aQ)]) (F:=fun i=>iK (.lst (hp.map aQ)) (.int .i64 i) (.lst ((hp.take i).map aQ))) ?_ ?_ 0 (by omega)
 ·rw [oM]
  refine aE (aF (aC (fun h=>by omega) (fun _=>aB ?_)))
  rw [List.take_length]
 ·intro i hi ih
  rw [oM]
  have:=hl _ (List.getElem_mem hi)
  refine aE (aF (aC (fun _=>?_) (fun h=>by omega)))
  refine aS hi (fun _=>rfl) (aA rfl (rG (by rw [List.length_map];omega) aAS ?_))
  refine kB (by simp;omega) (fun x hx=>by simp only [List.mem_singleton] at hx;subst hx;rfl) (aN (by omega) ?_)
  have e : (hp.take i).map aQ++[PV.agg [.lst (hp[i].map cJ.pv)]]=(hp.take (i+1)).map aQ:=by
   rw [List.take_add_one,List.getElem?_eq_getElem hi,List.map_append];rfl
  rw [e]
  exact ih
theorem aGF {f : bO} (h : f.loc.length≤1000∧f.stk.length≤1000) : Ok (fun r=>r = [.int .i64 f.f,.int .i64 f.pc,aT f.loc,aT f.stk]) (oI f.pv):=by
 rw [aAo]
 refine aD rfl (aA rfl (aA rfl (aA rfl (aA rfl ?_))))
 exact rG (by rw [List.length_map];omega) aAS (rG (by rw [List.length_map];omega) aAS (aB rfl))
theorem aMp {v : jD} (z : Sz v) : Ok (fun r=>r=gB v) (jJ v.pv):=by
 obtain ⟨zf,zh,zo,zfl,zhl⟩:=z
 rw [aEY]
 refine aD rfl (aA rfl (aA rfl (aA rfl (aA rfl (aA rfl (aA rfl (aA rfl (aA rfl (aA rfl (aA rfl ?_))))))))))
 refine eK (n:=v.fr.length) (P:=fun _ r=>r=gB v) (F:=fun i=>mQ (.int .i64 i) (.lst (v.fr.map bO.pv)) (.lst (v.hp.map aQ)) (.int .i64 v.made) (.lst (v.out.map PV.str)) (.int .i64 v.st) (.int .i64 v.tr) (.int .i64 v.val.k) (.int .i64 v.val.n) (.str v.val.s) (.int .i64 v.steps) (.int .i64 0) (.int .i64 0) (.int .i64 0) (.int .i64 0) (.int .i64 0) (.str (bs [])) (.int .i64 0) (.lst []) (.lst []) (.lst []) (.lst ((v.fr.take i).map bO.pv))) ?_ ?_ 0 (by omega)
 ·rw [tB]
  refine aE (aF (aC (fun h=>by omega) (fun _=>?_)))
  refine aH (aHs zh zhl) (fun r hr=>?_)
  subst hr
  refine dR (aAW _) (rG (by rw [List.length_map];omega) aLA (aB ?_))
  rw [List.take_length]
  rfl
 ·intro i hi ih
  rw [tB]
  refine aE (aF (aC (fun _=>?_) (fun h=>by omega)))
  refine aS hi (fun _=>rfl) (aH (aGF (zfl _ (List.getElem_mem hi))) (fun r hr=>?_))
  subst hr
  refine eS rfl (eS rfl (dR (dG _) (dR (dG _) ?_)))
  refine kB (by simp;omega) (fun x hx=>by simp only [List.mem_singleton] at hx;subst hx;rfl) (aN (by omega) ?_)
  have e : (v.fr.take i).map bO.pv++[PV.agg [.int .i64 v.fr[i].f,.int .i64 v.fr[i].pc,aT v.fr[i].loc,aT v.fr[i].stk]]=(v.fr.take (i+1)).map bO.pv:=by
   rw [List.take_add_one,List.getElem?_eq_getElem hi,List.map_append];rfl
  exact e▸ih
theorem aFk {P : R→Prop} {k : R→Option R} {v : jD} (z : Sz v) (h : Ok P (k (gB v))) : Ok P (bd (jJ v.pv) k):=aH (aMp z) (fun r hr=>by rw [hr];exact h)
theorem eQ {P : R→Prop} {v : jD} {o : Option R} (h : Ok P o) :
 Ok P (PV.guardFlat (gd (gB v) 0) (PV.guardFlat (gd (gB v) 1) (PV.guardFlat (gd (gB v) 2) (PV.guardFlat (gd (gB v) 3) (PV.guardFlat (gd (gB v) 4) (PV.guardFlat (gd (gB v) 5) (PV.guardFlat (gd (gB v) 6)
  (PV.guardOwn (.own 4 64 true [.leaf,.leaf,(.own 3 32 true []),(.own 3 32 true [])]) (gd (gB v) 7) (PV.guardOwn (.own 1 24 true [(.own 3 32 true [])]) (gd (gB v) 8) (PV.guardOwn (.own 1 16 false []) (gd (gB v) 9) o)))))))))):=
 eS rfl (eS rfl (eS rfl (eS rfl (eS rfl (eS rfl (eS rfl (dR (aAx _) (dR (aAW _) (dR (aD4 _) h)))))))))
def cQ (fs : List cD) (i : Int) : List bM:=(fs[i.toNat]?.map cD.code).getD []
def jB (fs : List cD) (f : bO) : bM:=(cQ fs f.f)[f.pc.toNat]?.getD ⟨0,0⟩
def aCj (_m : eM) (v : jD) (fs0 : List bO) : aIH→jD
 | .trap c=>⟨v.fr,v.hp,v.made,v.out,2,c,v.val,v.steps+1⟩
 | .next fr hp made out=>⟨fs0++[fr],hp,made,out,v.st,v.tr,v.val,v.steps+1⟩
 | .call fr g=>⟨fs0++[fr,g],v.hp,v.made,v.out,v.st,v.tr,v.val,v.steps+1⟩
 | .ret a=>if fs0 = [] then ⟨[],v.hp,v.made,v.out,1,v.tr,a,v.steps+1⟩ else ⟨aBr a fs0,v.hp,v.made,v.out,v.st,v.tr,v.val,v.steps+1⟩
def yL (m : eM) (v : jD) (fs0 : List bO) (f : bO) : aIH:=
 let x:=jB m.funcs f
 let b:=f.stk.length - (aX m.funcs x).1.toNat
 dO m ⟨f.f,f.pc+1,f.loc,f.stk.take b⟩ (f.stk.drop b) (fs0.length+1) v.hp v.made v.out x
def kZ (m : eM) (v : jD) : jD:=
 if v.st≠0 then v else if v.steps=50000 then v
 else match v.fr.getLast? with
 | none=>v
 | some f=>aCj m v v.fr.dropLast (yL m v v.fr.dropLast f)
theorem aAX {m : eM} {v : jD} {fs0 : List bO} {f : bO} (h1 : v.st=0) (h2 : v.steps≠50000) (h3 : v.fr=fs0++[f]) : kZ m v=aCj m v fs0 (yL m v fs0 f):=by
 unfold kZ
 rw [if_neg (by omega),if_neg h2,h3]
 simp
structure aNq (m : eM) (v : jD) (fs0 : List bO) (f : bO) : Prop where
 fr : v.fr=fs0++[f]
 fi : 0≤f.f∧f.f<m.funcs.length
 pc : 0≤f.pc∧f.pc<(cQ m.funcs f.f).length
 nc : (cQ m.funcs f.f).length≤120
 ins : cC m.texts.length m.funcs.length f.loc.length (cQ m.funcs f.f).length (jB m.funcs f).o (jB m.funcs f).a=true
 us : 0≤(aX m.funcs (jB m.funcs f)).1∧(aX m.funcs (jB m.funcs f)).1≤f.stk.length
 small : ∀ b,aNp m fs0 ⟨f.f,f.pc+1,f.loc,f.stk.take b⟩ (f.stk.drop b) v.hp v.made v.out
section
variable {P : R → Prop} {k : R → Option R}
theorem xS {l : List cJ} (hl : l.length≤2097152) (h : Ok P (k [aT l])) : Ok P (bd (bX (aT l)) k):=by
 refine aH (Q:=fun r=>r = [aT l]) ?_ (fun r hr=>by rw [hr];exact h)
 rw [lS]
 refine aJN (aLt (fun e=>aB ?_) ?_)
 ·have : l = []:=List.map_eq_nil_iff.1 e
  subst this;rfl
 ·exact iC (l:=[]) (m:=l) (by simp;omega) (aB (by simp))
theorem aKX {l : List ByteArray} (hl : l.length≤2097152) (h : Ok P (k [.lst (l.map PV.str)])) : Ok P (bd (gI (.lst (l.map PV.str))) k):=by
 refine aH (Q:=fun r=>r = [.lst (l.map PV.str)]) ?_ (fun r hr=>by rw [hr];exact h)
 rw [pZ]
 refine aJN (aLt (fun e=>aB ?_) ?_)
 ·have : l = []:=List.map_eq_nil_iff.1 e
  subst this;rfl
 ·exact rG (by simp;omega) aLA (aB rfl)
theorem aLB {n : Int} (h0 : 0≤n) (h1 : n≤1000000000) (h : Ok P (k [aT (List.replicate n.toNat dC)])) : Ok P (bd (aAN (.int .i64 n)) k):=by
 refine aH (Q:=fun r=>r = [aT (List.replicate n.toNat dC)]) ?_ (fun r hr=>by rw [hr];exact h)
 rw [aIz]
 refine aAT h0 h1 (jF ?_)
 rw [decide_eq_true (Int.le_refl n)]
 exact aW (aAT h0 h1 (aB rfl))
theorem aOk {n : Int} (h0 : 0≤n) (h1 : n≤4194304) (h : Ok P (k [.lst []])) : Ok P (bd (eL (.int .i64 n)) k):=by
 refine aH (Q:=fun r=>r = [.lst []]) ?_ (fun r hr=>by rw [hr];exact h)
 rw [lV]
 unfold sA
 simp only
 rw [if_pos (by omega)]
 exact aB rfl
theorem aIN {a b : List cJ} (ha : a.length≤2097152) (hb : b.length≤2097152) (h : Ok P (k [aT (a++b)])) : Ok P (bd (dA (.lst [aT a,aT b])) k):=by
 refine aH (Q:=fun r=>r = [aT (a++b)]) ?_ (fun r hr=>by rw [hr];exact h)
 have at0 : ∀ {P : R→Prop} {k : PV→Option R},Ok P (k (aT a))→Ok P (bd (PV.at_ 1 false (.lst [aT a,aT b]) (.int .i64 0)) k):=fun h=>zQ (by omega) rfl rfl h
 have at1 : ∀ {P : R→Prop} {k : PV→Option R},Ok P (k (aT b))→Ok P (bd (PV.at_ 1 false (.lst [aT a,aT b]) (.int .i64 1)) k):=fun h=>zQ (by omega) rfl rfl h
 rw [kX]
 refine bJ ?_
 show Ok _ (bR _ (.int .i64 0) _ (.int .i64 2) (.int .i64 0))
 rw [dH]
 refine aF (aW (at0 (bB (aN (by omega) (aF (aC (fun h=>by omega) (fun _=>aN (by omega) ?_)))))))
 show Ok _ (bR _ _ _ (.int .i64 2) (.int .i64 1))
 rw [dH]
 refine aF (aW (at1 (bB (aN (by omega) (aF (aC (fun h=>by omega) (fun _=>aN (by omega) ?_)))))))
 show Ok _ (bR _ _ _ (.int .i64 2) (.int .i64 2))
 rw [dH]
 refine aF (aP (aOk (by omega) (by omega) (bJ ?_)))
 show Ok _ (bP _ (.int .i64 2) (.int .i64 0) (aT []))
 rw [dF]
 refine aF (aW (at0 (iC (by simp;omega) (aN (by omega) ?_))))
 show Ok _ (bP _ (.int .i64 2) (.int .i64 1) _)
 rw [dF]
 refine aF (aW (at1 (iC (by simp;omega) (aN (by omega) ?_))))
 show Ok _ (bP _ (.int .i64 2) (.int .i64 2) _)
 rw [dF]
 refine aF (aP (aB ?_))
 simp
theorem aD5 {fs : List cD} {i : Int} {k : PV→Option R} (h0 : 0≤i) (h1 : i<fs.length) (h : ∀ f : cD,fs[i.toNat]? = some f→Ok P (k f.pv)) : Ok P (bd (PV.at_ 3 true (.lst (fs.map cD.pv)) (.int .i64 i)) k):=by
 obtain ⟨n,rfl⟩:=Int.eq_ofNat_of_zero_le h0
 refine aS (by omega) (fun _=>rfl) (h _ ?_)
 rw [Int.toNat_natCast,List.getElem?_eq_getElem (by omega)]
theorem aKY {T : PV} {fs : List cD} {g : Int} {args : List cJ} (h0 : 0≤g) (h1 : g<fs.length) (hl : (args.length : Int)≤xQ fs g) (hl2 : xQ fs g≤12) (h : Ok P (k [.int .i64 g,.int .i64 0,aT (vE fs g args).loc,aT []])) :
 Ok P (bd (xJ (.agg [T,.lst (fs.map cD.pv)]) (.int .i64 g) (aT args)) k):=by
 refine aH (Q:=fun r=>r = [.int .i64 g,.int .i64 0,aT (vE fs g args).loc,aT []]) ?_ (fun r hr=>by rw [hr];exact h)
 rw [aE7]
 refine aD rfl (aA rfl (aA rfl (aD5 h0 h1 (fun f hf=>?_))))
 have e : xQ fs g=f.lc:=by unfold xQ;rw [hf];rfl
 rw [e] at hl hl2
 refine aA rfl (bB (bN (by omega) (aLB (by omega) (by omega) (dR (dG _) ?_))))
 refine rG (by simp) (fun x hx=>?_) (aIN (by omega) (by simp;omega) (dR (dG _) (bD rfl (aB ?_))))
 ·simp at hx
  rcases hx with rfl | rfl<;>rfl
 ·unfold vE
  rw [e]
  simp only
  rw [show (f.lc - (args.length : Int)).toNat=f.lc.toNat - args.length by omega]
  rfl
theorem aJ1 {hp : List (List cJ)} (h : hp.length≤1000) (hl : ∀ r∈hp,r.length≤1000) : Ok (fun r=>r = [.lst (hp.map aQ)]) (vC (.lst (hp.map aQ))):=by
 rw [aDX]
 have e : (hp.map aQ).length=hp.length:=List.length_map ..
 refine bJ ?_
 rw [e]
 refine (eK (n:=hp.length) (F:=fun i=>lO (.lst (hp.map aQ)) (.int .i64 hp.length) (.int .i64 i) (.lst ((hp.take i).map aQ))) (P:=fun _ r=>r = [.lst (hp.map aQ)]) ?_ (fun i hi ih=>?_) 0 (Nat.zero_le _))
 ·rw [rE]
  refine aF ?_
  rw [decide_eq_false (by omega)]
  refine aP (aB ?_)
  rw [List.take_length]
 ·rw [rE]
  refine aF ?_
  rw [decide_eq_true (by omega)]
  refine aW (aS hi (fun _=>rfl) (aD rfl (aA rfl (xS (by have:=hl _ (List.getElem_mem hi);omega) (dR (dG _) ?_)))))
  refine kB (by simp;omega) (fun x hx=>by simp at hx;subst hx;rfl) (aN (by omega) ?_)
  have e : (hp.take (i+1)).map aQ=(hp.take i).map aQ++[PV.agg [aT hp[i]]]:=by
   rw [List.take_add_one,List.getElem?_eq_getElem hi,List.map_append];rfl
  rw [e] at ih
  exact ih
theorem aHt {fr : List bO} (h : fr.length≤1000) (hl : ∀ f∈fr,f.loc.length≤1000∧f.stk.length≤1000) : Ok (fun r=>r = [.lst (fr.map bO.pv)]) (qL (.lst (fr.map bO.pv))):=by
 rw [aCf]
 have e : (fr.map bO.pv).length=fr.length:=List.length_map ..
 refine bJ ?_
 rw [e]
 refine (eK (n:=fr.length) (F:=fun i=>jK (.lst (fr.map bO.pv)) (.int .i64 fr.length) (.int .i64 i) (.lst ((fr.take i).map bO.pv))) (P:=fun _ r=>r = [.lst (fr.map bO.pv)]) ?_ (fun i hi ih=>?_) 0 (Nat.zero_le _))
 ·rw [oV]
  refine aF ?_
  rw [decide_eq_false (by omega)]
  refine aP (aB ?_)
  rw [List.take_length]
 ·rw [oV]
  refine aF ?_
  rw [decide_eq_true (by omega)]
  have hb:=hl _ (List.getElem_mem hi)
  refine aW (aS hi (fun _=>rfl) (aD rfl (aA rfl (aA rfl (aA rfl (aA rfl (xS (by omega) (dR (dG _) (xS (by omega) (dR (dG _) ?_))))))))))
  refine kB (by simp;omega) (fun x hx=>by simp at hx;subst hx;rfl) (aN (by omega) ?_)
  have e : (fr.take (i+1)).map bO.pv=(fr.take i).map bO.pv++[fr[i].pv]:=by
   rw [List.take_add_one,List.getElem?_eq_getElem hi,List.map_append];rfl
  rw [e] at ih
  exact ih
theorem aDa {v : jD} (z : Sz v) (h : Ok P (k (gB v))) : Ok P (bd (jZ v.pv) k):=by
 refine aH (Q:=fun r=>r=gB v) ?_ (fun r hr=>by rw [hr];exact h)
 rw [aDS]
 refine aD rfl (aA rfl (aA rfl (aA rfl (aA rfl (aA rfl (aA rfl (aA rfl (aA rfl (aA rfl (aA rfl ?_))))))))))
 refine aH (aHt z.f z.fl) (fun r hr=>?_)
 rw [hr]
 refine dR (aAx _) (aH (aJ1 z.h z.hl) (fun r hr=>?_))
 rw [hr]
 refine dR (aAW _) (aKX (by have:=z.o;omega) (dR (aD4 _) (aB rfl)))
end
def DoI (made a3 a4 a5 a6 a7 a8 F H O : PV) (fs0 : List bO) : aIH→R→Prop
 | .trap c,r=>c≠0∧r = [.int .i64 c,made,a3,a4,a5,a6,a7,a8,F,H,O]
 | .next fr hp made' out,r=>r = [.int .i64 0,.int .i64 made',a3,a4,a5,a6,a7,a8,.lst (fs0.map bO.pv++[fr.pv]),.lst (hp.map aQ),.lst (out.map PV.str)]
 | .call fr g,r=>r = [.int .i64 0,made,a3,a4,a5,a6,a7,a8,.lst (fs0.map bO.pv++[fr.pv]++[g.pv]),H,O]
 | .ret v,r=>r=if fs0 = [] then [.int .i64 0,made,.int .i64 1,a4,.int .i64 v.k,.int .i64 v.n,.str v.s,a8,.lst [],H,O]
  else [.int .i64 0,made,a3,a4,a5,a6,a7,a8,.lst ((aBr v fs0).map bO.pv),H,O]
section
variable {P : R → Prop} {k : R → Option R} {A : List PV}
theorem jC {A : List PV} {f pc : Int} {loc s : List cJ} {i : Int} {j : Nat} {y : PV} {k : PV→Option R} (hi : i=A.length) (hy : [PV.int .i64 f,.int .i64 pc,aT loc,aT s][j]? = some y) (h : Ok P (k y)) :
 Ok P (bd (PV.at_ 4 true (.lst (A++[bO.pv ⟨f,pc,loc,s⟩])) (.int .i64 i)) fun x=>bd (PV.cell x j) k):=bY hi rfl (aA hy h)
theorem xT {A : List PV} {f : bO} {i : Int} {k : PV→Option R} (hi : i=A.length) (h : ∀ x,Ok P (k x)) : Ok P (bd (PV.at_ 4 true (.lst (A++[f.pv])) (.int .i64 i)) k):=bY hi rfl (h _)
theorem fM {f pc next base i : Int} {loc s t laid : List cJ} {k : PV→Option R} (hi : i=A.length) (hb : base=s.length) (hs : s.length≤1000) (hl : laid.length≤1000) (h : Ok P (k (.lst (A++[bO.pv ⟨f,next,loc,s++laid⟩])))) :
 Ok P (bd (PV.at_ 4 true (.lst (A++[bO.pv ⟨f,pc,loc,s++t⟩])) (.int .i64 i)) fun _=>
  bd (PV.at_ 4 true (.lst (A++[bO.pv ⟨f,pc,loc,s++t⟩])) (.int .i64 i)) fun v1=>
  bd (PV.cell v1 3) fun v2=>
  bd (PV.cut 3 true v2 (.int .i64 0) (.int .i64 base)) fun _=>
  bd (PV.at_ 4 true (.lst (A++[bO.pv ⟨f,pc,loc,s++t⟩])) (.int .i64 i)) fun v4=>
  bd (PV.cell v4 3) fun v5=>
  bd (PV.cut 3 true v5 (.int .i64 0) (.int .i64 base)) fun v6=>
  bd (PV.at_ 4 true (.lst (A++[bO.pv ⟨f,pc,loc,s++t⟩])) (.int .i64 i)) fun v7=>
  bd (PV.cell v7 3) fun _=>
  bd (PV.setCell 4 (.lst (A++[bO.pv ⟨f,pc,loc,s++t⟩])) (.int .i64 i) 3 .hole) fun v9=>
  bd (PV.cat 3 32 true v6 (aT laid)) fun v10=>
  bd (PV.setCell 4 v9 (.int .i64 i) 3 v10) fun v11=>
  bd (PV.one (.int .i64 next)) fun v12=>
  bd (PV.setCell 4 v11 (.int .i64 i) 1 v12) k):=by
 subst hb
 refine xT hi (fun _=>jC hi rfl (gA (by omega) (by omega) (by simp;omega) (jC hi rfl (gA (by omega) (by omega) (by simp;omega) (jC hi rfl ?_)))))
 have e : (((s++t).take (s.length : Int).toNat).drop (0 : Int).toNat)=s:=by simp
 rw [e]
 exact cN hi rfl (by omega) rfl (iC (by omega) (cN hi rfl (by omega) rfl (bD rfl (cN hi rfl (by omega) rfl h))))
theorem aLC {l : List cJ} {i : Nat} {v : cJ} {k : PV→Option R} (hv : l[i]? = some v) (h : Ok P (k v.pv)) : Ok P (bd (PV.inb (aT l) (.int .i64 (i : Int))) fun _=>bd (PV.at_ 3 true (aT l) (.int .i64 (i : Int))) k):=by
 have hi:=(List.getElem?_eq_some_iff.1 hv).1
 refine eI (by omega) (by omega) (nD (by omega) (by omega) (fun w hw=>?_))
 rw [Int.toNat_natCast,hv] at hw
 cases hw
 exact h
theorem xU {l : List cJ} {k : PV→Option R} (hl : l.length≤1000) (h : Ok P (k (aT l))) : Ok P (bd (PV.cat 3 32 true (.lst []) (.lst (l.map cJ.pv))) fun v=>bd (PV.cat 3 32 true (.lst []) v) k):=
 iC (l:=[]) (m:=l) (by simp;omega) (iC (l:=[]) (m:=l) (by simp;omega) (by simpa using h))
theorem aAY {f : Nat} {x y : PV} {g : PV→PV→Option R} {Q : R→Prop} (hg : aL f [x,y]=g x y) (h : Ok Q (g x y)) (hk : ∀ r,Q r→Ok P (k r)) : Ok P (bd (PV.apply aL (.fn f []) [x,y]) k):=sJ hg h hk
theorem aJ2 {v : cJ} {x : Int} {hp : List (List cJ)} {c0 c1 c2 c3 c4 c5 c6 F O : PV} (hx : 0≤x∧x≤1000) (hh : hp.length≤1000) (hr : ∀ r∈hp,r.length≤1000) (hv : v.k=4→0≤v.n∧v.n<hp.length)
 (h1 : v.k≠4→Ok P (k [.nil,.nil,.int .i64 1,c0,c1,c2,c3,c4,c5,c6,F,.lst (hp.map aQ),O]))
 (h2 : v.k=4→(hp[v.n.toNat]?.getD []).length≤x→Ok P (k [.nil,.nil,.int .i64 4,c0,c1,c2,c3,c4,c5,c6,F,.lst (hp.map aQ),O]))
 (h3 : v.k=4→x<(hp[v.n.toNat]?.getD []).length→Ok P (k [.int .i64 v.n,.int .i64 x,.int .i64 0,c0,c1,c2,c3,c4,c5,c6,F,.lst (hp.map aQ),O])) :
 Ok P (bd (pQ v.pv (.int .i64 x) c0 c1 c2 c3 c4 c5 c6 F (.lst (hp.map aQ)) O) k):=by
 refine aH (Q:=fun r=>(v.k≠4∧r = [.nil,.nil,.int .i64 1,c0,c1,c2,c3,c4,c5,c6,F,.lst (hp.map aQ),O])∨(v.k=4∧(hp[v.n.toNat]?.getD []).length≤x∧r = [.nil,.nil,.int .i64 4,c0,c1,c2,c3,c4,c5,c6,F,.lst (hp.map aQ),O])∨
  (v.k=4∧x<(hp[v.n.toNat]?.getD []).length∧r = [.int .i64 v.n,.int .i64 x,.int .i64 0,c0,c1,c2,c3,c4,c5,c6,F,.lst (hp.map aQ),O])) ?_ ?_
 rotate_left
 ·rintro r (⟨g1,rfl⟩ | ⟨g1,g2,rfl⟩ | ⟨g1,g2,rfl⟩)
  ·exact h1 g1
  ·exact h2 g1 g2
  ·exact h3 g1 g2
 rw [aDY]
 refine aD rfl (aA rfl (aA rfl (aA rfl (bF (aI (fun g=>aB (.inl ⟨g,rfl⟩)) (fun g=>?_))))))
 obtain ⟨g1,g2⟩:=hv g
 have hlen : (hp[v.n.toNat]?.getD []).length≤1000:=by
  cases hg : hp[v.n.toNat]? with
  | none=>simp
  | some r=>exact hr r (List.mem_of_getElem? hg)
 refine pJ g1 g2 (dM g1 g2 (dM g1 g2 (aA rfl (bB (nW (aC (fun q=>aB (.inr (.inl ⟨g,q,rfl⟩))) (fun q=>?_)))))))
 exact pJ g1 g2 (dM g1 g2 (dM g1 g2 (aA rfl (eI (by omega) (by omega) (aB (.inr (.inr ⟨g,by omega,rfl⟩)))))))
theorem aMq {v : cJ} {fs0 : List bO} {f : bO} {c0 c1 c2 c3 c4 c5 c6 H O : PV} (hn : fs0.length≤1000) (hs : ∀ g∈fs0,g.stk.length≤1000)
 (h : Ok P (k (if fs0 = [] then [c0,.int .i64 1,c2,.int .i64 v.k,.int .i64 v.n,.str v.s,c6,.lst [],H,O] else [c0,c1,c2,c3,c4,c5,c6,.lst ((aBr v fs0).map bO.pv),H,O]))) :
 Ok P (bd (sQ v.pv c0 c1 c2 c3 c4 c5 c6 (.lst (fs0.map bO.pv++[f.pv])) H O) k):=by
 refine aH (Q:=fun r=>r=(if fs0 = [] then [c0,.int .i64 1,c2,.int .i64 v.k,.int .i64 v.n,.str v.s,c6,.lst [],H,O] else [c0,c1,c2,c3,c4,c5,c6,.lst ((aBr v fs0).map bO.pv),H,O])) ?_ (fun r hr=>by rw [hr];exact h)
 rw [aCZ]
 have e : ((fs0.map bO.pv++[f.pv]).length : Int) - 1=fs0.length:=by simp
 have el : ∀ x∈fs0.map bO.pv++[f.pv],x.isEl 4 true=true:=by
  intro x hx
  rcases List.mem_append.1 hx with hx | hx
  ·exact aHX x hx
  ·simp at hx;subst hx;rfl
 have et : (((fs0.map bO.pv++[f.pv]).take ((fs0.length : Int)).toNat).drop ((0 : Int)).toNat)=fs0.map bO.pv:=by simp
 refine aD rfl (aA rfl (aA rfl (aA rfl (bJ (bN (by simp;omega) ?_)))))
 rw [e]
 refine zP (by omega) (by omega) (by simp;omega) el (zP (by omega) (by omega) (by simp;omega) el ?_)
 rw [et]
 refine aG (aC (fun h0=>aB ?_) (fun h0=>?_))
 ·have : fs0 = []:=List.eq_nil_of_length_eq_zero (by omega)
  subst this
  rfl
 ·obtain ⟨gs,g,rfl⟩ : ∃ gs g,fs0=gs++[g]:=by
   rcases List.eq_nil_or_concat fs0 with rfl | ⟨gs,g,rfl⟩
   ·simp at h0
   ·exact ⟨gs,g,by simp⟩
  have e2 : ((gs++[g]).length : Int) - 1=gs.length:=by simp
  have em : (gs++[g]).map bO.pv=gs.map bO.pv++[g.pv]:=by simp
  refine bN (by omega) ?_
  rw [e2,em]
  have hi : (gs.length : Int)=(gs.map bO.pv).length:=by simp
  have hg:=hs g (by simp)
  obtain ⟨gf,gp,gl,gk⟩:=g
  have hg : gk.length≤1000:=hg
  refine aBI (by omega) (by simp;omega) (xT hi (fun _=>jC hi rfl (jC hi rfl ?_)))
  refine cN hi rfl (by omega) rfl (iC (m:=[v]) (by simp;omega) (cN hi rfl (by omega) rfl (aB ?_)))
  rw [if_neg (by simp),xR]
  simp
  rfl
end
theorem eB {P : R→Prop} {l : List cJ} {v : cJ} {k : PV→Option R} (hv : l[0]? = some v) (h : Ok P (k v.pv)) : Ok P (bd (PV.inb (aT l) (.int .i64 0)) fun _=>bd (PV.at_ 3 true (aT l) (.int .i64 0)) k):=aLC (i:=0) hv h
theorem tE {P : R→Prop} {l : List cJ} {v : cJ} {k : PV→Option R} (hv : l[1]? = some v) (h : Ok P (k v.pv)) : Ok P (bd (PV.inb (aT l) (.int .i64 1)) fun _=>bd (PV.at_ 3 true (aT l) (.int .i64 1)) k):=aLC (i:=1) hv h
theorem aFl {o : Int} {a b : cJ} (ho : 11≤o∧o≤14) (hs : a.s.size≤2097152∧b.s.size≤2097152) : Ok (fun r=>∀ {P : R→Prop} {k : R→Option R},Ok P (k (opR (nP o a b)))→Ok P (bd (PV.apply aL (hd r) [a.pv,b.pv]) k)) (gS (.int .i64 o)):=by
 rw [aCg]
 refine bN (by omega) ?_
 have : o=11∨o=12∨o=13∨o=14:=by omega
 rcases this with rfl | rfl | rfl | rfl
 ·exact aLs (by decide) rfl rfl (aB (fun h=>aAY (g:=aBW) rfl (aNk hs) (fun r hr=>by rw [hr];exact h)))
 ·exact aLs (by decide) rfl rfl (aB (fun h=>aAY (g:=aBX) rfl aNl (fun r hr=>by rw [hr];exact h)))
 ·exact aLs (by decide) rfl rfl (aB (fun h=>aAY (g:=aBY) rfl aNm (fun r hr=>by rw [hr];exact h)))
 ·exact aLs (by decide) rfl rfl (aB (fun h=>aAY (g:=aAi) rfl aMn (fun r hr=>by rw [hr];exact h)))
theorem aNr {m : eM} {A : List PV} {made a3 a4 a5 a6 a7 a8 T H O : PV} {f pc base g next i : Int} {loc s t args : List cJ} (hi : i=A.length) (hb : base=s.length) (hs : s.length≤1000) (hA : A.length≤23) (hg : 0≤g∧g<m.funcs.length) (hargs : (args.length : Int)=fZ m.funcs g)
 (par : ∀ f∈m.funcs,0≤f.p∧f.p≤6∧f.p≤f.lc∧f.lc≤12) :
 Ok (fun r=>(A.length=23∧r = [.int .i64 6,made,a3,a4,a5,a6,a7,a8,.lst (A++[bO.pv ⟨f,pc,loc,s++t⟩]),H,O])∨(A.length≠23∧r = [.int .i64 0,made,a3,a4,a5,a6,a7,a8,.lst (A++[bO.pv ⟨f,next,loc,s⟩]++[(vE m.funcs g args).pv]),H,O]))
  (iZ (.int .i64 i) (.int .i64 base) (.int .i64 next) (.int .i64 g) made a3 a4 a5 a6 a7 a8 T (.lst (m.funcs.map cD.pv)) (.lst (A++[bO.pv ⟨f,pc,loc,s++t⟩])) H O (aT args)):=by
 subst hb
 rw [aCX]
 refine bJ (aG (aC (fun h=>aB (.inl ⟨by simp at h;omega,rfl⟩)) (fun h=>?_)))
 refine xT hi (fun _=>jC hi rfl (gA (by omega) (by omega) (by simp;omega) (jC hi rfl (gA (by omega) (by omega) (by simp;omega) (jC hi rfl ?_)))))
 have e : (((s++t).take (s.length : Int).toNat).drop (0 : Int).toNat)=s:=by simp
 rw [e]
 refine cN hi rfl (by omega) rfl (cN hi rfl (by omega) rfl (bD rfl (cN hi rfl (by omega) rfl ?_)))
 obtain ⟨q,rfl⟩:=Int.eq_ofNat_of_zero_le hg.1
 have hq : q<m.funcs.length:=by omega
 have hf:=par _ (List.getElem_mem hq)
 have hlc : xQ m.funcs q=m.funcs[q].lc:=by unfold xQ;rw [Int.toNat_natCast,List.getElem?_eq_getElem hq];rfl
 have hpa : fZ m.funcs q=m.funcs[q].p:=by unfold fZ;rw [Int.toNat_natCast,List.getElem?_eq_getElem hq];rfl
 refine aKY (by omega) (by omega) (by rw [hlc];omega) (by rw [hlc];omega) (eS rfl (eS rfl (dR (dG _) (dR (dG []) ?_))))
 refine kB (by simp;omega) (fun x hx=>by simp at hx;subst hx;rfl) (aB (.inr ⟨?_,rfl⟩))
 intro h0
 exact h (by simp;omega)
set_option maxHeartbeats 8000000 in
theorem aOl {m : eM} {fs0 : List bO} {took : List cJ} {hp : List (List cJ)} {made ff fpc : Int} {floc fstk : List cJ} {out : List ByteArray} {x : bM} {nc : Int} {a3 a4 a5 a6 a7 a8 : PV}
 (S : aNp m fs0 ⟨ff,fpc+1,floc,fstk⟩ took hp made out) (hx : cC m.texts.length m.funcs.length floc.length nc x.o x.a=true) (hu : (took.length : Int)=(aX m.funcs x).1)
 (hff : 0≤ff∧ff<m.funcs.length) (hpc : 0≤fpc∧fpc≤1000) (hcode : (cQ m.funcs ff)[fpc.toNat]? = some x) :
 Ok (DoI (.int .i64 made) a3 a4 a5 a6 a7 a8 (.lst (fs0.map bO.pv++[bO.pv ⟨ff,fpc,floc,fstk++took⟩])) (.lst (hp.map aQ)) (.lst (out.map PV.str)) fs0 (dO m ⟨ff,fpc+1,floc,fstk⟩ took (fs0.length+1) hp made out x))
  (aBU (.lst (m.texts.map PV.str)) (.lst (m.funcs.map cD.pv)) (.int .i64 made) a3 a4 a5 a6 a7 a8
   (.lst (fs0.map bO.pv++[bO.pv ⟨ff,fpc,floc,fstk++took⟩])) (.lst (hp.map aQ)) (.lst (out.map PV.str))):=by
 obtain ⟨q26,q3,q67,q20,q2122,q23,q524,qj,q1⟩:=aAU hx
 obtain ⟨nf,nt,par,n0,stks,nl,ns,recs,nh,nm,no,vals0⟩:=S
 simp only at *
 have hsz : ∀ v∈took,v.s.size≤2097152:=fun v hv=>by have:=bV (vals0 v hv);omega
 have hrec : ∀ r∈hp,r.length≤1000:=fun r hr=>by have:=recs r hr;omega
 rw [aHi]
 have hA : (fs0.map bO.pv).length=fs0.length:=List.length_map ..
 have hi : (fs0.length : Int)=(fs0.map bO.pv).length:=by rw [hA]
 have e : ((fs0.map bO.pv++[bO.pv ⟨ff,fpc,floc,fstk++took⟩]).length : Int) - 1=fs0.length:=by simp
 refine bJ (bN (by simp;omega) ?_)
 rw [e]
 refine aBI (by omega) (by simp;omega) (jC hi rfl (aD5 hff.1 hff.2 (fun fn hfn=>aA rfl (jC hi rfl ?_))))
 have hcd : (fn.code.map bM.pv)[fpc.toNat]? = some x.pv:=by
  have : cQ m.funcs ff=fn.code:=by unfold cQ;rw [hfn];rfl
  rw [List.getElem?_map,← this,hcode];rfl
 refine zQ (by omega) hcd rfl (aD rfl (aA rfl (aA rfl (aH (aHR (by omega)) (fun r hr=>?_)))))
 rw [hr]
 refine bE rfl (bE rfl (xT hi (fun _=>jC hi rfl (bB (bN (by simp;omega) ?_)))))
 have e2 : ((fstk++took).length : Int) - (aX m.funcs x).1=fstk.length:=by rw [← hu];simp
 rw [e2]
 refine xT hi (fun _=>jC hi rfl (bB (gA (by omega) (by simp;omega) (by omega) (jC hi rfl (gA (by omega) (by simp;omega) (by omega) ?_)))))
 have e3 : (((fstk++took).take ((fstk++took).length : Int).toNat).drop (fstk.length : Int).toNat)=took:=by rw [Int.toNat_natCast,Int.toNat_natCast,List.take_length,List.drop_left]
 rw [e3]
 refine xS (by omega) (dR (dG _) (jC hi rfl (aN (by omega) ?_)))
 have hfs : fstk.length≤1000:=by omega
 refine aG (aC (fun ho=>?_) (fun n1=>?_))
 ·have e0 : aX m.funcs x=(0,1):=by unfold aX;repeat (first | rfl | rw [if_pos (by omega)] | rw [if_neg (by omega)])
  rw [e0] at hu
  obtain rfl:=List.eq_nil_of_length_eq_zero (show took.length=0 by omega)
  have e : dO m ⟨ff,fpc+1,floc,fstk⟩ [] (fs0.length+1) hp made out x = .next ⟨ff,fpc+1,floc,fstk++[aC1 x.a]⟩ hp made out:=by simp only [dO,List.headD,List.tail];(repeat (first | rfl | refine (if_pos (by omega)).trans ?_ | refine (if_neg (by omega)).trans ?_))
  exact aBq (xU (l:=[aC1 x.a]) (by simp) (fM (laid:=[aC1 x.a]) hi rfl hfs (by simp) (aB (by rw [e];rfl))))
 refine aG (aC (fun ho=>?_) (fun n2=>?_))
 ·have e0 : aX m.funcs x=(0,1):=by unfold aX;repeat (first | rfl | rw [if_pos (by omega)] | rw [if_neg (by omega)])
  rw [e0] at hu
  obtain rfl:=List.eq_nil_of_length_eq_zero (show took.length=0 by omega)
  have e : dO m ⟨ff,fpc+1,floc,fstk⟩ [] (fs0.length+1) hp made out x = .next ⟨ff,fpc+1,floc,fstk++[nM (decide (x.a=1))]⟩ hp made out:=by simp only [dO,List.headD,List.tail];(repeat (first | rfl | refine (if_pos (by omega)).trans ?_ | refine (if_neg (by omega)).trans ?_))
  exact aG (kY (xU (l:=[nM (decide (x.a=1))]) (by simp) (fM (laid:=[nM (decide (x.a=1))]) hi rfl hfs (by simp) (aB (by rw [e];rfl)))))
 refine aG (aC (fun ho=>?_) (fun n3=>?_))
 ·have e0 : aX m.funcs x=(0,1):=by unfold aX;repeat (first | rfl | rw [if_pos (by omega)] | rw [if_neg (by omega)])
  rw [e0] at hu
  obtain rfl:=List.eq_nil_of_length_eq_zero (show took.length=0 by omega)
  obtain ⟨xa,hxa⟩:=Int.eq_ofNat_of_zero_le (q3 ho).1
  have hlt : xa<m.texts.length:=by have:=q3 ho;omega
  have e : dO m ⟨ff,fpc+1,floc,fstk⟩ [] (fs0.length+1) hp made out x = .next ⟨ff,fpc+1,floc,fstk++[aC2 m.texts[xa]]⟩ hp made out:=by
   have et : m.texts[x.a.toNat]?.getD (bs [])=m.texts[xa]:=by rw [hxa,Int.toNat_natCast,List.getElem?_eq_getElem hlt];rfl
   simp only [dO,List.headD,List.tail,et];(repeat (first | rfl | refine (if_pos (by omega)).trans ?_ | refine (if_neg (by omega)).trans ?_))
  rw [hxa]
  refine aS hlt (fun _=>rfl) (bD rfl (fM (laid:=[aC2 m.texts[xa]]) hi rfl hfs (by simp) (aB (by rw [e];rfl))))
 refine aG (aC (fun ho=>?_) (fun n4=>?_))
 ·have e0 : aX m.funcs x=(0,1):=by unfold aX;repeat (first | rfl | rw [if_pos (by omega)] | rw [if_neg (by omega)])
  rw [e0] at hu
  obtain rfl:=List.eq_nil_of_length_eq_zero (show took.length=0 by omega)
  have e : dO m ⟨ff,fpc+1,floc,fstk⟩ [] (fs0.length+1) hp made out x = .next ⟨ff,fpc+1,floc,fstk++[dC]⟩ hp made out:=by simp only [dO,List.headD,List.tail];(repeat (first | rfl | refine (if_pos (by omega)).trans ?_ | refine (if_neg (by omega)).trans ?_))
  exact fM (laid:=[dC]) hi rfl hfs (by simp) (aB (by rw [e];rfl))
 refine aG (aC (fun ho=>?_) (fun n5=>?_))
 ·have e0 : aX m.funcs x=(0,1):=by unfold aX;repeat (first | rfl | rw [if_pos (by omega)] | rw [if_neg (by omega)])
  rw [e0] at hu
  obtain rfl:=List.eq_nil_of_length_eq_zero (show took.length=0 by omega)
  have e : dO m ⟨ff,fpc+1,floc,fstk⟩ [] (fs0.length+1) hp made out x = .next ⟨ff,fpc+1,floc,fstk++[aMg x.a]⟩ hp made out:=by simp only [dO,List.headD,List.tail];(repeat (first | rfl | refine (if_pos (by omega)).trans ?_ | refine (if_neg (by omega)).trans ?_))
  exact bD rfl (fM (laid:=[aMg x.a]) hi rfl hfs (by simp) (aB (by rw [e];rfl)))
 refine aG (aC (fun ho=>?_) (fun n6=>?_))
 ·have e0 : aX m.funcs x=(0,1):=by unfold aX;repeat (first | rfl | rw [if_pos (by omega)] | rw [if_neg (by omega)])
  rw [e0] at hu
  obtain rfl:=List.eq_nil_of_length_eq_zero (show took.length=0 by omega)
  have hq:=q67 (.inl ho)
  obtain ⟨v,hv⟩ : ∃ v,floc[x.a.toNat]? = some v:=⟨_,List.getElem?_eq_getElem (show x.a.toNat<floc.length by omega)⟩
  have e : dO m ⟨ff,fpc+1,floc,fstk⟩ [] (fs0.length+1) hp made out x = .next ⟨ff,fpc+1,floc,fstk++[v]⟩ hp made out:=by
   have et : floc[x.a.toNat]?.getD dC=v:=by rw [hv];rfl
   simp only [dO,List.headD,List.tail,et];(repeat (first | rfl | refine (if_pos (by omega)).trans ?_ | refine (if_neg (by omega)).trans ?_))
  refine xT hi (fun _=>jC hi rfl (eI (by omega) (by omega) (jC hi rfl (nD (by omega) (by omega) (fun v' hv'=>?_)))))
  rw [hv] at hv';cases hv'
  exact xU (l:=[v]) (by simp) (fM (laid:=[v]) hi rfl hfs (by simp) (aB (by rw [e];rfl)))
 refine aG (aC (fun ho=>?_) (fun n7=>?_))
 ·have e0 : aX m.funcs x=(1,0):=by unfold aX;repeat (first | rfl | rw [if_pos (by omega)] | rw [if_neg (by omega)])
  rw [e0] at hu
  obtain ⟨a,rfl⟩:=List.length_eq_one_iff.1 (show took.length=1 by omega)
  have hq:=q67 (.inr ho)
  have e : dO m ⟨ff,fpc+1,floc,fstk⟩ [a] (fs0.length+1) hp made out x = .next ⟨ff,fpc+1,floc.set x.a.toNat a,fstk⟩ hp made out:=by simp only [dO,List.headD,List.tail];(repeat (first | rfl | refine (if_pos (by omega)).trans ?_ | refine (if_neg (by omega)).trans ?_))
  refine xT hi (fun _=>eB rfl (jC hi rfl (eI (by omega) (by omega) (jC hi rfl (jC hi rfl (qD (by omega) (by omega) (jC hi rfl (cN hi rfl (by omega) rfl ?_))))))))
  exact fM (loc:=floc.set x.a.toNat a) (laid:=[]) hi rfl hfs (by simp) (aB (by rw [e];simp [DoI]))
 refine aG (aC (fun ho=>?_) (fun n8=>?_))
 ·have e0 : aX m.funcs x=(1,2):=by unfold aX;repeat (first | rfl | rw [if_pos (by omega)] | rw [if_neg (by omega)])
  rw [e0] at hu
  obtain ⟨a,rfl⟩:=List.length_eq_one_iff.1 (show took.length=1 by omega)
  have e : dO m ⟨ff,fpc+1,floc,fstk⟩ [a] (fs0.length+1) hp made out x = .next ⟨ff,fpc+1,floc,fstk++[a,a]⟩ hp made out:=by simp only [dO,List.headD,List.tail];(repeat (first | rfl | refine (if_pos (by omega)).trans ?_ | refine (if_neg (by omega)).trans ?_))
  exact eB rfl (eB rfl (xU (l:=[a,a]) (by simp) (fM (laid:=[a,a]) hi rfl hfs (by simp) (aB (by rw [e];rfl)))))
 refine aG (aC (fun ho=>?_) (fun n10=>?_))
 ·have e0 : aX m.funcs x=(2,2):=by unfold aX;repeat (first | rfl | rw [if_pos (by omega)] | rw [if_neg (by omega)])
  rw [e0] at hu
  obtain ⟨a,b,rfl⟩:=oO (show took.length=2 by omega)
  have e : dO m ⟨ff,fpc+1,floc,fstk⟩ [a,b] (fs0.length+1) hp made out x = .next ⟨ff,fpc+1,floc,fstk++[b,a]⟩ hp made out:=by simp only [dO,List.headD,List.tail];(repeat (first | rfl | refine (if_pos (by omega)).trans ?_ | refine (if_neg (by omega)).trans ?_))
  exact tE rfl (eB rfl (xU (l:=[b,a]) (by simp) (fM (laid:=[b,a]) hi rfl hfs (by simp) (aB (by rw [e];rfl)))))
 refine aG (aC (fun ho=>?_) (fun n11=>?_))
 ·have e0 : aX m.funcs x=(2,1):=by unfold aX;repeat (first | rfl | rw [if_pos (by omega)] | rw [if_neg (by omega)])
  rw [e0] at hu
  obtain ⟨a,b,rfl⟩:=oO (show took.length=2 by omega)
  have hab:=hsz a (by simp);have hbb:=hsz b (by simp)
  refine aH (aFl (a:=a) (b:=b) (by omega) ⟨hab,hbb⟩) (fun r hr=>eB rfl (tE rfl (hr (bE rfl (bE rfl (aD rfl (aA rfl (aA rfl (aA rfl (bF (aI (fun ht=>aB ?_) (fun ht=>?_))))))))))))
  ·have e : dO m ⟨ff,fpc+1,floc,fstk⟩ [a,b] (fs0.length+1) hp made out x = .trap (nP x.o a b).2:=by simp only [dO,List.headD,List.tail];(repeat (first | rfl | refine (if_pos (by omega)).trans ?_ | refine (if_neg (by omega)).trans ?_))
   rw [e];exact ⟨ht,rfl⟩
  ·have e : dO m ⟨ff,fpc+1,floc,fstk⟩ [a,b] (fs0.length+1) hp made out x = .next ⟨ff,fpc+1,floc,fstk++[(nP x.o a b).1]⟩ hp made out:=by simp only [dO,List.headD,List.tail];(repeat (first | rfl | refine (if_pos (by omega)).trans ?_ | refine (if_neg (by omega)).trans ?_))
   exact fM (laid:=[(nP x.o a b).1]) hi rfl hfs (by simp) (aB (by rw [e];rfl))
 refine aG (aC (fun ho=>?_) (fun n12=>?_))
 ·have e0 : aX m.funcs x=(2,1):=by unfold aX;repeat (first | rfl | rw [if_pos (by omega)] | rw [if_neg (by omega)])
  rw [e0] at hu
  obtain ⟨a,b,rfl⟩:=oO (show took.length=2 by omega)
  have hab:=hsz a (by simp);have hbb:=hsz b (by simp)
  refine aH (aFl (a:=a) (b:=b) (by omega) ⟨hab,hbb⟩) (fun r hr=>eB rfl (tE rfl (hr (bE rfl (bE rfl (aD rfl (aA rfl (aA rfl (aA rfl (bF (aI (fun ht=>aB ?_) (fun ht=>?_))))))))))))
  ·have e : dO m ⟨ff,fpc+1,floc,fstk⟩ [a,b] (fs0.length+1) hp made out x = .trap (nP x.o a b).2:=by simp only [dO,List.headD,List.tail];(repeat (first | rfl | refine (if_pos (by omega)).trans ?_ | refine (if_neg (by omega)).trans ?_))
   rw [e];exact ⟨ht,rfl⟩
  ·have e : dO m ⟨ff,fpc+1,floc,fstk⟩ [a,b] (fs0.length+1) hp made out x = .next ⟨ff,fpc+1,floc,fstk++[(nP x.o a b).1]⟩ hp made out:=by simp only [dO,List.headD,List.tail];(repeat (first | rfl | refine (if_pos (by omega)).trans ?_ | refine (if_neg (by omega)).trans ?_))
   exact fM (laid:=[(nP x.o a b).1]) hi rfl hfs (by simp) (aB (by rw [e];rfl))
 refine aG (aC (fun ho=>?_) (fun n13=>?_))
 ·have e0 : aX m.funcs x=(2,1):=by unfold aX;repeat (first | rfl | rw [if_pos (by omega)] | rw [if_neg (by omega)])
  rw [e0] at hu
  obtain ⟨a,b,rfl⟩:=oO (show took.length=2 by omega)
  have hab:=hsz a (by simp);have hbb:=hsz b (by simp)
  refine aH (aFl (a:=a) (b:=b) (by omega) ⟨hab,hbb⟩) (fun r hr=>eB rfl (tE rfl (hr (bE rfl (bE rfl (aD rfl (aA rfl (aA rfl (aA rfl (bF (aI (fun ht=>aB ?_) (fun ht=>?_))))))))))))
  ·have e : dO m ⟨ff,fpc+1,floc,fstk⟩ [a,b] (fs0.length+1) hp made out x = .trap (nP x.o a b).2:=by simp only [dO,List.headD,List.tail];(repeat (first | rfl | refine (if_pos (by omega)).trans ?_ | refine (if_neg (by omega)).trans ?_))
   rw [e];exact ⟨ht,rfl⟩
  ·have e : dO m ⟨ff,fpc+1,floc,fstk⟩ [a,b] (fs0.length+1) hp made out x = .next ⟨ff,fpc+1,floc,fstk++[(nP x.o a b).1]⟩ hp made out:=by simp only [dO,List.headD,List.tail];(repeat (first | rfl | refine (if_pos (by omega)).trans ?_ | refine (if_neg (by omega)).trans ?_))
   exact fM (laid:=[(nP x.o a b).1]) hi rfl hfs (by simp) (aB (by rw [e];rfl))
 refine aG (aC (fun ho=>?_) (fun n14=>?_))
 ·have e0 : aX m.funcs x=(2,1):=by unfold aX;repeat (first | rfl | rw [if_pos (by omega)] | rw [if_neg (by omega)])
  rw [e0] at hu
  obtain ⟨a,b,rfl⟩:=oO (show took.length=2 by omega)
  have hab:=hsz a (by simp);have hbb:=hsz b (by simp)
  refine aH (aFl (a:=a) (b:=b) (by omega) ⟨hab,hbb⟩) (fun r hr=>eB rfl (tE rfl (hr (bE rfl (bE rfl (aD rfl (aA rfl (aA rfl (aA rfl (bF (aI (fun ht=>aB ?_) (fun ht=>?_))))))))))))
  ·have e : dO m ⟨ff,fpc+1,floc,fstk⟩ [a,b] (fs0.length+1) hp made out x = .trap (nP x.o a b).2:=by simp only [dO,List.headD,List.tail];(repeat (first | rfl | refine (if_pos (by omega)).trans ?_ | refine (if_neg (by omega)).trans ?_))
   rw [e];exact ⟨ht,rfl⟩
  ·have e : dO m ⟨ff,fpc+1,floc,fstk⟩ [a,b] (fs0.length+1) hp made out x = .next ⟨ff,fpc+1,floc,fstk++[(nP x.o a b).1]⟩ hp made out:=by simp only [dO,List.headD,List.tail];(repeat (first | rfl | refine (if_pos (by omega)).trans ?_ | refine (if_neg (by omega)).trans ?_))
   exact fM (laid:=[(nP x.o a b).1]) hi rfl hfs (by simp) (aB (by rw [e];rfl))
 refine aG (aC (fun ho=>?_) (fun n15=>?_))
 ·have e0 : aX m.funcs x=(2,1):=by unfold aX;repeat (first | rfl | rw [if_pos (by omega)] | rw [if_neg (by omega)])
  rw [e0] at hu
  obtain ⟨a,b,rfl⟩:=oO (show took.length=2 by omega)
  have e4 : (nP x.o a b)=(aBp a b,0):=by unfold nP;repeat (first | rfl | rw [if_pos (by omega)] | rw [if_neg (by omega)])
  have e : dO m ⟨ff,fpc+1,floc,fstk⟩ [a,b] (fs0.length+1) hp made out x = .next ⟨ff,fpc+1,floc,fstk++[aBp a b]⟩ hp made out:=by simp only [dO,List.headD,List.tail,e4];(repeat (first | rfl | exact if_neg (fun h=>h rfl) | refine (if_pos (by omega)).trans ?_ | refine (if_neg (by omega)).trans ?_))
  exact eB rfl (tE rfl (aH aMo (fun r hr=>by rw [hr];exact xU (l:=[aBp a b]) (by simp) (fM (laid:=[aBp a b]) hi rfl hfs (by simp) (aB (by rw [e];rfl))))))
 refine aG (aC (fun ho=>?_) (fun n16=>?_))
 ·have e0 : aX m.funcs x=(1,1):=by unfold aX;repeat (first | rfl | rw [if_pos (by omega)] | rw [if_neg (by omega)])
  rw [e0] at hu
  obtain ⟨a,rfl⟩:=List.length_eq_one_iff.1 (show took.length=1 by omega)
  refine eB rfl (nC aNo (bE rfl (bE rfl (aD rfl (aA rfl (aA rfl (aA rfl (bF (aI (fun ht=>aB ?_) (fun ht=>?_))))))))))
  ·have e : dO m ⟨ff,fpc+1,floc,fstk⟩ [a] (fs0.length+1) hp made out x = .trap (vY a).2:=by simp only [dO,List.headD,List.tail];(repeat (first | rfl | refine (if_pos (by omega)).trans ?_ | refine (if_neg (by omega)).trans ?_))
   rw [e];exact ⟨ht,rfl⟩
  ·have e : dO m ⟨ff,fpc+1,floc,fstk⟩ [a] (fs0.length+1) hp made out x = .next ⟨ff,fpc+1,floc,fstk++[(vY a).1]⟩ hp made out:=by simp only [dO,List.headD,List.tail];(repeat (first | rfl | refine (if_pos (by omega)).trans ?_ | refine (if_neg (by omega)).trans ?_))
   exact fM (laid:=[(vY a).1]) hi rfl hfs (by simp) (aB (by rw [e];rfl))
 refine aG (aC (fun ho=>?_) (fun n17=>?_))
 ·have e0 : aX m.funcs x=(0,0):=by unfold aX;repeat (first | rfl | rw [if_pos (by omega)] | rw [if_neg (by omega)])
  rw [e0] at hu
  obtain rfl:=List.eq_nil_of_length_eq_zero (show took.length=0 by omega)
  have e : dO m ⟨ff,fpc+1,floc,fstk⟩ [] (fs0.length+1) hp made out x = .next ⟨ff,x.a,floc,fstk⟩ hp made out:=by simp only [dO,List.headD,List.tail];(repeat (first | rfl | refine (if_pos (by omega)).trans ?_ | refine (if_neg (by omega)).trans ?_))
  exact fM (next:=x.a) (laid:=[]) hi rfl hfs (by simp) (aB (by rw [e];simp [DoI]))
 refine aG (aC (fun ho=>?_) (fun n18=>?_))
 ·have e0 : aX m.funcs x=(1,0):=by unfold aX;repeat (first | rfl | rw [if_pos (by omega)] | rw [if_neg (by omega)])
  rw [e0] at hu
  obtain ⟨a,rfl⟩:=List.length_eq_one_iff.1 (show took.length=1 by omega)
  have hd : decide (x.o=18)=true:=by simp [ho]
  refine eB rfl (aA rfl (bF (aI (fun h1=>aB ?_) (fun h1=>?_))))
  ·have e : dO m ⟨ff,fpc+1,floc,fstk⟩ [a] (fs0.length+1) hp made out x = .trap 1:=by simp only [dO,List.headD,List.tail];(repeat (first | rfl | refine (if_pos (by omega)).trans ?_ | refine (if_neg (by omega)).trans ?_))
   rw [e];exact ⟨by omega,rfl⟩
  refine eB rfl (aA rfl (aG (aG (wQ (aZ (fun h2=>?_) (fun h2=>?_))))))
  ·have e : dO m ⟨ff,fpc+1,floc,fstk⟩ [a] (fs0.length+1) hp made out x = .next ⟨ff,x.a,floc,fstk⟩ hp made out:=by simp only [dO,List.headD,List.tail];(repeat (first | rfl | refine (if_pos (by omega)).trans ?_ | refine (if_neg (by omega)).trans ?_ | refine (if_pos h2).trans ?_))
   exact fM (next:=x.a) (laid:=[]) hi rfl hfs (by simp) (aB (by rw [e];simp [DoI]))
  ·have e : dO m ⟨ff,fpc+1,floc,fstk⟩ [a] (fs0.length+1) hp made out x = .next ⟨ff,fpc+1,floc,fstk++[]⟩ hp made out:=by simp only [dO,List.headD,List.tail];(repeat (first | rfl | refine (if_pos (by omega)).trans ?_ | refine (if_neg (by omega)).trans ?_ | exact if_neg (fun h=>Bool.noConfusion (h2.symm.trans h))))
   exact fM (laid:=[]) hi rfl hfs (by simp) (aB (by rw [e];rfl))
 refine aG (aC (fun ho=>?_) (fun n19=>?_))
 ·have e0 : aX m.funcs x=(1,0):=by unfold aX;repeat (first | rfl | rw [if_pos (by omega)] | rw [if_neg (by omega)])
  rw [e0] at hu
  obtain ⟨a,rfl⟩:=List.length_eq_one_iff.1 (show took.length=1 by omega)
  have hd : decide (x.o=18)=false:=by simp [ho]
  refine eB rfl (aA rfl (bF (aI (fun h1=>aB ?_) (fun h1=>?_))))
  ·have e : dO m ⟨ff,fpc+1,floc,fstk⟩ [a] (fs0.length+1) hp made out x = .trap 1:=by simp only [dO,List.headD,List.tail];(repeat (first | rfl | refine (if_pos (by omega)).trans ?_ | refine (if_neg (by omega)).trans ?_))
   rw [e];exact ⟨by omega,rfl⟩
  refine eB rfl (aA rfl (aG (aG (wQ (aZ (fun h2=>?_) (fun h2=>?_))))))
  ·have e : dO m ⟨ff,fpc+1,floc,fstk⟩ [a] (fs0.length+1) hp made out x = .next ⟨ff,x.a,floc,fstk⟩ hp made out:=by simp only [dO,List.headD,List.tail];(repeat (first | rfl | refine (if_pos (by omega)).trans ?_ | refine (if_neg (by omega)).trans ?_ | refine (if_pos h2).trans ?_))
   exact fM (next:=x.a) (laid:=[]) hi rfl hfs (by simp) (aB (by rw [e];simp [DoI]))
  ·have e : dO m ⟨ff,fpc+1,floc,fstk⟩ [a] (fs0.length+1) hp made out x = .next ⟨ff,fpc+1,floc,fstk++[]⟩ hp made out:=by simp only [dO,List.headD,List.tail];(repeat (first | rfl | refine (if_pos (by omega)).trans ?_ | refine (if_neg (by omega)).trans ?_ | exact if_neg (fun h=>Bool.noConfusion (h2.symm.trans h))))
   exact fM (laid:=[]) hi rfl hfs (by simp) (aB (by rw [e];rfl))
 refine aG (aC (fun ho=>?_) (fun n20=>?_))
 ·have e0 : aX m.funcs x=(0,1):=by unfold aX;repeat (first | rfl | rw [if_pos (by omega)] | rw [if_neg (by omega)])
  rw [e0] at hu
  obtain rfl:=List.eq_nil_of_length_eq_zero (show took.length=0 by omega)
  have hq:=q20 ho
  refine aG (aC (fun h1=>aB ?_) (fun h1=>?_))
  ·have e : dO m ⟨ff,fpc+1,floc,fstk⟩ [] (fs0.length+1) hp made out x = .trap 7:=by simp only [dO,List.headD,List.tail];(repeat (first | rfl | refine (if_pos (by omega)).trans ?_ | refine (if_neg (by omega)).trans ?_))
   rw [e];exact ⟨by omega,rfl⟩
  have e : dO m ⟨ff,fpc+1,floc,fstk⟩ [] (fs0.length+1) hp made out x = .next ⟨ff,fpc+1,floc,fstk++[aMf hp.length]⟩ (hp++[List.replicate x.a.toNat dC]) (made+1) out:=by simp only [dO,List.headD,List.tail];(repeat (first | rfl | refine (if_pos (by omega)).trans ?_ | refine (if_neg (by omega)).trans ?_))
  refine aE (bD rfl (aLB (by omega) (by omega) (dR (dG _) (kB (by simp;omega) (fun y hy=>by simp at hy;subst hy;rfl) (aN (by omega) (bD rfl ?_))))))
  exact fM (laid:=[aMf hp.length]) hi rfl hfs (by simp) (aB (by rw [e];simp [DoI];rfl))
 refine aG (aC (fun ho=>?_) (fun n21=>?_))
 ·have e0 : aX m.funcs x=(1,1):=by unfold aX;repeat (first | rfl | rw [if_pos (by omega)] | rw [if_neg (by omega)])
  rw [e0] at hu
  obtain ⟨a,rfl⟩:=List.length_eq_one_iff.1 (show took.length=1 by omega)
  have hq:=q2122 (.inl ho)
  refine eB rfl (aJ2 (by omega) (by omega) hrec (rZ (vals0 a (by simp))) (fun h1=>?_) (fun h1 h2=>?_) (fun h1 h2=>?_))
  ·have e : dO m ⟨ff,fpc+1,floc,fstk⟩ [a] (fs0.length+1) hp made out x = .trap 1:=by simp only [dO,List.headD,List.tail];(repeat (first | rfl | refine (if_pos (by omega)).trans ?_ | refine (if_neg (by omega)).trans ?_))
   refine bF (aI (fun _=>aB ?_) (fun h=>absurd h (by decide)))
   rw [e];exact ⟨by omega,rfl⟩
  ·have e : dO m ⟨ff,fpc+1,floc,fstk⟩ [a] (fs0.length+1) hp made out x = .trap 4:=by simp only [dO,List.headD,List.tail];(repeat (first | rfl | refine (if_pos (by omega)).trans ?_ | refine (if_neg (by omega)).trans ?_))
   refine bF (aI (fun _=>aB ?_) (fun h=>absurd h (by decide)))
   rw [e];exact ⟨by omega,rfl⟩
  ·have hr4:=rZ (vals0 a (by simp)) h1
   obtain ⟨v,hv⟩ : ∃ v,(hp[a.n.toNat]?.getD [])[x.a.toNat]? = some v:=⟨_,List.getElem?_eq_getElem (show x.a.toNat<(hp[a.n.toNat]?.getD []).length by omega)⟩
   have et : (hp[a.n.toNat]?.getD [])[x.a.toNat]?.getD dC=v:=by rw [hv];rfl
   have e : dO m ⟨ff,fpc+1,floc,fstk⟩ [a] (fs0.length+1) hp made out x = .next ⟨ff,fpc+1,floc,fstk++[v]⟩ hp made out:=by simp only [dO,List.headD,List.tail,et];(repeat (first | rfl | refine (if_pos (by omega)).trans ?_ | refine (if_neg (by omega)).trans ?_))
   refine bF (aI (fun h=>absurd rfl h) (fun _=>aJO (dM hr4.1 hr4.2 (aA rfl (nD (by omega) (by omega) (fun v' hv'=>?_))))))
   rw [hv] at hv';cases hv'
   exact xU (l:=[v]) (by simp) (fM (laid:=[v]) hi rfl hfs (by simp) (aB (by rw [e];rfl)))
 refine aG (aC (fun ho=>?_) (fun n22=>?_))
 ·have e0 : aX m.funcs x=(2,0):=by unfold aX;repeat (first | rfl | rw [if_pos (by omega)] | rw [if_neg (by omega)])
  rw [e0] at hu
  obtain ⟨a,b,rfl⟩:=oO (show took.length=2 by omega)
  have hq:=q2122 (.inr ho)
  refine eB rfl (aJ2 (by omega) (by omega) hrec (rZ (vals0 a (by simp))) (fun h1=>?_) (fun h1 h2=>?_) (fun h1 h2=>?_))
  ·have e : dO m ⟨ff,fpc+1,floc,fstk⟩ [a,b] (fs0.length+1) hp made out x = .trap 1:=by simp only [dO,List.headD,List.tail];(repeat (first | rfl | refine (if_pos (by omega)).trans ?_ | refine (if_neg (by omega)).trans ?_))
   refine bF (aI (fun _=>aB ?_) (fun h=>absurd h (by decide)))
   rw [e];exact ⟨by omega,rfl⟩
  ·have e : dO m ⟨ff,fpc+1,floc,fstk⟩ [a,b] (fs0.length+1) hp made out x = .trap 4:=by simp only [dO,List.headD,List.tail];(repeat (first | rfl | refine (if_pos (by omega)).trans ?_ | refine (if_neg (by omega)).trans ?_))
   refine bF (aI (fun _=>aB ?_) (fun h=>absurd h (by decide)))
   rw [e];exact ⟨by omega,rfl⟩
  ·have hr4:=rZ (vals0 a (by simp)) h1
   have e : dO m ⟨ff,fpc+1,floc,fstk⟩ [a,b] (fs0.length+1) hp made out x = .next ⟨ff,fpc+1,floc,fstk⟩ (hp.set a.n.toNat ((hp[a.n.toNat]?.getD []).set x.a.toNat b)) made out:=by simp only [dO,List.headD,List.tail];(repeat (first | rfl | refine (if_pos (by omega)).trans ?_ | refine (if_neg (by omega)).trans ?_))
   refine bF (aI (fun h=>absurd rfl h) (fun _=>tE rfl (aJO (dM hr4.1 hr4.2 (aA rfl (dM hr4.1 hr4.2 (aA rfl (qD (by omega) (by omega) (dM hr4.1 hr4.2 (aA rfl (aGD hr4.1 hr4.2 ?_)))))))))))
   exact fM (laid:=[]) hi rfl hfs (by simp) (aB (by rw [e,List.append_nil];rfl))
 refine aG (aC (fun ho=>?_) (fun n23=>?_))
 ·have e0 : aX m.funcs x=(x.a+1,1):=by unfold aX;repeat (first | rfl | rw [if_pos (by omega)] | rw [if_neg (by omega)])
  rw [e0] at hu
  have hq:=q23 ho
  obtain ⟨a,args,rfl⟩ : ∃ a args,took=a::args:=by
   cases took with
   | nil=>simp at hu;omega
   | cons a args=>exact ⟨a,args,rfl⟩
  simp only [List.length_cons] at hu
  have hk:=vals0 a (by simp)
  refine aG ?_
  rw [decide_eq_true ho]
  refine aW (eB rfl (aA rfl (bF (aI (fun h1=>aB ?_) (fun h1=>?_)))))
  ·have e : dO m ⟨ff,fpc+1,floc,fstk⟩ (a::args) (fs0.length+1) hp made out x = .trap 1:=by simp only [dO,List.headD,List.tail];(repeat (first | rfl | refine (if_pos (by omega)).trans ?_ | refine (if_neg (by omega)).trans ?_))
   rw [e];exact ⟨by omega,rfl⟩
  have h5:=aD2 hk h1
  obtain ⟨q,hqn⟩:=Int.eq_ofNat_of_zero_le h5.1
  have hql : q<m.funcs.length:=by omega
  have hpa : fZ m.funcs a.n=m.funcs[q].p:=by unfold fZ;rw [hqn,Int.toNat_natCast,List.getElem?_eq_getElem hql];rfl
  refine eB rfl (aA rfl (aD5 h5.1 h5.2 (fun fn2 hfn2=>aA rfl ?_)))
  have hp2 : fn2.p=fZ m.funcs a.n:=by unfold fZ;rw [hfn2];rfl
  rw [hp2]
  refine bF (aI (fun h2=>aB ?_) (fun h2=>?_))
  ·have e : dO m ⟨ff,fpc+1,floc,fstk⟩ (a::args) (fs0.length+1) hp made out x = .trap 5:=by simp only [dO,List.headD,List.tail];(repeat (first | rfl | refine (if_pos (by omega)).trans ?_ | refine (if_neg (by omega)).trans ?_))
   rw [e];exact ⟨by omega,rfl⟩
  refine eB rfl (aA rfl (bB (gA (by omega) (by simp;omega) (by omega) (gA (by omega) (by simp;omega) (by omega) ?_))))
  have et : (((a::args).take ((a::args).length : Int).toNat).drop (1 : Int).toNat)=args:=by rw [Int.toNat_natCast,List.take_length];rfl
  rw [et]
  refine (aNr (t:=a::args) hi rfl hfs (by rw [hA];omega) h5 (by omega) par).mono (fun r hr=>?_)
  rcases hr with ⟨h6,rfl⟩ | ⟨h6,rfl⟩
  ·have e : dO m ⟨ff,fpc+1,floc,fstk⟩ (a::args) (fs0.length+1) hp made out x = .trap 6:=by simp only [dO,List.headD,List.tail];(repeat (first | rfl | refine (if_pos (by omega)).trans ?_ | refine (if_neg (by omega)).trans ?_))
   rw [e];exact ⟨by omega,rfl⟩
  ·have e : dO m ⟨ff,fpc+1,floc,fstk⟩ (a::args) (fs0.length+1) hp made out x = .call ⟨ff,fpc+1,floc,fstk⟩ (vE m.funcs a.n args):=by simp only [dO,List.headD,List.tail];(repeat (first | rfl | refine (if_pos (by omega)).trans ?_ | refine (if_neg (by omega)).trans ?_))
   rw [e];rfl
 refine aG (aC (fun ho=>?_) (fun n24=>?_))
 ·have e0 : aX m.funcs x=(fZ m.funcs x.a,1):=by unfold aX;repeat (first | rfl | rw [if_pos (by omega)] | rw [if_neg (by omega)])
  rw [e0] at hu
  have hq:=q524 (.inr ho)
  refine aG ?_
  rw [decide_eq_false n23]
  refine aP ((aNr (t:=took) hi rfl hfs (by rw [hA];omega) hq hu par).mono (fun r hr=>?_))
  rcases hr with ⟨h6,rfl⟩ | ⟨h6,rfl⟩
  ·have e : dO m ⟨ff,fpc+1,floc,fstk⟩ took (fs0.length+1) hp made out x = .trap 6:=by simp only [dO];(repeat (first | rfl | refine (if_pos (by omega)).trans ?_ | refine (if_neg (by omega)).trans ?_))
   rw [e];exact ⟨by omega,rfl⟩
  ·have e : dO m ⟨ff,fpc+1,floc,fstk⟩ took (fs0.length+1) hp made out x = .call ⟨ff,fpc+1,floc,fstk⟩ (vE m.funcs x.a took):=by simp only [dO];(repeat (first | rfl | refine (if_pos (by omega)).trans ?_ | refine (if_neg (by omega)).trans ?_))
   rw [e];rfl
 refine aG (aC (fun ho=>?_) (fun n25=>?_))
 ·have e0 : aX m.funcs x=(1,0):=by unfold aX;repeat (first | rfl | rw [if_pos (by omega)] | rw [if_neg (by omega)])
  rw [e0] at hu
  obtain ⟨a,rfl⟩:=List.length_eq_one_iff.1 (show took.length=1 by omega)
  have e : dO m ⟨ff,fpc+1,floc,fstk⟩ [a] (fs0.length+1) hp made out x = .ret a:=by simp only [dO,List.headD,List.tail];(repeat (first | rfl | refine (if_pos (by omega)).trans ?_ | refine (if_neg (by omega)).trans ?_))
  refine eB rfl (aMq (by omega) (fun g hg=>by have:=stks g hg;omega) (aB ?_))
  rw [e]
  show _=_
  by_cases h0 : fs0 = []
  ·rw [if_pos h0,if_pos h0];rfl
  ·rw [if_neg h0,if_neg h0];rfl
 refine aG (aC (fun ho=>?_) (fun n26=>?_))
 ·have e0 : aX m.funcs x=(1,0):=by unfold aX;repeat (first | rfl | rw [if_pos (by omega)] | rw [if_neg (by omega)])
  rw [e0] at hu
  obtain ⟨a,rfl⟩:=List.length_eq_one_iff.1 (show took.length=1 by omega)
  refine aE (aG (aC (fun h1=>aB ?_) (fun h1=>?_)))
  ·have e : dO m ⟨ff,fpc+1,floc,fstk⟩ [a] (fs0.length+1) hp made out x = .trap 8:=by simp only [dO,List.headD,List.tail];(repeat (first | rfl | refine (if_pos (by omega)).trans ?_ | refine (if_neg (by omega)).trans ?_))
   rw [e];exact ⟨by omega,rfl⟩
  have e : dO m ⟨ff,fpc+1,floc,fstk⟩ [a] (fs0.length+1) hp made out x = .next ⟨ff,fpc+1,floc,fstk⟩ hp made (out++[fP a hp]):=by simp only [dO,List.headD,List.tail];(repeat (first | rfl | refine (if_pos (by omega)).trans ?_ | refine (if_neg (by omega)).trans ?_))
  refine eB rfl (aH (aIM (nf:=m.funcs.length) (by omega) (by omega) hrec (vals0 a (by simp))) (fun r hr=>?_))
  rw [hr]
  refine eS rfl (kB (by simp) (fun y hy=>by simp at hy;subst hy;rfl) (kB (by simp;omega) (fun y hy=>by simp at hy;subst hy;rfl) ?_))
  exact fM (laid:=[]) hi rfl hfs (by simp) (aB (by rw [e];simp [DoI];rfl))
 have h9 : x.o=9:=by omega
 have e0 : aX m.funcs x=(1,0):=by unfold aX;repeat (first | rfl | rw [if_pos (by omega)] | rw [if_neg (by omega)])
 rw [e0] at hu
 obtain ⟨a,rfl⟩:=List.length_eq_one_iff.1 (show took.length=1 by omega)
 have e : dO m ⟨ff,fpc+1,floc,fstk⟩ [a] (fs0.length+1) hp made out x = .next ⟨ff,fpc+1,floc,fstk++[]⟩ hp made out:=by simp only [dO,List.headD,List.tail];(repeat (first | rfl | refine (if_pos (by omega)).trans ?_ | refine (if_neg (by omega)).trans ?_))
 exact fM (laid:=[]) hi rfl hfs (by simp) (aB (by rw [e];rfl))
end
noncomputable section
open Go
attribute [local irreducible] bd PV.ite PV.guardFlat PV.guardOwn PV.whole PV.one PV.cell PV.sub PV.at_ PV.len PV.slen PV.chr PV.beq PV.peq PV.ceq PV.bin PV.neg PV.not PV.conv PV.cut PV.scut PV.cat PV.setAt PV.setCell PV.ncopy PV.copyIn PV.zeros PV.toStr PV.toBytes PV.deref PV.isPtr PV.comp PV.inb PV.off PV.imin PV.imax PV.sel PV.apply PV.isLst PV.isInt PV.ix PV.nilT
def aDb (fs : List cD) (code : List bM) (d : List Int) (pc : Nat) : Option Int:=
 match code[pc]? with
 | none=>none
 | some x=>
   if d[pc]?.getD 0<0 then none
   else if can fs x (d[pc]?.getD 0)=false then some 2
   else if (fG x pc).any (fun t=>decide ((code.length : Int)≤t))=true then some 3
   else if (fG x pc).any (fun t=>!decide (d[t.toNat]?.getD 0=gO fs x (d[pc]?.getD 0)))=true then some 4
   else none
def aBs (fs : List cD) (code : List bM) (f pc : Nat) : Option (Int × Nat × Nat):=(aDb fs code (iG fs code) pc).map fun c=>(c,f,pc)
def aHY (fs : List cD) (f : Nat) : Option (Int × Nat × Nat):=match fs[f]? with
 | some x=>(List.range' 0 x.code.length).findSome? (aBs fs x.code f)
 | none=>none
def bad (fs : List cD) : Option (Int × Nat × Nat):=(List.range' 0 fs.length).findSome? (aHY fs)
def aKZ : Option (Int × Nat × Nat)→PV
 | some (c,f,pc)=>.agg [.int .i64 c,.int .i64 f,.int .i64 pc]
 | none=>.agg [.int .i64 0,.int .i64 0,.int .i64 0]
def eM.verify (m : eM) : PV:=if m.okB then aKZ (bad m.funcs) else .agg [.int .i64 1,.int .i64 0,.int .i64 0]
theorem aFm {n : Nat} {F : Nat→Option R} {P : R→Prop} (I : Nat→Prop) (he : I n→Ok P (F n)) (hs : ∀ i,i<n→I i→(I (i+1)→Ok P (F (i+1)))→Ok P (F i)) (h0 : I 0) : Ok P (F 0):=
 aGz (σ:=Unit) (F:=fun i _=>F i) (fun i _=>I i) (fun _ h=>he h) (fun i _ hi hI ih=>hs i hi hI (fun h=>ih () h)) 0 () (by omega) h0
theorem aDc {α : Type} {xs : List α} {i : Nat} (hi : i<xs.length) (p : α→Bool) : (xs.drop i).any p=(p xs[i]||(xs.drop (i+1)).any p):=by
 rw [List.drop_eq_getElem_cons hi,List.any_cons]
section
variable {fs : List cD} {code : List bM} {T x3 x4 x5 : PV} (F : Fit fs code) {f : Nat} (hf : f < fs.length)
include F hf
theorem aK0 {P : R→Prop} {pc : Nat} (hpc : pc<code.length) {d : List Int} (hd : d.length=code.length) {left : Int} {ts : List Int} (hts : ∀ t∈ts,0≤t∧t<code.length) (hn : ts.length≤10)
 (h4 : ts.any (fun t=>!decide (d[t.toNat]?.getD 0=left))=true→P [.agg [.int .i64 4,.int .i64 f,.int .i64 pc]])
 (hgo : ts.any (fun t=>!decide (d[t.toNat]?.getD 0=left))=false→Ok P (iS (.int .i64 f) (.lst (code.map bM.pv)) (dN d) (.int .i64 ((pc : Int)+1)) T (.lst (fs.map cD.pv)) x3 x4 x5)) :
 Ok P (gQ (.int .i64 f) (.lst (code.map bM.pv)) (dN d) (.int .i64 pc) (.int .i64 left) (dN ts) (.int .i64 0) T (.lst (fs.map cD.pv)) x3 x4 x5):=by
 have hn2:=F.n2
 refine aFm (n:=ts.length) (F:=fun i=>gQ (.int .i64 f) (.lst (code.map bM.pv)) (dN d) (.int .i64 pc) (.int .i64 left) (dN ts) (.int .i64 i) T (.lst (fs.map cD.pv)) x3 x4 x5)
  (fun i=>(ts.drop i).any (fun t=>!decide (d[t.toNat]?.getD 0=left))=ts.any (fun t=>!decide (d[t.toNat]?.getD 0=left))) ?_ ?_ (by rw [List.drop_zero])
 ·intro hI
  rw [List.drop_length] at hI
  rw [sU]
  exact eH (aF (aC (fun h=>by omega) (fun _=>aN (by omega) (hgo hI.symm))))
 ·intro i hi hI ih
  rw [aDc hi] at hI
  have ht:=hts ts[i] (List.getElem_mem _)
  rw [sU]
  refine eH (aF (aC (fun _=>?_) (fun h=>by omega)))
  refine dU hi (qB (by omega) (by omega) (fun v hv=>?_))
  have hv' : d[ts[i].toNat]?.getD 0=v:=by rw [hv];rfl
  rw [hv'] at hI
  refine bF (aI (fun h=>?_) (fun h=>?_))
  ·rw [decide_eq_false h] at hI
   exact bD rfl (bD rfl (aB (h4 hI.symm)))
  ·rw [decide_eq_true h] at hI
   exact aN (by omega) (ih hI)
theorem aMr {P : R→Prop} {pc : Nat} (hpc : pc<code.length) {d : List Int} (hd : d.length=code.length) {left : Int} {ts : List Int} (hts : ∀ t∈ts,0≤t∧t≤code.length) (hn : ts.length≤10)
 (h3 : ts.any (fun t=>decide ((code.length : Int)≤t))=true→P [.agg [.int .i64 3,.int .i64 f,.int .i64 pc]])
 (hgo : ts.any (fun t=>decide ((code.length : Int)≤t))=false→Ok P (gQ (.int .i64 f) (.lst (code.map bM.pv)) (dN d) (.int .i64 pc) (.int .i64 left) (dN ts) (.int .i64 0) T (.lst (fs.map cD.pv)) x3 x4 x5)) :
 Ok P (jT (.int .i64 f) (.lst (code.map bM.pv)) (dN d) (.int .i64 pc) (.int .i64 left) (dN ts) (.int .i64 0) T (.lst (fs.map cD.pv)) x3 x4 x5):=by
 have hn2:=F.n2
 refine aFm (n:=ts.length) (F:=fun i=>jT (.int .i64 f) (.lst (code.map bM.pv)) (dN d) (.int .i64 pc) (.int .i64 left) (dN ts) (.int .i64 i) T (.lst (fs.map cD.pv)) x3 x4 x5)
  (fun i=>(ts.drop i).any (fun t=>decide ((code.length : Int)≤t))=ts.any (fun t=>decide ((code.length : Int)≤t))) ?_ ?_ (by rw [List.drop_zero])
 ·intro hI
  rw [List.drop_length] at hI
  rw [sT]
  exact eH (aF (aC (fun h=>by omega) (fun _=>hgo hI.symm)))
 ·intro i hi hI ih
  rw [aDc hi] at hI
  rw [sT]
  refine eH (aF (aC (fun _=>?_) (fun h=>by omega)))
  refine dU hi (aE (nW (aC (fun h=>?_) (fun h=>?_))))
  ·rw [decide_eq_true h] at hI
   exact bD rfl (bD rfl (aB (h3 hI.symm)))
  ·rw [decide_eq_false h] at hI
   exact aN (by omega) (ih hI)
theorem aLD {ts : List Int} {n : Int} (h : ts.any (fun t=>decide (n≤t))=false) : ∀ t∈ts,t<n:=by
 clear F hf
 intro t ht
 rw [List.any_eq_false] at h
 have:=h t ht
 simp at this
 omega
theorem aK1 {rest : Option (Int × Nat × Nat)} (hnext : Ok (fun r=>r = [aKZ rest]) (kO (.int .i64 ((f : Int)+1)) T (.lst (fs.map cD.pv)) x3 x4 x5)) : ∀ pc,pc≤code.length→
 Ok (fun r=>r = [aKZ (((List.range' pc (code.length - pc)).findSome? (aBs fs code f)).or rest)]) (iS (.int .i64 f) (.lst (code.map bM.pv)) (dN (iG fs code)) (.int .i64 pc) T (.lst (fs.map cD.pv)) x3 x4 x5):=by
 have hn2:=F.n2
 have hnf:=F.nf
 have hg:=xP F
 generalize hd : iG fs code=d at hg
 refine eK ?_ ?_
 ·rw [uC,aC0]
  exact aE (aF (aC (fun h=>by omega) (fun _=>aN (by omega) hnext)))
 ·intro pc hpc ih
  have hx : code[pc]? = some code[pc]:=List.getElem?_eq_getElem hpc
  have hm : code[pc]∈code:=List.getElem_mem _
  have hu:=F.u code[pc] hm
  have hil : pc<d.length:=by rw [hg.1];exact hpc
  have hv:=hg.at pc
  have e2 : d[pc]=d[pc]?.getD 0:=aFh hil
  rw [aAP hpc]
  have eb : aBs fs code f pc=(aDb fs code d pc).map fun c=>(c,f,pc):=by unfold aBs;rw [hd]
  rw [eb]
  have ec : aDb fs code d pc=if d[pc]?.getD 0<0 then none
   else if can fs code[pc] (d[pc]?.getD 0)=false then some 2
   else if (fG code[pc] pc).any (fun t=>decide ((code.length : Int)≤t))=true then some 3
   else if (fG code[pc] pc).any (fun t=>!decide (d[t.toNat]?.getD 0=gO fs code[pc] (d[pc]?.getD 0)))=true then some 4
   else none:=by
   conv=>lhs;unfold aDb
   rw [hx]
  generalize hw : d[pc]?.getD 0=w at *
  generalize aDb fs code d pc=ch at *
  rw [uC]
  refine aE (aF (aC (fun _=>?_) (fun h=>by omega)))
  refine dU hil ?_
  rw [e2]
  refine aF (aC (fun h1=>?_) (fun h1=>?_))
  ·rw [if_pos h1] at ec
   subst ec
   exact aN (by omega) ih
  rw [if_neg h1] at ec
  refine aS hpc (fun _=>rfl) (aH (aHQ (T:=T) (by omega)) (fun r hr=>?_))
  subst hr
  refine bE rfl (bE rfl (dU hil ?_))
  rw [e2]
  refine bN (by omega) (aN (by omega) (dU hil ?_))
  rw [e2]
  refine aF (aC (fun h2=>?_) (fun h2=>?_))
  ·have hc : can fs code[pc] w=false:=by simp only [can];rw [decide_eq_false (by omega)];rfl
   rw [if_pos hc] at ec
   subst ec
   exact bD rfl (bD rfl (aB rfl))
  refine gE (aC (fun h3=>?_) (fun h3=>?_))
  ·have hc : can fs code[pc] w=false:=by simp only [can];rw [decide_eq_false (p:=gO fs code[pc] w≤16) (by unfold gO;omega),Bool.and_false]
   rw [if_pos hc] at ec
   subst ec
   exact bD rfl (bD rfl (aB rfl))
  have hc : can fs code[pc] w=true:=by simp only [can];rw [decide_eq_true (by omega),decide_eq_true (p:=gO fs code[pc] w≤16) (by unfold gO;omega)];rfl
  rw [hc,if_neg (by simp)] at ec
  refine aS hpc (fun _=>rfl) (aH (aHS (by omega)) (fun r hr=>?_))
  subst hr
  have hnx:=aAr F hm hpc
  have hl10 : (fG code[pc] pc).length≤10:=by unfold fG;repeat' split<;>simp
  refine aMr F hf hpc hg.1 (left:=gO fs code[pc] w) hnx hl10 (fun h=>?_) (fun h=>?_)
  ·rw [if_pos h] at ec
   subst ec
   rfl
  rw [if_neg (by rw [h];simp)] at ec
  refine aK0 F hf hpc hg.1 (left:=gO fs code[pc] w) (fun t ht=>⟨(hnx t ht).1,aLD F hf h t ht⟩) hl10 (fun h=>?_) (fun h=>?_)
  ·rw [if_pos h] at ec
   subst ec
   rfl
  ·rw [if_neg (by rw [h];simp)] at ec
   subst ec
   exact ih
end
theorem aGG {fs : List cD} {f : Nat} (hf : f<fs.length) : aHY fs f=(List.range' 0 fs[f].code.length).findSome? (aBs fs fs[f].code f):=by
 unfold aHY
 rw [List.getElem?_eq_getElem hf]
theorem aJ3 {m : eM} (h : m.sized) : Ok (fun r=>r = [m.verify]) (zX m.pv):=by
 rw [aGf]
 refine aD rfl (aA rfl (aA rfl (aH (aHq h) (fun r hr=>?_))))
 subst hr
 unfold eM.verify
 refine bH (aZ (fun hb=>aB ?_) (fun hb=>?_))
 ·have : m.okB=false:=by simpa using hb
  rw [this];rfl
 have hb : m.okB=true:=by simpa using hb
 rw [hb,if_pos rfl]
 obtain ⟨h1,h2,h3⟩:=eM.okB_fit hb
 have key:=eK (n:=m.funcs.length) (P:=fun f r=>r = [aKZ ((List.range' f (m.funcs.length - f)).findSome? (aHY m.funcs))])
  (F:=fun f=>kO (.int .i64 f) (.lst (m.texts.map PV.str)) (.lst (m.funcs.map cD.pv)) (.int .i64 0) (.int .i64 0) (.int .i64 0)) ?_ ?_ 0 (by omega)
 ·exact key
 ·rw [uB,aC0]
  exact aE (aF (aC (fun h=>by omega) (fun _=>aB rfl)))
 ·intro f hf ih
  have F:=(h3 m.funcs[f] (List.getElem_mem _)).1
  rw [uB,aAP hf,aGG hf]
  refine aE (aF (aC (fun _=>?_) (fun h=>by omega)))
  refine aS hf (fun _=>rfl) (aA rfl (aH (aAs F hf rfl) (fun r hr=>?_)))
  subst hr
  exact aK1 F hf ih 0 (by omega)
section
variable {P : R → Prop} {k : R → Option R}
theorem aMs {xs : List Int} (hx : xs.length≤1000000000) (y : Int) : Ok (fun r=>∃ n : Int,r = [.int .i64 n]∧(0≤n↔xs.any (fun x=>decide (y=x))=true)) (kS (dN xs) (.int .i64 y)):=by
 rw [vV]
 refine eH ?_
 refine aFm (n:=xs.length) (F:=fun i=>fE (dN xs) (.int .i64 y) (.int .i64 xs.length) (.int .i64 i)) (fun i=>(xs.drop i).any (fun x=>decide (y=x))=xs.any (fun x=>decide (y=x))) ?_ ?_ (by rw [List.drop_zero])
 ·intro hI
  rw [List.drop_length] at hI
  rw [kW]
  refine aF (aC (fun h=>by omega) (fun _=>aB ⟨-1,rfl,?_⟩))
  rw [← hI];simp
 ·intro i hi hI ih
  rw [aDc hi] at hI
  rw [kW]
  refine aF (aC (fun _=>?_) (fun h=>by omega))
  refine dU hi (aG (aC (fun h=>aB ⟨i,rfl,?_⟩) (fun h=>?_)))
  ·rw [← hI,decide_eq_true h];simp
  ·rw [decide_eq_false h] at hI
   exact aN (by omega) (ih hI)
theorem aMt {xs : List Int} (hx : xs.length≤1000000000) {y : Int} (h : Ok P (k [.bool (xs.any (fun x=>decide (y=x)))])) : Ok P (bd (iW (dN xs) (.int .i64 y)) k):=by
 refine aH (Q:=fun r=>r = [.bool (xs.any (fun x=>decide (y=x)))]) ?_ (fun r hr=>by rw [hr];exact h)
 rw [sZ]
 refine aH (aMs hx y) ?_
 rintro r ⟨n,rfl,hn⟩
 refine nW (aB ?_)
 by_cases h0 : 0≤n
 ·rw [decide_eq_true h0,hn.1 h0]
 ·rw [decide_eq_false h0]
  cases h2 : xs.any (fun x=>decide (y=x)) with
  | false=>rfl
  | true=>exact absurd (hn.2 h2) h0
theorem aMu {f : Nat} {caps : List PV} {xs : List Int} (hx : xs.length≤1000000000) (p : Int→Bool) (hp : ∀ x∈xs,Ok (fun r=>r = [.bool (p x)]) (aL f ([.int .i64 x]++caps))) (h : Ok P (k [.bool (xs.any p)])) :
 Ok P (bd (fS (dN xs) (.fn f caps)) k):=by
 refine aH (Q:=fun r=>r = [.bool (xs.any p)]) ?_ (fun r hr=>by rw [hr];exact h)
 rw [pG]
 refine aH (Q:=fun r=>∃ n : Int,r = [.int .i64 n]∧(0≤n↔xs.any p=true)) ?_ ?_
 ·rw [rN]
  refine eH ?_
  refine aFm (n:=xs.length) (F:=fun i=>eJ (dN xs) (.fn f caps) (.int .i64 xs.length) (.int .i64 i)) (fun i=>(xs.drop i).any p=xs.any p) ?_ ?_ (by rw [List.drop_zero])
  ·intro hI
   rw [List.drop_length] at hI
   rw [jA]
   refine aF (aC (fun h=>by omega) (fun _=>aB ⟨-1,rfl,?_⟩))
   rw [← hI];simp
  ·intro i hi hI ih
   rw [aDc hi] at hI
   rw [jA]
   refine aF (aC (fun _=>?_) (fun h=>by omega))
   refine dU hi (sJ rfl (hp _ (List.getElem_mem _)) (fun r hr=>?_))
   subst hr
   refine aZ (fun h=>aB ⟨i,rfl,?_⟩) (fun h=>?_)
   ·rw [← hI,h];simp
   ·rw [h,Bool.false_or] at hI
    exact aN (by omega) (ih hI)
 ·rintro r ⟨n,rfl,hn⟩
  refine nW (aB ?_)
  by_cases h0 : 0≤n
  ·rw [decide_eq_true h0,hn.1 h0]
  ·rw [decide_eq_false h0]
   cases h2 : xs.any p with
   | false=>rfl
   | true=>exact absurd (hn.2 h2) h0
end
theorem aOm {ts : List Int} {n : Int} (h : ∀ t∈ts,t≤n) : ts.any (fun x=>decide (n=x))=ts.any (fun t=>decide (n≤t)):=by
 induction ts with
 | nil=>rfl
 | cons t r ih=>
   rw [List.any_cons,List.any_cons,ih (fun x hx=>h x (List.mem_cons_of_mem _ hx))]
   have:=h t List.mem_cons_self
   congr 1
   by_cases h1 : n=t
   ·rw [decide_eq_true h1,decide_eq_true (by omega)]
   ·rw [decide_eq_false h1,decide_eq_false (by omega)]
section
variable {fs : List cD} {code : List bM} {T x3 x4 x5 : PV} (F : Fit fs code) {f : Nat} (hf : f < fs.length)
include F hf
theorem aK2 {rest : Option (Int × Nat × Nat)} (hnext : Ok (fun r=>r = [aKZ rest]) (kP (.int .i64 fs.length) (.int .i64 ((f : Int)+1)) T (.lst (fs.map cD.pv)) x3 x4 x5)) : ∀ pc,pc≤code.length→
 Ok (fun r=>r = [aKZ (((List.range' pc (code.length - pc)).findSome? (aBs fs code f)).or rest)])
  (kQ (.int .i64 f) (.int .i64 fs.length) (.int .i64 f) (.lst (code.map bM.pv)) (.int .i64 code.length) (.int .i64 pc) T (.lst (fs.map cD.pv)) x3 x4 x5 (dN (iG fs code))):=by
 have hn2:=F.n2
 have hnf:=F.nf
 have hg:=xP F
 generalize hd : iG fs code=d at hg
 refine eK ?_ ?_
 ·rw [uF,aC0]
  exact aF (aC (fun h=>by omega) (fun _=>aN (by omega) hnext))
 ·intro pc hpc ih
  have hx : code[pc]? = some code[pc]:=List.getElem?_eq_getElem hpc
  have hm : code[pc]∈code:=List.getElem_mem _
  have hu:=F.u code[pc] hm
  have hil : pc<d.length:=by rw [hg.1];exact hpc
  have hv:=hg.at pc
  have e2 : d[pc]=d[pc]?.getD 0:=aFh hil
  rw [aAP hpc]
  have eb : aBs fs code f pc=(aDb fs code d pc).map fun c=>(c,f,pc):=by unfold aBs;rw [hd]
  rw [eb]
  have ec : aDb fs code d pc=if d[pc]?.getD 0<0 then none
   else if can fs code[pc] (d[pc]?.getD 0)=false then some 2
   else if (fG code[pc] pc).any (fun t=>decide ((code.length : Int)≤t))=true then some 3
   else if (fG code[pc] pc).any (fun t=>!decide (d[t.toNat]?.getD 0=gO fs code[pc] (d[pc]?.getD 0)))=true then some 4
   else none:=by
   conv=>lhs;unfold aDb
   rw [hx]
  generalize hw : d[pc]?.getD 0=w at *
  generalize aDb fs code d pc=ch at *
  rw [uF]
  refine aF (aC (fun _=>?_) (fun h=>by omega))
  refine aS hpc (fun _=>rfl) (aD rfl (aA rfl (aA rfl (dU hil ?_))))
  rw [e2]
  refine aF (aC (fun h1=>?_) (fun h1=>?_))
  ·rw [if_pos h1] at ec
   subst ec
   exact aN (by omega) ih
  rw [if_neg h1] at ec
  refine dU hil ?_
  rw [e2]
  refine aH (aHW (T:=T) F hm hv) (fun r hr=>?_)
  subst hr
  refine bE rfl (bE rfl (bD rfl (bH (aZ (fun hc=>?_) (fun hc=>?_)))))
  ·have hc : can fs code[pc] w=false:=by simpa using hc
   rw [if_pos hc] at ec
   subst ec
   exact bD rfl (bD rfl (aB rfl))
  have hc : can fs code[pc] w=true:=by simpa using hc
  rw [hc,if_neg (by simp)] at ec
  refine aH (aHT (x:=code[pc]) (by omega)) (fun r hr=>?_)
  subst hr
  have hnx:=aAr F hm hpc
  have hl10 : (fG code[pc] pc).length≤10:=by unfold fG;repeat' split<;>simp
  refine eH (aMt (by omega) ?_)
  rw [hg.1,aOm (fun t ht=>(hnx t ht).2)]
  refine aZ (fun h=>?_) (fun h=>?_)
  ·rw [if_pos h] at ec
   subst ec
   exact bD rfl (bD rfl (aB rfl))
  rw [if_neg (by rw [h];simp)] at ec
  refine aMu (by omega) (fun t=>!decide (d[t.toNat]?.getD 0=gO fs code[pc] w)) (fun t ht=>?_) ?_
  ·have:=hnx t ht
   have:=aLD F hf h t ht
   show Ok _ (aBl _ _ _)
   rw [aDP]
   refine sK rfl (qB (by omega) (by rw [hg.1];omega) (fun v hv=>sK rfl (bF (aB ?_))))
   rw [hv];rfl
  ·refine eS rfl (aZ (fun h=>?_) (fun h=>?_))
   ·rw [if_pos h] at ec
    subst ec
    exact bD rfl (bD rfl (aB rfl))
   ·rw [if_neg (by rw [h];simp)] at ec
    subst ec
    exact aN (by omega) ih
end
theorem aJ4 {m : eM} (h : m.sized) : Ok (fun r=>r = [m.verify]) (zZ m.pv):=by
 rw [aGj]
 refine aD rfl (aA rfl (aA rfl (aH (aHr h) (fun r hr=>?_))))
 subst hr
 unfold eM.verify
 refine bH (aZ (fun hb=>aB ?_) (fun hb=>?_))
 ·have : m.okB=false:=by simpa using hb
  rw [this];rfl
 have hb : m.okB=true:=by simpa using hb
 rw [hb,if_pos rfl]
 obtain ⟨h1,h2,h3⟩:=eM.okB_fit hb
 refine aE ?_
 have key:=eK (n:=m.funcs.length) (P:=fun f r=>r = [aKZ ((List.range' f (m.funcs.length - f)).findSome? (aHY m.funcs))])
  (F:=fun f=>kP (.int .i64 m.funcs.length) (.int .i64 f) (.lst (m.texts.map PV.str)) (.lst (m.funcs.map cD.pv)) (.int .i64 0) (.int .i64 0) (.int .i64 0)) ?_ ?_ 0 (by omega)
 ·exact key
 ·rw [uE,aC0]
  exact aF (aC (fun h=>by omega) (fun _=>aB rfl))
 ·intro f hf ih
  have F:=(h3 m.funcs[f] (List.getElem_mem _)).1
  rw [uE,aAP hf,aGG hf]
  refine aF (aC (fun _=>?_) (fun h=>by omega))
  refine aH (aAv F hf rfl) (fun r hr=>?_)
  subst hr
  refine bD rfl (aS hf (fun _=>rfl) (aA rfl (aE ?_)))
  exact aK2 F hf ih 0 (by omega)
theorem aMv {fs : List cD} {code : List bM} {d : List Int} {pc : Nat} (hpc : pc<code.length) (h : aDb fs code d pc=none) (h0 : ¬ d[pc]?.getD 0<0) :
 can fs code[pc] (d[pc]?.getD 0)=true∧∀ t∈fG code[pc] pc,t<code.length∧d[t.toNat]?.getD 0=gO fs code[pc] (d[pc]?.getD 0):=by
 unfold aDb at h
 rw [List.getElem?_eq_getElem hpc] at h
 simp only at h
 rw [if_neg h0] at h
 split at h
 ·cases h
 rename_i h1
 split at h
 ·cases h
 rename_i h2
 split at h
 ·cases h
 rename_i h3
 refine ⟨by simpa using h1,fun t ht=>?_⟩
 rw [Bool.not_eq_true,List.any_eq_false] at h2 h3
 have g2:=h2 t ht
 have g3:=h3 t ht
 simp at g2 g3
 exact ⟨by omega,g3⟩
theorem aNs {fs : List cD} (h : bad fs=none) {f : Nat} (hf : f<fs.length) {pc : Nat} (hpc : pc<fs[f].code.length) : aDb fs fs[f].code (iG fs fs[f].code) pc=none:=by
 unfold bad at h
 rw [List.findSome?_eq_none_iff] at h
 have h1:=h f (by rw [List.mem_range'_1];omega)
 rw [aGG hf,List.findSome?_eq_none_iff] at h1
 have h2:=h1 pc (by rw [List.mem_range'_1];omega)
 simpa [aBs] using h2
end
noncomputable section
open Go Go.IntWalk
attribute [local irreducible] bd PV.ite PV.guardFlat PV.guardOwn PV.whole PV.one PV.cell PV.sub PV.at_ PV.len PV.slen PV.chr PV.beq PV.peq PV.ceq PV.bin PV.neg PV.not PV.conv PV.cut PV.scut PV.cat PV.setAt PV.setCell PV.ncopy PV.copyIn PV.zeros PV.toStr PV.toBytes PV.deref PV.isPtr PV.comp PV.inb PV.off PV.imin PV.imax PV.sel PV.apply PV.isLst PV.isInt PV.ix PV.nilT
structure fQ (m : eM) : Prop where
 sz : m.sized
 ok : m.okB=true
 bad : bad m.funcs=none
def dAt (m : eM) (f pc : Int) : Int:=(iG m.funcs (cQ m.funcs f))[pc.toNat]?.getD 0
def qE (m : eM) (f pc : Int) : bM:=(cQ m.funcs f)[pc.toNat]?.getD ⟨0,0⟩
abbrev jW (m : eM) (n : Int) (v : cJ) : Prop:=cB m.funcs.length n v=true
theorem aAy : gN (bs []) (bs [])=true:=aGA _
theorem mU {nf n : Int} : cB nf n dC=true:=by simp [cB,dC,aAy]
theorem aLE {nf n x : Int} (h : cG x=true) : cB nf n (aC1 x)=true:=by simp [cB,aC1,aAy,h]
theorem aDd {nf n : Int} {b : Bool} : cB nf n (nM b)=true:=by cases b<;>simp [cB,nM,aAy,jM]
theorem aJ5 {nf n : Int} {s : ByteArray} (h : cY s=true) : cB nf n (aC2 s)=true:=by simp [cB,aC2,h]
theorem aOn {nf n i : Int} (h : 0≤i∧i<n) : cB nf n (aMf i)=true:=by simp [cB,aMf,aAy,h]
theorem aOo {nf n i : Int} (h : 0≤i∧i<nf) : cB nf n (aMg i)=true:=by
 have : i≤nf - 1:=by omega
 simp [cB,aMg,aAy,jM,h,this]
theorem pK {nf n n' : Int} (hn : n≤n') {v : cJ} (h : cB nf n v=true) : cB nf n' v=true:=by
 unfold cB at *
 split at h
 ·cases h
 rename_i h0
 rw [if_neg h0]
 split at h
 ·rename_i h1;rw [if_pos h1];exact h
 rename_i h1
 rw [if_neg h1]
 split at h
 ·rename_i h1;rw [if_pos h1];exact h
 rename_i h2
 rw [if_neg h2]
 split at h
 ·rename_i h1;rw [if_pos h1];exact h
 rename_i h3
 rw [if_neg h3]
 split at h
 ·rename_i h1;rw [if_pos h1];exact h
 rename_i h4
 rw [if_neg h4]
 split at h
 ·rename_i h1
  rw [if_pos h1]
  simp only [Bool.and_eq_true,decide_eq_true_eq] at *
  omega
 rename_i h5
 rw [if_neg h5]
 exact h
theorem aOp {a b : ByteArray} (ha : cY a=true) (hb : cY b=true) (h : ¬ (60 : Int)<a.size+b.size) : cY (a++b)=true:=by
 simp only [cY,Bool.and_eq_true,decide_eq_true_eq,List.all_eq_true] at *
 refine ⟨by rw [ByteArray.size_append];omega,fun x hx=>?_⟩
 rw [ByteArray.data_append,Array.toList_append,List.mem_append] at hx
 rcases hx with hx | hx
 ·exact ha.2 x hx
 ·exact hb.2 x hx
theorem aD6 {nf n : Int} {v : cJ} (h : cB nf n v=true) (hk : v.k=3) : cY v.s=true:=by
 unfold cB at h
 rw [if_neg (fun e=>e.1 hk),if_neg (by omega),if_neg (by omega),if_neg (by omega),if_pos hk] at h
 simp only [Bool.and_eq_true] at h
 exact h.2
theorem aIO {nf n o : Int} {a b : cJ} : cB nf n (yR o a b).1=true:=by
 unfold yR
 repeat' split
 all_goals first
  | exact mU
  | (rename_i h;exact aLE (by simpa using h))
theorem aO6 {nf n o : Int} {a b : cJ} (ha : cB nf n a=true) (hb : cB nf n b=true) : cB nf n (nP o a b).1=true:=by
 unfold nP
 split
 ·split
  ·rename_i h
   split
   ·exact mU
   ·rename_i h2
    exact aJ5 (aOp (aD6 ha h.1) (aD6 hb h.2) h2)
  ·exact aIO
 split
 ·exact aIO
 split
 ·exact aIO
 split
 ·repeat' split
  all_goals first
   | exact mU
   | exact aDd
 ·exact aDd
theorem fQ.fit {m : eM} (g : fQ m) : 1≤m.funcs.length∧m.funcs.length≤12∧∀ f∈m.funcs,Fit m.funcs f.code∧0≤f.p∧f.p≤6∧f.p≤f.lc∧f.lc≤12:=eM.okB_fit g.ok
theorem fQ.code {m : eM} (g : fQ m) {f : Int} (h : 0≤f∧f<m.funcs.length) : ∃ i : Nat,∃ hi : i<m.funcs.length,f=i∧cQ m.funcs f=m.funcs[i].code∧Fit m.funcs m.funcs[i].code∧0≤m.funcs[i].p∧m.funcs[i].p≤6∧m.funcs[i].p≤m.funcs[i].lc∧m.funcs[i].lc≤12∧xQ m.funcs f=m.funcs[i].lc∧fZ m.funcs f=m.funcs[i].p∧
 ∀ x∈m.funcs[i].code,cC m.texts.length m.funcs.length m.funcs[i].lc m.funcs[i].code.length x.o x.a=true:=by
 obtain ⟨i,hi⟩:=Int.eq_ofNat_of_zero_le h.1
 have hl : i<m.funcs.length:=by omega
 have hm : m.funcs[i]∈m.funcs:=List.getElem_mem _
 obtain ⟨F,p1,p2,p3,p4⟩:=g.fit.2.2 _ hm
 refine ⟨i,hl,hi,by simp [cQ,hi,List.getElem?_eq_getElem hl],F,p1,p2,p3,p4,by simp [xQ,hi,List.getElem?_eq_getElem hl],by simp [fZ,hi,List.getElem?_eq_getElem hl],fun x hx=>?_⟩
 have h:=g.ok
 simp only [eM.okB,Bool.and_eq_true,bA,decide_eq_true_eq,List.all_eq_true,tC] at h
 exact (h.2.2.2 _ hm).2.2.2 x hx
theorem fQ.at_ {m : eM} (g : fQ m) {f pc : Int} (h : 0≤f∧f<m.funcs.length) (hp : 0≤pc∧pc<(cQ m.funcs f).length) (hd : 0≤dAt m f pc) :
 cC m.texts.length m.funcs.length (xQ m.funcs f) (cQ m.funcs f).length (qE m f pc).o (qE m f pc).a=true∧
 (0≤(aX m.funcs (qE m f pc)).1∧(aX m.funcs (qE m f pc)).1≤dAt m f pc∧0≤(aX m.funcs (qE m f pc)).2∧(aX m.funcs (qE m f pc)).2≤2)∧dAt m f pc≤16∧gO m.funcs (qE m f pc) (dAt m f pc)≤16∧
 ∀ t∈fG (qE m f pc) pc,(0≤t∧t<(cQ m.funcs f).length)∧dAt m f t=gO m.funcs (qE m f pc) (dAt m f pc):=by
 obtain ⟨i,hi,rfl,hc,F,p1,p2,p3,p4,hlc,hpar,hins⟩:=g.code h
 obtain ⟨j,rfl⟩:=Int.eq_ofNat_of_zero_le hp.1
 have hj : j<m.funcs[i].code.length:=by rw [hc] at hp;omega
 have hx : qE m i j=m.funcs[i].code[j]:=by simp [qE,hc,List.getElem?_eq_getElem hj]
 have hm : m.funcs[i].code[j]∈m.funcs[i].code:=List.getElem_mem _
 have hu:=F.u _ hm
 have hdd : ∀ t : Int,dAt m i t=(iG m.funcs m.funcs[i].code)[t.toNat]?.getD 0:=fun t=>by rw [dAt,hc]
 have hb:=(xP F).at j
 have hck:=aMv hj (aNs g.bad hi hj)
 have hnx:=aAr F hm hj
 rw [hx,hc,hlc]
 rw [hdd,Int.toNat_natCast] at hd ⊢
 obtain ⟨hcan,hall⟩:=hck (by omega)
 simp only [can,Bool.and_eq_true,decide_eq_true_eq] at hcan
 refine ⟨hins _ hm,⟨hu.1,hcan.1,hu.2.2⟩,hb.2,hcan.2,fun t ht=>?_⟩
 obtain ⟨q1,q2⟩:=hall t ht
 exact ⟨⟨(hnx t ht).1,q1⟩,by rw [hdd];exact q2⟩
structure FrI (m : eM) (n : Int) (f : bO) : Prop where
 fi : 0≤f.f∧f.f<m.funcs.length
 pc : 0≤f.pc∧f.pc<(cQ m.funcs f.f).length
 loc : (f.loc.length : Int)=xQ m.funcs f.f
 d : 0≤dAt m f.f f.pc
 vl : ∀ v∈f.loc,jW m n v
 vs : ∀ v∈f.stk,jW m n v
structure aHu (m : eM) (n : Int) (f : bO) : Prop extends FrI m n f where
 h : (f.stk.length : Int)=dAt m f.f f.pc
structure aE9 (m : eM) (n : Int) (f : bO) : Prop extends FrI m n f where
 low : 1≤f.pc∧0≤dAt m f.f (f.pc - 1)∧((qE m f.f (f.pc - 1)).o=23∨(qE m f.f (f.pc - 1)).o=24)
 h : (f.stk.length : Int)=dAt m f.f f.pc - 1
structure HpI (m : eM) (hp : List (List cJ)) (made : Int) (out : List ByteArray) : Prop where
 made : hp.length≤made∧made≤120
 recs : ∀ r∈hp,r.length≤6∧∀ v∈r,jW m hp.length v
 out : out.length≤200
structure VmI (m : eM) (v : jD) : Prop where
 hp : HpI m v.hp v.made v.out
 steps : 0≤v.steps∧v.steps≤50000
 nfr : v.fr.length≤24
 run : v.st=0→v.fr≠[]
 top : ∀ fs0 f,v.fr=fs0++[f]→aHu m v.hp.length f∧∀ g∈fs0,aE9 m v.hp.length g
theorem FrI.mono {m : eM} {n n' : Int} (hn : n≤n') {f : bO} (h : FrI m n f) : FrI m n' f:=
 ⟨h.fi,h.pc,h.loc,h.d,fun v hv=>pK hn (h.vl v hv),fun v hv=>pK hn (h.vs v hv)⟩
theorem aE9.mono {m : eM} {n n' : Int} (hn : n≤n') {f : bO} (h : aE9 m n f) : aE9 m n' f:=⟨h.toFrI.mono hn,h.low,h.h⟩
theorem FrI.small {m : eM} (g : fQ m) {n : Int} {f : bO} (h : FrI m n f) : f.loc.length≤12:=by
 obtain ⟨i,hi,he,hc,F,p1,p2,p3,p4,hlc,hpar,hins⟩:=g.code h.fi
 have:=h.loc
 omega
theorem FrI.dle {m : eM} (g : fQ m) {n : Int} {f : bO} (h : FrI m n f) : dAt m f.f f.pc≤16:=(g.at_ h.fi h.pc h.d).2.2.1
theorem VmI.sz {m : eM} (g : fQ m) {v : jD} (h : VmI m v) : Sz v:=by
 have:=h.hp.made
 have:=h.hp.out
 have:=h.nfr
 refine ⟨by omega,by omega,by omega,fun f hf=>?_,fun r hr=>by have:=(h.hp.recs r hr).1;omega⟩
 rcases List.eq_nil_or_concat v.fr with h0 | ⟨fs0,f0,h0⟩
 ·rw [h0] at hf;cases hf
 ·obtain ⟨t,l⟩:=h.top fs0 f0 (by rw [h0];simp)
  rw [h0] at hf
  simp only [List.concat_eq_append,List.mem_append,List.mem_singleton] at hf
  rcases hf with hf | rfl
  ·have:=(l f hf).toFrI.small g
   have:=(l f hf).toFrI.dle g
   have:=(l f hf).h
   omega
  ·have:=t.toFrI.small g
   have:=t.toFrI.dle g
   have:=t.h
   omega
theorem VmI.goes {m : eM} (g : fQ m) {v : jD} (h : VmI m v) (h0 : v.st=0) : ∃ fs0 f,aNq m v fs0 f:=by
 rcases List.eq_nil_or_concat v.fr with e | ⟨fs0,f,e⟩
 ·exact absurd e (h.run h0)
 rw [List.concat_eq_append] at e
 refine ⟨fs0,f,?_⟩
 obtain ⟨t,l⟩:=h.top fs0 f e
 obtain ⟨i,hi,he,hc,F,p1,p2,p3,p4,hlc,hpar,hins⟩:=g.code t.fi
 obtain ⟨a1,a2,a3,a4,a5⟩:=g.at_ t.fi t.pc t.d
 have hx : jB m.funcs f=qE m f.f f.pc:=rfl
 have hh:=t.h
 have hm:=h.hp.made
 have hn:=h.nfr
 rw [e,List.length_append,List.length_singleton] at hn
 refine ⟨e,t.fi,t.pc,by rw [hc];exact F.n2,by rw [hx,t.loc];exact a1,by rw [hx,hh];exact ⟨a2.1,a2.2.1⟩,fun b=>?_⟩
 refine ⟨g.fit.2.1,?_,fun f hf=>?_,by omega,fun f hf=>?_,by have:=t.toFrI.small g;exact this,?_,fun r hr=>(h.hp.recs r hr).1,by omega,by omega,h.hp.out,fun v hv=>t.vs v (List.mem_of_mem_drop hv)⟩
 ·have h:=g.ok
  simp only [eM.okB,Bool.and_eq_true,bA,decide_eq_true_eq] at h
  omega
 ·have:=g.fit.2.2 f hf
  exact this.2
 ·have:=(l f hf).toFrI.dle g
  have:=(l f hf).h
  omega
 ·simp only [List.length_take,List.length_drop]
  omega
structure aJ6 (m : eM) (v : jD) (f : bO) (x : bM) (fr : bO) (hp : List (List cJ)) (made : Int) (out : List ByteArray) : Prop where
 ff : fr.f=f.f
 pc : fr.pc∈fG x f.pc
 loc : fr.loc.length=f.loc.length
 len : (fr.stk.length : Int)=gO m.funcs x f.stk.length
 vl : ∀ y∈fr.loc,jW m hp.length y
 vs : ∀ y∈fr.stk,jW m hp.length y
 n : v.hp.length≤hp.length
 hpI : HpI m hp made out
structure aOM (m : eM) (v : jD) (fs0 : List bO) (f : bO) (x : bM) (fr g : bO) : Prop where
 n : fs0.length+1<24
 o : x.o=23∨x.o=24
 frr : fr=⟨f.f,f.pc+1,f.loc,f.stk.take (f.stk.length - (aX m.funcs x).1.toNat)⟩
 gg : ∃ i args,g=vE m.funcs i args∧(0≤i∧i<m.funcs.length)∧(args.length : Int)=fZ m.funcs i∧∀ y∈args,jW m v.hp.length y
def aPB (m : eM) (v : jD) (fs0 : List bO) (f : bO) (x : bM) : aIH→Prop
 | .trap _=>True
 | .next fr hp made out=>aJ6 m v f x fr hp made out
 | .call fr g=>aOM m v fs0 f x fr g
 | .ret a=>jW m v.hp.length a
theorem aLF {m : eM} {n : Int} {l : List cJ} (h : ∀ y∈l,jW m n y) (i : Nat) : jW m n (l[i]?.getD dC):=by
 cases hx : l[i]? with
 | none=>exact mU
 | some y=>exact h y (List.mem_of_getElem? hx)
theorem aIP {m : eM} {v : jD} (h : HpI m v.hp v.made v.out) (i : Nat) : (v.hp[i]?.getD []).length≤6∧∀ y∈v.hp[i]?.getD [],jW m v.hp.length y:=by
 cases hx : v.hp[i]? with
 | none=>simp
 | some y=>exact h.recs y (List.mem_of_getElem? hx)
theorem aNt {m : eM} {n : Int} {l : List cJ} (h : ∀ y∈l,jW m n y) {y : cJ} (hy : jW m n y) (i : Nat) : ∀ z∈l.set i y,jW m n z:=by
 intro z hz
 rcases List.mem_or_eq_of_mem_set hz with h1 | rfl
 ·exact h z h1
 ·exact hy
theorem aIQ {m : eM} {n : Int} {a b : List cJ} (h : ∀ y∈a,jW m n y) (h' : ∀ y∈b,jW m n y) : ∀ y∈a++b,jW m n y:=by
 intro y hy
 rcases List.mem_append.1 hy with h1 | h1
 ·exact h y h1
 ·exact h' y h1
theorem aHZ {x : bM} {pc : Int} (h : x.o≠17∧x.o≠25) : pc+1∈fG x pc:=by simp [fG,h]
theorem aGH {x : bM} {pc : Int} (h : x.o=17∨x.o=18∨x.o=19) : x.a∈fG x pc:=by unfold fG;rw [if_pos h];simp
section
variable {m : eM} {v : jD} {fs0 : List bO} {f : bO} {x : bM}
theorem aNu (g : fQ m) (h : VmI m v) (t : aHu m v.hp.length f) (hx : jB m.funcs f=x) (hn : fs0.length+1≤24) : aPB m v fs0 f x (yL m v fs0 f):=by
 obtain ⟨a1,a2,a3,a4,a5⟩:=g.at_ t.fi t.pc t.d
 have hi : qE m f.f f.pc=x:=hx
 rw [hi] at a1 a2 a4 a5
 have hh:=t.h
 rw [← hh] at a2 a3 a4
 rw [← t.loc] at a1
 have ib:=aAU a1
 show aPB m v fs0 f x (dO m ⟨f.f,f.pc+1,f.loc,f.stk.take (f.stk.length - (aX m.funcs (jB m.funcs f)).1.toNat)⟩ (f.stk.drop (f.stk.length - (aX m.funcs (jB m.funcs f)).1.toNat)) (fs0.length+1) v.hp v.made v.out (jB m.funcs f))
 rw [hx]
 generalize hb : f.stk.length - (aX m.funcs x).1.toNat=b
 have hlt : ((f.stk.take b).length : Int)=f.stk.length - (aX m.funcs x).1:=by rw [List.length_take];omega
 have hld : ((f.stk.drop b).length : Int)=(aX m.funcs x).1:=by rw [List.length_drop];omega
 have kt : ∀ y∈f.stk.take b,jW m v.hp.length y:=fun y hy=>t.vs y (List.mem_of_mem_take hy)
 have kd : ∀ y∈f.stk.drop b,jW m v.hp.length y:=fun y hy=>t.vs y (List.mem_of_mem_drop hy)
 have hlef : gO m.funcs x f.stk.length=f.stk.length - (aX m.funcs x).1+(aX m.funcs x).2:=rfl
 generalize htk : f.stk.take b=T at *
 generalize hdr : f.stk.drop b=D at *
 have ka : jW m v.hp.length (D.headD dC):=by
  cases D with
  | nil=>exact mU
  | cons y r=>exact kd y (by simp)
 have kb : jW m v.hp.length (D.tail.headD dC):=by
  cases D with
  | nil=>exact mU
  | cons y r=>cases r with
    | nil=>exact mU
    | cons z r=>exact kd z (by simp)
 have ktl : ∀ y∈D.tail,jW m v.hp.length y:=fun y hy=>kd y (List.mem_of_mem_tail hy)
 have go : ∀ (l : List cJ) (pc : Int),pc∈fG x f.pc→(∀ y∈l,jW m v.hp.length y)→(l.length : Int)=(aX m.funcs x).2→aJ6 m v f x ⟨f.f,pc,f.loc,T++l⟩ v.hp v.made v.out:=fun l pc hpc hl hn=>
  ⟨rfl,hpc,rfl,by rw [hlef,List.length_append];omega,t.vl,aIQ kt hl,Nat.le_refl _,h.hp⟩
 have go0 : ∀ pc : Int,pc∈fG x f.pc→(aX m.funcs x).2=0→aJ6 m v f x ⟨f.f,pc,f.loc,T⟩ v.hp v.made v.out:=fun pc hpc hn=>by
  have:=go [] pc hpc (by simp) (by simp [hn])
  simpa using this
 have one : ∀ y,jW m v.hp.length y→∀ z∈[y],jW m v.hp.length z:=fun y hy z hz=>by rw [List.mem_singleton] at hz;rw [hz];exact hy
 have two : ∀ y y',jW m v.hp.length y→jW m v.hp.length y'→∀ z∈[y,y'],jW m v.hp.length z:=fun y y' hy hy' z hz=>by
  simp only [List.mem_cons,List.not_mem_nil,or_false] at hz
  rcases hz with rfl | rfl
  ·exact hy
  ·exact hy'
 obtain ⟨⟨o1,o2⟩,i3,i67,i20,i21,i23,i5,ij,i1⟩:=ib
 have inc : x.o≠17→x.o≠25→f.pc+1∈fG x f.pc:=fun h1 h2=>aHZ ⟨h1,h2⟩
 unfold dO
 simp only
 by_cases h1 : x.o=1
 ·rw [if_pos h1]
  exact go _ _ (inc (by omega) (by omega)) (one _ (aLE (i1 h1))) (by simp [aX,h1])
 rw [if_neg h1]
 by_cases h2 : x.o=2
 ·rw [if_pos h2]
  exact go _ _ (inc (by omega) (by omega)) (one _ aDd) (by simp [aX,h2])
 rw [if_neg h2]
 by_cases h3 : x.o=3
 ·rw [if_pos h3]
  refine go _ _ (inc (by omega) (by omega)) (one _ (aJ5 ?_)) (by simp [aX,h3])
  have hok:=g.ok
  simp only [eM.okB,Bool.and_eq_true,bA,decide_eq_true_eq,List.all_eq_true] at hok
  have:=i3 h3
  rw [List.getElem?_eq_getElem (by omega)]
  exact hok.2.2.1 _ (List.getElem_mem _)
 rw [if_neg h3]
 by_cases h4 : x.o=4
 ·rw [if_pos h4]
  exact go _ _ (inc (by omega) (by omega)) (one _ mU) (by simp [aX,h4])
 rw [if_neg h4]
 by_cases h5 : x.o=5
 ·rw [if_pos h5]
  exact go _ _ (inc (by omega) (by omega)) (one _ (aOo (i5 (.inl h5)))) (by simp [aX,h5])
 rw [if_neg h5]
 by_cases h6 : x.o=6
 ·rw [if_pos h6]
  exact go _ _ (inc (by omega) (by omega)) (one _ (aLF t.vl _)) (by simp [aX,h6])
 rw [if_neg h6]
 by_cases h7 : x.o=7
 ·rw [if_pos h7]
  exact ⟨rfl,inc (by omega) (by omega),by simp,by rw [hlef];simp only;rw [hlt];simp [aX,h7],aNt t.vl ka _,kt,Nat.le_refl _,h.hp⟩
 rw [if_neg h7]
 by_cases h8 : x.o=8
 ·rw [if_pos h8]
  exact go _ _ (inc (by omega) (by omega)) (two _ _ ka ka) (by simp [aX,h8])
 rw [if_neg h8]
 by_cases h9 : x.o=9
 ·rw [if_pos h9]
  exact go _ _ (inc (by omega) (by omega)) (by simp) (by simp [aX,h9])
 rw [if_neg h9]
 by_cases h10 : x.o=10
 ·rw [if_pos h10]
  exact go _ _ (inc (by omega) (by omega)) (two _ _ kb ka) (by simp [aX,h10])
 rw [if_neg h10]
 by_cases h15 : x.o≤15
 ·rw [if_pos h15]
  have hu : (aX m.funcs x).2=1:=by
   have : x.o=11∨x.o=12∨x.o=13∨x.o=14∨x.o=15:=by omega
   rcases this with h | h | h | h | h<;>simp [aX,h]
  split
  ·trivial
  ·exact go _ _ (inc (by omega) (by omega)) (one _ (aO6 ka kb)) (by rw [hu];rfl)
 rw [if_neg h15]
 by_cases h16 : x.o=16
 ·rw [if_pos h16]
  split
  ·trivial
  ·refine go _ _ (inc (by omega) (by omega)) (one _ ?_) (by simp [aX,h16])
   unfold vY
   split
   ·exact mU
   ·exact aDd
 rw [if_neg h16]
 by_cases h17 : x.o=17
 ·rw [if_pos h17]
  exact go0 _ (aGH (.inl h17)) (by simp [aX,h17])
 rw [if_neg h17]
 by_cases h19 : x.o≤19
 ·rw [if_pos h19]
  have h89 : x.o=18∨x.o=19:=by omega
  have hu : (aX m.funcs x).2=0:=by rcases h89 with h | h<;>simp [aX,h]
  split
  ·trivial
  split
  ·exact go0 _ (aGH (.inr h89)) hu
  ·exact go _ _ (inc (by omega) (by omega)) (by simp) (by rw [hu];rfl)
 rw [if_neg h19]
 by_cases h20 : x.o=20
 ·rw [if_pos h20]
  split
  ·trivial
  rename_i hm
  have hm0:=h.hp.made
  have hl : (v.hp++[List.replicate x.a.toNat dC]).length=v.hp.length+1:=by simp
  refine ⟨rfl,inc (by omega) (by omega),rfl,?_,fun y hy=>pK (by rw [hl];omega) (t.vl y hy),aIQ (fun y hy=>pK (by rw [hl];omega) (kt y hy)) (fun y hy=>?_),by rw [hl];omega,⟨by rw [hl];omega,fun r hr=>?_,h.hp.out⟩⟩
  ·rw [hlef];simp only [List.length_append,List.length_singleton]
   have hu : (aX m.funcs x).2=1:=by simp [aX,h20]
   omega
  ·rw [List.mem_singleton] at hy
   rw [hy]
   exact aOn (by rw [hl];omega)
  ·rcases List.mem_append.1 hr with hr | hr
   ·exact ⟨(h.hp.recs r hr).1,fun y hy=>pK (by rw [hl];omega) ((h.hp.recs r hr).2 y hy)⟩
   ·rw [List.mem_singleton] at hr
    rw [hr]
    have:=i20 h20
    refine ⟨by rw [List.length_replicate];omega,fun y hy=>?_⟩
    rw [List.eq_of_mem_replicate hy]
    exact mU
 rw [if_neg h20]
 by_cases h21 : x.o=21
 ·rw [if_pos h21]
  split
  ·trivial
  split
  ·trivial
  exact go _ _ (inc (by omega) (by omega)) (one _ (aLF (aIP h.hp _).2 _)) (by simp [aX,h21])
 rw [if_neg h21]
 by_cases h22 : x.o=22
 ·rw [if_pos h22]
  split
  ·trivial
  split
  ·trivial
  have hl : ∀ r,(v.hp.set (D.headD dC).n.toNat r).length=v.hp.length:=fun r=>List.length_set
  refine ⟨rfl,inc (by omega) (by omega),rfl,by rw [hlef];simp only;rw [hlt];simp [aX,h22],fun y hy=>by rw [jW,hl];exact t.vl y hy,fun y hy=>by rw [jW,hl];exact kt y hy,by rw [hl];omega,⟨by rw [hl];exact h.hp.made,fun r hr=>?_,h.hp.out⟩⟩
  rw [hl]
  rcases List.mem_or_eq_of_mem_set hr with hr | hr
  ·exact h.hp.recs r hr
  ·rw [hr]
   exact ⟨by rw [List.length_set];exact (aIP h.hp _).1,aNt (aIP h.hp _).2 kb _⟩
 rw [if_neg h22]
 by_cases h23 : x.o=23
 ·rw [if_pos h23]
  have hxa:=i23 h23
  have hu : aX m.funcs x=(x.a+1,1):=by
   have : 0≤x.a∧x.a≤6:=hxa
   simp [aX,h23,this]
  rw [hu] at hld hb
  simp only at hld hb
  split
  ·trivial
  rename_i hk
  have hk : (D.headD dC).k=5:=by omega
  split
  ·trivial
  rename_i hp
  have hp : fZ m.funcs (D.headD dC).n=x.a:=by omega
  split
  ·trivial
  rename_i hd
  refine ⟨?_,.inl h23,?_,_,_,rfl,aD2 ka hk,by rw [List.length_tail,hp];omega,ktl⟩
  ·omega
  ·rw [← htk,← hb,hu]
 rw [if_neg h23]
 by_cases h24 : x.o=24
 ·rw [if_pos h24]
  have hxa:=i5 (.inr h24)
  have hu : aX m.funcs x=(fZ m.funcs x.a,1):=by
   have : 0≤x.a∧x.a<m.funcs.length:=hxa
   simp [aX,h24,this]
  rw [hu] at hld hb
  simp only at hld hb
  split
  ·trivial
  rename_i hd
  refine ⟨?_,.inr h24,?_,_,_,rfl,hxa,hld,kd⟩
  ·omega
  ·rw [← htk,← hb,hu]
 rw [if_neg h24]
 by_cases h25 : x.o=25
 ·rw [if_pos h25]
  exact ka
 rw [if_neg h25]
 have h26 : x.o=26:=by omega
 split
 ·trivial
 rename_i ho
 have:=h.hp.out
 exact ⟨rfl,inc (by omega) (by omega),rfl,by rw [hlef];simp only;rw [hlt];simp [aX,h26],t.vl,kt,Nat.le_refl _,⟨h.hp.made,h.hp.recs,by simp;omega⟩⟩
end
theorem aGI {α : Type} {a b : List α} {x y : α} (h : a++[x]=b++[y]) : a=b∧x=y:=by
 have:=List.append_inj' h rfl
 exact ⟨this.1,by simpa using this.2⟩
theorem aE9.top {m : eM} {n : Int} {f : bO} {a : cJ} (h : aE9 m n f) (ha : jW m n a) : aHu m n ⟨f.f,f.pc,f.loc,f.stk++[a]⟩:=
 ⟨⟨h.fi,h.pc,h.loc,h.d,h.vl,aIQ h.vs (fun y hy=>by rw [List.mem_singleton] at hy;rw [hy];exact ha)⟩,by
   have:=h.h
   simp only [List.length_append,List.length_singleton]
   omega⟩
theorem aNv {m : eM} (g : fQ m) {n i : Int} {args : List cJ} (hi : 0≤i∧i<m.funcs.length) (hn : (args.length : Int)=fZ m.funcs i) (ha : ∀ y∈args,jW m n y) : aHu m n (vE m.funcs i args):=by
 obtain ⟨k,hk,he,hc,F,p1,p2,p3,p4,hlc,hpar,hins⟩:=g.code hi
 have h0 : dAt m i 0=0:=by
  rw [dAt,hc,Int.toNat_zero,aJU F];rfl
 refine ⟨⟨hi,?_,?_,?_,?_,fun y hy=>by cases hy⟩,?_⟩
 ·show (0 : Int)≤0∧0<((cQ m.funcs i).length : Int)
  have:=F.n1
  rw [hc];omega
 ·show ((args++List.replicate ((xQ m.funcs i).toNat - args.length) dC).length : Int)=xQ m.funcs i
  rw [List.length_append,List.length_replicate]
  omega
 ·show 0≤dAt m i 0
  omega
 ·refine aIQ ha (fun y hy=>?_)
  rw [List.eq_of_mem_replicate hy]
  exact mU
 ·show ((0 : Nat) : Int)=dAt m i 0
  omega
theorem VmI.step {m : eM} (g : fQ m) {v : jD} (h : VmI m v) : VmI m (kZ m v):=by
 by_cases h0 : v.st≠0
 ·have : kZ m v=v:=by unfold kZ;rw [if_pos h0]
  rw [this];exact h
 have h0 : v.st=0:=by omega
 by_cases h5 : v.steps=50000
 ·have : kZ m v=v:=by unfold kZ;rw [if_neg (by omega),if_pos h5]
  rw [this];exact h
 obtain ⟨fs0,f,G⟩:=h.goes g h0
 obtain ⟨t,low⟩:=h.top fs0 f G.fr
 have hnf:=h.nfr
 rw [G.fr,List.length_append,List.length_singleton] at hnf
 have hst:=h.steps
 rw [aAX h0 h5 G.fr]
 have A:=aNu (fs0:=fs0) g h t rfl hnf
 obtain ⟨a1,a2,a3,a4,a5⟩:=g.at_ t.fi t.pc t.d
 have hh:=t.h
 have hx : qE m f.f f.pc=jB m.funcs f:=rfl
 rw [hx] at a1 a2 a4 a5
 cases ha : yL m v fs0 f with
 | trap c=>
   exact ⟨h.hp,by show 0≤v.steps+1∧v.steps+1≤50000;omega,h.nfr,fun h=>absurd h (by show (2 : Int)≠0;omega),h.top⟩
 | next fr hp made out=>
   rw [ha] at A
   have A : aJ6 m v f (jB m.funcs f) fr hp made out:=A
   obtain ⟨b1,b2⟩:=a5 _ A.pc
   refine ⟨A.hpI,by show 0≤v.steps+1∧v.steps+1≤50000;omega,by show (fs0++[fr]).length≤24;rw [List.length_append,List.length_singleton];exact hnf,fun _=>by show fs0++[fr]≠[];simp,fun fs1 f1 he=>?_⟩
   obtain ⟨rfl,rfl⟩:=aGI (show fs0++[fr]=fs1++[f1] from he)
   refine ⟨⟨⟨by rw [A.ff];exact t.fi,by rw [A.ff];exact b1,by rw [A.ff,A.loc];exact t.loc,by rw [A.ff,b2];have:=A.len;rw [hh] at this;omega,A.vl,A.vs⟩,by rw [A.len,A.ff,b2,hh]⟩,fun f hf=>(low f hf).mono (n':=(hp.length : Int)) (by have:=A.n;omega)⟩
 | call fr gg=>
   rw [ha] at A
   have A : aOM m v fs0 f (jB m.funcs f) fr gg:=A
   obtain ⟨i,args,rfl,hi,hn,hv⟩:=A.gg
   have hnx : f.pc+1∈fG (jB m.funcs f) f.pc:=aHZ (by have:=A.o;omega)
   obtain ⟨b1,b2⟩:=a5 _ hnx
   have hu2 : (aX m.funcs (jB m.funcs f)).2=1:=by
    have ib:=aAU a1
    rcases A.o with ho | ho
    ·have:=ib.2.2.2.2.2.1 ho
     simp [aX,ho,this]
    ·have:=ib.2.2.2.2.2.2.1 (.inr ho)
     simp [aX,ho,this]
   have hlef : gO m.funcs (jB m.funcs f) (dAt m f.f f.pc)=dAt m f.f f.pc - (aX m.funcs (jB m.funcs f)).1+(aX m.funcs (jB m.funcs f)).2:=rfl
   refine ⟨h.hp,by show 0≤v.steps+1∧v.steps+1≤50000;omega,by show (fs0++[fr,vE m.funcs i args]).length≤24;rw [List.length_append];have:=A.n;simp only [List.length_cons,List.length_nil];omega,fun _=>by show fs0++[fr,vE m.funcs i args]≠[];simp,fun fs1 f1 he=>?_⟩
   have he : fs0++[fr,vE m.funcs i args]=fs1++[f1]:=he
   rw [show fs0++[fr,vE m.funcs i args]=(fs0++[fr])++[vE m.funcs i args] by simp] at he
   obtain ⟨rfl,rfl⟩:=aGI he
   refine ⟨aNv g hi hn hv,fun y hy=>?_⟩
   rcases List.mem_append.1 hy with hy | hy
   ·exact low y hy
   ·rw [List.mem_singleton] at hy
    rw [hy,A.frr]
    refine ⟨⟨t.fi,b1,t.loc,by show 0≤dAt m f.f (f.pc+1);rw [b2];omega,t.vl,fun y hy=>t.vs y (List.mem_of_mem_take hy)⟩,?_,?_⟩
    ·show 1≤f.pc+1∧0≤dAt m f.f (f.pc+1 - 1)∧((qE m f.f (f.pc+1 - 1)).o=23∨(qE m f.f (f.pc+1 - 1)).o=24)
     rw [show f.pc+1 - 1=f.pc by omega]
     exact ⟨by have:=t.pc;omega,t.d,A.o⟩
    ·show ((f.stk.take (f.stk.length - (aX m.funcs (jB m.funcs f)).1.toNat)).length : Int)=dAt m f.f (f.pc+1) - 1
     rw [b2,List.length_take]
     omega
 | ret a=>
   rw [ha] at A
   have A : jW m v.hp.length a:=A
   by_cases hf : fs0 = []
   ·have e : aCj m v fs0 (.ret a)=⟨[],v.hp,v.made,v.out,1,v.tr,a,v.steps+1⟩:=if_pos hf
    rw [e]
    exact ⟨h.hp,by show 0≤v.steps+1∧v.steps+1≤50000;omega,by simp,fun h=>absurd h (by show (1 : Int)≠0;omega),fun fs1 f1 he=>by simp at he⟩
   ·have e : aCj m v fs0 (.ret a)=⟨aBr a fs0,v.hp,v.made,v.out,v.st,v.tr,v.val,v.steps+1⟩:=if_neg hf
    rw [e]
    rcases List.eq_nil_or_concat fs0 with e0 | ⟨fs1,f1,e1⟩
    ·exact absurd e0 hf
    rw [List.concat_eq_append] at e1
    subst e1
    rw [xR]
    simp only [List.length_append,List.length_singleton] at hnf
    refine ⟨h.hp,by show 0≤v.steps+1∧v.steps+1≤50000;omega,by simp only [List.length_append,List.length_singleton];omega,fun _=>by simp,fun fs2 f2 he=>?_⟩
    obtain ⟨rfl,rfl⟩:=aGI he
    exact ⟨(low f1 (by simp)).top A,fun y hy=>low y (by simp [hy])⟩
end
noncomputable section
open Go
attribute [local irreducible] bd PV.ite PV.guardFlat PV.guardOwn PV.whole PV.one PV.cell PV.sub PV.at_ PV.len PV.slen PV.chr PV.beq PV.peq PV.ceq PV.bin PV.neg PV.not PV.conv PV.cut PV.scut PV.cat PV.setAt PV.setCell PV.ncopy PV.copyIn PV.zeros PV.toStr PV.toBytes PV.deref PV.isPtr PV.comp PV.inb PV.off PV.imin PV.imax PV.sel PV.apply PV.isLst PV.isInt PV.ix PV.nilT
def aPC (x : PV) : Prop:=∃ o a : Int,x = .agg [.int .i64 o,.int .i64 a]∧(-9223372036854775808≤o∧o≤9223372036854775807)∧(-9223372036854775808≤a∧a≤9223372036854775807)
def Cd (cs : List PV) : Prop:=∀ x∈cs,aPC x
theorem Cd.el {cs : List PV} (h : Cd cs) : ∀ x∈cs,x.isEl 2 true=true:=by
 intro x hx
 obtain ⟨o,a,rfl,_⟩:=h x hx
 rfl
theorem Cd.nil : Cd []:=fun x hx=>by cases hx
theorem Cd.append {a b : List PV} (h : Cd a) (k : Cd b) : Cd (a++b):=fun x hx=>(List.mem_append.1 hx).elim (h x) (k x)
theorem Cd.one {o a : Int} (h : -9223372036854775808≤o∧o≤9223372036854775807) (k : -9223372036854775808≤a∧a≤9223372036854775807) : Cd [.agg [.int .i64 o,.int .i64 a]]:=by
 intro x hx
 simp only [List.mem_singleton] at hx
 exact ⟨o,a,hx,h,k⟩
section
variable {P : R → Prop} {k : R → Option R}
end
def aPX : PV→Bool
 | .int .i64 n=>decide (-1000000000≤n)&&decide (n≤1000000000)
 | _=>false
def aIR (x : PV) : Prop:=∃ p lc : Int,∃ cs : List PV,x = .agg [.int .i64 p,.int .i64 lc,.lst cs]∧(0≤p∧p≤2)∧(0≤lc∧lc≤100)∧Cd cs∧1≤(cs.length : Int)∧(cs.length : Int)≤100000000
structure Asm (l : List Int) (fs : List PV) (t lc : Int) : Prop where
 hl : Bts l
 hf : ∀ x∈fs,aIR x
 hn : fs.length≤1000
 ht : 0≤t∧t≤1000
 hlc : 1≤lc∧lc≤1000
theorem aIR.el {fs : List PV} (h : ∀ x∈fs,aIR x) : ∀ x∈fs,x.isEl 3 true=true:=by
 intro x hx
 obtain ⟨p,lc,cs,rfl,_⟩:=h x hx
 rfl
def aPY (l : List Int) (fs : List PV) (t lc : Int) (mn : PV) (A B0 B : Int) (r : R) : Prop:=∃ a s : Int,∃ cs : List PV,r = [.lst fs,.int .i64 t,.int .i64 lc,mn,wR l,.int .i64 a,.int .i64 s,.lst cs]∧0≤a∧a≤A∧0≤s∧s<65521∧B0≤cs.length∧(cs.length : Int)≤B∧Cd cs
def aNw (l : List Int) (fs : List PV) (t lc : Int) (mn : PV) (c : Int) (f : PV→PV→PV→PV→PV→PV→PV→PV→Option R) : Prop:=
 ∀ (a s : Int) (cs : List PV),0≤a∧a+c≤1000000000∧0≤s∧s<65521→(cs.length : Int)+c≤1000000000→Cd cs→
   Ok (aPY l fs t lc mn (a+c) cs.length (cs.length+c)) (f (.lst fs) (.int .i64 t) (.int .i64 lc) mn (wR l) (.int .i64 a) (.int .i64 s) (.lst cs))
section
variable {P : R → Prop} {k : R → Option R} {l : List Int} {fs : List PV} {t lc : Int} {mn : PV}
theorem aNw.mono {c c' : Int} {f : PV→PV→PV→PV→PV→PV→PV→PV→Option R} (H : aNw l fs t lc mn c f) (hc : 0≤c∧c≤c') : aNw l fs t lc mn c' f:=by
 intro a s cs h0 hl hcs
 refine (H a s cs (by omega) (by omega) hcs).mono ?_
 rintro r ⟨a',s',cs',hr,h1,h2,h3,h4,h5,h6,h7⟩
 exact ⟨a',s',cs',hr,h1,by omega,h3,h4,h5,by omega,h7⟩
section
def Par (fs : List PV) (i p : Int) : Prop:=0≤i∧i<fs.length∧(0≤p∧p≤2)∧∃ q r : PV,fs[i.toNat]? = some (.agg [.int .i64 p,q,r])
end
end
section
variable {l : List Int} {fs : List PV} {t lc : Int} {mn : PV}
section
end
section
end
end
def aGJ (x : PV) : Prop:=∃ b : ByteArray,x = .str b∧b.size≤1000
theorem aGJ.el {ts : List PV} (h : ∀ x∈ts,aGJ x) : ∀ x∈ts,x.isEl 1 false=true:=by
 intro x hx
 obtain ⟨b,rfl,_⟩:=h x hx
 rfl
def aPZ (l : List Int) (A : Int) (r : R) : Prop:=∃ a s : Int,∃ ts fs : List PV,r = [.agg [.lst ts,.lst fs],wR l,.int .i64 a,.int .i64 s]∧0≤a∧a≤A∧0≤s∧s<65521∧(∀ x∈ts,aGJ x)∧ts.length≤10∧(∀ x∈fs,aIR x)∧1≤fs.length∧fs.length≤10
section
variable {l : List Int} (hl : Bts l) {ts : List PV} (hts : ∀ x ∈ ts, aGJ x) (htn : ts.length ≤ 10)
include hl hts htn
end
def aEA (x : PV) : Prop:=∃ p lc : Int,∃ cs : List PV,x = .agg [.int .i64 p,.int .i64 lc,.lst cs]∧(-9223372036854775808≤p∧p≤9223372036854775807)∧(-9223372036854775808≤lc∧lc≤9223372036854775807)∧Cd cs∧(cs.length : Int)≤200000000
theorem aEA.el {fs : List PV} (h : ∀ x∈fs,aEA x) : ∀ x∈fs,x.isEl 3 true=true:=by
 intro x hx
 obtain ⟨p,lc,cs,rfl,_⟩:=h x hx
 rfl
def aP7 (l : List Int) (A : Int) (r : R) : Prop:=∃ a s : Int,∃ ts fs : List PV,r = [.agg [.lst ts,.lst fs],wR l,.int .i64 a,.int .i64 s]∧0≤a∧a≤A∧0≤s∧s<65521∧(∀ x∈ts,aGJ x)∧ts.length≤100∧(∀ x∈fs,aEA x)∧fs.length≤100∧1≤fs.length
theorem aEA.set {fs : List PV} (hf : ∀ x∈fs,aEA x) {i : Nat} {y : PV} (hy : aEA y) : ∀ x∈fs.set i y,aEA x:=by
 intro x hx
 rcases List.mem_or_eq_of_mem_set hx with h | h
 ·exact hf x h
 ·rw [h];exact hy
section
variable {l : List Int} (hl : Bts l) {ts : List PV} (ht : ∀ x ∈ ts, aGJ x) (htn : ts.length ≤ 20)
include hl ht htn
end
def aP3 (x : PV) : Prop:=∃ ts fs : List PV,x = .agg [.lst ts,.lst fs]∧(∀ x∈ts,aGJ x)∧ts.length≤100∧(∀ x∈fs,aEA x)∧fs.length≤100∧1≤fs.length
def Byt (l : List Int) : Prop:=∀ x∈l,0≤x∧x≤255
end
noncomputable section
open Go Go.IntWalk
attribute [local irreducible] bd PV.ite PV.guardFlat PV.guardOwn PV.whole PV.one PV.cell PV.sub PV.at_ PV.len PV.slen PV.chr PV.beq PV.peq PV.ceq PV.bin PV.neg PV.not PV.conv PV.cut PV.scut PV.cat PV.setAt PV.setCell PV.ncopy PV.copyIn PV.zeros PV.toStr PV.toBytes PV.deref PV.isPtr PV.comp PV.inb PV.off PV.imin PV.imax PV.sel PV.apply PV.isLst PV.isInt PV.ix PV.nilT
def aAz (m : eM) : Bool:=m.okB&&(bad m.funcs).isNone
theorem aGK {m : eM} (hs : m.sized) (h : aAz m=true) : fQ m:=by
 simp only [aAz,Bool.and_eq_true,Option.isNone_iff_eq_none] at h
 exact ⟨hs,h.1,h.2⟩
theorem aMx {fs : List cD} {code : List bM} {d : List Int} {pc : Nat} {c : Int} (h : aDb fs code d pc=some c) : c≠0:=by
 unfold aDb at h
 repeat' split at h
 all_goals first
  | (cases h;done)
  | (injection h with h;omega)
theorem aJ7 {fs : List cD} {c : Int} {f pc : Nat} (h : bad fs=some (c,f,pc)) : c≠0:=by
 unfold bad at h
 obtain ⟨i,_,h⟩:=List.exists_of_findSome?_eq_some h
 unfold aHY at h
 split at h
 ·obtain ⟨j,_,h⟩:=List.exists_of_findSome?_eq_some h
  unfold aBs at h
  simp only [Option.map_eq_some_iff] at h
  obtain ⟨c',h1,h2⟩:=h
  injection h2 with h2 h3
  rw [← h2]
  exact aMx h1
 ·cases h
section
variable {P : R → Prop} {k : R → Option R}
theorem aLG {m : eM} (hs : m.sized) (h : Ok P (k [.bool (aAz m)])) : Ok P (bd (wX m.pv) k):=by
 refine aH (Q:=fun r=>r = [.bool (aAz m)]) ?_ (fun r hr=>by rw [hr];exact h)
 rw [aEO]
 refine aD rfl (aA rfl (aA rfl (aH (aJ3 hs) (fun r hr=>?_))))
 subst hr
 show Ok _ (bd (PV.cell m.verify 0) _)
 unfold eM.verify aAz
 cases ho : m.okB with
 | false=>exact aA (y:=.int .i64 1) rfl (aG (aB rfl))
 | true=>
   simp only [if_true,Bool.true_and]
   cases hb : bad m.funcs with
   | none=>exact aA (y:=.int .i64 0) rfl (aG (aB rfl))
   | some p=>
     obtain ⟨c,f,pc⟩:=p
     have:=aJ7 hb
     refine aA (y:=.int .i64 c) rfl (aG (aB ?_))
     rw [decide_eq_false this];rfl
theorem aJ8 {m : eM} (hs : m.sized) (h : Ok P (k [.bool (aAz m)])) : Ok P (bd (zY m.pv) k):=by
 refine aH (Q:=fun r=>r = [.bool (aAz m)]) ?_ (fun r hr=>by rw [hr];exact h)
 rw [aGi]
 refine aD rfl (aA rfl (aA rfl (aH (aJ4 hs) (fun r hr=>?_))))
 subst hr
 show Ok _ (bd (PV.whole 3 m.verify) _)
 have eq : ∀ a b c : Int,(PV.ceq [1,1,1] .eql (.agg [.int .i64 a,.int .i64 b,.int .i64 c]) (.agg [.int .i64 0,.int .i64 0,.int .i64 0]))=some (.bool (decide (a=0)&&(decide (b=0)&&decide (c=0)))):=by
  intro a b c
  simp [PV.ceq,PV.eqCells,PV.eqScalar,PV.eqOr]
  rfl
 unfold eM.verify aAz
 cases ho : m.okB with
 | false=>exact aD (cs:=[.int .i64 1,.int .i64 0,.int .i64 0]) rfl (aA rfl (aA rfl (aA rfl (dB _ (eq _ _ _) (aB rfl)))))
 | true=>
   simp only [if_true,Bool.true_and]
   cases hb : bad m.funcs with
   | none=>exact aD (cs:=[.int .i64 0,.int .i64 0,.int .i64 0]) rfl (aA rfl (aA rfl (aA rfl (dB _ (eq _ _ _) (aB rfl)))))
   | some p=>
     obtain ⟨c,f,pc⟩:=p
     have:=aJ7 hb
     refine aD (cs:=[.int .i64 c,.int .i64 f,.int .i64 pc]) rfl (aA rfl (aA rfl (aA rfl (dB _ (eq _ _ _) (aB ?_)))))
     rw [decide_eq_false this];rfl
end
section
variable {P : R → Prop} {m : eM}
theorem wA {kp : PV→Option R} {i : Int} (h0 : 0≤i∧i<m.funcs.length) (h : Ok P (kp (.agg [.int .i64 (fZ m.funcs i),.int .i64 (xQ m.funcs i),.lst ((cQ m.funcs i).map bM.pv)]))) : Ok P (bd (PV.at_ 3 true (.lst (m.funcs.map cD.pv)) (.int .i64 i)) kp):=by
 obtain ⟨j,rfl⟩:=Int.eq_ofNat_of_zero_le h0.1
 have hj : j<m.funcs.length:=by omega
 refine aS hj (fun _=>rfl) ?_
 have e1 : cQ m.funcs j=m.funcs[j].code:=by simp [cQ,List.getElem?_eq_getElem hj]
 have e2 : fZ m.funcs j=m.funcs[j].p:=by simp [fZ,List.getElem?_eq_getElem hj]
 have e3 : xQ m.funcs j=m.funcs[j].lc:=by simp [xQ,List.getElem?_eq_getElem hj]
 rw [e1,e2,e3] at h
 exact h
def vmZ : jD:=⟨[],[],0,[],0,0,dC,0⟩
end
def aPD (m : eM) : Nat→jD→jD
 | 0,v=>v
 | n+1,v=>aPD m n (kZ m v)
def aO7 (m : eM) (args : List cJ) : jD:=⟨[vE m.funcs 0 args],[],0,[],0,0,dC,0⟩
def aO8 (m : eM) (args : List cJ) : Bool:=aAz m&&(decide ((args.length : Int)=fZ m.funcs 0)&&args.all (cB m.funcs.length 0))
def aP0 (m : eM) (args : List cJ) (fuel : Int) : Bool:=aO8 m args&&jM fuel 0 50000
def aP8 (m : eM) (args : List cJ) (fuel : Int) : jD:=if aP0 m args fuel then aPD m fuel.toNat (aO7 m args) else vmZ
theorem aGL {m : eM} {v : jD} (h : v.st≠0) : kZ m v=v:=by unfold kZ;rw [if_pos h]
section
variable {P : R → Prop} {k : R → Option R}
end
section
variable {P : R → Prop} {k : R → Option R}
theorem aMy {m : eM} {v : jD} {fs0 : List bO} {f : bO} (G : aNq m v fs0 f) (h0 : v.st=0) (h5 : v.steps≠50000) (hst : 0≤v.steps∧v.steps≤50000) :
 Ok (fun r=>r=gB (kZ m v)) (xC (.lst (m.texts.map PV.str)) (.lst (m.funcs.map cD.pv)) (.int .i64 v.made) (.int .i64 v.st) (.int .i64 v.tr) (.int .i64 v.val.k) (.int .i64 v.val.n) (.str v.val.s) (.int .i64 v.steps) (.lst (v.fr.map bO.pv)) (.lst (v.hp.map aQ)) (.lst (v.out.map PV.str))):=by
 rw [aAX h0 h5 G.fr,aEX]
 obtain ⟨gfr,gfi,gpc,gnc,gins,gus,gsm⟩:=G
 obtain ⟨pi,hpi⟩:=Int.eq_ofNat_of_zero_le gpc.1
 have hin : (cQ m.funcs f.f)[f.pc.toNat]? = some (jB m.funcs f):=by
  unfold jB
  rw [List.getElem?_eq_getElem (by omega)];rfl
 generalize hb : f.stk.length - (aX m.funcs (jB m.funcs f)).1.toNat=b
 have hsplit : f.stk.take b++f.stk.drop b=f.stk:=List.take_append_drop b f.stk
 have hdo:=aOl (a3:=.int .i64 v.st) (a4:=.int .i64 v.tr) (a5:=.int .i64 v.val.k) (a6:=.int .i64 v.val.n) (a7:=.str v.val.s) (a8:=.int .i64 (v.steps+1)) (gsm b) gins (by rw [List.length_drop];omega) gfi (by omega) hin
 have hnx : yL m v fs0 f=dO m ⟨f.f,f.pc+1,f.loc,f.stk.take b⟩ (f.stk.drop b) (fs0.length+1) v.hp v.made v.out (jB m.funcs f):=by
  simp only [yL]
  rw [hb]
 rw [← hnx,hsplit] at hdo
 have efr : v.fr.map bO.pv=fs0.map bO.pv++[f.pv]:=by rw [gfr,List.map_append];rfl
 rw [efr]
 refine aN (by omega) (bD rfl (aH hdo (fun r hr=>?_)))
 cases ha : yL m v fs0 f with
 | trap c=>
   rw [ha] at hr
   obtain ⟨hc,hr⟩:=hr
   rw [hr]
   refine bF (aI (fun _=>bD rfl (aB ?_)) (fun h=>absurd (by simpa using h) hc))
   simp only [gB,aCj,efr]
   rfl
 | next fr hp made out=>
   rw [ha] at hr
   have hr : r=_:=hr
   subst hr
   refine bF (aI (fun h=>absurd rfl h) (fun _=>aB ?_))
   simp only [aCj,gB,List.map_append]
   rfl
 | call fr g=>
   rw [ha] at hr
   have hr : r=_:=hr
   subst hr
   refine bF (aI (fun h=>absurd rfl h) (fun _=>aB ?_))
   simp only [aCj,gB,List.map_append,List.append_assoc]
   rfl
 | ret a=>
   rw [ha] at hr
   have hr : r=_:=hr
   by_cases hf : fs0 = []
   ·rw [if_pos hf] at hr
    subst hr
    refine bF (aI (fun h=>absurd rfl h) (fun _=>aB ?_))
    simp only [aCj,if_pos hf,gB]
    rfl
   ·rw [if_neg hf] at hr
    subst hr
    refine bF (aI (fun h=>absurd rfl h) (fun _=>aB ?_))
    simp only [aCj,if_neg hf,gB]
    rfl
end
section
variable {P : R → Prop} {k : PV → Option R} {kk : IntKind} {a b : List PV} {x v : PV} {n : Int} {s : Nat} {g : Bool}
theorem aLH (a : List PV) (x y : PV) (b : List PV) : (a++x::b).set a.length y=a++y::b:=by
 induction a with
 | nil=>rfl
 | cons c r ih=>simp [ih]
theorem aJ (hn : n=a.length) (he : x.isEl s g=true) (h : Ok P (k x)) : Ok P (bd (PV.at_ s g (.lst (a++x::b)) (.int kk n)) k):=
 zQ (by omega) (by rw [hn,Int.toNat_natCast];simp) he h
theorem bZ (hn : n=a.length) (h : Ok P (k (.lst (a++x::b)))) : Ok P (bd (PV.inb (.lst (a++x::b)) (.int kk n)) k):=
 aBI (by omega) (by simp;omega) h
theorem jO (hn : n=a.length) (hv : v.isEl s g=true) (h : Ok P (k (.lst (a++v::b)))) : Ok P (bd (PV.setAt s g (.lst (a++x::b)) (.int kk n) v) k):=by
 refine aF5 (by omega) (by simp;omega) hv ?_
 rw [hn,Int.toNat_natCast,aLH];exact h
theorem bG {cs : List PV} {off : Nat} (hn : n=a.length) (hc : cs.length=s) (ho : off<s) (hv : v.isEl 1 false=true) (h : Ok P (k (.lst (a++.agg (cs.set off v)::b)))) :
 Ok P (bd (PV.setCell s (.lst (a++.agg cs::b)) (.int kk n) off v) k):=by
 refine aBJ (cs:=cs) (by omega) (by rw [hn,Int.toNat_natCast];simp) hc ho hv ?_
 rw [hn,Int.toNat_natCast,aLH];exact h
end
section
variable {α : Type} {f : α → PV}
theorem wC {z0 : PV} {F : PV→PV→PV→Option R}
 (hend : ∀ (xs : List PV) (out : PV),Ok (fun r=>r = [out]) (F (.lst xs) (.int .i64 xs.length) out))
 (hstep : ∀ (a : List PV) (z : α) (b c : List PV) (Q : R→Prop),a.length+b.length<2305843009213693952→Ok Q (F (.lst (a++f z::b)) (.int .i64 (a.length+1)) (.lst (a++f z::c)))→
  Ok Q (F (.lst (a++f z::b)) (.int .i64 a.length) (.lst (a++z0::c)))) {l : List α} (hl : l.length≤2305843009213693952) :
 Ok (fun r=>r = [.lst (l.map f)]) (F (.lst (l.map f)) (.int .i64 0) (.lst (l.map fun _=>z0))):=by
 have key : ∀ (r d : List α),d.length+r.length≤2305843009213693952→Ok (fun q=>q = [.lst (d.map f++r.map f)]) (F (.lst (d.map f++r.map f)) (.int .i64 d.length) (.lst (d.map f++r.map fun _=>z0))):=by
  intro r
  induction r with
  | nil=>
    intro d _
    have:=hend (d.map f) (.lst (d.map f))
    rw [List.length_map] at this
    simpa using this
  | cons z r ih=>
    intro d hd
    have h1:=ih (d++[z]) (by simp at hd ⊢;omega)
    have h2:=hstep (d.map f) z (r.map f) (r.map fun _=>z0) (fun q=>q = [.lst (d.map f++f z::r.map f)]) (by simp at hd ⊢;omega) (by
     simp only [List.length_map]
     simpa using h1)
    simpa using h2
 simpa using key l [] (by simpa using hl)
def dJ (m : Int→α→α) (c : α→Nat) : Int→List α→List α
 | _,[]=>[]
 | q,z::r=>m q z::dJ m c (q+c z) r
def bU (c : α→Nat) (l : List α) : Nat:=(l.map c).sum
theorem nN {m : Int→α→α} {c : α→Nat} {wrap : List PV→PV} {F : PV→PV→PV→Option R}
 (hend : ∀ (xs : List PV) (q : PV),Ok (fun r=>r = [q,wrap xs]) (F q (.int .i64 xs.length) (wrap xs)))
 (hstep : ∀ (a : List PV) (z : α) (b : List PV) (q : Int) (Q : R→Prop),a.length+b.length<2305843009213693952→1≤q→q+c z≤2305843009213693952→Ok Q (F (.int .i64 (q+c z)) (.int .i64 (a.length+1)) (wrap (a++f (m q z)::b)))→
  Ok Q (F (.int .i64 q) (.int .i64 a.length) (wrap (a++f z::b)))) {l : List α} {q : Int} (hl : l.length≤2305843009213693952) (h1 : 1≤q) (hq : q+bU c l≤2305843009213693952) :
 Ok (fun r=>r = [.int .i64 (q+bU c l),wrap ((dJ m c q l).map f)]) (F (.int .i64 q) (.int .i64 0) (wrap (l.map f))):=by
 have key : ∀ (r d : List α) (q : Int),d.length+r.length≤2305843009213693952→1≤q→q+bU c r≤2305843009213693952→Ok (fun t=>t = [.int .i64 (q+bU c r),wrap (d.map f++(dJ m c q r).map f)]) (F (.int .i64 q) (.int .i64 d.length) (wrap (d.map f++r.map f))):=by
  intro r
  induction r with
  | nil=>
    intro d q _ _ _
    have:=hend (d.map f) (.int .i64 q)
    rw [List.length_map] at this
    simpa [bU,dJ] using this
  | cons z r ih=>
    intro d q hd h1 hq
    have e : bU c (z::r)=c z+bU c r:=by simp [bU]
    rw [e] at hq ⊢
    have h2:=ih (d++[m q z]) (q+c z) (by simp at hd ⊢;omega) (by omega) (by omega)
    have h3:=hstep (d.map f) z (r.map f) q (fun t=>t = [.int .i64 (q+(c z+bU c r : Nat)),wrap (d.map f++f (m q z)::(dJ m c (q+c z) r).map f)]) (by simp at hd ⊢;omega) h1 (by omega) (by
     simp only [List.length_map]
     have e2 : q+((c z+bU c r : Nat) : Int)=q+c z+bU c r:=by omega
     rw [e2]
     simpa using h2)
    simpa [dJ] using h3
 have:=key l [] q (by simpa using hl) h1 hq
 simpa using this
theorem aAZ {m : Int→α→α} {c : α→Nat} {F : PV→PV→PV→Option R}
 (hend : ∀ (xs : List PV) (q : PV),Ok (fun r=>r = [q]) (F (.lst xs) q (.int .i64 xs.length)))
 (hstep : ∀ (a : List PV) (z : α) (b : List PV) (q : Int) (Q : R→Prop),a.length+b.length<2305843009213693952→1≤q→q+c z≤2305843009213693952→Ok Q (F (.lst (a++f (m q z)::b)) (.int .i64 (q+c z)) (.int .i64 (a.length+1)))→
  Ok Q (F (.lst (a++f (m q z)::b)) (.int .i64 q) (.int .i64 a.length))) {l : List α} {q : Int} (hl : l.length≤2305843009213693952) (h1 : 1≤q) (hq : q+bU c l≤2305843009213693952) :
 Ok (fun r=>r = [.int .i64 (q+bU c l)]) (F (.lst ((dJ m c q l).map f)) (.int .i64 q) (.int .i64 0)):=by
 have key : ∀ (r : List α) (d : List PV) (q : Int),d.length+r.length≤2305843009213693952→1≤q→q+bU c r≤2305843009213693952→Ok (fun t=>t = [.int .i64 (q+bU c r)]) (F (.lst (d++(dJ m c q r).map f)) (.int .i64 q) (.int .i64 d.length)):=by
  intro r
  induction r with
  | nil=>
    intro d q _ _ _
    have:=hend d (.int .i64 q)
    simpa [bU,dJ] using this
  | cons z r ih=>
    intro d q hd h1 hq
    have e : bU c (z::r)=c z+bU c r:=by simp [bU]
    rw [e] at hq ⊢
    have h2:=ih (d++[f (m q z)]) (q+c z) (by simp at hd ⊢;omega) (by omega) (by omega)
    have hlen : ∀ q,(dJ m c q r).length=r.length:=by
     intro q
     clear ih h2 hq h1 e hd
     induction r generalizing q with
     | nil=>rfl
     | cons a r ih=>simp [dJ,ih]
    have h3:=hstep d z ((dJ m c (q+c z) r).map f) q (fun t=>t = [.int .i64 (q+(c z+bU c r : Nat))]) (by simp [hlen] at hd ⊢;omega) h1 (by omega) (by
     have e2 : q+((c z+bU c r : Nat) : Int)=q+c z+bU c r:=by omega
     rw [e2]
     simpa using h2)
    simpa [dJ] using h3
 have:=key l [] q (by simpa using hl) h1 hq
 simpa using this
theorem aA0 {F : PV→PV→PV→Option R}
 (hend : ∀ (xs : List PV),Ok (fun r=>r = [.bool true]) (F (.lst xs) (.lst xs) (.int .i64 xs.length)))
 (hstep : ∀ (a : List PV) (z : α) (b : List PV) (Q : R→Prop),a.length+b.length<2305843009213693952→Ok Q (F (.lst (a++f z::b)) (.lst (a++f z::b)) (.int .i64 (a.length+1)))→
  Ok Q (F (.lst (a++f z::b)) (.lst (a++f z::b)) (.int .i64 a.length))) {l : List α} (hl : l.length≤2305843009213693952) :
 Ok (fun r=>r = [.bool true]) (F (.lst (l.map f)) (.lst (l.map f)) (.int .i64 0)):=by
 have key : ∀ (r d : List α),d.length+r.length≤2305843009213693952→Ok (fun q=>q = [.bool true]) (F (.lst (d.map f++r.map f)) (.lst (d.map f++r.map f)) (.int .i64 d.length)):=by
  intro r
  induction r with
  | nil=>
    intro d _
    have:=hend (d.map f)
    rw [List.length_map] at this
    simpa using this
  | cons z r ih=>
    intro d hd
    have h1:=ih (d++[z]) (by simp at hd ⊢;omega)
    have h2:=hstep (d.map f) z (r.map f) (fun q=>q = [.bool true]) (by simp at hd ⊢;omega) (by
     simp only [List.length_map]
     simpa using h1)
    simpa using h2
 simpa using key l [] (by simpa using hl)
def tI (left : Int) (B : Prop) (r : R) : Prop:=∃ z,r = [.int .i64 z]∧z≤left∧-1≤z∧(0≤z→B)
theorem aDe {F : PV→PV→PV→Option R} {B : α→Prop}
 (hend : ∀ (xs : List PV) (q : PV),Ok (fun r=>r = [q]) (F (.lst xs) q (.int .i64 xs.length)))
 (hstep : ∀ (a : List PV) (z : α) (b : List PV) (q : Int) (Q : R→Prop),a.length+b.length<2305843009213693952→0≤q→q≤1048576→Q [.int .i64 (-1)]→
  (∀ q',0≤q'→q'≤q→B z→Ok Q (F (.lst (a++f z::b)) (.int .i64 q') (.int .i64 (a.length+1))))→
  Ok Q (F (.lst (a++f z::b)) (.int .i64 q) (.int .i64 a.length))) {l : List α} {q : Int} (hl : l.length≤2305843009213693952) (h0 : 0≤q) (h1 : q≤1048576) :
 Ok (tI q (∀ z∈l,B z)) (F (.lst (l.map f)) (.int .i64 q) (.int .i64 0)):=by
 have key : ∀ (r d : List α) (q : Int),d.length+r.length≤2305843009213693952→0≤q→q≤1048576→Ok (tI q (∀ z∈r,B z)) (F (.lst (d.map f++r.map f)) (.int .i64 q) (.int .i64 d.length)):=by
  intro r
  induction r with
  | nil=>
    intro d q _ h0 _
    have:=hend (d.map f) (.int .i64 q)
    rw [List.length_map] at this
    simp only [List.map_nil,List.append_nil]
    refine this.mono ?_
    rintro t rfl
    exact ⟨q,rfl,Int.le_refl _,by omega,fun _ z hz=>by cases hz⟩
  | cons z r ih=>
    intro d q hd h0 h1
    have h2:=hstep (d.map f) z (r.map f) q (tI q (∀ x∈z::r,B x)) (by simp at hd ⊢;omega) h0 h1 ⟨-1,rfl,by omega,by omega,fun h=>absurd h (by omega)⟩ (fun q' g0 g1 hB=>by
     have h3:=ih (d++[z]) q' (by simp at hd ⊢;omega) g0 (by omega)
     simp only [List.length_map]
     have h4 : Ok (tI q' (∀ z∈r,B z)) (F (.lst (d.map f++f z::r.map f)) (.int .i64 q') (.int .i64 (d.length+1))):=by simpa using h3
     refine h4.mono ?_
     rintro t ⟨y,rfl,y1,y2,y3⟩
     refine ⟨y,rfl,by omega,y2,fun hy x hx=>?_⟩
     rcases List.mem_cons.1 hx with rfl | hx
     ·exact hB
     ·exact y3 hy x hx)
    simpa using h2
 simpa using key l [] q (by simpa using hl) h0 h1
end
section
variable {P : R → Prop} {k : PV → Option R}
theorem qO {α : Type} {l : List α} {e : Nat} {z : PV} (hl : l.length*e≤140737488355328) (hb : l.length≤2305843009213693952) (h : Ok P (k (.lst (l.map fun _=>z)))) : Ok P (bd (PV.zeros e z (.int .i64 l.length)) k):=
 dB _ (by
  simp only [PV.zeros]
  rw [if_pos ⟨by omega,by rw [Int.toNat_natCast];exact hl,by omega⟩,Int.toNat_natCast,List.map_const']) h
end
theorem aGM : ∀ (l : List ByteArray),PV.flatO (.own 1 16 false []) (.lst (l.map PV.str))=true:=by
 intro l
 show PV.flatEs false [] (l.map PV.str)=true
 induction l with
 | nil=>simp [PV.flatEs]
 | cons x r ih=>simp [PV.flatEs,PV.flatE,PV.flat,ih]
theorem aCk : ∀ (l : List bM),PV.flatO (.own 2 16 true []) (.lst (l.map bM.pv))=true:=by
 intro l
 show PV.flatEs true [] (l.map bM.pv)=true
 induction l with
 | nil=>simp [PV.flatEs]
 | cons x r ih=>simp [PV.flatEs,PV.flatE,PV.flatCs,bM.pv,PV.flat,ih]
theorem aGN : ∀ (l : List cD),PV.flatO (.own 3 40 true [.leaf,.leaf,.own 2 16 true []]) (.lst (l.map cD.pv))=true:=by
 intro l
 show PV.flatEs true [.leaf,.leaf,.own 2 16 true []] (l.map cD.pv)=true
 induction l with
 | nil=>simp [PV.flatEs]
 | cons x r ih=>
   have : PV.flatEs true [] (x.code.map bM.pv)=true:=aCk x.code
   simp [PV.flatEs,PV.flatE,PV.flatCs,cD.pv,PV.flat,ih,this]
theorem aLI {l : List ByteArray} (hl : l.length≤1000000000) : Ok (fun r=>r = [.lst (l.map PV.str)]) (oD (.lst (l.map PV.str))):=by
 rw [aCQ]
 refine aE (qO (by omega) (by omega) (jF ?_))
 rw [decide_eq_true (Int.le_refl _)]
 refine aW (qO (by omega) (by omega) ?_)
 refine wC (F:=kH) (fun xs out=>?_) (fun a z b c Q hb h=>?_) (by omega)
 ·rw [pX]
  exact bJ (aF (aC (fun h=>by omega) (fun _=>aB rfl)))
 ·rw [pX]
  refine bJ (aF (aC (fun _=>?_) (fun h=>by simp at h;omega)))
  exact aJ rfl rfl (bZ rfl (jO rfl rfl (aN (by omega) h)))
theorem aO9 {x : bM} : Ok (fun r=>r = [x.pv]) (aBZ x.pv):=by
 rw [aHo]
 exact aD rfl (aA rfl (aA rfl (bD rfl (bD rfl (aB rfl)))))
theorem aOs {l : List bM} (hl : l.length≤1000000000) : Ok (fun r=>r = [.lst (l.map bM.pv)]) (aAj (.lst (l.map bM.pv))):=by
 rw [aGw]
 refine aE (qO (by omega) (by omega) (jF ?_))
 rw [decide_eq_true (Int.le_refl _)]
 refine aW (qO (by omega) (by omega) ?_)
 refine wC (F:=oH) (fun xs out=>?_) (fun a z b c Q hb h=>?_) (by omega)
 ·rw [uK]
  exact bJ (aF (aC (fun h=>by omega) (fun _=>aB rfl)))
 ·rw [uK]
  refine bJ (aF (aC (fun _=>?_) (fun h=>by simp at h;omega)))
  refine aJ rfl rfl (aH aO9 (fun r hr=>?_))
  subst hr
  exact bZ rfl (jO rfl rfl (aN (by omega) h))
theorem aPa {x : cD} (hl : x.code.length≤1000000000) : Ok (fun r=>r = [.int .i64 x.p,.int .i64 x.lc,.lst (x.code.map bM.pv)]) (aAc x.pv):=by
 rw [aGp]
 refine aD rfl (aA rfl (aA rfl (aA rfl (bD rfl (bD rfl (aH (aOs hl) (fun r hr=>?_)))))))
 subst hr
 exact dR (aCk _) (aB rfl)
theorem aOt {l : List cD} (hl : l.length≤1000000000) (hc : ∀ x∈l,x.code.length≤1000000000) : Ok (fun r=>r = [.lst (l.map cD.pv)]) (xA (.lst (l.map cD.pv))):=by
 rw [aEV]
 refine aE (qO (by omega) (by omega) (jF ?_))
 rw [decide_eq_true (Int.le_refl _)]
 refine aW (qO (by omega) (by omega) ?_)
 have key : Ok (fun r=>r = [.lst ((l.attach.map fun x=>x).map fun x : {x // x∈l}=>x.1.pv)]) (jV (.lst ((l.attach.map fun x=>x).map fun x : {x // x∈l}=>x.1.pv)) (.int .i64 0) (.lst ((l.attach.map fun x=>x).map fun _=>.agg [.int .i64 0,.int .i64 0,.lst []]))):=by
  refine wC (F:=jV) (fun xs out=>?_) (fun a z b c Q hb h=>?_) (by simp;omega)
  ·rw [tA]
   exact bJ (aF (aC (fun h=>by omega) (fun _=>aB rfl)))
  ·rw [tA]
   refine bJ (aF (aC (fun _=>?_) (fun h=>by simp at h;omega)))
   refine aJ rfl rfl (aH (aPa (hc z.1 z.2)) (fun r hr=>?_))
   subst hr
   exact eS rfl (eS rfl (dR (aCk _) (bZ rfl (jO rfl rfl (aN (by omega) h)))))
 have e1 : ((l.attach.map fun x=>x).map fun x : {x // x∈l}=>x.1.pv)=l.map cD.pv:=by simp
 have e2 : ((l.attach.map fun x=>x).map fun _=>PV.agg [.int .i64 0,.int .i64 0,.lst []])=l.map fun _=>PV.agg [.int .i64 0,.int .i64 0,.lst []]:=by simp [List.map_const']
 rw [e1,e2] at key
 exact key
def eM.rows (m : eM) : R:=[.lst (m.texts.map PV.str),.lst (m.funcs.map cD.pv)]
theorem aPb {m : eM} (h : m.sized) : Ok (fun r=>r=m.rows) (fW m.pv):=by
 obtain ⟨h1,h2,h3,h4⟩:=h
 rw [aDL]
 refine aD rfl (aA rfl (aA rfl (aH (aLI (by omega)) (fun r hr=>?_))))
 subst hr
 refine dR (aGM _) (aH (aOt (by omega) h4) (fun r hr=>?_))
 subst hr
 exact dR (aGN _) (aB rfl)
section
variable {P : R → Prop} {k : R → Option R}
theorem iO {B : Prop} {left : Int} {o : Option R} (h : Ok (tI left B) o) (hk : ∀ z,z≤left→-1≤z→(0≤z→B)→Ok P (k [.int .i64 z])) : Ok P (bd o k):=
 aH h (fun r hr=>by obtain ⟨z,rfl,h1,h2,h3⟩:=hr;exact hk z h1 h2 h3)
end
theorem aLJ {l : List ByteArray} {q : Int} (hl : l.length≤9223372036854775807) (hs : ∀ s∈l,s.size≤9223372036854775807) (h0 : 0≤q) (h1 : q≤1048576) :
 Ok (tI q (l.length≤1048576∧∀ s∈l,s.size≤1048576)) (nY (.lst (l.map PV.str)) (.int .i64 q)):=by
 rw [aCK]
 refine aE (bN (by omega) (aF (aC (fun h=>aB ⟨-1,rfl,by omega,by omega,fun h=>absurd h (by omega)⟩) (fun h=>?_))))
 have key : Ok (tI (q - l.length) (∀ s∈l.attach,s.1.size≤1048576)) (gV (.lst (l.attach.map fun s=>PV.str s.1)) (.int .i64 (q - l.length)) (.int .i64 0)):=by
  refine aDe (F:=gV) (f:=fun s : {s // s∈l}=>PV.str s.1) (B:=fun s=>s.1.size≤1048576) (fun xs q=>?_) (fun a z b q Q hb g0 g1 hQ hk=>?_) (by simp;omega) (by omega) (by omega)
  ·rw [pT]
   exact bJ (aF (aC (fun h=>by omega) (fun _=>aB rfl)))
  ·have:=hs z.1 z.2
   rw [pT]
   refine bJ (aF (aC (fun _=>?_) (fun h=>by simp at h;omega)))
   refine aJ rfl rfl (nX (bN (by omega) (aF (aC (fun _=>aB hQ) (fun h=>aN (by omega) (hk _ (by omega) (by omega) (by omega)))))))
 have e1 : (l.attach.map fun s=>PV.str s.1)=l.map PV.str:=by simp
 rw [e1] at key
 refine key.mono ?_
 rintro r ⟨z,rfl,h2,h3,h4⟩
 exact ⟨z,rfl,by omega,h3,fun hz=>⟨by omega,fun s hs'=>h4 hz ⟨s,hs'⟩ (List.mem_attach _ _)⟩⟩
theorem aOu {l : List bM} {q : Int} (hl : l.length≤9223372036854775807) (h0 : 0≤q) (h1 : q≤1048576) : Ok (tI q (l.length≤1048576)) (zV (.lst (l.map bM.pv)) (.int .i64 q)):=by
 rw [aGc]
 refine aE (bN (by omega) (aF (aC (fun h=>aB ⟨-1,rfl,by omega,by omega,fun h=>absurd h (by omega)⟩) (fun h=>aB ⟨_,rfl,by omega,by omega,fun _=>by omega⟩))))
theorem aPc {x : cD} {q : Int} (hl : x.code.length≤9223372036854775807) (h0 : 0≤q) (h1 : q≤1048576) : Ok (tI q (x.code.length≤1048576)) (zT x.pv (.int .i64 q)):=by
 rw [aGa]
 refine aD rfl (aA rfl (aA rfl (aA rfl (iO (aOu hl h0 h1) (fun z g1 g2 g3=>aF (aC (fun h=>aB ⟨-1,rfl,by omega,by omega,fun h=>absurd h (by omega)⟩) (fun h=>aB ⟨z,rfl,g1,g2,g3⟩)))))))
theorem aOv {l : List cD} {q : Int} (hl : l.length≤9223372036854775807) (hs : ∀ x∈l,x.code.length≤9223372036854775807) (h0 : 0≤q) (h1 : q≤1048576) :
 Ok (tI q (l.length≤1048576∧∀ x∈l,x.code.length≤1048576)) (wS (.lst (l.map cD.pv)) (.int .i64 q)):=by
 rw [aEH]
 refine aE (bN (by omega) (aF (aC (fun h=>aB ⟨-1,rfl,by omega,by omega,fun h=>absurd h (by omega)⟩) (fun h=>?_))))
 have key : Ok (tI (q - l.length) (∀ s∈l.attach,s.1.code.length≤1048576)) (jR (.lst (l.attach.map fun s=>s.1.pv)) (.int .i64 (q - l.length)) (.int .i64 0)):=by
  refine aDe (F:=jR) (f:=fun s : {s // s∈l}=>s.1.pv) (B:=fun s=>s.1.code.length≤1048576) (fun xs q=>?_) (fun a z b q Q hb g0 g1 hQ hk=>?_) (by simp;omega) (by omega) (by omega)
  ·rw [sR]
   exact bJ (aF (aC (fun h=>by omega) (fun _=>aB rfl)))
  ·rw [sR]
   refine bJ (aF (aC (fun _=>?_) (fun h=>by simp at h;omega)))
   refine aJ rfl rfl (iO (aPc (hs z.1 z.2) g0 g1) (fun y y1 y2 y3=>aF (aC (fun _=>aB hQ) (fun h=>aN (by omega) (hk _ (by omega) (by omega) (y3 (by omega)))))))
 have e1 : (l.attach.map fun s=>s.1.pv)=l.map cD.pv:=by simp
 rw [e1] at key
 refine key.mono ?_
 rintro r ⟨z,rfl,h2,h3,h4⟩
 exact ⟨z,rfl,by omega,h3,fun hz=>⟨by omega,fun s hs'=>h4 hz ⟨s,hs'⟩ (List.mem_attach _ _)⟩⟩
def eM.wide (m : eM) : Prop:=m.texts.length≤9223372036854775807∧m.funcs.length≤9223372036854775807∧(∀ t∈m.texts,t.size≤9223372036854775807)∧∀ f∈m.funcs,f.code.length≤9223372036854775807
theorem aPd {m : eM} {q : Int} (h : m.wide) (h0 : 0≤q) (h1 : q≤1048576) : Ok (tI q m.sized) (uR m.pv (.int .i64 q)):=by
 obtain ⟨w1,w2,w3,w4⟩:=h
 rw [aDD]
 refine aD rfl (aA rfl (aA rfl (iO (aLJ w1 w3 h0 h1) (fun z g1 g2 g3=>aF (aC (fun h=>aB ⟨-1,rfl,by omega,by omega,fun h=>absurd h (by omega)⟩) (fun h=>?_))))))
 refine iO (aOv w2 w4 (by omega) (by omega)) (fun y y1 y2 y3=>aF (aC (fun h=>aB ⟨-1,rfl,by omega,by omega,fun h=>absurd h (by omega)⟩) (fun h=>aB ⟨y,rfl,by omega,y2,fun hy=>?_⟩)))
 obtain ⟨e1,e2⟩:=g3 (by omega)
 obtain ⟨e3,e4⟩:=y3 (by omega)
 exact ⟨by omega,by omega,fun t ht=>by have:=e2 t ht;omega,fun f hf=>by have:=e4 f hf;omega⟩
theorem aLK {l : List ByteArray} (hl : l.length≤2305843009213693952) : Ok (fun r=>r = [.bool true]) (oA (.lst (l.map PV.str)) (.lst (l.map PV.str))):=by
 rw [aCL]
 refine aE (aE (bF (aI (fun h=>absurd rfl h) (fun _=>?_))))
 refine aA0 (F:=kE) (fun xs=>?_) (fun a z b Q hb h=>?_) hl
 ·rw [pU]
  exact bJ (aF (aC (fun h=>by omega) (fun _=>aB rfl)))
 ·rw [pU]
  refine bJ (aF (aC (fun _=>?_) (fun h=>by simp at h;omega)))
  exact aJ rfl rfl (aJ rfl rfl (vQ (aP (aN (by omega) h))))
theorem aPe {x : bM} : Ok (fun r=>r = [.bool true]) (aBM x.pv x.pv):=by
 rw [aG8]
 exact aD rfl (aA rfl (aA rfl (aD rfl (aA rfl (aA rfl (bF (aI (fun h=>absurd rfl h) (fun _=>bF (aI (fun h=>absurd rfl h) (fun _=>aB rfl))))))))))
theorem iD {P : R→Prop} {k : R→Option R} {o : Option R} (h : Ok (fun r=>r = [.bool true]) o) (hk : Ok P (k [.bool true])) : Ok P (bd o k):=aH h (fun r hr=>by rw [hr];exact hk)
theorem aOw {l : List bM} (hl : l.length≤2305843009213693952) : Ok (fun r=>r = [.bool true]) (zW (.lst (l.map bM.pv)) (.lst (l.map bM.pv))):=by
 rw [aGd]
 refine aE (aE (bF (aI (fun h=>absurd rfl h) (fun _=>?_))))
 refine aA0 (F:=oB) (fun xs=>?_) (fun a z b Q hb h=>?_) hl
 ·rw [uA]
  exact bJ (aF (aC (fun h=>by omega) (fun _=>aB rfl)))
 ·rw [uA]
  refine bJ (aF (aC (fun _=>?_) (fun h=>by simp at h;omega)))
  exact aJ rfl rfl (aJ rfl rfl (iD aPe (bH (aP (aN (by omega) h)))))
theorem aPf {x : cD} (hl : x.code.length≤2305843009213693952) : Ok (fun r=>r = [.bool true]) (zU x.pv x.pv):=by
 rw [aGb]
 exact aD rfl (aA rfl (aA rfl (aA rfl (aD rfl (aA rfl (aA rfl (aA rfl (bF (aI (fun h=>absurd rfl h) (fun _=>bF (aI (fun h=>absurd rfl h) (fun _=>
  iD (aOw hl) (bH (aP (aB rfl)))))))))))))))
theorem aOx {l : List cD} (hl : l.length≤2305843009213693952) (hs : ∀ x∈l,x.code.length≤2305843009213693952) : Ok (fun r=>r = [.bool true]) (wU (.lst (l.map cD.pv)) (.lst (l.map cD.pv))):=by
 rw [aEK]
 refine aE (aE (bF (aI (fun h=>absurd rfl h) (fun _=>?_))))
 have e1 : (l.attach.map fun s=>s.1.pv)=l.map cD.pv:=by simp
 rw [← e1]
 refine aA0 (F:=mJ) (f:=fun s : {s // s∈l}=>s.1.pv) (fun xs=>?_) (fun a z b Q hb h=>?_) (by simpa using hl)
 ·rw [sS]
  exact bJ (aF (aC (fun h=>by omega) (fun _=>aB rfl)))
 ·rw [sS]
  refine bJ (aF (aC (fun _=>?_) (fun h=>by simp at h;omega)))
  exact aJ rfl rfl (aJ rfl rfl (iD (aPf (hs z.1 z.2)) (bH (aP (aN (by omega) h)))))
theorem aPg {m : eM} (h : m.sized) : Ok (fun r=>r = [.bool true]) (pP m.pv m.pv):=by
 obtain ⟨h1,h2,h3,h4⟩:=h
 rw [aDF]
 exact aD rfl (aA rfl (aA rfl (aD rfl (aA rfl (aA rfl (iD (aLK (by omega)) (bH (aP (iD (aOx (by omega) (fun x hx=>by have:=h4 x hx;omega)) (bH (aP (aB rfl))))))))))))
end
end Go.Proofs.YthkofpnllaapeaaGreatDoor
