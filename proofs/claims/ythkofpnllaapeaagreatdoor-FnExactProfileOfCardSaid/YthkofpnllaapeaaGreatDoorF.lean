/-
  Texts of the proof, part 6: a value-level evaluator and its soundness, what the functions compute, laws about it.
  Conditions: none.
-/
import Derived.Test.YthkofpnllaapeaaGreatDoorE
import Derived.Lib.Strings
set_option linter.all false
namespace Go.Proofs.YthkofpnllaapeaaGreatDoor
noncomputable section
open Go Go.IntWalk
attribute [local irreducible] bd PV.ite PV.guardFlat PV.guardOwn PV.whole PV.one PV.cell PV.sub PV.at_ PV.len PV.slen PV.chr PV.beq PV.peq PV.ceq PV.bin PV.neg PV.not PV.conv PV.cut PV.scut PV.cat PV.setAt PV.setCell PV.ncopy PV.copyIn PV.zeros PV.toStr PV.toBytes PV.deref PV.isPtr PV.comp PV.inb PV.off PV.imin PV.imax PV.sel PV.apply PV.isLst PV.isInt PV.ix PV.nilT
section
variable {fs : List cN} {code : List bE} {T : PV} (F : Fit fs code)
include F
theorem aJs {f : Nat} (hf : f<fs.length) (hc : fs[f].code=code) : Ok (fun r=>r = [dV (oM fs code)]) (rW (.agg [T,.lst (fs.map cN.pv)]) (.int .i64 f)):=by
 have hn2:=F.n2
 have hn1:=F.n1
 rw [aCm]
 refine aD rfl (aA rfl (aA rfl (aQ hf (fun _=>rfl) (aA (y:=.lst (code.map bE.pv)) (by rw [← hc];rfl) ?_))))
 have key:=kY (n:=code.length) (P:=fun _ r=>r = [dV (oM fs code)])
  (F:=fun i=>jL (.lst (code.map bE.pv)) (.int .i64 i) T (.lst (fs.map cN.pv)) (dV (List.replicate i (-1)))) ?_ ?_ 0 (by omega)
 ·exact key
 ·rw [pN]
  refine aE (aH (aC (fun h=>by omega) (fun _=>?_)))
  refine fU (by omega) (by rw [List.length_replicate];omega) (tR (i:=0) (by rw [List.length_replicate];omega) ?_)
  exact aLY F code.length _ (by have:=(xN.start (n:=code.length)).1;unfold nn;exact Nat.le_trans List.countP_le_length (by omega)) xN.start
 ·intro i hi ih
  rw [pN]
  refine aE (aH (aC (fun h=>?_) (fun h=>by omega)))
  refine pQ (ys:=[-1]) (by rw [List.length_replicate];simp only [List.length_cons,List.length_nil];omega) (aM (by omega) ?_)
  rw [← List.replicate_succ']
  exact ih
end
section
variable {P : R → Prop} {k : PV → Option R}
theorem aAi {m n : Nat} {kk : IntKind} (h : n≤m) : PV.bound m (.int kk (n : Int))=some n:=by
 simp only [PV.bound]
 rw [if_pos (by omega),Int.toNat_natCast]
theorem aJt {xs ys : List PV} {lo hi : Nat} {k1 k2 : IntKind} (h1 : lo≤hi) (h2 : hi≤xs.length) (h3 : xs.length≤1000000000) (h : Ok P (k (.int .i64 (min (hi - lo) ys.length : Nat)))) :
 Ok P (bd (PV.ncopy (.lst xs) (.int k1 (lo : Int)) (.int k2 (hi : Int)) (.lst ys)) k):=
 cK _ (by
  simp only [PV.ncopy]
  rw [aAi (by omega),aAi (by omega)]
  simp only [PV.elems]
  rw [if_pos ⟨h1,h2⟩]) h
theorem aHx {s : Nat} {g : Bool} {xs ys : List PV} {lo hi : Nat} {k1 k2 : IntKind} (h1 : lo≤hi) (h2 : hi≤xs.length) (h3 : xs.length≤1000000000) (he : ∀ y∈ys,y.isEl s g=true)
 (h : Ok P (k (.lst (xs.take lo++ys.take (hi - lo)++xs.drop (lo+min (hi - lo) ys.length))))) :
 Ok P (bd (PV.copyIn s g (.lst xs) (.int k1 (lo : Int)) (.int k2 (hi : Int)) (.lst ys)) k):=
 cK _ (by
  simp only [PV.copyIn]
  rw [aAi (by omega),aAi (by omega)]
  simp only [PV.elems]
  rw [if_pos ⟨h1,h2,List.all_eq_true.2 he⟩]) h
theorem aJu {e n : Nat} {z : PV} {kk : IntKind} (h1 : n*e≤140737488355328) (h2 : n≤1000000000) (h : Ok P (k (.lst (List.replicate n z)))) : Ok P (bd (PV.zeros e z (.int kk (n : Int))) k):=
 cK _ (by
  simp only [PV.zeros]
  rw [if_pos ⟨by omega,by rw [Int.toNat_natCast];exact h1,by omega⟩,Int.toNat_natCast]) h
theorem aCH {l : List Int} : ∀ x∈l.map (PV.int .i64),x.isEl 1 false=true:=by
 intro x hx
 obtain ⟨a,_,rfl⟩:=List.mem_map.1 hx
 rfl
end
theorem aJv {n : Nat} (hn : n≤1000) : ∀ (j a : Nat),n - a≤j→1≤a→a≤n→
 Ok (fun r=>r = [dV (List.replicate n (-1))]) (fA (.int .i64 a) (dV (List.replicate a (-1)++List.replicate (n - a) 0))):=by
 intro j
 induction j with
 | zero=>
   intro a h1 h2 h3
   have : a=n:=by omega
   subst this
   rw [jP]
   refine dY (aH (aC (fun h=>?_) (fun _=>aB ?_)))
   ·simp at h
   ·simp
 | succ j ih=>
   intro a h1 h2 h3
   rw [jP]
   have hl : (List.replicate a (-1 : Int)++List.replicate (n - a) 0).length=n:=by simp;omega
   have hlm : ((List.replicate a (-1 : Int)++List.replicate (n - a) 0).map (PV.int .i64)).length=n:=by rw [List.length_map,hl]
   have ht : (List.replicate a (-1 : Int)++List.replicate (n - a) 0).take a=List.replicate a (-1):=by
    rw [List.take_left' (by simp)]
   refine dY (aH (aC (fun h=>?_) (fun h=>aB ?_)))
   ·rw [hl] at h
    refine dY ?_
    rw [hl]
    refine yJ (by omega) (by omega) (by omega) aCH ?_
    refine yJ (by omega) (by omega) (by omega) aCH ?_
    refine yJ (by omega) (by omega) (by omega) aCH ?_
    simp only [Int.toNat_natCast,Int.toNat_zero,List.drop_zero,← List.map_take]
    rw [ht]
    refine aJt (by omega) (by omega) (by omega) (aHx (by omega) (by omega) (by omega) aCH ?_)
    rw [← List.map_take,ht,← List.map_take,← List.map_drop,← List.map_append,← List.map_append,List.length_map,List.length_replicate]
    have e : List.replicate a (-1 : Int)++(List.replicate a (-1)).take (n - a)++(List.replicate a (-1)++List.replicate (n - a) 0).drop (a+min (n - a) a)=List.replicate (a+min (n - a) a) (-1)++List.replicate (n - (a+min (n - a) a)) 0:=by
     rw [List.take_replicate,List.replicate_append_replicate,List.drop_append,List.length_replicate,List.drop_eq_nil_of_le (by simp),List.nil_append,List.drop_replicate]
     congr 2
     omega
    rw [e]
    exact aM (by omega) (ih (a+min (n - a) a) (by omega) (by omega) (by omega))
   ·have : a=n:=by rw [hl] at h;omega
    subst this
    simp
theorem aIg {P : R→Prop} {k : PV→Option R} {a : Int} (h1 : 0≤a∧a≤2097152) (h : Ok P (k (.int .u64 a))) : Ok P (bd (PV.bin .and (.int .u64 a) (.int .u64 4294967295)) k):=
 cK _ (by
  obtain ⟨n,rfl⟩:=Int.eq_ofNat_of_zero_le h1.1
  rw [gN (by simp) (by simp)]
  simp only [PV.intBin]
  have hb : IntKind.u64.bits=64:=rfl
  have e : (BitVec.ofInt 64 (n : Int)&&& BitVec.ofInt 64 4294967295).toNat=n:=by
   rw [BitVec.toNat_and,BitVec.ofInt_natCast,BitVec.toNat_ofNat]
   have : (BitVec.ofInt 64 4294967295).toNat=2 ^ 32 - 1:=by decide
   rw [this,Nat.and_two_pow_sub_one_eq_mod,Nat.mod_eq_of_lt (by omega),Nat.mod_eq_of_lt (by omega)]
  rw [hb,e,u64_in _ (by omega)]) h
theorem zL {P : R→Prop} {k : PV→Option R} {a : Int} (h1 : 0≤a∧a≤2097152) (h : Ok P (k (.int .u64 0))) : Ok P (bd (PV.bin .shr (.int .u64 a) (.int .u64 32)) k):=
 cK _ (by
  simp only [PV.bin]
  rw [if_neg (by omega)]
  have : a.fdiv (2 ^ min (Int.toNat 32) IntKind.u64.bits)=0:=by
   have e : (2 : Int) ^ min (Int.toNat 32) IntKind.u64.bits=4294967296:=by decide
   rw [e,Int.fdiv_eq_ediv_of_nonneg _ (by omega)]
   omega
  rw [this]) h
theorem zM {P : R→Prop} {k : PV→Option R} {a b : Int} (h1 : 0≤a*b∧a*b≤2097152) (h : Ok P (k (.int .u64 (a*b)))) : Ok P (bd (PV.bin .mul (.int .u64 a) (.int .u64 b)) k):=
 cK _ (by rw [gN (by simp) (by simp)];simp only [PV.intBin];rw [u64_in _ (by omega)]) h
theorem aCI {P : R→Prop} {k : PV→Option R} {a b : Int} (h1 : 0≤a+b∧a+b≤2097152) (h : Ok P (k (.int .u64 (a+b)))) : Ok P (bd (PV.bin .add (.int .u64 a) (.int .u64 b)) k):=
 cK _ (by rw [gN (by simp) (by simp)];simp only [PV.intBin];rw [u64_in _ (by omega)]) h
theorem aMU {P : R→Prop} {k : PV→Option R} {a : Int} {kk : IntKind} (h1 : 0≤a∧a≤2097152) (h : Ok P (k (.int .u64 a))) : Ok P (bd (PV.conv .u64 (.int kk a)) k):=cK _ (by simp only [PV.conv];rw [u64_in _ (by omega)]) h
theorem aLZ {n : Nat} (h1 : 1≤n) (hn : n≤1000) : Ok (fun r=>r = [dV (List.replicate n (-1))]) (jD (.lst [.int .i64 (-1)]) (.int .i64 n)):=by
 rw [uL]
 refine aH (aC (fun h=>by omega) (fun _=>?_))
 rw [qT]
 refine bS (aMU (by simp) (aMU (by omega) ?_))
 refine aG (Q:=fun r=>r = [.tup [.int .u64 0,.int .u64 n]]) ?_ (fun r hr=>?_)
 ·rw [aDy,aBC]
  simp only [List.length_cons,List.length_nil]
  refine aG (Q:=fun r=>r = [.tup [.int .u64 0,.int .u64 n]]) ?_ (fun r hr=>?_)
  ·refine aIg (by omega) (zL (by omega) (aIg (by omega) (zL (by omega) ?_)))
   refine zM (by omega) (zM (by omega) (zL (by omega) (aCI (by omega) ?_)))
   refine aIg (by omega) (zL (by omega) (zM (by omega) (aCI (by omega) ?_)))
   refine zM (by omega) (aCI (by omega) (zL (by omega) (aCI (by omega) (zM (by omega) (aB ?_)))))
   simp
  ·subst hr
   exact aR rfl (aR rfl (aB rfl))
 subst hr
 refine aR rfl (aR rfl (mX (aC (fun h=>by omega) (fun _=>mX (aC (fun h=>by omega) (fun _=>?_))))))
 rw [qU]
 refine aMK (by omega) (aJu (by omega) (by omega) (lB (aC (fun _=>?_) (fun h=>by omega))))
 refine aJu (by omega) (by omega) (bS ?_)
 rw [List.length_replicate]
 refine aJt (lo:=0) (by omega) (by simp) (by simp;omega) (aHx (lo:=0) (by omega) (by simp) (by simp;omega) (aCH (l:=[-1])) ?_)
 have:=aJv hn n 1 (by omega) (by omega) h1
 have e : (min (n - 0) [PV.int .i64 (-1)].length : Nat)=1:=by simp;omega
 rw [e]
 have e2 : (List.replicate n (PV.int .i64 0)).take 0++[PV.int .i64 (-1)].take (n - 0)++(List.replicate n (PV.int .i64 0)).drop (0+1)=(List.replicate 1 (-1 : Int)++List.replicate (n - 1) 0).map (PV.int .i64):=by
  rw [List.take_zero,List.nil_append,List.take_of_length_le (by simp;omega),List.drop_replicate]
  simp
 rw [e2]
 exact this
end
noncomputable section
open Go
attribute [local irreducible] bd PV.ite PV.guardFlat PV.guardOwn PV.whole PV.one PV.cell PV.sub PV.at_ PV.len PV.slen PV.chr PV.beq PV.peq PV.ceq PV.bin PV.neg PV.not PV.conv PV.cut PV.scut PV.cat PV.setAt PV.setCell PV.ncopy PV.copyIn PV.zeros PV.toStr PV.toBytes PV.deref PV.isPtr PV.comp PV.inb PV.off PV.imin PV.imax PV.sel PV.apply PV.isLst PV.isInt PV.ix PV.nilT
section
variable {fs : List cN} {code : List bE} {T : PV} (F : Fit fs code)
include F
theorem aHy {x : bE} (hx : x∈code) {h : Int} (hh : -1≤h∧h≤16) : Ok (fun r=>r = [.tup [.int .i64 (gE fs x h),.bool (can fs x h)]]) (tE (.agg [T,.lst (fs.map cN.pv)]) x.pv (.int .i64 h)):=by
 have hu:=F.u x hx
 have hnf:=F.nf
 rw [aF2]
 refine aD rfl (aA rfl (aA rfl (aD rfl (aA rfl (aA rfl ?_)))))
 refine aG (aHt (x:=x) (T:=T) (by omega)) (fun r hr=>?_)
 subst hr
 refine aR rfl (aR rfl (bW (by omega) (aM (by omega) (lB (aC (fun h1=>?_) (fun h1=>aB ?_))))))
 ·refine lB (aB ?_)
  unfold can gE
  rw [decide_eq_true h1];rfl
 ·unfold can gE
  rw [decide_eq_false h1];rfl
theorem aL0 {P : R→Prop} {pc : Nat} (hpc : pc<code.length) {left : Int} {b : Bool} {ts : List Int} (hts : ∀ t∈ts,0≤t∧t≤code.length) (hn : ts.length≤10) {s : Hs} (hs : s.1.length=code.length)
 (h : Ok P (fZ (.lst (code.map bE.pv)) (.bool (if b then ts.foldl (qX left) s else s).2) (.lst (code.map bE.pv)) (.int .i64 code.length) (.int .i64 ((pc : Int)+1)) T (.lst (fs.map cN.pv)) (dV (if b then ts.foldl (qX left) s else s).1))) :
 Ok P (eU (.lst (code.map bE.pv)) (.bool s.2) (.int .i64 left) (.bool b) (.lst (code.map bE.pv)) (.int .i64 code.length) (.int .i64 pc) (dV ts) (.int .i64 ts.length) (.int .i64 0) T (.lst (fs.map cN.pv)) (dV s.1)):=by
 have hn2:=F.n2
 refine aDF (n:=ts.length) (F:=fun i (q : Hs)=>eU (.lst (code.map bE.pv)) (.bool q.2) (.int .i64 left) (.bool b) (.lst (code.map bE.pv)) (.int .i64 code.length) (.int .i64 pc) (dV ts) (.int .i64 ts.length) (.int .i64 i) T (.lst (fs.map cN.pv)) (dV q.1))
  (fun i q=>q.1.length=code.length∧(if b then (ts.drop i).foldl (qX left) q else q)=(if b then ts.foldl (qX left) s else s)) ?_ ?_ 0 s (by omega) ⟨hs,by rw [List.drop_zero]⟩
 ·rintro q ⟨hq,he⟩
  rw [List.drop_length] at he
  have he : q=(if b then ts.foldl (qX left) s else s):=by rw [← he];split<;>rfl
  subst he
  rw [sM]
  exact aH (aC (fun h=>by omega) (fun _=>aM (by omega) h))
 ·rintro i q hi ⟨hq,he⟩ ih
  have ht:=hts ts[i] (List.getElem_mem _)
  rw [List.drop_eq_getElem_cons hi,List.foldl_cons] at he
  rw [sM]
  refine aH (aC (fun _=>?_) (fun h=>by omega))
  refine cZ hi (bQ (fun hb=>?_) (fun hb=>?_))
  ·subst hb
   simp only [if_true] at he ih
   refine aE (aH (aC (fun h1=>?_) (fun h1=>?_)))
   ·refine fU (by omega) (by omega) (tS (by omega) (by omega) (fun v hv=>?_))
    refine aH (aC (fun h2=>?_) (fun h2=>?_))
    ·rw [aBw]
     refine fU (by omega) (by omega) ?_
     obtain ⟨t,et⟩:=Int.eq_ofNat_of_zero_le ht.1
     rw [et]
     refine tR (by omega) (aM (by omega) ?_)
     refine ih (q.1.set t left,true) ⟨by simpa using hq,?_⟩
     rw [aLd (by omega) (by rw [hv];exact h2),et] at he
     exact he
    ·refine aM (by omega) (ih q ⟨hq,?_⟩)
     rw [aIf (by rw [hv];simp only [Option.getD_some];omega)] at he
     exact he
   ·refine aM (by omega) (ih q ⟨hq,?_⟩)
    rw [aIf (by omega)] at he
    exact he
  ·subst hb
   exact aM (by omega) (ih q ⟨hq,he⟩)
theorem aNN {x : bE} (hx : x∈code) {h : Int} (hh : h<0) : can fs x h=false:=by
 have hu:=F.u x hx
 simp only [can]
 rw [decide_eq_false (by omega)];rfl
theorem aGc {P : R→Prop} {s : List Int} (hs : xN code.length s)
 (h : Ok P (kB (.lst (code.map bE.pv)) (.bool (pR fs code s).2) T (.lst (fs.map cN.pv)) (dV (pR fs code s).1))) :
 Ok P (fZ (.lst (code.map bE.pv)) (.bool false) (.lst (code.map bE.pv)) (.int .i64 code.length) (.int .i64 0) T (.lst (fs.map cN.pv)) (dV s)):=by
 have hn2:=F.n2
 have hnf:=F.nf
 refine aDF (n:=code.length) (F:=fun i (q : Hs)=>fZ (.lst (code.map bE.pv)) (.bool q.2) (.lst (code.map bE.pv)) (.int .i64 code.length) (.int .i64 i) T (.lst (fs.map cN.pv)) (dV q.1))
  (fun i q=>xN code.length q.1∧(List.range' i (code.length - i)).foldl (xM fs code) q=pR fs code s) ?_ ?_ 0 (s,false) (by omega) ⟨hs,rfl⟩
 ·rintro q ⟨hq,he⟩
  rw [Nat.sub_self] at he
  have he : q=pR fs code s:=he
  subst he
  rw [tO]
  exact aH (aC (fun h=>by omega) (fun _=>h))
 ·rintro i q hi ⟨hq,he⟩ ih
  have e1 : code.length - i=(code.length - (i+1))+1:=by omega
  rw [e1,List.range'_succ,List.foldl_cons] at he
  have hx : code[i]? = some code[i]:=List.getElem?_eq_getElem hi
  have hm : code[i]∈code:=List.getElem_mem _
  have hil : i<q.1.length:=by rw [hq.1];exact hi
  have hv:=hq.at i
  have e2 : q.1[i]=q.1[i]?.getD 0:=aEV hil
  have hone:=hq.one F i
  have hgo:=ih (xM fs code q i) ⟨hone,he⟩
  have eo : xM fs code q i=if can fs code[i] (q.1[i]?.getD 0) then (fI code[i] i).foldl (qX (gE fs code[i] (q.1[i]?.getD 0))) q else q:=by
   conv=>lhs;unfold xM
   rw [hx]
  generalize hw : q.1[i]?.getD 0=w at *
  rw [tO]
  refine aH (aC (fun _=>?_) (fun h=>by omega))
  refine aQ hi (fun _=>rfl) (aD rfl (aA rfl (aA rfl ?_)))
  refine fU (by omega) (by omega) (cZ hil ?_)
  rw [e2]
  refine aH (aC (fun h1=>?_) (fun h1=>?_))
  ·rw [aNN F hm h1,if_neg (by simp)] at eo
   rw [eo] at hgo
   exact aM (by omega) hgo
  refine fU (by omega) (by omega) (cZ hil ?_)
  rw [e2]
  refine aG (aHy (T:=T) F hm hv) (fun r hr=>?_)
  subst hr
  refine aR rfl (aR rfl (aG (aHv (x:=code[i]) (by omega)) (fun r hr=>?_)))
  subst hr
  refine dY ?_
  refine aL0 F hi (zK F hm hi) (by unfold fI;repeat' split<;>simp) hq.1 ?_
  rw [← eo]
  exact hgo
theorem aL1 : ∀ (j : Nat) (s : List Int),nn s≤j→xN code.length s→Ok (fun r=>r = [dV (aCG fs code (j+1) s)]) (kB (.lst (code.map bE.pv)) (.bool true) T (.lst (fs.map cN.pv)) (dV s)):=by
 intro j
 induction j with
 | zero=>
   intro s hs hg
   rw [jO]
   refine aW (aE (aGc F hg ?_))
   rcases Dec.pass F s with h | ⟨h,h2⟩
   ·unfold aCG
    rw [h,jO]
    exact aV (aB rfl)
   ·have h3 : nn (pR fs code s).1<nn s:=h2
    omega
 | succ j ih=>
   intro s hs hg
   rw [jO]
   refine aW (aE (aGc F hg ?_))
   rcases Dec.pass F s with h | ⟨h,h2⟩
   ·unfold aCG
    rw [h,jO]
    exact aV (aB rfl)
   ·rw [aCG,h,if_pos rfl]
    exact ih _ (by have h3 : nn (pR fs code s).1<nn s:=h2;omega) (hg.pass F)
theorem aL2 (l : List Int) : PV.flatO (.own 1 8 false []) (dV l)=true:=by
 clear F
 show PV.flatEs false [] (l.map (PV.int .i64))=true
 induction l with
 | nil=>simp [PV.flatEs]
 | cons x r ih=>simp [PV.flatEs,PV.flatE,PV.flat,ih]
theorem aGd {f : Nat} (hf : f<fs.length) (hc : fs[f].code=code) : Ok (fun r=>r = [dV (oM fs code)]) (yZ (.agg [T,.lst (fs.map cN.pv)]) (.int .i64 f)):=by
 have hn2:=F.n2
 have hn1:=F.n1
 rw [aF1]
 refine aD rfl (aA rfl (aA rfl (aQ hf (fun _=>rfl) (aA (y:=.lst (code.map bE.pv)) (by rw [← hc];rfl) (aE ?_)))))
 refine aG (aLZ hn1 (by omega)) (fun r hr=>?_)
 subst hr
 refine dK (aL2 F _) (fU (by omega) (by rw [List.length_replicate];omega) (tR (i:=0) (by rw [List.length_replicate];omega) ?_))
 exact aL1 F code.length _ (by have:=(xN.start (n:=code.length)).1;unfold nn;exact Nat.le_trans List.countP_le_length (by omega)) xN.start
end
theorem dT.okB_fit {m : dT} (h : m.okB=true) : 1≤m.funcs.length∧m.funcs.length≤12∧∀ f∈m.funcs,Fit m.funcs f.code∧0≤f.p∧f.p≤6∧f.p≤f.lc∧f.lc≤12:=by
 simp only [dT.okB,Bool.and_eq_true,bL,decide_eq_true_eq,List.all_eq_true,sO] at h
 obtain ⟨⟨h1,h2⟩,_,_,h3⟩:=h
 have hp : ∀ i : Int,0≤eJ m.funcs i∧eJ m.funcs i≤6:=by
  intro i
  unfold eJ
  cases hx : m.funcs[i.toNat]? with
  | none=>simp
  | some f=>exact (h3 f (List.mem_of_getElem? hx)).1
 refine ⟨by omega,by omega,fun f hf=>?_⟩
 obtain ⟨p1,p2,p3,p4⟩:=h3 f hf
 refine ⟨⟨by omega,by omega,by omega,fun x hx=>?_,fun x hx hj=>?_⟩,p1.1,p1.2,p2.1,p2.2⟩
 ·have:=hp x.a
  unfold aT
  repeat' split
  all_goals (simp only;omega)
 ·have:=p4 x hx
  unfold bU at this
  rcases hj with hj | hj | hj<;>simp [hj,iP] at this<;>omega
end
noncomputable section
open Go Go.IntWalk
attribute [local irreducible] bd PV.ite PV.guardFlat PV.guardOwn PV.whole PV.one PV.cell PV.sub PV.at_ PV.len PV.slen PV.chr PV.beq PV.peq PV.ceq PV.bin PV.neg PV.not PV.conv PV.cut PV.scut PV.cat PV.setAt PV.setCell PV.ncopy PV.copyIn PV.zeros PV.toStr PV.toBytes PV.deref PV.isPtr PV.comp PV.inb PV.off PV.imin PV.imax PV.sel PV.apply PV.isLst PV.isInt PV.ix PV.nilT
structure cH where
 f : Int
 pc : Int
 loc : List cO
 stk : List cO
def aO (l : List cO) : PV:=.lst (l.map cO.pv)
def cH.pv (f : cH) : PV:=.agg [.int .i64 f.f,.int .i64 f.pc,aO f.loc,aO f.stk]
def dO (r : List cO) : PV:=.agg [aO r]
theorem aAj {l : List cO} : ∀ x∈l.map cO.pv,x.isEl 3 true=true:=by
 intro x hx
 obtain ⟨a,_,rfl⟩:=List.mem_map.1 hx
 rfl
section
variable {P : R → Prop} {k : PV → Option R}
theorem bN {A cs : List PV} {s : Nat} {i : Int} (hi : i=A.length) (hs : cs.length=s) (h : Ok P (k (.agg cs))) : Ok P (bd (PV.at_ s true (.lst (A++[.agg cs])) (.int .i64 i)) k):=
 cK _ (by
  subst hi
  simp only [PV.at_]
  rw [if_pos (by omega),Int.toNat_natCast,List.getElem?_append_right (Nat.le_refl _),Nat.sub_self]
  simp only [List.getElem?_cons_zero]
  rw [if_pos (by simp [PV.isEl,hs])]) h
theorem cC {A cs : List PV} {s off : Nat} {i : Int} {v : PV} (hi : i=A.length) (hs : cs.length=s) (ho : off<s) (hv : v.isEl 1 false=true) (h : Ok P (k (.lst (A++[.agg (cs.set off v)])))) :
 Ok P (bd (PV.setCell s (.lst (A++[.agg cs])) (.int .i64 i) off v) k):=by
 subst hi
 refine aA3 (by omega) (cs:=cs) (by rw [Int.toNat_natCast,List.getElem?_append_right (Nat.le_refl _),Nat.sub_self];rfl) hs ho hv ?_
 rw [Int.toNat_natCast,List.set_append_right _ _ (Nat.le_refl _),Nat.sub_self]
 exact h
theorem mA {l : List cO} {i : Int} (h0 : 0≤i) (h1 : i<l.length) (h : ∀ v,l[i.toNat]? = some v→Ok P (k v.pv)) : Ok P (bd (PV.at_ 3 true (aO l) (.int .i64 i)) k):=by
 refine aML h0 (by rw [List.length_map];exact h1) aAj (fun x _ hx=>?_)
 rw [List.getElem?_map] at hx
 cases hl : l[i.toNat]? with
 | none=>rw [hl] at hx;cases hx
 | some v=>rw [hl] at hx;cases hx;exact h v hl
theorem dP {l : List cO} (h : Ok P (k (.int .i64 l.length))) : Ok P (bd (PV.len (aO l)) k):=aE h
theorem eV {l : List cO} {i : Int} (h0 : 0≤i) (h1 : i<l.length) (h : Ok P (k (aO l))) : Ok P (bd (PV.inb (aO l) (.int .i64 i)) k):=vQ h0 (by rw [List.length_map];exact h1) h
theorem fV {l : List cO} {m n : Int} (h0 : 0≤m) (h1 : m≤n) (h2 : n≤l.length) (h : Ok P (k (aO ((l.take n.toNat).drop m.toNat)))) : Ok P (bd (PV.cut 3 true (aO l) (.int .i64 m) (.int .i64 n)) k):=by
 refine yJ h0 h1 (by rw [List.length_map];exact h2) aAj ?_
 rw [← List.map_take,← List.map_drop]
 exact h
theorem gU {l m : List cO} (hb : l.length+m.length≤1000000000) (h : Ok P (k (aO (l++m)))) : Ok P (bd (PV.cat 3 32 true (aO l) (.lst (m.map cO.pv))) k):=by
 refine lW (by simp only [List.length_map];omega) aAj ?_
 rw [← List.map_append]
 exact h
theorem mH {l : List cO} {i : Int} {v : cO} (h0 : 0≤i) (h1 : i<l.length) (h : Ok P (k (aO (l.set i.toNat v)))) : Ok P (bd (PV.setAt 3 true (aO l) (.int .i64 i) v.pv) k):=by
 refine aCe h0 (by rw [List.length_map];exact h1) rfl ?_
 rw [← List.map_set]
 exact h
theorem tT {n : Int} (h0 : 0≤n) (h1 : n≤1000000000) (h : Ok P (k (aO (List.replicate n.toNat eD)))) : Ok P (bd (PV.zeros 32 (.agg [.int .i64 0,.int .i64 0,.str (bs [])]) (.int .i64 n)) k):=by
 obtain ⟨m,rfl⟩:=Int.eq_ofNat_of_zero_le h0
 refine cK _ ?_ h
 simp only [PV.zeros]
 rw [if_pos ⟨by omega,by omega,by omega⟩,Int.toNat_natCast,aO,List.map_replicate]
 rfl
end
section
variable {P : R → Prop} {k : R → Option R} {a0 a1 a2 a3 a4 a5 a6 a7 a8 a9 H O : PV} {A : List PV}
theorem zN {x : PV} (hA : A.length≤2097152) (h : Ok P (k [.int .i64 A.length,a0,a1,a2,a3,a4,a5,a6,a7,a8,a9,.lst (A++[x]),H,O])) :
 Ok P (bd (dX a0 a1 a2 a3 a4 a5 a6 a7 a8 a9 (.lst (A++[x])) H O) k):=by
 refine aG (Q:=fun r=>r = [.int .i64 A.length,a0,a1,a2,a3,a4,a5,a6,a7,a8,a9,.lst (A++[x]),H,O]) ?_ (fun r hr=>by rw [hr];exact h)
 rw [zE]
 have e : ((A++[x]).length : Int) - 1=A.length:=by simp
 refine bS (bW (by simp;omega) ?_)
 rw [e]
 exact vQ (by omega) (by simp;omega) (aB rfl)
theorem fK {f pc : Int} {loc s : List cO} {v : cO} (hA : A.length≤2097152) (hs : s.length≤2097152)
 (h : Ok P (k [v.pv,a0,a1,a2,a3,a4,a5,a6,a7,a8,a9,.lst (A++[cH.pv ⟨f,pc,loc,s⟩]),H,O])) :
 Ok P (bd (aU a0 a1 a2 a3 a4 a5 a6 a7 a8 a9 (.lst (A++[cH.pv ⟨f,pc,loc,s++[v]⟩])) H O) k):=by
 refine aG (Q:=fun r=>r = [v.pv,a0,a1,a2,a3,a4,a5,a6,a7,a8,a9,.lst (A++[cH.pv ⟨f,pc,loc,s⟩]),H,O]) ?_ (fun r hr=>by rw [hr];exact h)
 rw [aBB]
 have e : ((s++[v]).length : Int) - 1=s.length:=by simp
 have hl : (s++[v]).length=s.length+1:=by simp
 have at3 : ∀ {P : R→Prop} {k : PV→Option R},Ok P (k (aO (s++[v])))→Ok P (bd (PV.at_ 4 true (.lst (A++[cH.pv ⟨f,pc,loc,s++[v]⟩])) (.int .i64 A.length)) fun x=>bd (PV.cell x 3) k):=
  fun h=>bN rfl rfl (aA rfl h)
 have at_ : ∀ {P : R→Prop} {k : PV→Option R},(∀ x,Ok P (k x))→Ok P (bd (PV.at_ 4 true (.lst (A++[cH.pv ⟨f,pc,loc,s++[v]⟩])) (.int .i64 A.length)) k):=
  fun h=>bN rfl rfl (h _)
 have el : (s++[v])[(s.length : Int).toNat]? = some v:=by rw [Int.toNat_natCast,List.getElem?_append_right (Nat.le_refl _),Nat.sub_self];rfl
 refine zN hA (at_ (fun _=>at_ (fun _=>at3 (dP (bW (by omega) ?_)))))
 rw [e]
 refine at3 (eV (by omega) (by omega) (at3 (mA (by omega) (by omega) (fun w hw=>?_))))
 rw [el] at hw
 cases hw
 refine aD rfl (aA rfl (aA rfl (aA rfl (at_ (fun _=>at_ (fun _=>at3 (dP (bW (by omega) ?_))))))))
 rw [e]
 refine at3 (fV (by omega) (by omega) (by omega) (at3 (fV (by omega) (by omega) (by omega) (at3 ?_))))
 refine cC rfl rfl (by omega) rfl (cC rfl rfl (by omega) rfl (aB ?_))
 simp only [Int.toNat_natCast,Int.toNat_zero,List.drop_zero,List.take_left']
 rfl
theorem aEW {f pc : Int} {loc s : List cO} {v : cO} (hA : A.length≤2097152) (hs : s.length≤2097152)
 (h : Ok P (k [a0,a1,a2,a3,a4,a5,a6,a7,a8,a9,.lst (A++[cH.pv ⟨f,pc,loc,s++[v]⟩]),H,O])) :
 Ok P (bd (fW v.pv a0 a1 a2 a3 a4 a5 a6 a7 a8 a9 (.lst (A++[cH.pv ⟨f,pc,loc,s⟩])) H O) k):=by
 refine aG (Q:=fun r=>r = [a0,a1,a2,a3,a4,a5,a6,a7,a8,a9,.lst (A++[cH.pv ⟨f,pc,loc,s++[v]⟩]),H,O]) ?_ (fun r hr=>by rw [hr];exact h)
 rw [aAs]
 refine aD rfl (aA rfl (aA rfl (aA rfl (zN hA ?_))))
 refine bN rfl rfl (bN rfl rfl (aA rfl (bN rfl rfl (aA rfl ?_))))
 refine cC rfl rfl (by omega) rfl (gU (m:=[v]) (by simp;omega) (cC rfl rfl (by omega) rfl (aB rfl)))
theorem gD {f pc : Int} {loc s : List cO} {vk vn : Int} {vs : ByteArray} (hA : A.length≤2097152) (hs : s.length≤2097152)
 (h : Ok P (k [a0,a1,a2,a3,a4,a5,a6,a7,a8,a9,.lst (A++[cH.pv ⟨f,pc,loc,s++[⟨vk,vn,vs⟩]⟩]),H,O])) :
 Ok P (bd (bC (.int .i64 vk) (.int .i64 vn) (.str vs) a0 a1 a2 a3 a4 a5 a6 a7 a8 a9 (.lst (A++[cH.pv ⟨f,pc,loc,s⟩])) H O) k):=by
 refine aG (Q:=fun r=>r = [a0,a1,a2,a3,a4,a5,a6,a7,a8,a9,.lst (A++[cH.pv ⟨f,pc,loc,s++[⟨vk,vn,vs⟩]⟩]),H,O]) ?_ (fun r hr=>by rw [hr];exact h)
 rw [wJ]
 refine zN hA ?_
 refine bN rfl rfl (bN rfl rfl (aA rfl (bN rfl rfl (aA rfl ?_))))
 refine cC rfl rfl (by omega) rfl (gU (m:=[⟨vk,vn,vs⟩]) (by simp;omega) (cC rfl rfl (by omega) rfl (aB rfl)))
end
inductive aJw where
 | trap (c : Int)
 | next (fr : cH) (hp : List (List cO)) (made : Int) (out : List ByteArray)
 | call (fr : cH) (g : cH)
 | ret (v : cO)
def iG (v : cO) (hp : List (List cO)) : ByteArray:=
 if v.k=0 then bs [110,105,108] else if v.k=1 then jQ v.n else if v.k=2 then (if v.n=1 then bs [116,114,117,101] else bs [102,97,108,115,101]) else if v.k=3 then v.s
 else if v.k=5 then bs [102,117,110]++jQ v.n
 else if v.k=4 then bs [123]++jQ ((hp[v.n.toNat]?.getD []).length)++bs [125] else bs []
def wN (fs : List cN) (i : Int) : Int:=(fs[i.toNat]?.map cN.lc).getD 0
def qA (fs : List cN) (g : Int) (args : List cO) : cH:=⟨g,0,args++List.replicate ((wN fs g).toNat - args.length) eD,[]⟩
def dJ (m : dT) (fr : cH) (took : List cO) (depth : Nat) (hp : List (List cO)) (made : Int) (out : List ByteArray) (x : bE) : aJw:=
 let a:=took.headD eD
 let b:=took.tail.headD eD
 let go : List cO→aJw:=fun l=>.next ⟨fr.f,fr.pc,fr.loc,fr.stk++l⟩ hp made out
 let rec_ : List cO:=hp[a.n.toNat]?.getD []
 if x.o=1 then go [aCA x.a]
 else if x.o=2 then go [mG (decide (x.a=1))]
 else if x.o=3 then go [aCB (m.texts[x.a.toNat]?.getD (bs []))]
 else if x.o=4 then go [eD]
 else if x.o=5 then go [aLW x.a]
 else if x.o=6 then go [fr.loc[x.a.toNat]?.getD eD]
 else if x.o=7 then .next ⟨fr.f,fr.pc,fr.loc.set x.a.toNat a,fr.stk⟩ hp made out
 else if x.o=8 then go [a,a]
 else if x.o=9 then go []
 else if x.o=10 then go [b,a]
 else if x.o≤15 then (if (nS x.o a b).2≠0 then .trap (nS x.o a b).2 else go [(nS x.o a b).1])
 else if x.o=16 then (if (zI a).2≠0 then .trap (zI a).2 else go [(zI a).1])
 else if x.o=17 then .next ⟨fr.f,x.a,fr.loc,fr.stk⟩ hp made out
 else if x.o≤19 then (if a.k≠2 then .trap 1 else if (decide (a.n=1)==decide (x.o=18))=true then .next ⟨fr.f,x.a,fr.loc,fr.stk⟩ hp made out else go [])
 else if x.o=20 then (if made=120 then .trap 7 else .next ⟨fr.f,fr.pc,fr.loc,fr.stk++[aLV hp.length]⟩ (hp++[List.replicate x.a.toNat eD]) (made+1) out)
 else if x.o=21 then (if a.k≠4 then .trap 1 else if rec_.length≤x.a then .trap 4 else go [rec_[x.a.toNat]?.getD eD])
 else if x.o=22 then (if a.k≠4 then .trap 1 else if rec_.length≤x.a then .trap 4 else .next fr (hp.set a.n.toNat (rec_.set x.a.toNat b)) made out)
 else if x.o=23 then (if a.k≠5 then .trap 1 else if eJ m.funcs a.n≠x.a then .trap 5 else if depth=24 then .trap 6 else .call fr (qA m.funcs a.n took.tail))
 else if x.o=24 then (if depth=24 then .trap 6 else .call fr (qA m.funcs x.a took))
 else if x.o=25 then .ret a
 else if out.length=200 then .trap 8 else .next fr hp made (out++[iG a hp])
theorem aIh {v : cO} {hp : List (List cO)} {nf : Int} (hnf : nf≤1000) (hh : hp.length≤1000) (hr : ∀ r∈hp,r.length≤1000) (hv : bF nf hp.length v=true) :
 Ok (fun r=>r = [.str (iG v hp)]) (sB v.pv (.lst (hp.map dO))):=by
 have hn : -1000000000≤v.n∧v.n≤1000000000∧(v.k=4→0≤v.n∧v.n<hp.length)∧0≤v.k∧v.k≤5:=by
  unfold bF at hv
  repeat' split at hv
  all_goals first
   | (cases hv;done)
   | (simp only [bY,bL,Bool.and_eq_true,decide_eq_true_eq] at hv;omega)
 rw [aCr]
 refine aD rfl (aA rfl (aA rfl (aA rfl ?_)))
 refine aF (aC (fun h=>aB ?_) (fun h0=>aF (aC (fun h=>?_) (fun h1=>aF (aC (fun h=>?_) (fun h2=>aF (aC (fun h=>aB ?_) (fun h3=>aF (aC (fun h=>?_) (fun h5=>?_))))))))))
 ·unfold iG;rw [if_pos h]
 ·refine aG (zJ (by omega)) (fun r hr=>?_)
  subst hr
  refine aB ?_
  unfold iG;rw [if_neg h0,if_pos h];rfl
 ·refine aF (aC (fun h'=>aB ?_) (fun h'=>aB ?_))
  ·unfold iG;rw [if_neg h0,if_neg h1,if_pos h,if_pos h']
  ·unfold iG;rw [if_neg h0,if_neg h1,if_pos h,if_neg h']
 ·unfold iG;rw [if_neg h0,if_neg h1,if_neg h2,if_pos h]
 ·refine aG (zJ (by omega)) (fun r hr=>?_)
  subst hr
  have:=qW v.n
  refine iQ (by have e : (bs [102,117,110]).size=3:=rfl
                omega) (aB ?_)
  unfold iG;rw [if_neg h0,if_neg h1,if_neg h2,if_neg h3,if_pos h]
 ·refine aF (aC (fun h4=>?_) (fun h4=>by omega))
  refine aE (bW (by omega) (fD ?_))
  rw [show iP v.n 0 (hp.length - 1)=true from bL.2 (by omega)]
  refine aW ?_
  obtain ⟨i,hi⟩:=Int.eq_ofNat_of_zero_le (hn.2.2.1 h4).1
  have hil : i<hp.length:=by omega
  rw [hi]
  have hrl:=hr _ (List.getElem_mem hil)
  refine aQ hil (fun _=>rfl) (aA rfl (dP ?_))
  refine aG (zJ (by omega)) (fun r hr=>?_)
  subst hr
  have:=qW ((hp[i].length : Nat) : Int)
  have e1 : (bs [123]).size=1:=rfl
  have e2 : (bs [125]).size=1:=rfl
  refine iQ (by omega) (iQ (by rw [ByteArray.size_append];omega) (aB ?_))
  unfold iG;rw [if_neg h0,if_neg h1,if_neg h2,if_neg h3,if_neg h5,if_pos h4,hi,Int.toNat_natCast,List.getElem?_eq_getElem hil]
  rfl
section
variable {a2 a3 a4 a5 a6 a7 a8 H O T : PV} {A : List PV} {fs : List cN}
theorem aJx {P : R→Prop} {g : Int} {loc : List cO} (hA : A.length≤1000) (h : P [T,.lst (fs.map cN.pv),a2,a3,a4,a5,a6,a7,a8,.int .i64 0,.lst (A++[cH.pv ⟨g,0,loc,[]⟩]),H,O]) :
 Ok P (gQ (.int .i64 g) T (.lst (fs.map cN.pv)) a2 a3 a4 a5 a6 a7 a8 (.int .i64 0) (.lst A) H O (aO loc)):=by
 rw [uZ]
 refine bA rfl (lW (by simp;omega) (fun x hx=>by simp only [List.mem_singleton] at hx;subst hx;rfl) (aB h))
theorem aNO {P : R→Prop} {g f pc : Int} {under : Bool} {loc s s1 : List cO} (hA : A.length≤100) (hs : s.length≤100) (hu : (under=true∧∃ w,s=s1++[w])∨(under=false∧s=s1)) :
 ∀ (j : Nat) (args post pre : List cO),args.length=j→pre.length=j→j+post.length≤50→
 P [T,.lst (fs.map cN.pv),a2,a3,a4,a5,a6,a7,a8,.int .i64 0,.lst (A++[cH.pv ⟨f,pc,loc,s1⟩]++[cH.pv ⟨g,0,args++post,[]⟩]),H,O]→
 Ok P (hJ (.int .i64 g) (.bool under) (.int .i64 ((j : Int) - 1)) T (.lst (fs.map cN.pv)) a2 a3 a4 a5 a6 a7 a8 (.int .i64 0) (.lst (A++[cH.pv ⟨f,pc,loc,s++args⟩])) H O (aO (pre++post))):=by
 intro j
 induction j with
 | zero=>
   intro args post pre h1 h2 h3 h
   rw [List.eq_nil_of_length_eq_zero h1,List.nil_append] at h
   rw [List.eq_nil_of_length_eq_zero h1,List.eq_nil_of_length_eq_zero h2,List.append_nil,List.nil_append,nO]
   refine oF (aC (fun h=>by omega) (fun _=>?_))
   rcases hu with ⟨rfl,w,rfl⟩ | ⟨rfl,rfl⟩
   ·refine aW (fK (by omega) (by simp at hs;omega) ?_)
    exact aJx (by simp;omega) h
   ·exact aV (aJx (by simp;omega) h)
 | succ j ih=>
   intro args post pre h1 h2 h3 h
   obtain ⟨args',v,rfl⟩ : ∃ l v,args=l++[v]:=⟨args.dropLast,args.getLast (fun e=>by rw [e] at h1;simp at h1),(List.dropLast_concat_getLast _).symm⟩
   obtain ⟨pre',u,rfl⟩ : ∃ l v,pre=l++[v]:=⟨pre.dropLast,pre.getLast (fun e=>by rw [e] at h2;simp at h2),(List.dropLast_concat_getLast _).symm⟩
   simp only [List.length_append,List.length_cons,List.length_nil,Nat.zero_add,Nat.add_right_cancel_iff] at h1 h2
   have ej : ((j+1 : Nat) : Int) - 1=j:=by omega
   rw [ej,nO,← List.append_assoc]
   refine oF (aC (fun _=>?_) (fun h=>by omega))
   refine fK (by omega) (by simp;omega) ?_
   have hlen : (pre'++[u]++post).length=j+1+post.length:=by simp;omega
   refine eV (by omega) (by omega) (mH (by omega) (by omega) (bW (by omega) ?_))
   have e : (pre'++[u]++post).set (j : Int).toNat v=pre'++(v::post):=by
    rw [Int.toNat_natCast,← h2,List.append_assoc,List.set_append_right _ _ (Nat.le_refl _),Nat.sub_self]
    rfl
   rw [e]
   refine ih args' (v::post) pre' h1 h2 (by simp;omega) ?_
   rw [show args'++v::post=args'++[v]++post by simp]
   exact h
theorem aJy {P : R→Prop} {k : R→Option R} {g f pc : Int} {under : Bool} {loc s s1 args : List cO} (hF : fs.length≤1000) (hpar : ∀ f∈fs,0≤f.p∧f.p≤6∧f.p≤f.lc∧f.lc≤12) (hA : A.length≤23) (hs : s.length≤100)
 (hu : (under=true∧∃ w,s=s1++[w])∨(under=false∧s=s1)) (hg : 0≤g∧g<fs.length) (ha : args.length=eJ fs g)
 (h1 : A.length=23→Ok P (k [T,.lst (fs.map cN.pv),a2,a3,a4,a5,a6,a7,a8,.int .i64 6,.lst (A++[cH.pv ⟨f,pc,loc,s++args⟩]),H,O]))
 (h2 : A.length≠23→Ok P (k [T,.lst (fs.map cN.pv),a2,a3,a4,a5,a6,a7,a8,.int .i64 0,.lst (A++[cH.pv ⟨f,pc,loc,s1⟩]++[cH.pv (qA fs g args)]),H,O])) :
 Ok P (bd (kT (.int .i64 g) (.bool under) T (.lst (fs.map cN.pv)) a2 a3 a4 a5 a6 a7 a8 (.int .i64 0) (.lst (A++[cH.pv ⟨f,pc,loc,s++args⟩])) H O) k):=by
 obtain ⟨n,rfl⟩:=Int.eq_ofNat_of_zero_le hg.1
 have hn : n<fs.length:=by omega
 have hp:=hpar _ (List.getElem_mem hn)
 have ep : eJ fs (n : Int)=fs[n].p:=by simp [eJ,List.getElem?_eq_getElem hn]
 have el : wN fs (n : Int)=fs[n].lc:=by simp [wN,List.getElem?_eq_getElem hn]
 rw [ep] at ha
 have hl : ((A++[cH.pv ⟨f,pc,loc,s++args⟩]).length : Int)=A.length+1:=by simp
 refine aG (Q:=fun r=>(A.length=23∧r = [T,.lst (fs.map cN.pv),a2,a3,a4,a5,a6,a7,a8,.int .i64 6,.lst (A++[cH.pv ⟨f,pc,loc,s++args⟩]),H,O])∨
  (A.length≠23∧r = [T,.lst (fs.map cN.pv),a2,a3,a4,a5,a6,a7,a8,.int .i64 0,.lst (A++[cH.pv ⟨f,pc,loc,s1⟩]++[cH.pv (qA fs n args)]),H,O])) ?_ ?_
 ·rw [aAt]
  refine aQ hn (fun _=>rfl) (aD rfl (aA rfl (aA rfl (aA rfl (bS ?_)))))
  refine aF (aC (fun h=>aB (.inl ⟨by omega,rfl⟩)) (fun h=>?_))
  refine tT (by omega) (by omega) (lB (aC (fun _=>?_) (fun h=>by omega)))
  refine tT (by omega) (by omega) (bW (by omega) ?_)
  have e1 : fs[n].p - 1=((args.length : Int)) - 1:=by omega
  have e2 : List.replicate fs[n].lc.toNat eD=List.replicate args.length eD++List.replicate (fs[n].lc.toNat - args.length) eD:=by
   rw [List.replicate_append_replicate];congr 1;omega
  rw [e1,e2]
  refine aNO (by omega) hs hu args.length args _ _ rfl (by simp) (by simp;omega) (.inr ⟨by omega,?_⟩)
  simp only [qA,el]
 ·rintro r (⟨h,rfl⟩ | ⟨h,rfl⟩)
  ·exact h1 h
  ·exact h2 h
end
def aCJ (v : cO) : List cH→List cH
 | []=>[]
 | [f]=>[⟨f.f,f.pc,f.loc,f.stk++[v]⟩]
 | f::g::r=>f::aCJ v (g::r)
theorem wO (v : cO) : ∀ (l : List cH) (f : cH),aCJ v (l++[f])=l++[⟨f.f,f.pc,f.loc,f.stk++[v]⟩]
 | [],_=>rfl
 | [a],f=>rfl
 | a::b::l,f=>by
   show a::aCJ v (b::l++[f])=_
   rw [wO v (b::l) f]
   rfl
def DoR (a0 a1 made a3 a4 a5 a6 a7 a8 H O : PV) (fs0 : List cH) : aJw→R→Prop
 | .trap c,r=>c≠0∧gd r 9 = .int .i64 c
 | .next fr hp made' out,r=>r = [a0,a1,.int .i64 made',a3,a4,a5,a6,a7,a8,.int .i64 0,.lst (fs0.map cH.pv++[fr.pv]),.lst (hp.map dO),.lst (out.map PV.str)]
 | .call fr g,r=>r = [a0,a1,made,a3,a4,a5,a6,a7,a8,.int .i64 0,.lst (fs0.map cH.pv++[fr.pv]++[g.pv]),H,O]
 | .ret v,r=>r=if fs0 = [] then [a0,a1,made,.int .i64 1,a4,.int .i64 v.k,.int .i64 v.n,.str v.s,a8,.int .i64 0,.lst [],H,O]
  else [a0,a1,made,a3,a4,a5,a6,a7,a8,.int .i64 0,.lst ((aCJ v fs0).map cH.pv),H,O]
structure aMV (m : dT) (fs0 : List cH) (fr : cH) (took : List cO) (hp : List (List cO)) (made : Int) (out : List ByteArray) : Prop where
 nf : m.funcs.length≤12
 nt : m.texts.length≤20
 par : ∀ f∈m.funcs,0≤f.p∧f.p≤6∧f.p≤f.lc∧f.lc≤12
 n0 : fs0.length≤23
 stks : ∀ f∈fs0,f.stk.length≤16
 nl : fr.loc.length≤12
 ns : fr.stk.length+took.length≤16
 recs : ∀ r∈hp,r.length≤6
 nh : hp.length≤120
 nm : 0≤made∧made≤120
 no : out.length≤200
 aO : ∀ v∈took,bF m.funcs.length hp.length v=true
theorem bT {nf recs : Int} {v : cO} (h : bF nf recs v=true) : v.s.size≤60:=by
 by_cases h3 : v.k=3
 ·unfold bF at h
  rw [if_neg (fun e=>e.1 h3),if_neg (by omega),if_neg (by omega),if_neg (by omega),if_pos h3] at h
  simp only [Bool.and_eq_true,gF,decide_eq_true_eq] at h
  omega
 ·unfold bF at h
  split at h
  ·cases h
  ·rename_i hn
   have he : kH v.s (bs [])=true:=by
    cases hs : kH v.s (bs []) with
    | true=>rfl
    | false=>exact absurd ⟨h3,hs⟩ hn
   have e0 : (bs []).toList = []:=by rw [Lib.toList_data];rfl
   unfold kH at he
   rw [e0] at he
   have hl : v.s.toList = []:=by simpa using he
   have hsz : v.s.size=v.s.toList.length:=by
    rw [Lib.toList_data,Array.length_toList]
    rfl
   rw [hsz,hl]
   simp
theorem rG {nf recs : Int} {v : cO} (h : bF nf recs v=true) (hk : v.k=4) : 0≤v.n∧v.n<recs:=by
 unfold bF at h
 by_cases hc : v.k≠3∧kH v.s (bs [])=false
 ·rw [if_pos hc] at h;cases h
 ·rw [if_neg hc,if_neg (by omega),if_neg (by omega),if_neg (by omega),if_neg (by omega),if_pos hk] at h
  simp only [Bool.and_eq_true,decide_eq_true_eq] at h
  exact h
theorem aDH {nf recs : Int} {v : cO} (h : bF nf recs v=true) (hk : v.k=5) : 0≤v.n∧v.n<nf:=by
 unfold bF at h
 by_cases hc : v.k≠3∧kH v.s (bs [])=false
 ·rw [if_pos hc] at h;cases h
 ·rw [if_neg hc,if_neg (by omega),if_neg (by omega),if_neg (by omega),if_neg (by omega),if_neg (by omega),if_pos hk] at h
  have:=bL.1 h
  omega
theorem rH {nt nf lc nc : Int} {x : bE} (h : bU nt nf lc nc x.o x.a=true) : (1≤x.o∧x.o≤26)∧(x.o=3→0≤x.a∧x.a<nt)∧((x.o=6∨x.o=7)→0≤x.a∧x.a<lc)∧(x.o=20→0≤x.a∧x.a≤6)∧
 ((x.o=21∨x.o=22)→0≤x.a∧x.a≤5)∧(x.o=23→0≤x.a∧x.a≤6)∧((x.o=5∨x.o=24)→0≤x.a∧x.a<nf)∧((x.o=17∨x.o=18∨x.o=19)→0≤x.a∧x.a<nc)∧(x.o=1→bY x.a=true):=by
 unfold bU at h
 by_cases h1 : x.o=1
 ·rw [if_pos h1] at h
  have h:=bL.1 h
  exact ⟨by omega,fun _=>by omega,fun _=>by omega,fun _=>by omega,fun _=>by omega,fun _=>by omega,fun _=>by omega,fun _=>by omega,fun _=>by first | (unfold bY;exact bL.2 (by omega)) | (exfalso;omega)⟩
 rw [if_neg h1] at h
 by_cases h2 : x.o=2
 ·rw [if_pos h2] at h
  have h:=bL.1 h
  exact ⟨by omega,fun _=>by omega,fun _=>by omega,fun _=>by omega,fun _=>by omega,fun _=>by omega,fun _=>by omega,fun _=>by omega,fun _=>by first | (unfold bY;exact bL.2 (by omega)) | (exfalso;omega)⟩
 rw [if_neg h2] at h
 by_cases h3 : x.o=3
 ·rw [if_pos h3] at h
  have h:=bL.1 h
  exact ⟨by omega,fun _=>by omega,fun _=>by omega,fun _=>by omega,fun _=>by omega,fun _=>by omega,fun _=>by omega,fun _=>by omega,fun _=>by first | (unfold bY;exact bL.2 (by omega)) | (exfalso;omega)⟩
 rw [if_neg h3] at h
 by_cases h5 : x.o=5
 ·rw [if_pos h5] at h
  have h:=bL.1 h
  exact ⟨by omega,fun _=>by omega,fun _=>by omega,fun _=>by omega,fun _=>by omega,fun _=>by omega,fun _=>by omega,fun _=>by omega,fun _=>by first | (unfold bY;exact bL.2 (by omega)) | (exfalso;omega)⟩
 rw [if_neg h5] at h
 by_cases h24 : x.o=24
 ·rw [if_pos h24] at h
  have h:=bL.1 h
  exact ⟨by omega,fun _=>by omega,fun _=>by omega,fun _=>by omega,fun _=>by omega,fun _=>by omega,fun _=>by omega,fun _=>by omega,fun _=>by first | (unfold bY;exact bL.2 (by omega)) | (exfalso;omega)⟩
 rw [if_neg h24] at h
 by_cases h6 : x.o=6
 ·rw [if_pos h6] at h
  have h:=bL.1 h
  exact ⟨by omega,fun _=>by omega,fun _=>by omega,fun _=>by omega,fun _=>by omega,fun _=>by omega,fun _=>by omega,fun _=>by omega,fun _=>by first | (unfold bY;exact bL.2 (by omega)) | (exfalso;omega)⟩
 rw [if_neg h6] at h
 by_cases h7 : x.o=7
 ·rw [if_pos h7] at h
  have h:=bL.1 h
  exact ⟨by omega,fun _=>by omega,fun _=>by omega,fun _=>by omega,fun _=>by omega,fun _=>by omega,fun _=>by omega,fun _=>by omega,fun _=>by first | (unfold bY;exact bL.2 (by omega)) | (exfalso;omega)⟩
 rw [if_neg h7] at h
 by_cases h17 : x.o=17
 ·rw [if_pos h17] at h
  have h:=bL.1 h
  exact ⟨by omega,fun _=>by omega,fun _=>by omega,fun _=>by omega,fun _=>by omega,fun _=>by omega,fun _=>by omega,fun _=>by omega,fun _=>by first | (unfold bY;exact bL.2 (by omega)) | (exfalso;omega)⟩
 rw [if_neg h17] at h
 by_cases h18 : x.o=18
 ·rw [if_pos h18] at h
  have h:=bL.1 h
  exact ⟨by omega,fun _=>by omega,fun _=>by omega,fun _=>by omega,fun _=>by omega,fun _=>by omega,fun _=>by omega,fun _=>by omega,fun _=>by first | (unfold bY;exact bL.2 (by omega)) | (exfalso;omega)⟩
 rw [if_neg h18] at h
 by_cases h19 : x.o=19
 ·rw [if_pos h19] at h
  have h:=bL.1 h
  exact ⟨by omega,fun _=>by omega,fun _=>by omega,fun _=>by omega,fun _=>by omega,fun _=>by omega,fun _=>by omega,fun _=>by omega,fun _=>by first | (unfold bY;exact bL.2 (by omega)) | (exfalso;omega)⟩
 rw [if_neg h19] at h
 by_cases h20 : x.o=20
 ·rw [if_pos h20] at h
  have h:=bL.1 h
  exact ⟨by omega,fun _=>by omega,fun _=>by omega,fun _=>by omega,fun _=>by omega,fun _=>by omega,fun _=>by omega,fun _=>by omega,fun _=>by first | (unfold bY;exact bL.2 (by omega)) | (exfalso;omega)⟩
 rw [if_neg h20] at h
 by_cases h21 : x.o=21
 ·rw [if_pos h21] at h
  have h:=bL.1 h
  exact ⟨by omega,fun _=>by omega,fun _=>by omega,fun _=>by omega,fun _=>by omega,fun _=>by omega,fun _=>by omega,fun _=>by omega,fun _=>by first | (unfold bY;exact bL.2 (by omega)) | (exfalso;omega)⟩
 rw [if_neg h21] at h
 by_cases h22 : x.o=22
 ·rw [if_pos h22] at h
  have h:=bL.1 h
  exact ⟨by omega,fun _=>by omega,fun _=>by omega,fun _=>by omega,fun _=>by omega,fun _=>by omega,fun _=>by omega,fun _=>by omega,fun _=>by first | (unfold bY;exact bL.2 (by omega)) | (exfalso;omega)⟩
 rw [if_neg h22] at h
 by_cases h23 : x.o=23
 ·rw [if_pos h23] at h
  have h:=bL.1 h
  exact ⟨by omega,fun _=>by omega,fun _=>by omega,fun _=>by omega,fun _=>by omega,fun _=>by omega,fun _=>by omega,fun _=>by omega,fun _=>by first | (unfold bY;exact bL.2 (by omega)) | (exfalso;omega)⟩
 rw [if_neg h23] at h
 simp only [Bool.and_eq_true,decide_eq_true_eq,bL] at h
 exact ⟨by omega,fun _=>by omega,fun _=>by omega,fun _=>by omega,fun _=>by omega,fun _=>by omega,fun _=>by omega,fun _=>by omega,fun _=>by first | (unfold bY;exact bL.2 (by omega)) | (exfalso;omega)⟩
section
variable {P : R → Prop} {k : PV → Option R} {hp : List (List cO)}
theorem dD {i : Int} (h0 : 0≤i) (h1 : i<hp.length) (h : Ok P (k (dO (hp[i.toNat]?.getD [])))) : Ok P (bd (PV.at_ 1 true (.lst (hp.map dO)) (.int .i64 i)) k):=by
 obtain ⟨n,rfl⟩:=Int.eq_ofNat_of_zero_le h0
 have hn : n<hp.length:=by omega
 rw [Int.toNat_natCast,List.getElem?_eq_getElem hn] at h
 exact aQ hn (fun _=>rfl) h
theorem oN {i : Int} (h0 : 0≤i) (h1 : i<hp.length) (h : Ok P (k (.lst (hp.map dO)))) : Ok P (bd (PV.inb (.lst (hp.map dO)) (.int .i64 i)) k):=vQ h0 (by rw [List.length_map];exact h1) h
theorem aGe {i : Int} {r : List cO} (h0 : 0≤i) (h1 : i<hp.length) (h : Ok P (k (.lst ((hp.set i.toNat r).map dO)))) : Ok P (bd (PV.setCell 1 (.lst (hp.map dO)) (.int .i64 i) 0 (aO r)) k):=by
 obtain ⟨n,rfl⟩:=Int.eq_ofNat_of_zero_le h0
 have hn : n<hp.length:=by omega
 refine aA3 (cs:=[aO hp[n]]) (by omega) (by rw [Int.toNat_natCast,List.getElem?_map,List.getElem?_eq_getElem hn];rfl) rfl (by omega) rfl ?_
 rw [List.map_set] at h
 exact h
theorem aLe {hp : List (List cO)} (h : ∀ r∈hp,r.length≤6) (i : Nat) : (hp[i]?.getD []).length≤6:=by
 cases hx : hp[i]? with
 | none=>simp
 | some r=>exact h r (List.mem_of_getElem? hx)
end
theorem nP {α : Type} {l : List α} (h : l.length=2) : ∃ a b,l = [a,b]:=by
 match l,h with
 | [a,b],_=>exact ⟨a,b,rfl⟩
theorem aHz {l : List cH} : ∀ x∈l.map cH.pv,x.isEl 4 true=true:=by
 intro x hx
 obtain ⟨a,_,rfl⟩:=List.mem_map.1 hx
 rfl
set_option maxRecDepth 100000 in
set_option maxHeartbeats 4000000 in
theorem aNP {m : dT} {fs0 : List cH} {fr : cH} {took : List cO} {hp : List (List cO)} {made : Int} {out : List ByteArray} {x : bE} {nc : Int} {a3 a4 a5 a6 a7 a8 : PV}
 (S : aMV m fs0 fr took hp made out) (hx : bU m.texts.length m.funcs.length fr.loc.length nc x.o x.a=true) (hu : (took.length : Int)=(aT m.funcs x).1) :
 Ok (DoR (.lst (m.texts.map PV.str)) (.lst (m.funcs.map cN.pv)) (.int .i64 made) a3 a4 a5 a6 a7 a8 (.lst (hp.map dO)) (.lst (out.map PV.str)) fs0 (dJ m fr took (fs0.length+1) hp made out x))
  (sA (.int .i64 x.o) (.int .i64 x.a) (.lst (m.texts.map PV.str)) (.lst (m.funcs.map cN.pv)) (.int .i64 made) a3 a4 a5 a6 a7 a8 (.int .i64 0)
   (.lst (fs0.map cH.pv++[cH.pv ⟨fr.f,fr.pc,fr.loc,fr.stk++took⟩])) (.lst (hp.map dO)) (.lst (out.map PV.str))):=by
 obtain ⟨q26,q3,q67,q20,q2122,q23,q524,qj,q1⟩:=rH hx
 obtain ⟨nf,nt,par,n0,stks,nl,ns,recs,nh,nm,no,vals0⟩:=S
 have nA : (fs0.map cH.pv).length≤23:=by rw [List.length_map];exact n0
 obtain ⟨ff,fpc,floc,fstk⟩:=fr
 simp only at *
 rw [aCq]
 refine zN (by omega) ?_
 refine aF (aC (fun ho=>?_) (fun n1=>?_))
 ·have e0 : aT m.funcs x=(0,1):=by unfold aT;repeat (first | rfl | rw [if_pos (by omega)] | rw [if_neg (by omega)])
  rw [e0] at hu
  obtain rfl:=List.eq_nil_of_length_eq_zero (show took.length=0 by omega)
  simp only [List.length_nil,Nat.add_zero,List.append_nil] at ns ⊢
  have e : dJ m ⟨ff,fpc,floc,fstk⟩ [] (fs0.length+1) hp made out x = .next ⟨ff,fpc,floc,fstk++[aCA x.a]⟩ hp made out:=by simp only [dJ];repeat (first | rfl | rw [if_pos (by omega)] | rw [if_neg (by omega)])
  exact aJn (aEW (by omega) (by omega) (aB (by rw [e];rfl)))
 refine aF (aC (fun ho=>?_) (fun n2=>?_))
 ·have e0 : aT m.funcs x=(0,1):=by unfold aT;repeat (first | rfl | rw [if_pos (by omega)] | rw [if_neg (by omega)])
  rw [e0] at hu
  obtain rfl:=List.eq_nil_of_length_eq_zero (show took.length=0 by omega)
  simp only [List.length_nil,Nat.add_zero,List.append_nil] at ns ⊢
  have e : dJ m ⟨ff,fpc,floc,fstk⟩ [] (fs0.length+1) hp made out x = .next ⟨ff,fpc,floc,fstk++[mG (decide (x.a=1))]⟩ hp made out:=by simp only [dJ];repeat (first | rfl | rw [if_pos (by omega)] | rw [if_neg (by omega)])
  exact aF (oL (aEW (by omega) (by omega) (aB (by rw [e];rfl))))
 refine aF (aC (fun ho=>?_) (fun n3=>?_))
 ·have e0 : aT m.funcs x=(0,1):=by unfold aT;repeat (first | rfl | rw [if_pos (by omega)] | rw [if_neg (by omega)])
  rw [e0] at hu
  obtain rfl:=List.eq_nil_of_length_eq_zero (show took.length=0 by omega)
  simp only [List.length_nil,Nat.add_zero,List.append_nil] at ns ⊢
  have e : dJ m ⟨ff,fpc,floc,fstk⟩ [] (fs0.length+1) hp made out x = .next ⟨ff,fpc,floc,fstk++[aCB (m.texts[x.a.toNat]?.getD (bs []))]⟩ hp made out:=by simp only [dJ];repeat (first | rfl | rw [if_pos (by omega)] | rw [if_neg (by omega)])
  obtain ⟨i,hi⟩:=Int.eq_ofNat_of_zero_le (q3 ho).1
  have hil : i<m.texts.length:=by have:=q3 ho;omega
  rw [hi] at e ⊢
  rw [Int.toNat_natCast,List.getElem?_eq_getElem hil] at e
  exact aQ hil (fun _=>rfl) (bA rfl (gD (by omega) (by omega) (aB (by rw [e];rfl))))
 refine aF (aC (fun ho=>?_) (fun n4=>?_))
 ·have e0 : aT m.funcs x=(0,1):=by unfold aT;repeat (first | rfl | rw [if_pos (by omega)] | rw [if_neg (by omega)])
  rw [e0] at hu
  obtain rfl:=List.eq_nil_of_length_eq_zero (show took.length=0 by omega)
  simp only [List.length_nil,Nat.add_zero,List.append_nil] at ns ⊢
  have e : dJ m ⟨ff,fpc,floc,fstk⟩ [] (fs0.length+1) hp made out x = .next ⟨ff,fpc,floc,fstk++[eD]⟩ hp made out:=by simp only [dJ];repeat (first | rfl | rw [if_pos (by omega)] | rw [if_neg (by omega)])
  exact gD (by omega) (by omega) (aB (by rw [e];rfl))
 refine aF (aC (fun ho=>?_) (fun n5=>?_))
 ·have e0 : aT m.funcs x=(0,1):=by unfold aT;repeat (first | rfl | rw [if_pos (by omega)] | rw [if_neg (by omega)])
  rw [e0] at hu
  obtain rfl:=List.eq_nil_of_length_eq_zero (show took.length=0 by omega)
  simp only [List.length_nil,Nat.add_zero,List.append_nil] at ns ⊢
  have e : dJ m ⟨ff,fpc,floc,fstk⟩ [] (fs0.length+1) hp made out x = .next ⟨ff,fpc,floc,fstk++[aLW x.a]⟩ hp made out:=by simp only [dJ];repeat (first | rfl | rw [if_pos (by omega)] | rw [if_neg (by omega)])
  exact bA rfl (gD (by omega) (by omega) (aB (by rw [e];rfl)))
 refine aF (aC (fun ho=>?_) (fun n6=>?_))
 ·have e0 : aT m.funcs x=(0,1):=by unfold aT;repeat (first | rfl | rw [if_pos (by omega)] | rw [if_neg (by omega)])
  rw [e0] at hu
  obtain rfl:=List.eq_nil_of_length_eq_zero (show took.length=0 by omega)
  simp only [List.length_nil,Nat.add_zero,List.append_nil] at ns ⊢
  have e : dJ m ⟨ff,fpc,floc,fstk⟩ [] (fs0.length+1) hp made out x = .next ⟨ff,fpc,floc,fstk++[floc[x.a.toNat]?.getD eD]⟩ hp made out:=by simp only [dJ];repeat (first | rfl | rw [if_pos (by omega)] | rw [if_neg (by omega)])
  have hq:=q67 (.inl ho)
  refine bN rfl rfl (bN rfl rfl (aA (y:=aO floc) rfl (eV (by omega) (by omega) (bN rfl rfl (aA (y:=aO floc) rfl (mA (by omega) (by omega) (fun v hv=>?_)))))))
  rw [hv] at e
  exact aEW (by omega) (by omega) (aB (by rw [e];rfl))
 refine aF (aC (fun ho=>?_) (fun n7=>?_))
 ·have e0 : aT m.funcs x=(1,0):=by unfold aT;repeat (first | rfl | rw [if_pos (by omega)] | rw [if_neg (by omega)])
  rw [e0] at hu
  obtain ⟨a,rfl⟩:=List.length_eq_one_iff.1 (show took.length=1 by omega)
  have va:=vals0 a (by simp)
  have sa:=bT va
  have ns : fstk.length+1≤16:=ns
  have e : dJ m ⟨ff,fpc,floc,fstk⟩ [a] (fs0.length+1) hp made out x = .next ⟨ff,fpc,floc.set x.a.toNat a,fstk⟩ hp made out:=by simp only [dJ];repeat (first | rfl | rw [if_pos (by omega)] | rw [if_neg (by omega)])
  have hq:=q67 (.inr ho)
  refine fK (by omega) (by first | omega | (simp;omega)) (aD rfl (aA rfl (aA rfl (aA rfl (?_)))))
  refine bN rfl rfl (bN rfl rfl (aA (y:=aO floc) rfl (eV (by omega) (by omega) (bN rfl rfl (aA (y:=aO floc) rfl (bN rfl rfl (aA (y:=aO floc) rfl ?_)))))))
  refine mH (v:=a) (by omega) (by omega) (bN rfl rfl (aA (y:=aO floc) rfl (cC rfl rfl (by omega) rfl (aB (by rw [e];rfl)))))
 refine aF (aC (fun ho=>?_) (fun n8=>?_))
 ·have e0 : aT m.funcs x=(1,2):=by unfold aT;repeat (first | rfl | rw [if_pos (by omega)] | rw [if_neg (by omega)])
  rw [e0] at hu
  obtain ⟨a,rfl⟩:=List.length_eq_one_iff.1 (show took.length=1 by omega)
  have va:=vals0 a (by simp)
  have sa:=bT va
  have ns : fstk.length+1≤16:=ns
  have e : dJ m ⟨ff,fpc,floc,fstk⟩ [a] (fs0.length+1) hp made out x = .next ⟨ff,fpc,floc,fstk++[a,a]⟩ hp made out:=by simp only [dJ];repeat (first | rfl | rw [if_pos (by omega)] | rw [if_neg (by omega)])
  refine fK (by omega) (by first | omega | (simp;omega)) (aD rfl (aA rfl (aA rfl (aA rfl (?_)))))
  refine gD (by omega) (by omega) (gD (by omega) (by simp;omega) (aB ?_))
  rw [e]
  show _=_
  simp only [List.append_assoc]
  rfl
 refine aF (aC (fun ho=>?_) (fun n9=>?_))
 ·have e0 : aT m.funcs x=(1,0):=by unfold aT;repeat (first | rfl | rw [if_pos (by omega)] | rw [if_neg (by omega)])
  rw [e0] at hu
  obtain ⟨a,rfl⟩:=List.length_eq_one_iff.1 (show took.length=1 by omega)
  have va:=vals0 a (by simp)
  have sa:=bT va
  have ns : fstk.length+1≤16:=ns
  have e : dJ m ⟨ff,fpc,floc,fstk⟩ [a] (fs0.length+1) hp made out x = .next ⟨ff,fpc,floc,fstk++[]⟩ hp made out:=by simp only [dJ];repeat (first | rfl | rw [if_pos (by omega)] | rw [if_neg (by omega)])
  refine fK (by omega) (by first | omega | (simp;omega)) (aB ?_)
  rw [e,List.append_nil]
  rfl
 refine aF (aC (fun ho=>?_) (fun n10=>?_))
 ·have e0 : aT m.funcs x=(2,2):=by unfold aT;repeat (first | rfl | rw [if_pos (by omega)] | rw [if_neg (by omega)])
  rw [e0] at hu
  obtain ⟨a,b,rfl⟩:=nP (show took.length=2 by omega)
  have va:=vals0 a (by simp)
  have vb:=vals0 b (by simp)
  have sa:=bT va
  have sb:=bT vb
  rw [show fstk++[a,b]=fstk++[a]++[b] by simp]
  have ns : fstk.length+2≤16:=ns
  have e : dJ m ⟨ff,fpc,floc,fstk⟩ [a,b] (fs0.length+1) hp made out x = .next ⟨ff,fpc,floc,fstk++[b,a]⟩ hp made out:=by simp only [dJ];repeat (first | rfl | rw [if_pos (by omega)] | rw [if_neg (by omega)])
  refine fK (by omega) (by first | omega | (simp;omega)) (aD rfl (aA rfl (aA rfl (aA rfl (?_)))))
  refine fK (by omega) (by first | omega | (simp;omega)) (aD rfl (aA rfl (aA rfl (aA rfl (?_)))))
  refine gD (by omega) (by omega) (gD (by omega) (by simp;omega) (aB ?_))
  rw [e]
  show _=_
  simp only [List.append_assoc]
  rfl
 refine aF (aC (fun ho=>?_) (fun n11=>?_))
 ·have e0 : aT m.funcs x=(2,1):=by unfold aT;repeat (first | rfl | rw [if_pos (by omega)] | rw [if_neg (by omega)])
  rw [e0] at hu
  obtain ⟨a,b,rfl⟩:=nP (show took.length=2 by omega)
  have va:=vals0 a (by simp)
  have vb:=vals0 b (by simp)
  have sa:=bT va
  have sb:=bT vb
  rw [show fstk++[a,b]=fstk++[a]++[b] by simp]
  have ns : fstk.length+2≤16:=ns
  have e : dJ m ⟨ff,fpc,floc,fstk⟩ [a,b] (fs0.length+1) hp made out x=if (nS x.o a b).2≠0 then .trap (nS x.o a b).2 else .next ⟨ff,fpc,floc,fstk++[(nS x.o a b).1]⟩ hp made out:=by simp only [dJ];repeat (first | rfl | rw [if_pos (by omega)] | rw [if_neg (by omega)])
  refine fK (by omega) (by first | omega | (simp;omega)) (aD rfl (aA rfl (aA rfl (aA rfl (?_)))))
  refine fK (by omega) (by first | omega | (simp;omega)) (aD rfl (aA rfl (aA rfl (aA rfl (?_)))))
  refine lZ (aCD (o:=x.o) (a:=a) (b:=b) (by omega) ⟨by omega,by omega⟩) (aR rfl (aR rfl (aD rfl (aA rfl (aA rfl (aA rfl (bA rfl (gD (by omega) (by omega) (aB ?_)))))))))
  by_cases ht : (nS x.o a b).2≠0
  ·rw [e,if_pos ht];exact ⟨ht,rfl⟩
  ·rw [e,if_neg ht]
   have ht : (nS x.o a b).2=0:=by simpa using ht
   rw [ht];rfl
 refine aF (aC (fun ho=>?_) (fun n12=>?_))
 ·have e0 : aT m.funcs x=(2,1):=by unfold aT;repeat (first | rfl | rw [if_pos (by omega)] | rw [if_neg (by omega)])
  rw [e0] at hu
  obtain ⟨a,b,rfl⟩:=nP (show took.length=2 by omega)
  have va:=vals0 a (by simp)
  have vb:=vals0 b (by simp)
  have sa:=bT va
  have sb:=bT vb
  rw [show fstk++[a,b]=fstk++[a]++[b] by simp]
  have ns : fstk.length+2≤16:=ns
  have e : dJ m ⟨ff,fpc,floc,fstk⟩ [a,b] (fs0.length+1) hp made out x=if (nS x.o a b).2≠0 then .trap (nS x.o a b).2 else .next ⟨ff,fpc,floc,fstk++[(nS x.o a b).1]⟩ hp made out:=by simp only [dJ];repeat (first | rfl | rw [if_pos (by omega)] | rw [if_neg (by omega)])
  refine fK (by omega) (by first | omega | (simp;omega)) (aD rfl (aA rfl (aA rfl (aA rfl (?_)))))
  refine fK (by omega) (by first | omega | (simp;omega)) (aD rfl (aA rfl (aA rfl (aA rfl (?_)))))
  refine lZ (aCD (o:=x.o) (a:=a) (b:=b) (by omega) ⟨by omega,by omega⟩) (aR rfl (aR rfl (aD rfl (aA rfl (aA rfl (aA rfl (bA rfl (gD (by omega) (by omega) (aB ?_)))))))))
  by_cases ht : (nS x.o a b).2≠0
  ·rw [e,if_pos ht];exact ⟨ht,rfl⟩
  ·rw [e,if_neg ht]
   have ht : (nS x.o a b).2=0:=by simpa using ht
   rw [ht];rfl
 refine aF (aC (fun ho=>?_) (fun n13=>?_))
 ·have e0 : aT m.funcs x=(2,1):=by unfold aT;repeat (first | rfl | rw [if_pos (by omega)] | rw [if_neg (by omega)])
  rw [e0] at hu
  obtain ⟨a,b,rfl⟩:=nP (show took.length=2 by omega)
  have va:=vals0 a (by simp)
  have vb:=vals0 b (by simp)
  have sa:=bT va
  have sb:=bT vb
  rw [show fstk++[a,b]=fstk++[a]++[b] by simp]
  have ns : fstk.length+2≤16:=ns
  have e : dJ m ⟨ff,fpc,floc,fstk⟩ [a,b] (fs0.length+1) hp made out x=if (nS x.o a b).2≠0 then .trap (nS x.o a b).2 else .next ⟨ff,fpc,floc,fstk++[(nS x.o a b).1]⟩ hp made out:=by simp only [dJ];repeat (first | rfl | rw [if_pos (by omega)] | rw [if_neg (by omega)])
  refine fK (by omega) (by first | omega | (simp;omega)) (aD rfl (aA rfl (aA rfl (aA rfl (?_)))))
  refine fK (by omega) (by first | omega | (simp;omega)) (aD rfl (aA rfl (aA rfl (aA rfl (?_)))))
  refine lZ (aCD (o:=x.o) (a:=a) (b:=b) (by omega) ⟨by omega,by omega⟩) (aR rfl (aR rfl (aD rfl (aA rfl (aA rfl (aA rfl (bA rfl (gD (by omega) (by omega) (aB ?_)))))))))
  by_cases ht : (nS x.o a b).2≠0
  ·rw [e,if_pos ht];exact ⟨ht,rfl⟩
  ·rw [e,if_neg ht]
   have ht : (nS x.o a b).2=0:=by simpa using ht
   rw [ht];rfl
 refine aF (aC (fun ho=>?_) (fun n14=>?_))
 ·have e0 : aT m.funcs x=(2,1):=by unfold aT;repeat (first | rfl | rw [if_pos (by omega)] | rw [if_neg (by omega)])
  rw [e0] at hu
  obtain ⟨a,b,rfl⟩:=nP (show took.length=2 by omega)
  have va:=vals0 a (by simp)
  have vb:=vals0 b (by simp)
  have sa:=bT va
  have sb:=bT vb
  rw [show fstk++[a,b]=fstk++[a]++[b] by simp]
  have ns : fstk.length+2≤16:=ns
  have e : dJ m ⟨ff,fpc,floc,fstk⟩ [a,b] (fs0.length+1) hp made out x=if (nS x.o a b).2≠0 then .trap (nS x.o a b).2 else .next ⟨ff,fpc,floc,fstk++[(nS x.o a b).1]⟩ hp made out:=by simp only [dJ];repeat (first | rfl | rw [if_pos (by omega)] | rw [if_neg (by omega)])
  refine fK (by omega) (by first | omega | (simp;omega)) (aD rfl (aA rfl (aA rfl (aA rfl (?_)))))
  refine fK (by omega) (by first | omega | (simp;omega)) (aD rfl (aA rfl (aA rfl (aA rfl (?_)))))
  refine lZ (aCD (o:=x.o) (a:=a) (b:=b) (by omega) ⟨by omega,by omega⟩) (aR rfl (aR rfl (aD rfl (aA rfl (aA rfl (aA rfl (bA rfl (gD (by omega) (by omega) (aB ?_)))))))))
  by_cases ht : (nS x.o a b).2≠0
  ·rw [e,if_pos ht];exact ⟨ht,rfl⟩
  ·rw [e,if_neg ht]
   have ht : (nS x.o a b).2=0:=by simpa using ht
   rw [ht];rfl
 refine aF (aC (fun ho=>?_) (fun n15=>?_))
 ·have e0 : aT m.funcs x=(2,1):=by unfold aT;repeat (first | rfl | rw [if_pos (by omega)] | rw [if_neg (by omega)])
  rw [e0] at hu
  obtain ⟨a,b,rfl⟩:=nP (show took.length=2 by omega)
  have va:=vals0 a (by simp)
  have vb:=vals0 b (by simp)
  have sa:=bT va
  have sb:=bT vb
  rw [show fstk++[a,b]=fstk++[a]++[b] by simp]
  have ns : fstk.length+2≤16:=ns
  have e : dJ m ⟨ff,fpc,floc,fstk⟩ [a,b] (fs0.length+1) hp made out x=if (nS x.o a b).2≠0 then .trap (nS x.o a b).2 else .next ⟨ff,fpc,floc,fstk++[(nS x.o a b).1]⟩ hp made out:=by simp only [dJ];repeat (first | rfl | rw [if_pos (by omega)] | rw [if_neg (by omega)])
  refine fK (by omega) (by first | omega | (simp;omega)) (aD rfl (aA rfl (aA rfl (aA rfl (?_)))))
  refine fK (by omega) (by first | omega | (simp;omega)) (aD rfl (aA rfl (aA rfl (aA rfl (?_)))))
  refine lZ (aCD (o:=x.o) (a:=a) (b:=b) (by omega) ⟨by omega,by omega⟩) (aR rfl (aR rfl (aD rfl (aA rfl (aA rfl (aA rfl (bA rfl (gD (by omega) (by omega) (aB ?_)))))))))
  by_cases ht : (nS x.o a b).2≠0
  ·rw [e,if_pos ht];exact ⟨ht,rfl⟩
  ·rw [e,if_neg ht]
   have ht : (nS x.o a b).2=0:=by simpa using ht
   rw [ht];rfl
 refine aF (aC (fun ho=>?_) (fun n16=>?_))
 ·have e0 : aT m.funcs x=(1,1):=by unfold aT;repeat (first | rfl | rw [if_pos (by omega)] | rw [if_neg (by omega)])
  rw [e0] at hu
  obtain ⟨a,rfl⟩:=List.length_eq_one_iff.1 (show took.length=1 by omega)
  have va:=vals0 a (by simp)
  have sa:=bT va
  have ns : fstk.length+1≤16:=ns
  have e : dJ m ⟨ff,fpc,floc,fstk⟩ [a] (fs0.length+1) hp made out x=if (zI a).2≠0 then .trap (zI a).2 else .next ⟨ff,fpc,floc,fstk++[(zI a).1]⟩ hp made out:=by simp only [dJ];repeat (first | rfl | rw [if_pos (by omega)] | rw [if_neg (by omega)])
  refine fK (by omega) (by first | omega | (simp;omega)) (?_)
  refine lZ (aMQ (v:=a)) (aR rfl (aR rfl (aD rfl (aA rfl (aA rfl (aA rfl (bA rfl (gD (by omega) (by omega) (aB ?_)))))))))
  by_cases ht : (zI a).2≠0
  ·rw [e,if_pos ht];exact ⟨ht,rfl⟩
  ·rw [e,if_neg ht]
   have ht : (zI a).2=0:=by simpa using ht
   rw [ht];rfl
 refine aF (aC (fun ho=>?_) (fun n17=>?_))
 ·have e0 : aT m.funcs x=(0,0):=by unfold aT;repeat (first | rfl | rw [if_pos (by omega)] | rw [if_neg (by omega)])
  rw [e0] at hu
  obtain rfl:=List.eq_nil_of_length_eq_zero (show took.length=0 by omega)
  simp only [List.length_nil,Nat.add_zero,List.append_nil] at ns ⊢
  have e : dJ m ⟨ff,fpc,floc,fstk⟩ [] (fs0.length+1) hp made out x = .next ⟨ff,x.a,floc,fstk⟩ hp made out:=by simp only [dJ];repeat (first | rfl | rw [if_pos (by omega)] | rw [if_neg (by omega)])
  exact bA rfl (cC rfl rfl (by omega) rfl (aB (by rw [e];rfl)))
 refine aF (aC (fun ho=>?_) (fun n18=>?_))
 ·have e0 : aT m.funcs x=(1,0):=by unfold aT;repeat (first | rfl | rw [if_pos (by omega)] | rw [if_neg (by omega)])
  rw [e0] at hu
  obtain ⟨a,rfl⟩:=List.length_eq_one_iff.1 (show took.length=1 by omega)
  have va:=vals0 a (by simp)
  have sa:=bT va
  have ns : fstk.length+1≤16:=ns
  have e : dJ m ⟨ff,fpc,floc,fstk⟩ [a] (fs0.length+1) hp made out x=if a.k≠2 then .trap 1 else if (decide (a.n=1)==decide (x.o=18))=true then .next ⟨ff,x.a,floc,fstk⟩ hp made out else .next ⟨ff,fpc,floc,fstk++[]⟩ hp made out:=by simp only [dJ];repeat (first | rfl | rw [if_pos (by omega)] | rw [if_neg (by omega)])
  refine fK (by omega) (by first | omega | (simp;omega)) (aD rfl (aA rfl (aA rfl (aA rfl (?_)))))
  refine aY (aI (fun h=>aB (by rw [e,if_pos h];exact ⟨by omega,rfl⟩)) (fun h=>?_))
  rw [if_neg (by simpa using h)] at e
  refine aF (aF (vP (bQ (fun hb=>?_) (fun hb=>?_))))
  ·rw [if_pos hb] at e
   exact bA rfl (cC rfl rfl (by omega) rfl (aB (by rw [e];rfl)))
  ·rw [if_neg (by rw [hb];simp)] at e
   exact aB (by rw [e,List.append_nil];rfl)
 refine aF (aC (fun ho=>?_) (fun n19=>?_))
 ·have e0 : aT m.funcs x=(1,0):=by unfold aT;repeat (first | rfl | rw [if_pos (by omega)] | rw [if_neg (by omega)])
  rw [e0] at hu
  obtain ⟨a,rfl⟩:=List.length_eq_one_iff.1 (show took.length=1 by omega)
  have va:=vals0 a (by simp)
  have sa:=bT va
  have ns : fstk.length+1≤16:=ns
  have e : dJ m ⟨ff,fpc,floc,fstk⟩ [a] (fs0.length+1) hp made out x=if a.k≠2 then .trap 1 else if (decide (a.n=1)==decide (x.o=18))=true then .next ⟨ff,x.a,floc,fstk⟩ hp made out else .next ⟨ff,fpc,floc,fstk++[]⟩ hp made out:=by simp only [dJ];repeat (first | rfl | rw [if_pos (by omega)] | rw [if_neg (by omega)])
  refine fK (by omega) (by first | omega | (simp;omega)) (aD rfl (aA rfl (aA rfl (aA rfl (?_)))))
  refine aY (aI (fun h=>aB (by rw [e,if_pos h];exact ⟨by omega,rfl⟩)) (fun h=>?_))
  rw [if_neg (by simpa using h)] at e
  refine aF (aF (vP (bQ (fun hb=>?_) (fun hb=>?_))))
  ·rw [if_pos hb] at e
   exact bA rfl (cC rfl rfl (by omega) rfl (aB (by rw [e];rfl)))
  ·rw [if_neg (by rw [hb];simp)] at e
   exact aB (by rw [e,List.append_nil];rfl)
 refine aF (aC (fun ho=>?_) (fun n20=>?_))
 ·have e0 : aT m.funcs x=(0,1):=by unfold aT;repeat (first | rfl | rw [if_pos (by omega)] | rw [if_neg (by omega)])
  rw [e0] at hu
  obtain rfl:=List.eq_nil_of_length_eq_zero (show took.length=0 by omega)
  simp only [List.length_nil,Nat.add_zero,List.append_nil] at ns ⊢
  have e : dJ m ⟨ff,fpc,floc,fstk⟩ [] (fs0.length+1) hp made out x=if made=120 then .trap 7 else .next ⟨ff,fpc,floc,fstk++[aLV hp.length]⟩ (hp++[List.replicate x.a.toNat eD]) (made+1) out:=by simp only [dJ];repeat (first | rfl | rw [if_pos (by omega)] | rw [if_neg (by omega)])
  have hq:=q20 ho
  refine aF (aC (fun h=>aB (by rw [e,if_pos h];exact ⟨by omega,rfl⟩)) (fun h=>?_))
  rw [if_neg h] at e
  refine aE (bA rfl (gD (by omega) (by omega) (?_)))
  refine tT (by omega) (by omega) (lB (aC (fun _=>?_) (fun h=>by omega)))
  refine tT (by omega) (by omega) (lW (by simp;omega) (fun x hx=>by simp only [List.mem_singleton] at hx;subst hx;rfl) (aM (by omega) (bA rfl (aB ?_))))
  rw [e]
  show _=_
  rw [List.map_append]
  rfl
 refine aF (aC (fun ho=>?_) (fun n21=>?_))
 ·have e0 : aT m.funcs x=(1,1):=by unfold aT;repeat (first | rfl | rw [if_pos (by omega)] | rw [if_neg (by omega)])
  rw [e0] at hu
  obtain ⟨a,rfl⟩:=List.length_eq_one_iff.1 (show took.length=1 by omega)
  have va:=vals0 a (by simp)
  have sa:=bT va
  have ns : fstk.length+1≤16:=ns
  have e : dJ m ⟨ff,fpc,floc,fstk⟩ [a] (fs0.length+1) hp made out x=if a.k≠4 then .trap 1 else if (hp[a.n.toNat]?.getD []).length≤x.a then .trap 4 else .next ⟨ff,fpc,floc,fstk++[(hp[a.n.toNat]?.getD [])[x.a.toNat]?.getD eD]⟩ hp made out:=by simp only [dJ];repeat (first | rfl | rw [if_pos (by omega)] | rw [if_neg (by omega)])
  refine fK (by omega) (by first | omega | (simp;omega)) (aD rfl (aA rfl (aA rfl (aA rfl (?_)))))
  have hq:=q2122 (.inl ho)
  refine aY (aI (fun h=>aB (by rw [e,if_pos h];exact ⟨by omega,rfl⟩)) (fun h=>?_))
  rw [if_neg (by simpa using h)] at e
  have hr:=rG va h
  have hlen:=aLe recs a.n.toNat
  refine oN (by omega) (by omega) (dD (by omega) (by omega) (dD (by omega) (by omega) (aA rfl (dP ?_))))
  refine oF (aC (fun h=>aB (by rw [e,if_pos h];exact ⟨by omega,rfl⟩)) (fun h=>?_))
  rw [if_neg h] at e
  refine oN (by omega) (by omega) (dD (by omega) (by omega) (dD (by omega) (by omega) (aA rfl (eV (by omega) (by omega) (dD (by omega) (by omega) (aA rfl ?_))))))
  refine mA (by omega) (by omega) (fun v hv=>?_)
  rw [hv] at e
  exact aEW (by omega) (by omega) (aB (by rw [e];rfl))
 refine aF (aC (fun ho=>?_) (fun n22=>?_))
 ·have e0 : aT m.funcs x=(2,0):=by unfold aT;repeat (first | rfl | rw [if_pos (by omega)] | rw [if_neg (by omega)])
  rw [e0] at hu
  obtain ⟨a,b,rfl⟩:=nP (show took.length=2 by omega)
  have va:=vals0 a (by simp)
  have vb:=vals0 b (by simp)
  have sa:=bT va
  have sb:=bT vb
  rw [show fstk++[a,b]=fstk++[a]++[b] by simp]
  have ns : fstk.length+2≤16:=ns
  have e : dJ m ⟨ff,fpc,floc,fstk⟩ [a,b] (fs0.length+1) hp made out x=if a.k≠4 then .trap 1 else if (hp[a.n.toNat]?.getD []).length≤x.a then .trap 4 else .next ⟨ff,fpc,floc,fstk⟩ (hp.set a.n.toNat ((hp[a.n.toNat]?.getD []).set x.a.toNat b)) made out:=by simp only [dJ];repeat (first | rfl | rw [if_pos (by omega)] | rw [if_neg (by omega)])
  refine fK (by omega) (by first | omega | (simp;omega)) (aD rfl (aA rfl (aA rfl (aA rfl (?_)))))
  refine fK (by omega) (by first | omega | (simp;omega)) (aD rfl (aA rfl (aA rfl (aA rfl (?_)))))
  have hq:=q2122 (.inr ho)
  refine aY (aI (fun h=>aB (by rw [e,if_pos h];exact ⟨by omega,rfl⟩)) (fun h=>?_))
  rw [if_neg (by simpa using h)] at e
  have hr:=rG va h
  have hlen:=aLe recs a.n.toNat
  refine oN (by omega) (by omega) (dD (by omega) (by omega) (dD (by omega) (by omega) (aA rfl (dP ?_))))
  refine oF (aC (fun h=>aB (by rw [e,if_pos h];exact ⟨by omega,rfl⟩)) (fun h=>?_))
  rw [if_neg h] at e
  refine oN (by omega) (by omega) (dD (by omega) (by omega) (dD (by omega) (by omega) (aA rfl (eV (by omega) (by omega) (dD (by omega) (by omega) (aA rfl ?_))))))
  refine dD (by omega) (by omega) (aA rfl (mH (v:=b) (by omega) (by omega) (dD (by omega) (by omega) (aA rfl (aGe (by omega) (by omega) (aB (by rw [e];rfl)))))))
 refine aF (aC (fun ho=>?_) (fun n23=>?_))
 ·have hq:=q23 ho
  have e0 : aT m.funcs x=(x.a+1,1):=by unfold aT;repeat (first | rfl | rw [if_pos (by omega)] | rw [if_neg (by omega)])
  rw [e0] at hu
  obtain ⟨a,args,rfl⟩ : ∃ a l,took=a::l:=by
   cases took with
   | nil=>simp at hu;omega
   | cons a l=>exact ⟨a,l,rfl⟩
  have va:=vals0 a (by simp)
  have sa:=bT va
  have ns : fstk.length+(args.length+1)≤16:=ns
  have hu : ((args.length+1 : Nat) : Int)=x.a+1:=hu
  have e : dJ m ⟨ff,fpc,floc,fstk⟩ (a::args) (fs0.length+1) hp made out x=if a.k≠5 then .trap 1 else if eJ m.funcs a.n≠x.a then .trap 5 else if fs0.length+1=24 then .trap 6 else .call ⟨ff,fpc,floc,fstk⟩ (qA m.funcs a.n args):=by simp only [dJ];repeat (first | rfl | rw [if_pos (by omega)] | rw [if_neg (by omega)])
  have hlen : (fstk++a::args).length=fstk.length+args.length+1:=by simp;omega
  refine bN rfl rfl (bN rfl rfl (bN rfl rfl (aA (y:=aO (fstk++a::args)) rfl (dP (bW (by omega) (bW (by omega) ?_))))))
  have ei : ((fstk++a::args).length : Int) - 1 - x.a=fstk.length:=by omega
  rw [ei]
  refine bN rfl rfl (aA (y:=aO (fstk++a::args)) rfl (eV (by omega) (by omega) (bN rfl rfl (aA (y:=aO (fstk++a::args)) rfl (mA (by omega) (by omega) (fun v hv=>?_))))))
  rw [Int.toNat_natCast,List.getElem?_append_right (Nat.le_refl _),Nat.sub_self] at hv
  cases hv
  refine aD rfl (aA rfl (aA rfl (aA rfl (?_))))
  refine aY (aI (fun h=>aB (by rw [e,if_pos h];exact ⟨by omega,rfl⟩)) (fun h=>?_))
  rw [if_neg (by simpa using h)] at e
  have hr:=aDH va h
  refine aKu (by omega) (by omega) (by omega) (fun _ _=>aA rfl ?_)
  refine aY (aI (fun h=>aB (by rw [e,if_pos h];exact ⟨by omega,rfl⟩)) (fun h=>?_))
  rw [if_neg (by simpa using h)] at e
  rw [show fstk++a::args=fstk++[a]++args by simp]
  refine aJy (under:=true) (s1:=fstk) (by omega) par nA (by simp;omega) (.inl ⟨rfl,a,rfl⟩) hr (by omega) (fun hd=>aB ?_) (fun hd=>aB ?_)
  ·rw [e,if_pos (by rw [List.length_map] at hd;omega)];exact ⟨by omega,rfl⟩
  ·rw [e,if_neg (by rw [List.length_map] at hd;omega)];rfl
 refine aF (aC (fun ho=>?_) (fun n24=>?_))
 ·have hq:=q524 (.inr ho)
  have e0 : aT m.funcs x=(eJ m.funcs x.a,1):=by unfold aT;repeat (first | rfl | rw [if_pos (by omega)] | rw [if_neg (by omega)])
  rw [e0] at hu
  have e : dJ m ⟨ff,fpc,floc,fstk⟩ took (fs0.length+1) hp made out x=if fs0.length+1=24 then .trap 6 else .call ⟨ff,fpc,floc,fstk⟩ (qA m.funcs x.a took):=by simp only [dJ];repeat (first | rfl | rw [if_pos (by omega)] | rw [if_neg (by omega)])
  refine aJy (under:=false) (s1:=fstk) (by omega) par nA (by omega) (.inr ⟨rfl,rfl⟩) hq (by omega) (fun hd=>aB ?_) (fun hd=>aB ?_)
  ·rw [e,if_pos (by rw [List.length_map] at hd;omega)];exact ⟨by omega,rfl⟩
  ·rw [e,if_neg (by rw [List.length_map] at hd;omega)];rfl
 refine aF (aC (fun ho=>?_) (fun n25=>?_))
 ·have e0 : aT m.funcs x=(1,0):=by unfold aT;repeat (first | rfl | rw [if_pos (by omega)] | rw [if_neg (by omega)])
  rw [e0] at hu
  obtain ⟨a,rfl⟩:=List.length_eq_one_iff.1 (show took.length=1 by omega)
  have va:=vals0 a (by simp)
  have sa:=bT va
  have ns : fstk.length+1≤16:=ns
  have e : dJ m ⟨ff,fpc,floc,fstk⟩ [a] (fs0.length+1) hp made out x = .ret a:=by simp only [dJ];repeat (first | rfl | rw [if_pos (by omega)] | rw [if_neg (by omega)])
  refine fK (by omega) (by first | omega | (simp;omega)) (aD rfl (aA rfl (aA rfl (aA rfl (?_)))))
  have e1 : ((fs0.map cH.pv++[cH.pv ⟨ff,fpc,floc,fstk⟩]).length : Int) - 1=fs0.length:=by simp
  have hel : ∀ y∈fs0.map cH.pv++[cH.pv ⟨ff,fpc,floc,fstk⟩],y.isEl 4 true=true:=fun y hy=>(List.mem_append.1 hy).elim (aHz y) (fun h=>by simp only [List.mem_singleton] at h;subst h;rfl)
  refine bS (bW (by simp;omega) ?_)
  rw [e1]
  have e2 : ((fs0.map cH.pv++[cH.pv ⟨ff,fpc,floc,fstk⟩]).take (fs0.length : Int).toNat).drop (0 : Int).toNat=fs0.map cH.pv:=by
   rw [Int.toNat_natCast,Int.toNat_zero,List.drop_zero,List.take_left' (by simp)]
  refine yJ (by omega) (by omega) (by simp;omega) hel ?_
  refine yJ (by omega) (by omega) (by simp;omega) hel ?_
  rw [e2]
  refine aE (aF (aC (fun h=>aB ?_) (fun h=>?_)))
  ·rw [e]
   have : fs0 = []:=List.eq_nil_of_length_eq_zero (by omega)
   subst this
   rfl
  ·obtain ⟨l,g,rfl⟩ : ∃ l g,fs0=l++[g]:=⟨fs0.dropLast,fs0.getLast (fun e=>by rw [e] at h;simp at h),(List.dropLast_concat_getLast _).symm⟩
   have hg:=stks g (by simp)
   obtain ⟨gf,gpc,gloc,gstk⟩:=g
   simp only at hg
   rw [List.map_append]
   refine gD (by rw [List.length_map];simp at n0;omega) (by omega) (aB ?_)
   rw [e]
   show _=_
   rw [if_neg (by simp),wO,List.map_append]
   rfl
 refine aF (aC (fun ho=>?_) (fun n26=>?_))
 ·have e0 : aT m.funcs x=(1,0):=by unfold aT;repeat (first | rfl | rw [if_pos (by omega)] | rw [if_neg (by omega)])
  rw [e0] at hu
  obtain ⟨a,rfl⟩:=List.length_eq_one_iff.1 (show took.length=1 by omega)
  have va:=vals0 a (by simp)
  have sa:=bT va
  have ns : fstk.length+1≤16:=ns
  have e : dJ m ⟨ff,fpc,floc,fstk⟩ [a] (fs0.length+1) hp made out x=if out.length=200 then .trap 8 else .next ⟨ff,fpc,floc,fstk⟩ hp made (out++[iG a hp]):=by simp only [dJ];repeat (first | rfl | rw [if_pos (by omega)] | rw [if_neg (by omega)])
  refine fK (by omega) (by first | omega | (simp;omega)) (aD rfl (aA rfl (aA rfl (aA rfl (?_)))))
  refine aE (aF (aC (fun h=>aB (by rw [e,if_pos (by omega)];exact ⟨by omega,rfl⟩)) (fun h=>?_)))
  rw [if_neg (by omega)] at e
  refine aG (aIh (v:=a) (hp:=hp) (nf:=m.funcs.length) (by omega) (by omega) (fun r hr=>by have:=recs r hr;omega) va) (fun r hr=>?_)
  subst hr
  refine cG rfl (mZ (by simp) (fun x hx=>by simp only [List.mem_singleton] at hx;subst hx;rfl) (lW (by simp;omega) (fun x hx=>by simp only [List.mem_singleton] at hx;subst hx;rfl) (aB ?_)))
  rw [e]
  show _=_
  rw [List.map_append]
  rfl
 omega
structure qY where
 fr : List cH
 hp : List (List cO)
 made : Int
 out : List ByteArray
 st : Int
 tr : Int
 val : cO
 steps : Int
def qY.pv (v : qY) : PV:=.agg [.lst (v.fr.map cH.pv),.lst (v.hp.map dO),.int .i64 v.made,.lst (v.out.map PV.str),.int .i64 v.st,.int .i64 v.tr,.int .i64 v.val.k,.int .i64 v.val.n,.str v.val.s,.int .i64 v.steps]
def iI (v : qY) : R:=[.int .i64 v.made,.int .i64 v.st,.int .i64 v.tr,.int .i64 v.val.k,.int .i64 v.val.n,.str v.val.s,.int .i64 v.steps,.lst (v.fr.map cH.pv),.lst (v.hp.map dO),.lst (v.out.map PV.str)]
structure Sz (v : qY) : Prop where
 f : v.fr.length≤1000
 h : v.hp.length≤1000
 o : v.out.length≤1000
 fl : ∀ f∈v.fr,f.loc.length≤1000∧f.stk.length≤1000
 hl : ∀ r∈v.hp,r.length≤1000
theorem aDI (l : List cO) : PV.flatEs true [] (l.map cO.pv)=true:=by
 induction l with
 | nil=>simp [PV.flatEs]
 | cons x r ih=>simp [PV.flatEs,PV.flatE,PV.flatCs,PV.flat,cO.pv,ih]
theorem eR (l : List cO) : PV.flatO (.own 3 32 true []) (aO l)=true:=aDI l
theorem zO (l : List cH) : PV.flatO (.own 4 64 true [.leaf,.leaf,(.own 3 32 true []),(.own 3 32 true [])]) (.lst (l.map cH.pv))=true:=by
 show PV.flatEs true _ (l.map cH.pv)=true
 induction l with
 | nil=>simp [PV.flatEs]
 | cons x r ih=>
   simp only [List.map_cons,PV.flatEs,Bool.and_eq_true]
   refine ⟨?_,ih⟩
   simp [cH.pv,PV.flatE,PV.flatCs,PV.flat,aO,aDI]
theorem aAk (l : List (List cO)) : PV.flatO (.own 1 24 true [(.own 3 32 true [])]) (.lst (l.map dO))=true:=by
 show PV.flatEs true _ (l.map dO)=true
 induction l with
 | nil=>simp [PV.flatEs]
 | cons x r ih=>
   simp only [List.map_cons,PV.flatEs,Bool.and_eq_true]
   refine ⟨?_,ih⟩
   simp [dO,PV.flatE,PV.flatCs,aO,aDI]
theorem aDJ (l : List ByteArray) : PV.flatO (.own 1 16 false []) (.lst (l.map PV.str))=true:=by
 show PV.flatEs false [] (l.map PV.str)=true
 induction l with
 | nil=>simp [PV.flatEs]
 | cons x r ih=>simp [PV.flatEs,PV.flatE,PV.flat,ih]
theorem aLf {l : List ByteArray} : ∀ x∈l.map PV.str,x.isEl 1 false=true:=by
 intro x hx
 obtain ⟨a,_,rfl⟩:=List.mem_map.1 hx
 rfl
theorem aG6 {hp : List (List cO)} (h : hp.length≤1000) (hl : ∀ r∈hp,r.length≤1000) : Ok (fun r=>r = [.lst (hp.map dO)]) (oH (.lst (hp.map dO))):=by
 rw [aAr]
 refine kY (n:=hp.length) (P:=fun _ r=>r = [.lst (hp.map dO)]) (F:=fun i=>hH (.lst (hp.map dO)) (.int .i64 i) (.lst ((hp.take i).map dO))) ?_ ?_ 0 (by omega)
 ·rw [nN]
  refine aE (aH (aC (fun h=>by omega) (fun _=>aB ?_)))
  rw [List.take_length]
 ·intro i hi ih
  rw [nN]
  have:=hl _ (List.getElem_mem hi)
  refine aE (aH (aC (fun _=>?_) (fun h=>by omega)))
  refine aQ hi (fun _=>rfl) (aA rfl (mZ (by rw [List.length_map];omega) aAj ?_))
  refine lW (by simp;omega) (fun x hx=>by simp only [List.mem_singleton] at hx;subst hx;rfl) (aM (by omega) ?_)
  have e : (hp.take i).map dO++[PV.agg [.lst (hp[i].map cO.pv)]]=(hp.take (i+1)).map dO:=by
   rw [List.take_add_one,List.getElem?_eq_getElem hi,List.map_append];rfl
  rw [e]
  exact ih
theorem aGf {f : cH} (h : f.loc.length≤1000∧f.stk.length≤1000) : Ok (fun r=>r = [.int .i64 f.f,.int .i64 f.pc,aO f.loc,aO f.stk]) (nJ f.pv):=by
 rw [zF]
 refine aD rfl (aA rfl (aA rfl (aA rfl (aA rfl ?_))))
 exact mZ (by rw [List.length_map];omega) aAj (mZ (by rw [List.length_map];omega) aAj (aB rfl))
theorem aL3 {v : qY} (z : Sz v) : Ok (fun r=>r=iI v) (iN v.pv):=by
 obtain ⟨zf,zh,zo,zfl,zhl⟩:=z
 rw [aEA]
 refine aD rfl (aA rfl (aA rfl (aA rfl (aA rfl (aA rfl (aA rfl (aA rfl (aA rfl (aA rfl (aA rfl ?_))))))))))
 refine kY (n:=v.fr.length) (P:=fun _ r=>r=iI v) (F:=fun i=>lT (.int .i64 i) (.lst (v.fr.map cH.pv)) (.lst (v.hp.map dO)) (.int .i64 v.made) (.lst (v.out.map PV.str)) (.int .i64 v.st) (.int .i64 v.tr) (.int .i64 v.val.k) (.int .i64 v.val.n) (.str v.val.s) (.int .i64 v.steps) (.int .i64 0) (.int .i64 0) (.int .i64 0) (.int .i64 0) (.int .i64 0) (.str (bs [])) (.int .i64 0) (.lst []) (.lst []) (.lst []) (.lst ((v.fr.take i).map cH.pv))) ?_ ?_ 0 (by omega)
 ·rw [sL]
  refine aE (aH (aC (fun h=>by omega) (fun _=>?_)))
  refine aG (aG6 zh zhl) (fun r hr=>?_)
  subst hr
  refine dK (aAk _) (mZ (by rw [List.length_map];omega) aLf (aB ?_))
  rw [List.take_length]
  rfl
 ·intro i hi ih
  rw [sL]
  refine aE (aH (aC (fun _=>?_) (fun h=>by omega)))
  refine aQ hi (fun _=>rfl) (aG (aGf (zfl _ (List.getElem_mem hi))) (fun r hr=>?_))
  subst hr
  refine cG rfl (cG rfl (dK (eR _) (dK (eR _) ?_)))
  refine lW (by simp;omega) (fun x hx=>by simp only [List.mem_singleton] at hx;subst hx;rfl) (aM (by omega) ?_)
  have e : (v.fr.take i).map cH.pv++[PV.agg [.int .i64 v.fr[i].f,.int .i64 v.fr[i].pc,aO v.fr[i].loc,aO v.fr[i].stk]]=(v.fr.take (i+1)).map cH.pv:=by
   rw [List.take_add_one,List.getElem?_eq_getElem hi,List.map_append];rfl
  exact e▸ih
theorem aEX {P : R→Prop} {k : R→Option R} {v : qY} (z : Sz v) (h : Ok P (k (iI v))) : Ok P (bd (iN v.pv) k):=aG (aL3 z) (fun r hr=>by rw [hr];exact h)
theorem oO {P : R→Prop} {v : qY} {o : Option R} (h : Ok P o) :
 Ok P (PV.guardFlat (gd (iI v) 0) (PV.guardFlat (gd (iI v) 1) (PV.guardFlat (gd (iI v) 2) (PV.guardFlat (gd (iI v) 3) (PV.guardFlat (gd (iI v) 4) (PV.guardFlat (gd (iI v) 5) (PV.guardFlat (gd (iI v) 6)
  (PV.guardOwn (.own 4 64 true [.leaf,.leaf,(.own 3 32 true []),(.own 3 32 true [])]) (gd (iI v) 7) (PV.guardOwn (.own 1 24 true [(.own 3 32 true [])]) (gd (iI v) 8) (PV.guardOwn (.own 1 16 false []) (gd (iI v) 9) o)))))))))):=
 cG rfl (cG rfl (cG rfl (cG rfl (cG rfl (cG rfl (cG rfl (dK (zO _) (dK (aAk _) (dK (aDJ _) h)))))))))
def eH (fs : List cN) (i : Int) : List bE:=(fs[i.toNat]?.map cN.code).getD []
def iJ (fs : List cN) (f : cH) : bE:=(eH fs f.f)[f.pc.toNat]?.getD ⟨0,0⟩
def aBK (_m : dT) (v : qY) (fs0 : List cH) : aJw→qY
 | .trap c=>⟨v.fr,v.hp,v.made,v.out,2,c,v.val,v.steps+1⟩
 | .next fr hp made out=>⟨fs0++[fr],hp,made,out,v.st,v.tr,v.val,v.steps+1⟩
 | .call fr g=>⟨fs0++[fr,g],v.hp,v.made,v.out,v.st,v.tr,v.val,v.steps+1⟩
 | .ret a=>if fs0 = [] then ⟨[],v.hp,v.made,v.out,1,v.tr,a,v.steps+1⟩ else ⟨aCJ a fs0,v.hp,v.made,v.out,v.st,v.tr,v.val,v.steps+1⟩
def aAL (m : dT) (v : qY) (fs0 : List cH) (f : cH) : aJw:=
 let x:=iJ m.funcs f
 let b:=f.stk.length - (aT m.funcs x).1.toNat
 dJ m ⟨f.f,f.pc+1,f.loc,f.stk.take b⟩ (f.stk.drop b) (fs0.length+1) v.hp v.made v.out x
def nY (m : dT) (v : qY) : qY:=
 if v.st≠0 then v else if v.steps=50000 then v
 else match v.fr.getLast? with
 | none=>v
 | some f=>aBK m v v.fr.dropLast (aAL m v v.fr.dropLast f)
theorem aDK {m : dT} {v : qY} {fs0 : List cH} {f : cH} (h1 : v.st=0) (h2 : v.steps≠50000) (h3 : v.fr=fs0++[f]) : nY m v=aBK m v fs0 (aAL m v fs0 f):=by
 unfold nY
 rw [if_neg (by omega),if_neg h2,h3]
 simp
structure aMW (m : dT) (v : qY) (fs0 : List cH) (f : cH) : Prop where
 fr : v.fr=fs0++[f]
 fi : 0≤f.f∧f.f<m.funcs.length
 pc : 0≤f.pc∧f.pc<(eH m.funcs f.f).length
 nc : (eH m.funcs f.f).length≤120
 ins : bU m.texts.length m.funcs.length f.loc.length (eH m.funcs f.f).length (iJ m.funcs f).o (iJ m.funcs f).a=true
 us : 0≤(aT m.funcs (iJ m.funcs f)).1∧(aT m.funcs (iJ m.funcs f)).1≤f.stk.length
 small : ∀ b,aMV m fs0 ⟨f.f,f.pc+1,f.loc,f.stk.take b⟩ (f.stk.drop b) v.hp v.made v.out
end
noncomputable section
open Go
attribute [local irreducible] bd PV.ite PV.guardFlat PV.guardOwn PV.whole PV.one PV.cell PV.sub PV.at_ PV.len PV.slen PV.chr PV.beq PV.peq PV.ceq PV.bin PV.neg PV.not PV.conv PV.cut PV.scut PV.cat PV.setAt PV.setCell PV.ncopy PV.copyIn PV.zeros PV.toStr PV.toBytes PV.deref PV.isPtr PV.comp PV.inb PV.off PV.imin PV.imax PV.sel PV.apply PV.isLst PV.isInt PV.ix PV.nilT
def aCK (fs : List cN) (code : List bE) (d : List Int) (pc : Nat) : Option Int:=
 match code[pc]? with
 | none=>none
 | some x=>
   if d[pc]?.getD 0<0 then none
   else if can fs x (d[pc]?.getD 0)=false then some 2
   else if (fI x pc).any (fun t=>decide ((code.length : Int)≤t))=true then some 3
   else if (fI x pc).any (fun t=>!decide (d[t.toNat]?.getD 0=gE fs x (d[pc]?.getD 0)))=true then some 4
   else none
def aAM (fs : List cN) (code : List bE) (f pc : Nat) : Option (Int × Nat × Nat):=(aCK fs code (oM fs code) pc).map fun c=>(c,f,pc)
def aHA (fs : List cN) (f : Nat) : Option (Int × Nat × Nat):=match fs[f]? with
 | some x=>(List.range' 0 x.code.length).findSome? (aAM fs x.code f)
 | none=>none
def bad (fs : List cN) : Option (Int × Nat × Nat):=(List.range' 0 fs.length).findSome? (aHA fs)
def aKy : Option (Int × Nat × Nat)→PV
 | some (c,f,pc)=>.agg [.int .i64 c,.int .i64 f,.int .i64 pc]
 | none=>.agg [.int .i64 0,.int .i64 0,.int .i64 0]
def dT.verify (m : dT) : PV:=if m.okB then aKy (bad m.funcs) else .agg [.int .i64 1,.int .i64 0,.int .i64 0]
theorem aEY {n : Nat} {F : Nat→Option R} {P : R→Prop} (I : Nat→Prop) (he : I n→Ok P (F n)) (hs : ∀ i,i<n→I i→(I (i+1)→Ok P (F (i+1)))→Ok P (F i)) (h0 : I 0) : Ok P (F 0):=
 aDF (σ:=Unit) (F:=fun i _=>F i) (fun i _=>I i) (fun _ h=>he h) (fun i _ hi hI ih=>hs i hi hI (fun h=>ih () h)) 0 () (by omega) h0
theorem aCL {α : Type} {xs : List α} {i : Nat} (hi : i<xs.length) (p : α→Bool) : (xs.drop i).any p=(p xs[i]||(xs.drop (i+1)).any p):=by
 rw [List.drop_eq_getElem_cons hi,List.any_cons]
section
variable {fs : List cN} {code : List bE} {T x3 x4 x5 : PV} (F : Fit fs code) {f : Nat} (hf : f < fs.length)
include F hf
theorem aKz {P : R→Prop} {pc : Nat} (hpc : pc<code.length) {d : List Int} (hd : d.length=code.length) {left : Int} {ts : List Int} (hts : ∀ t∈ts,0≤t∧t<code.length) (hn : ts.length≤10)
 (h4 : ts.any (fun t=>!decide (d[t.toNat]?.getD 0=left))=true→P [.agg [.int .i64 4,.int .i64 f,.int .i64 pc]])
 (hgo : ts.any (fun t=>!decide (d[t.toNat]?.getD 0=left))=false→Ok P (hY (.int .i64 f) (.lst (code.map bE.pv)) (dV d) (.int .i64 ((pc : Int)+1)) T (.lst (fs.map cN.pv)) x3 x4 x5)) :
 Ok P (gH (.int .i64 f) (.lst (code.map bE.pv)) (dV d) (.int .i64 pc) (.int .i64 left) (dV ts) (.int .i64 0) T (.lst (fs.map cN.pv)) x3 x4 x5):=by
 have hn2:=F.n2
 refine aEY (n:=ts.length) (F:=fun i=>gH (.int .i64 f) (.lst (code.map bE.pv)) (dV d) (.int .i64 pc) (.int .i64 left) (dV ts) (.int .i64 i) T (.lst (fs.map cN.pv)) x3 x4 x5)
  (fun i=>(ts.drop i).any (fun t=>!decide (d[t.toNat]?.getD 0=left))=ts.any (fun t=>!decide (d[t.toNat]?.getD 0=left))) ?_ ?_ (by rw [List.drop_zero])
 ·intro hI
  rw [List.drop_length] at hI
  rw [sJ]
  exact dY (aH (aC (fun h=>by omega) (fun _=>aM (by omega) (hgo hI.symm))))
 ·intro i hi hI ih
  rw [aCL hi] at hI
  have ht:=hts ts[i] (List.getElem_mem _)
  rw [sJ]
  refine dY (aH (aC (fun _=>?_) (fun h=>by omega)))
  refine cZ hi (tS (by omega) (by omega) (fun v hv=>?_))
  have hv' : d[ts[i].toNat]?.getD 0=v:=by rw [hv];rfl
  rw [hv'] at hI
  refine aY (aI (fun h=>?_) (fun h=>?_))
  ·rw [decide_eq_false h] at hI
   exact bA rfl (bA rfl (aB (h4 hI.symm)))
  ·rw [decide_eq_true h] at hI
   exact aM (by omega) (ih hI)
theorem aL4 {P : R→Prop} {pc : Nat} (hpc : pc<code.length) {d : List Int} (hd : d.length=code.length) {left : Int} {ts : List Int} (hts : ∀ t∈ts,0≤t∧t≤code.length) (hn : ts.length≤10)
 (h3 : ts.any (fun t=>decide ((code.length : Int)≤t))=true→P [.agg [.int .i64 3,.int .i64 f,.int .i64 pc]])
 (hgo : ts.any (fun t=>decide ((code.length : Int)≤t))=false→Ok P (gH (.int .i64 f) (.lst (code.map bE.pv)) (dV d) (.int .i64 pc) (.int .i64 left) (dV ts) (.int .i64 0) T (.lst (fs.map cN.pv)) x3 x4 x5)) :
 Ok P (iW (.int .i64 f) (.lst (code.map bE.pv)) (dV d) (.int .i64 pc) (.int .i64 left) (dV ts) (.int .i64 0) T (.lst (fs.map cN.pv)) x3 x4 x5):=by
 have hn2:=F.n2
 refine aEY (n:=ts.length) (F:=fun i=>iW (.int .i64 f) (.lst (code.map bE.pv)) (dV d) (.int .i64 pc) (.int .i64 left) (dV ts) (.int .i64 i) T (.lst (fs.map cN.pv)) x3 x4 x5)
  (fun i=>(ts.drop i).any (fun t=>decide ((code.length : Int)≤t))=ts.any (fun t=>decide ((code.length : Int)≤t))) ?_ ?_ (by rw [List.drop_zero])
 ·intro hI
  rw [List.drop_length] at hI
  rw [sI]
  exact dY (aH (aC (fun h=>by omega) (fun _=>hgo hI.symm)))
 ·intro i hi hI ih
  rw [aCL hi] at hI
  rw [sI]
  refine dY (aH (aC (fun _=>?_) (fun h=>by omega)))
  refine cZ hi (aE (oF (aC (fun h=>?_) (fun h=>?_))))
  ·rw [decide_eq_true h] at hI
   exact bA rfl (bA rfl (aB (h3 hI.symm)))
  ·rw [decide_eq_false h] at hI
   exact aM (by omega) (ih hI)
theorem aLg {ts : List Int} {n : Int} (h : ts.any (fun t=>decide (n≤t))=false) : ∀ t∈ts,t<n:=by
 clear F hf
 intro t ht
 rw [List.any_eq_false] at h
 have:=h t ht
 simp at this
 omega
theorem aKA {rest : Option (Int × Nat × Nat)} (hnext : Ok (fun r=>r = [aKy rest]) (jX (.int .i64 ((f : Int)+1)) T (.lst (fs.map cN.pv)) x3 x4 x5)) : ∀ pc,pc≤code.length→
 Ok (fun r=>r = [aKy (((List.range' pc (code.length - pc)).findSome? (aAM fs code f)).or rest)]) (hY (.int .i64 f) (.lst (code.map bE.pv)) (dV (oM fs code)) (.int .i64 pc) T (.lst (fs.map cN.pv)) x3 x4 x5):=by
 have hn2:=F.n2
 have hnf:=F.nf
 have hg:=aBJ F
 generalize hd : oM fs code=d at hg
 refine kY ?_ ?_
 ·rw [tJ,aCz]
  exact aE (aH (aC (fun h=>by omega) (fun _=>aM (by omega) hnext)))
 ·intro pc hpc ih
  have hx : code[pc]? = some code[pc]:=List.getElem?_eq_getElem hpc
  have hm : code[pc]∈code:=List.getElem_mem _
  have hu:=F.u code[pc] hm
  have hil : pc<d.length:=by rw [hg.1];exact hpc
  have hv:=hg.at pc
  have e2 : d[pc]=d[pc]?.getD 0:=aEV hil
  rw [aAg hpc]
  have eb : aAM fs code f pc=(aCK fs code d pc).map fun c=>(c,f,pc):=by unfold aAM;rw [hd]
  rw [eb]
  have ec : aCK fs code d pc=if d[pc]?.getD 0<0 then none
   else if can fs code[pc] (d[pc]?.getD 0)=false then some 2
   else if (fI code[pc] pc).any (fun t=>decide ((code.length : Int)≤t))=true then some 3
   else if (fI code[pc] pc).any (fun t=>!decide (d[t.toNat]?.getD 0=gE fs code[pc] (d[pc]?.getD 0)))=true then some 4
   else none:=by
   conv=>lhs;unfold aCK
   rw [hx]
  generalize hw : d[pc]?.getD 0=w at *
  generalize aCK fs code d pc=ch at *
  rw [tJ]
  refine aE (aH (aC (fun _=>?_) (fun h=>by omega)))
  refine cZ hil ?_
  rw [e2]
  refine aH (aC (fun h1=>?_) (fun h1=>?_))
  ·rw [if_pos h1] at ec
   subst ec
   exact aM (by omega) ih
  rw [if_neg h1] at ec
  refine aQ hpc (fun _=>rfl) (aG (aHs (T:=T) (by omega)) (fun r hr=>?_))
  subst hr
  refine aR rfl (aR rfl (cZ hil ?_))
  rw [e2]
  refine bW (by omega) (aM (by omega) (cZ hil ?_))
  rw [e2]
  refine aH (aC (fun h2=>?_) (fun h2=>?_))
  ·have hc : can fs code[pc] w=false:=by simp only [can];rw [decide_eq_false (by omega)];rfl
   rw [if_pos hc] at ec
   subst ec
   exact bA rfl (bA rfl (aB rfl))
  refine mX (aC (fun h3=>?_) (fun h3=>?_))
  ·have hc : can fs code[pc] w=false:=by simp only [can];rw [decide_eq_false (p:=gE fs code[pc] w≤16) (by unfold gE;omega),Bool.and_false]
   rw [if_pos hc] at ec
   subst ec
   exact bA rfl (bA rfl (aB rfl))
  have hc : can fs code[pc] w=true:=by simp only [can];rw [decide_eq_true (by omega),decide_eq_true (p:=gE fs code[pc] w≤16) (by unfold gE;omega)];rfl
  rw [hc,if_neg (by simp)] at ec
  refine aQ hpc (fun _=>rfl) (aG (aHu (by omega)) (fun r hr=>?_))
  subst hr
  have hnx:=zK F hm hpc
  have hl10 : (fI code[pc] pc).length≤10:=by unfold fI;repeat' split<;>simp
  refine aL4 F hf hpc hg.1 (left:=gE fs code[pc] w) hnx hl10 (fun h=>?_) (fun h=>?_)
  ·rw [if_pos h] at ec
   subst ec
   rfl
  rw [if_neg (by rw [h];simp)] at ec
  refine aKz F hf hpc hg.1 (left:=gE fs code[pc] w) (fun t ht=>⟨(hnx t ht).1,aLg F hf h t ht⟩) hl10 (fun h=>?_) (fun h=>?_)
  ·rw [if_pos h] at ec
   subst ec
   rfl
  ·rw [if_neg (by rw [h];simp)] at ec
   subst ec
   exact ih
end
theorem aGg {fs : List cN} {f : Nat} (hf : f<fs.length) : aHA fs f=(List.range' 0 fs[f].code.length).findSome? (aAM fs fs[f].code f):=by
 unfold aHA
 rw [List.getElem?_eq_getElem hf]
theorem aJz {m : dT} (h : m.sized) : Ok (fun r=>r = [m.verify]) (yO m.pv):=by
 rw [aFO]
 refine aD rfl (aA rfl (aA rfl (aG (aG4 h) (fun r hr=>?_))))
 subst hr
 unfold dT.verify
 refine bX (bQ (fun hb=>aB ?_) (fun hb=>?_))
 ·have : m.okB=false:=by simpa using hb
  rw [this];rfl
 have hb : m.okB=true:=by simpa using hb
 rw [hb,if_pos rfl]
 obtain ⟨h1,h2,h3⟩:=dT.okB_fit hb
 have key:=kY (n:=m.funcs.length) (P:=fun f r=>r = [aKy ((List.range' f (m.funcs.length - f)).findSome? (aHA m.funcs))])
  (F:=fun f=>jX (.int .i64 f) (.lst (m.texts.map PV.str)) (.lst (m.funcs.map cN.pv)) (.int .i64 0) (.int .i64 0) (.int .i64 0)) ?_ ?_ 0 (by omega)
 ·exact key
 ·rw [tI,aCz]
  exact aE (aH (aC (fun h=>by omega) (fun _=>aB rfl)))
 ·intro f hf ih
  have F:=(h3 m.funcs[f] (List.getElem_mem _)).1
  rw [tI,aAg hf,aGg hf]
  refine aE (aH (aC (fun _=>?_) (fun h=>by omega)))
  refine aQ hf (fun _=>rfl) (aA rfl (aG (aJs F hf rfl) (fun r hr=>?_)))
  subst hr
  exact aKA F hf ih 0 (by omega)
section
variable {P : R → Prop} {k : R → Option R}
theorem aL5 {xs : List Int} (hx : xs.length≤1000000000) (y : Int) : Ok (fun r=>∃ n : Int,r = [.int .i64 n]∧(0≤n↔xs.any (fun x=>decide (y=x))=true)) (kC (dV xs) (.int .i64 y)):=by
 rw [uY]
 refine dY ?_
 refine aEY (n:=xs.length) (F:=fun i=>fH (dV xs) (.int .i64 y) (.int .i64 xs.length) (.int .i64 i)) (fun i=>(xs.drop i).any (fun x=>decide (y=x))=xs.any (fun x=>decide (y=x))) ?_ ?_ (by rw [List.drop_zero])
 ·intro hI
  rw [List.drop_length] at hI
  rw [kF]
  refine aH (aC (fun h=>by omega) (fun _=>aB ⟨-1,rfl,?_⟩))
  rw [← hI];simp
 ·intro i hi hI ih
  rw [aCL hi] at hI
  rw [kF]
  refine aH (aC (fun _=>?_) (fun h=>by omega))
  refine cZ hi (aF (aC (fun h=>aB ⟨i,rfl,?_⟩) (fun h=>?_)))
  ·rw [← hI,decide_eq_true h];simp
  ·rw [decide_eq_false h] at hI
   exact aM (by omega) (ih hI)
theorem aL6 {xs : List Int} (hx : xs.length≤1000000000) {y : Int} (h : Ok P (k [.bool (xs.any (fun x=>decide (y=x)))])) : Ok P (bd (iB (dV xs) (.int .i64 y)) k):=by
 refine aG (Q:=fun r=>r = [.bool (xs.any (fun x=>decide (y=x)))]) ?_ (fun r hr=>by rw [hr];exact h)
 rw [sN]
 refine aG (aL5 hx y) ?_
 rintro r ⟨n,rfl,hn⟩
 refine oF (aB ?_)
 by_cases h0 : 0≤n
 ·rw [decide_eq_true h0,hn.1 h0]
 ·rw [decide_eq_false h0]
  cases h2 : xs.any (fun x=>decide (y=x)) with
  | false=>rfl
  | true=>exact absurd (hn.2 h2) h0
theorem aL7 {f : Nat} {caps : List PV} {xs : List Int} (hx : xs.length≤1000000000) (p : Int→Bool) (hp : ∀ x∈xs,Ok (fun r=>r = [.bool (p x)]) (aJ f ([.int .i64 x]++caps))) (h : Ok P (k [.bool (xs.any p)])) :
 Ok P (bd (fQ (dV xs) (.fn f caps)) k):=by
 refine aG (Q:=fun r=>r = [.bool (xs.any p)]) ?_ (fun r hr=>by rw [hr];exact h)
 rw [oI]
 refine aG (Q:=fun r=>∃ n : Int,r = [.int .i64 n]∧(0≤n↔xs.any p=true)) ?_ ?_
 ·rw [qS]
  refine dY ?_
  refine aEY (n:=xs.length) (F:=fun i=>eK (dV xs) (.fn f caps) (.int .i64 xs.length) (.int .i64 i)) (fun i=>(xs.drop i).any p=xs.any p) ?_ ?_ (by rw [List.drop_zero])
  ·intro hI
   rw [List.drop_length] at hI
   rw [iF]
   refine aH (aC (fun h=>by omega) (fun _=>aB ⟨-1,rfl,?_⟩))
   rw [← hI];simp
  ·intro i hi hI ih
   rw [aCL hi] at hI
   rw [iF]
   refine aH (aC (fun _=>?_) (fun h=>by omega))
   refine cZ hi (pC rfl (hp _ (List.getElem_mem _)) (fun r hr=>?_))
   subst hr
   refine bQ (fun h=>aB ⟨i,rfl,?_⟩) (fun h=>?_)
   ·rw [← hI,h];simp
   ·rw [h,Bool.false_or] at hI
    exact aM (by omega) (ih hI)
 ·rintro r ⟨n,rfl,hn⟩
  refine oF (aB ?_)
  by_cases h0 : 0≤n
  ·rw [decide_eq_true h0,hn.1 h0]
  ·rw [decide_eq_false h0]
   cases h2 : xs.any p with
   | false=>rfl
   | true=>exact absurd (hn.2 h2) h0
end
theorem aNQ {ts : List Int} {n : Int} (h : ∀ t∈ts,t≤n) : ts.any (fun x=>decide (n=x))=ts.any (fun t=>decide (n≤t)):=by
 induction ts with
 | nil=>rfl
 | cons t r ih=>
   rw [List.any_cons,List.any_cons,ih (fun x hx=>h x (List.mem_cons_of_mem _ hx))]
   have:=h t List.mem_cons_self
   congr 1
   by_cases h1 : n=t
   ·rw [decide_eq_true h1,decide_eq_true (by omega)]
   ·rw [decide_eq_false h1,decide_eq_false (by omega)]
section
variable {fs : List cN} {code : List bE} {T x3 x4 x5 : PV} (F : Fit fs code) {f : Nat} (hf : f < fs.length)
include F hf
theorem aKB {rest : Option (Int × Nat × Nat)} (hnext : Ok (fun r=>r = [aKy rest]) (jZ (.int .i64 fs.length) (.int .i64 ((f : Int)+1)) T (.lst (fs.map cN.pv)) x3 x4 x5)) : ∀ pc,pc≤code.length→
 Ok (fun r=>r = [aKy (((List.range' pc (code.length - pc)).findSome? (aAM fs code f)).or rest)])
  (kA (.int .i64 f) (.int .i64 fs.length) (.int .i64 f) (.lst (code.map bE.pv)) (.int .i64 code.length) (.int .i64 pc) T (.lst (fs.map cN.pv)) x3 x4 x5 (dV (oM fs code))):=by
 have hn2:=F.n2
 have hnf:=F.nf
 have hg:=aBJ F
 generalize hd : oM fs code=d at hg
 refine kY ?_ ?_
 ·rw [tN,aCz]
  exact aH (aC (fun h=>by omega) (fun _=>aM (by omega) hnext))
 ·intro pc hpc ih
  have hx : code[pc]? = some code[pc]:=List.getElem?_eq_getElem hpc
  have hm : code[pc]∈code:=List.getElem_mem _
  have hu:=F.u code[pc] hm
  have hil : pc<d.length:=by rw [hg.1];exact hpc
  have hv:=hg.at pc
  have e2 : d[pc]=d[pc]?.getD 0:=aEV hil
  rw [aAg hpc]
  have eb : aAM fs code f pc=(aCK fs code d pc).map fun c=>(c,f,pc):=by unfold aAM;rw [hd]
  rw [eb]
  have ec : aCK fs code d pc=if d[pc]?.getD 0<0 then none
   else if can fs code[pc] (d[pc]?.getD 0)=false then some 2
   else if (fI code[pc] pc).any (fun t=>decide ((code.length : Int)≤t))=true then some 3
   else if (fI code[pc] pc).any (fun t=>!decide (d[t.toNat]?.getD 0=gE fs code[pc] (d[pc]?.getD 0)))=true then some 4
   else none:=by
   conv=>lhs;unfold aCK
   rw [hx]
  generalize hw : d[pc]?.getD 0=w at *
  generalize aCK fs code d pc=ch at *
  rw [tN]
  refine aH (aC (fun _=>?_) (fun h=>by omega))
  refine aQ hpc (fun _=>rfl) (aD rfl (aA rfl (aA rfl (cZ hil ?_))))
  rw [e2]
  refine aH (aC (fun h1=>?_) (fun h1=>?_))
  ·rw [if_pos h1] at ec
   subst ec
   exact aM (by omega) ih
  rw [if_neg h1] at ec
  refine cZ hil ?_
  rw [e2]
  refine aG (aHy (T:=T) F hm hv) (fun r hr=>?_)
  subst hr
  refine aR rfl (aR rfl (bA rfl (bX (bQ (fun hc=>?_) (fun hc=>?_)))))
  ·have hc : can fs code[pc] w=false:=by simpa using hc
   rw [if_pos hc] at ec
   subst ec
   exact bA rfl (bA rfl (aB rfl))
  have hc : can fs code[pc] w=true:=by simpa using hc
  rw [hc,if_neg (by simp)] at ec
  refine aG (aHv (x:=code[pc]) (by omega)) (fun r hr=>?_)
  subst hr
  have hnx:=zK F hm hpc
  have hl10 : (fI code[pc] pc).length≤10:=by unfold fI;repeat' split<;>simp
  refine dY (aL6 (by omega) ?_)
  rw [hg.1,aNQ (fun t ht=>(hnx t ht).2)]
  refine bQ (fun h=>?_) (fun h=>?_)
  ·rw [if_pos h] at ec
   subst ec
   exact bA rfl (bA rfl (aB rfl))
  rw [if_neg (by rw [h];simp)] at ec
  refine aL7 (by omega) (fun t=>!decide (d[t.toNat]?.getD 0=gE fs code[pc] w)) (fun t ht=>?_) ?_
  ·have:=hnx t ht
   have:=aLg F hf h t ht
   show Ok _ (aAH _ _ _)
   rw [aDv]
   refine lI rfl (tS (by omega) (by rw [hg.1];omega) (fun v hv=>lI rfl (aY (aB ?_))))
   rw [hv];rfl
  ·refine cG rfl (bQ (fun h=>?_) (fun h=>?_))
   ·rw [if_pos h] at ec
    subst ec
    exact bA rfl (bA rfl (aB rfl))
   ·rw [if_neg (by rw [h];simp)] at ec
    subst ec
    exact aM (by omega) ih
end
theorem aJA {m : dT} (h : m.sized) : Ok (fun r=>r = [m.verify]) (yY m.pv):=by
 rw [aF0]
 refine aD rfl (aA rfl (aA rfl (aG (aG5 h) (fun r hr=>?_))))
 subst hr
 unfold dT.verify
 refine bX (bQ (fun hb=>aB ?_) (fun hb=>?_))
 ·have : m.okB=false:=by simpa using hb
  rw [this];rfl
 have hb : m.okB=true:=by simpa using hb
 rw [hb,if_pos rfl]
 obtain ⟨h1,h2,h3⟩:=dT.okB_fit hb
 refine aE ?_
 have key:=kY (n:=m.funcs.length) (P:=fun f r=>r = [aKy ((List.range' f (m.funcs.length - f)).findSome? (aHA m.funcs))])
  (F:=fun f=>jZ (.int .i64 m.funcs.length) (.int .i64 f) (.lst (m.texts.map PV.str)) (.lst (m.funcs.map cN.pv)) (.int .i64 0) (.int .i64 0) (.int .i64 0)) ?_ ?_ 0 (by omega)
 ·exact key
 ·rw [tM,aCz]
  exact aH (aC (fun h=>by omega) (fun _=>aB rfl))
 ·intro f hf ih
  have F:=(h3 m.funcs[f] (List.getElem_mem _)).1
  rw [tM,aAg hf,aGg hf]
  refine aH (aC (fun _=>?_) (fun h=>by omega))
  refine aG (aGd F hf rfl) (fun r hr=>?_)
  subst hr
  refine bA rfl (aQ hf (fun _=>rfl) (aA rfl (aE ?_)))
  exact aKB F hf ih 0 (by omega)
theorem aL8 {fs : List cN} {code : List bE} {d : List Int} {pc : Nat} (hpc : pc<code.length) (h : aCK fs code d pc=none) (h0 : ¬ d[pc]?.getD 0<0) :
 can fs code[pc] (d[pc]?.getD 0)=true∧∀ t∈fI code[pc] pc,t<code.length∧d[t.toNat]?.getD 0=gE fs code[pc] (d[pc]?.getD 0):=by
 unfold aCK at h
 rw [List.getElem?_eq_getElem hpc] at h
 simp only at h
 rw [if_neg h0] at h
 split at h
 ·cases h
 rename_i h1
 split at h
 ·cases h
 rename_i h2
 split at h
 ·cases h
 rename_i h3
 refine ⟨by simpa using h1,fun t ht=>?_⟩
 rw [Bool.not_eq_true,List.any_eq_false] at h2 h3
 have g2:=h2 t ht
 have g3:=h3 t ht
 simp at g2 g3
 exact ⟨by omega,g3⟩
theorem aMX {fs : List cN} (h : bad fs=none) {f : Nat} (hf : f<fs.length) {pc : Nat} (hpc : pc<fs[f].code.length) : aCK fs fs[f].code (oM fs fs[f].code) pc=none:=by
 unfold bad at h
 rw [List.findSome?_eq_none_iff] at h
 have h1:=h f (by rw [List.mem_range'_1];omega)
 rw [aGg hf,List.findSome?_eq_none_iff] at h1
 have h2:=h1 pc (by rw [List.mem_range'_1];omega)
 simpa [aAM] using h2
end
noncomputable section
open Go Go.IntWalk
attribute [local irreducible] bd PV.ite PV.guardFlat PV.guardOwn PV.whole PV.one PV.cell PV.sub PV.at_ PV.len PV.slen PV.chr PV.beq PV.peq PV.ceq PV.bin PV.neg PV.not PV.conv PV.cut PV.scut PV.cat PV.setAt PV.setCell PV.ncopy PV.copyIn PV.zeros PV.toStr PV.toBytes PV.deref PV.isPtr PV.comp PV.inb PV.off PV.imin PV.imax PV.sel PV.apply PV.isLst PV.isInt PV.ix PV.nilT
structure iY (m : dT) : Prop where
 sz : m.sized
 ok : m.okB=true
 bad : bad m.funcs=none
def dAt (m : dT) (f pc : Int) : Int:=(oM m.funcs (eH m.funcs f))[pc.toNat]?.getD 0
def dF (m : dT) (f pc : Int) : bE:=(eH m.funcs f)[pc.toNat]?.getD ⟨0,0⟩
abbrev vOk (m : dT) (n : Int) (v : cO) : Prop:=bF m.funcs.length n v=true
theorem zP : kH (bs []) (bs [])=true:=aKv _
theorem nQ {nf n : Int} : bF nf n eD=true:=by simp [bF,eD,zP]
theorem aLh {nf n x : Int} (h : bY x=true) : bF nf n (aCA x)=true:=by simp [bF,aCA,zP,h]
theorem aCM {nf n : Int} {b : Bool} : bF nf n (mG b)=true:=by cases b<;>simp [bF,mG,zP,iP]
theorem aJB {nf n : Int} {s : ByteArray} (h : gF s=true) : bF nf n (aCB s)=true:=by simp [bF,aCB,h]
theorem aNR {nf n i : Int} (h : 0≤i∧i<n) : bF nf n (aLV i)=true:=by simp [bF,aLV,zP,h]
theorem aNS {nf n i : Int} (h : 0≤i∧i<nf) : bF nf n (aLW i)=true:=by
 have : i≤nf - 1:=by omega
 simp [bF,aLW,zP,iP,h,this]
theorem sP {nf n n' : Int} (hn : n≤n') {v : cO} (h : bF nf n v=true) : bF nf n' v=true:=by
 unfold bF at *
 split at h
 ·cases h
 rename_i h0
 rw [if_neg h0]
 split at h
 ·rename_i h1;rw [if_pos h1];exact h
 rename_i h1
 rw [if_neg h1]
 split at h
 ·rename_i h1;rw [if_pos h1];exact h
 rename_i h2
 rw [if_neg h2]
 split at h
 ·rename_i h1;rw [if_pos h1];exact h
 rename_i h3
 rw [if_neg h3]
 split at h
 ·rename_i h1;rw [if_pos h1];exact h
 rename_i h4
 rw [if_neg h4]
 split at h
 ·rename_i h1
  rw [if_pos h1]
  simp only [Bool.and_eq_true,decide_eq_true_eq] at *
  omega
 rename_i h5
 rw [if_neg h5]
 exact h
theorem aNT {a b : ByteArray} (ha : gF a=true) (hb : gF b=true) (h : ¬ (60 : Int)<a.size+b.size) : gF (a++b)=true:=by
 simp only [gF,Bool.and_eq_true,decide_eq_true_eq,List.all_eq_true] at *
 refine ⟨by rw [ByteArray.size_append];omega,fun x hx=>?_⟩
 rw [ByteArray.data_append,Array.toList_append,List.mem_append] at hx
 rcases hx with hx | hx
 ·exact ha.2 x hx
 ·exact hb.2 x hx
theorem aHB {nf n : Int} {v : cO} (h : bF nf n v=true) (hk : v.k=3) : gF v.s=true:=by
 unfold bF at h
 rw [if_neg (fun e=>e.1 hk),if_neg (by omega),if_neg (by omega),if_neg (by omega),if_pos hk] at h
 simp only [Bool.and_eq_true] at h
 exact h.2
theorem aIi {nf n o : Int} {a b : cO} : bF nf n (aBI o a b).1=true:=by
 unfold aBI
 repeat' split
 all_goals first
  | exact nQ
  | (rename_i h;exact aLh (by simpa using h))
theorem aOI {nf n o : Int} {a b : cO} (ha : bF nf n a=true) (hb : bF nf n b=true) : bF nf n (nS o a b).1=true:=by
 unfold nS
 split
 ·split
  ·rename_i h
   split
   ·exact nQ
   ·rename_i h2
    exact aJB (aNT (aHB ha h.1) (aHB hb h.2) h2)
  ·exact aIi
 split
 ·exact aIi
 split
 ·exact aIi
 split
 ·repeat' split
  all_goals first
   | exact nQ
   | exact aCM
 ·exact aCM
theorem iY.fit {m : dT} (g : iY m) : 1≤m.funcs.length∧m.funcs.length≤12∧∀ f∈m.funcs,Fit m.funcs f.code∧0≤f.p∧f.p≤6∧f.p≤f.lc∧f.lc≤12:=dT.okB_fit g.ok
theorem iY.code {m : dT} (g : iY m) {f : Int} (h : 0≤f∧f<m.funcs.length) : ∃ i : Nat,∃ hi : i<m.funcs.length,f=i∧eH m.funcs f=m.funcs[i].code∧Fit m.funcs m.funcs[i].code∧0≤m.funcs[i].p∧m.funcs[i].p≤6∧m.funcs[i].p≤m.funcs[i].lc∧m.funcs[i].lc≤12∧wN m.funcs f=m.funcs[i].lc∧eJ m.funcs f=m.funcs[i].p∧
 ∀ x∈m.funcs[i].code,bU m.texts.length m.funcs.length m.funcs[i].lc m.funcs[i].code.length x.o x.a=true:=by
 obtain ⟨i,hi⟩:=Int.eq_ofNat_of_zero_le h.1
 have hl : i<m.funcs.length:=by omega
 have hm : m.funcs[i]∈m.funcs:=List.getElem_mem _
 obtain ⟨F,p1,p2,p3,p4⟩:=g.fit.2.2 _ hm
 refine ⟨i,hl,hi,by simp [eH,hi,List.getElem?_eq_getElem hl],F,p1,p2,p3,p4,by simp [wN,hi,List.getElem?_eq_getElem hl],by simp [eJ,hi,List.getElem?_eq_getElem hl],fun x hx=>?_⟩
 have h:=g.ok
 simp only [dT.okB,Bool.and_eq_true,bL,decide_eq_true_eq,List.all_eq_true,sO] at h
 exact (h.2.2.2 _ hm).2.2.2 x hx
theorem iY.at_ {m : dT} (g : iY m) {f pc : Int} (h : 0≤f∧f<m.funcs.length) (hp : 0≤pc∧pc<(eH m.funcs f).length) (hd : 0≤dAt m f pc) :
 bU m.texts.length m.funcs.length (wN m.funcs f) (eH m.funcs f).length (dF m f pc).o (dF m f pc).a=true∧
 (0≤(aT m.funcs (dF m f pc)).1∧(aT m.funcs (dF m f pc)).1≤dAt m f pc∧0≤(aT m.funcs (dF m f pc)).2∧(aT m.funcs (dF m f pc)).2≤2)∧dAt m f pc≤16∧gE m.funcs (dF m f pc) (dAt m f pc)≤16∧
 ∀ t∈fI (dF m f pc) pc,(0≤t∧t<(eH m.funcs f).length)∧dAt m f t=gE m.funcs (dF m f pc) (dAt m f pc):=by
 obtain ⟨i,hi,rfl,hc,F,p1,p2,p3,p4,hlc,hpar,hins⟩:=g.code h
 obtain ⟨j,rfl⟩:=Int.eq_ofNat_of_zero_le hp.1
 have hj : j<m.funcs[i].code.length:=by rw [hc] at hp;omega
 have hx : dF m i j=m.funcs[i].code[j]:=by simp [dF,hc,List.getElem?_eq_getElem hj]
 have hm : m.funcs[i].code[j]∈m.funcs[i].code:=List.getElem_mem _
 have hu:=F.u _ hm
 have hdd : ∀ t : Int,dAt m i t=(oM m.funcs m.funcs[i].code)[t.toNat]?.getD 0:=fun t=>by rw [dAt,hc]
 have hb:=(aBJ F).at j
 have hck:=aL8 hj (aMX g.bad hi hj)
 have hnx:=zK F hm hj
 rw [hx,hc,hlc]
 rw [hdd,Int.toNat_natCast] at hd ⊢
 obtain ⟨hcan,hall⟩:=hck (by omega)
 simp only [can,Bool.and_eq_true,decide_eq_true_eq] at hcan
 refine ⟨hins _ hm,⟨hu.1,hcan.1,hu.2.2⟩,hb.2,hcan.2,fun t ht=>?_⟩
 obtain ⟨q1,q2⟩:=hall t ht
 exact ⟨⟨(hnx t ht).1,q1⟩,by rw [hdd];exact q2⟩
structure FrI (m : dT) (n : Int) (f : cH) : Prop where
 fi : 0≤f.f∧f.f<m.funcs.length
 pc : 0≤f.pc∧f.pc<(eH m.funcs f.f).length
 loc : (f.loc.length : Int)=wN m.funcs f.f
 d : 0≤dAt m f.f f.pc
 vl : ∀ v∈f.loc,vOk m n v
 vs : ∀ v∈f.stk,vOk m n v
structure aKC (m : dT) (n : Int) (f : cH) : Prop extends FrI m n f where
 h : (f.stk.length : Int)=dAt m f.f f.pc
structure aL9 (m : dT) (n : Int) (f : cH) : Prop extends FrI m n f where
 low : 1≤f.pc∧0≤dAt m f.f (f.pc - 1)∧((dF m f.f (f.pc - 1)).o=23∨(dF m f.f (f.pc - 1)).o=24)
 h : (f.stk.length : Int)=dAt m f.f f.pc - 1
structure HpI (m : dT) (hp : List (List cO)) (made : Int) (out : List ByteArray) : Prop where
 made : hp.length≤made∧made≤120
 recs : ∀ r∈hp,r.length≤6∧∀ v∈r,vOk m hp.length v
 out : out.length≤200
structure VmI (m : dT) (v : qY) : Prop where
 hp : HpI m v.hp v.made v.out
 steps : 0≤v.steps∧v.steps≤50000
 nfr : v.fr.length≤24
 run : v.st=0→v.fr≠[]
 top : ∀ fs0 f,v.fr=fs0++[f]→aKC m v.hp.length f∧∀ g∈fs0,aL9 m v.hp.length g
theorem FrI.mono {m : dT} {n n' : Int} (hn : n≤n') {f : cH} (h : FrI m n f) : FrI m n' f:=
 ⟨h.fi,h.pc,h.loc,h.d,fun v hv=>sP hn (h.vl v hv),fun v hv=>sP hn (h.vs v hv)⟩
theorem aL9.mono {m : dT} {n n' : Int} (hn : n≤n') {f : cH} (h : aL9 m n f) : aL9 m n' f:=⟨h.toFrI.mono hn,h.low,h.h⟩
theorem FrI.small {m : dT} (g : iY m) {n : Int} {f : cH} (h : FrI m n f) : f.loc.length≤12:=by
 obtain ⟨i,hi,he,hc,F,p1,p2,p3,p4,hlc,hpar,hins⟩:=g.code h.fi
 have:=h.loc
 omega
theorem FrI.dle {m : dT} (g : iY m) {n : Int} {f : cH} (h : FrI m n f) : dAt m f.f f.pc≤16:=(g.at_ h.fi h.pc h.d).2.2.1
theorem VmI.sz {m : dT} (g : iY m) {v : qY} (h : VmI m v) : Sz v:=by
 have:=h.hp.made
 have:=h.hp.out
 have:=h.nfr
 refine ⟨by omega,by omega,by omega,fun f hf=>?_,fun r hr=>by have:=(h.hp.recs r hr).1;omega⟩
 rcases List.eq_nil_or_concat v.fr with h0 | ⟨fs0,f0,h0⟩
 ·rw [h0] at hf;cases hf
 ·obtain ⟨t,l⟩:=h.top fs0 f0 (by rw [h0];simp)
  rw [h0] at hf
  simp only [List.concat_eq_append,List.mem_append,List.mem_singleton] at hf
  rcases hf with hf | rfl
  ·have:=(l f hf).toFrI.small g
   have:=(l f hf).toFrI.dle g
   have:=(l f hf).h
   omega
  ·have:=t.toFrI.small g
   have:=t.toFrI.dle g
   have:=t.h
   omega
theorem VmI.goes {m : dT} (g : iY m) {v : qY} (h : VmI m v) (h0 : v.st=0) : ∃ fs0 f,aMW m v fs0 f:=by
 rcases List.eq_nil_or_concat v.fr with e | ⟨fs0,f,e⟩
 ·exact absurd e (h.run h0)
 rw [List.concat_eq_append] at e
 refine ⟨fs0,f,?_⟩
 obtain ⟨t,l⟩:=h.top fs0 f e
 obtain ⟨i,hi,he,hc,F,p1,p2,p3,p4,hlc,hpar,hins⟩:=g.code t.fi
 obtain ⟨a1,a2,a3,a4,a5⟩:=g.at_ t.fi t.pc t.d
 have hx : iJ m.funcs f=dF m f.f f.pc:=rfl
 have hh:=t.h
 have hm:=h.hp.made
 have hn:=h.nfr
 rw [e,List.length_append,List.length_singleton] at hn
 refine ⟨e,t.fi,t.pc,by rw [hc];exact F.n2,by rw [hx,t.loc];exact a1,by rw [hx,hh];exact ⟨a2.1,a2.2.1⟩,fun b=>?_⟩
 refine ⟨g.fit.2.1,?_,fun f hf=>?_,by omega,fun f hf=>?_,by have:=t.toFrI.small g;exact this,?_,fun r hr=>(h.hp.recs r hr).1,by omega,by omega,h.hp.out,fun v hv=>t.vs v (List.mem_of_mem_drop hv)⟩
 ·have h:=g.ok
  simp only [dT.okB,Bool.and_eq_true,bL,decide_eq_true_eq] at h
  omega
 ·have:=g.fit.2.2 f hf
  exact this.2
 ·have:=(l f hf).toFrI.dle g
  have:=(l f hf).h
  omega
 ·simp only [List.length_take,List.length_drop]
  omega
structure aLi (m : dT) (v : qY) (f : cH) (x : bE) (fr : cH) (hp : List (List cO)) (made : Int) (out : List ByteArray) : Prop where
 ff : fr.f=f.f
 pc : fr.pc∈fI x f.pc
 loc : fr.loc.length=f.loc.length
 len : (fr.stk.length : Int)=gE m.funcs x f.stk.length
 vl : ∀ y∈fr.loc,vOk m hp.length y
 vs : ∀ y∈fr.stk,vOk m hp.length y
 n : v.hp.length≤hp.length
 hpI : HpI m hp made out
structure aOu (m : dT) (v : qY) (fs0 : List cH) (f : cH) (x : bE) (fr g : cH) : Prop where
 n : fs0.length+1<24
 o : x.o=23∨x.o=24
 frr : fr=⟨f.f,f.pc+1,f.loc,f.stk.take (f.stk.length - (aT m.funcs x).1.toNat)⟩
 gg : ∃ i args,g=qA m.funcs i args∧(0≤i∧i<m.funcs.length)∧(args.length : Int)=eJ m.funcs i∧∀ y∈args,vOk m v.hp.length y
def aPk (m : dT) (v : qY) (fs0 : List cH) (f : cH) (x : bE) : aJw→Prop
 | .trap _=>True
 | .next fr hp made out=>aLi m v f x fr hp made out
 | .call fr g=>aOu m v fs0 f x fr g
 | .ret a=>vOk m v.hp.length a
theorem aLj {m : dT} {n : Int} {l : List cO} (h : ∀ y∈l,vOk m n y) (i : Nat) : vOk m n (l[i]?.getD eD):=by
 cases hx : l[i]? with
 | none=>exact nQ
 | some y=>exact h y (List.mem_of_getElem? hx)
theorem aKD {m : dT} {v : qY} (h : HpI m v.hp v.made v.out) (i : Nat) : (v.hp[i]?.getD []).length≤6∧∀ y∈v.hp[i]?.getD [],vOk m v.hp.length y:=by
 cases hx : v.hp[i]? with
 | none=>simp
 | some y=>exact h.recs y (List.mem_of_getElem? hx)
theorem aMY {m : dT} {n : Int} {l : List cO} (h : ∀ y∈l,vOk m n y) {y : cO} (hy : vOk m n y) (i : Nat) : ∀ z∈l.set i y,vOk m n z:=by
 intro z hz
 rcases List.mem_or_eq_of_mem_set hz with h1 | rfl
 ·exact h z h1
 ·exact hy
theorem aIj {m : dT} {n : Int} {a b : List cO} (h : ∀ y∈a,vOk m n y) (h' : ∀ y∈b,vOk m n y) : ∀ y∈a++b,vOk m n y:=by
 intro y hy
 rcases List.mem_append.1 hy with h1 | h1
 ·exact h y h1
 ·exact h' y h1
theorem aHC {x : bE} {pc : Int} (h : x.o≠17∧x.o≠25) : pc+1∈fI x pc:=by simp [fI,h]
theorem aGh {x : bE} {pc : Int} (h : x.o=17∨x.o=18∨x.o=19) : x.a∈fI x pc:=by unfold fI;rw [if_pos h];simp
section
variable {m : dT} {v : qY} {fs0 : List cH} {f : cH} {x : bE}
theorem aOJ (g : iY m) (h : VmI m v) (t : aKC m v.hp.length f) (hx : iJ m.funcs f=x) (hn : fs0.length+1≤24) : aPk m v fs0 f x (aAL m v fs0 f):=by
 obtain ⟨a1,a2,a3,a4,a5⟩:=g.at_ t.fi t.pc t.d
 have hi : dF m f.f f.pc=x:=hx
 rw [hi] at a1 a2 a4 a5
 have hh:=t.h
 rw [← hh] at a2 a3 a4
 rw [← t.loc] at a1
 have ib:=rH a1
 show aPk m v fs0 f x (dJ m ⟨f.f,f.pc+1,f.loc,f.stk.take (f.stk.length - (aT m.funcs (iJ m.funcs f)).1.toNat)⟩ (f.stk.drop (f.stk.length - (aT m.funcs (iJ m.funcs f)).1.toNat)) (fs0.length+1) v.hp v.made v.out (iJ m.funcs f))
 rw [hx]
 generalize hb : f.stk.length - (aT m.funcs x).1.toNat=b
 have hlt : ((f.stk.take b).length : Int)=f.stk.length - (aT m.funcs x).1:=by rw [List.length_take];omega
 have hld : ((f.stk.drop b).length : Int)=(aT m.funcs x).1:=by rw [List.length_drop];omega
 have kt : ∀ y∈f.stk.take b,vOk m v.hp.length y:=fun y hy=>t.vs y (List.mem_of_mem_take hy)
 have kd : ∀ y∈f.stk.drop b,vOk m v.hp.length y:=fun y hy=>t.vs y (List.mem_of_mem_drop hy)
 have hlef : gE m.funcs x f.stk.length=f.stk.length - (aT m.funcs x).1+(aT m.funcs x).2:=rfl
 generalize htk : f.stk.take b=T at *
 generalize hdr : f.stk.drop b=D at *
 have ka : vOk m v.hp.length (D.headD eD):=by
  cases D with
  | nil=>exact nQ
  | cons y r=>exact kd y (by simp)
 have kb : vOk m v.hp.length (D.tail.headD eD):=by
  cases D with
  | nil=>exact nQ
  | cons y r=>cases r with
    | nil=>exact nQ
    | cons z r=>exact kd z (by simp)
 have ktl : ∀ y∈D.tail,vOk m v.hp.length y:=fun y hy=>kd y (List.mem_of_mem_tail hy)
 have go : ∀ (l : List cO) (pc : Int),pc∈fI x f.pc→(∀ y∈l,vOk m v.hp.length y)→(l.length : Int)=(aT m.funcs x).2→aLi m v f x ⟨f.f,pc,f.loc,T++l⟩ v.hp v.made v.out:=fun l pc hpc hl hn=>
  ⟨rfl,hpc,rfl,by rw [hlef,List.length_append];omega,t.vl,aIj kt hl,Nat.le_refl _,h.hp⟩
 have go0 : ∀ pc : Int,pc∈fI x f.pc→(aT m.funcs x).2=0→aLi m v f x ⟨f.f,pc,f.loc,T⟩ v.hp v.made v.out:=fun pc hpc hn=>by
  have:=go [] pc hpc (by simp) (by simp [hn])
  simpa using this
 have one : ∀ y,vOk m v.hp.length y→∀ z∈[y],vOk m v.hp.length z:=fun y hy z hz=>by rw [List.mem_singleton] at hz;rw [hz];exact hy
 have two : ∀ y y',vOk m v.hp.length y→vOk m v.hp.length y'→∀ z∈[y,y'],vOk m v.hp.length z:=fun y y' hy hy' z hz=>by
  simp only [List.mem_cons,List.not_mem_nil,or_false] at hz
  rcases hz with rfl | rfl
  ·exact hy
  ·exact hy'
 obtain ⟨⟨o1,o2⟩,i3,i67,i20,i21,i23,i5,ij,i1⟩:=ib
 have inc : x.o≠17→x.o≠25→f.pc+1∈fI x f.pc:=fun h1 h2=>aHC ⟨h1,h2⟩
 unfold dJ
 simp only
 by_cases h1 : x.o=1
 ·rw [if_pos h1]
  exact go _ _ (inc (by omega) (by omega)) (one _ (aLh (i1 h1))) (by simp [aT,h1])
 rw [if_neg h1]
 by_cases h2 : x.o=2
 ·rw [if_pos h2]
  exact go _ _ (inc (by omega) (by omega)) (one _ aCM) (by simp [aT,h2])
 rw [if_neg h2]
 by_cases h3 : x.o=3
 ·rw [if_pos h3]
  refine go _ _ (inc (by omega) (by omega)) (one _ (aJB ?_)) (by simp [aT,h3])
  have hok:=g.ok
  simp only [dT.okB,Bool.and_eq_true,bL,decide_eq_true_eq,List.all_eq_true] at hok
  have:=i3 h3
  rw [List.getElem?_eq_getElem (by omega)]
  exact hok.2.2.1 _ (List.getElem_mem _)
 rw [if_neg h3]
 by_cases h4 : x.o=4
 ·rw [if_pos h4]
  exact go _ _ (inc (by omega) (by omega)) (one _ nQ) (by simp [aT,h4])
 rw [if_neg h4]
 by_cases h5 : x.o=5
 ·rw [if_pos h5]
  exact go _ _ (inc (by omega) (by omega)) (one _ (aNS (i5 (.inl h5)))) (by simp [aT,h5])
 rw [if_neg h5]
 by_cases h6 : x.o=6
 ·rw [if_pos h6]
  exact go _ _ (inc (by omega) (by omega)) (one _ (aLj t.vl _)) (by simp [aT,h6])
 rw [if_neg h6]
 by_cases h7 : x.o=7
 ·rw [if_pos h7]
  exact ⟨rfl,inc (by omega) (by omega),by simp,by rw [hlef];simp only;rw [hlt];simp [aT,h7],aMY t.vl ka _,kt,Nat.le_refl _,h.hp⟩
 rw [if_neg h7]
 by_cases h8 : x.o=8
 ·rw [if_pos h8]
  exact go _ _ (inc (by omega) (by omega)) (two _ _ ka ka) (by simp [aT,h8])
 rw [if_neg h8]
 by_cases h9 : x.o=9
 ·rw [if_pos h9]
  exact go _ _ (inc (by omega) (by omega)) (by simp) (by simp [aT,h9])
 rw [if_neg h9]
 by_cases h10 : x.o=10
 ·rw [if_pos h10]
  exact go _ _ (inc (by omega) (by omega)) (two _ _ kb ka) (by simp [aT,h10])
 rw [if_neg h10]
 by_cases h15 : x.o≤15
 ·rw [if_pos h15]
  have hu : (aT m.funcs x).2=1:=by
   have : x.o=11∨x.o=12∨x.o=13∨x.o=14∨x.o=15:=by omega
   rcases this with h | h | h | h | h<;>simp [aT,h]
  split
  ·trivial
  ·exact go _ _ (inc (by omega) (by omega)) (one _ (aOI ka kb)) (by rw [hu];rfl)
 rw [if_neg h15]
 by_cases h16 : x.o=16
 ·rw [if_pos h16]
  split
  ·trivial
  ·refine go _ _ (inc (by omega) (by omega)) (one _ ?_) (by simp [aT,h16])
   unfold zI
   split
   ·exact nQ
   ·exact aCM
 rw [if_neg h16]
 by_cases h17 : x.o=17
 ·rw [if_pos h17]
  exact go0 _ (aGh (.inl h17)) (by simp [aT,h17])
 rw [if_neg h17]
 by_cases h19 : x.o≤19
 ·rw [if_pos h19]
  have h89 : x.o=18∨x.o=19:=by omega
  have hu : (aT m.funcs x).2=0:=by rcases h89 with h | h<;>simp [aT,h]
  split
  ·trivial
  split
  ·exact go0 _ (aGh (.inr h89)) hu
  ·exact go _ _ (inc (by omega) (by omega)) (by simp) (by rw [hu];rfl)
 rw [if_neg h19]
 by_cases h20 : x.o=20
 ·rw [if_pos h20]
  split
  ·trivial
  rename_i hm
  have hm0:=h.hp.made
  have hl : (v.hp++[List.replicate x.a.toNat eD]).length=v.hp.length+1:=by simp
  refine ⟨rfl,inc (by omega) (by omega),rfl,?_,fun y hy=>sP (by rw [hl];omega) (t.vl y hy),aIj (fun y hy=>sP (by rw [hl];omega) (kt y hy)) (fun y hy=>?_),by rw [hl];omega,⟨by rw [hl];omega,fun r hr=>?_,h.hp.out⟩⟩
  ·rw [hlef];simp only [List.length_append,List.length_singleton]
   have hu : (aT m.funcs x).2=1:=by simp [aT,h20]
   omega
  ·rw [List.mem_singleton] at hy
   rw [hy]
   exact aNR (by rw [hl];omega)
  ·rcases List.mem_append.1 hr with hr | hr
   ·exact ⟨(h.hp.recs r hr).1,fun y hy=>sP (by rw [hl];omega) ((h.hp.recs r hr).2 y hy)⟩
   ·rw [List.mem_singleton] at hr
    rw [hr]
    have:=i20 h20
    refine ⟨by rw [List.length_replicate];omega,fun y hy=>?_⟩
    rw [List.eq_of_mem_replicate hy]
    exact nQ
 rw [if_neg h20]
 by_cases h21 : x.o=21
 ·rw [if_pos h21]
  split
  ·trivial
  split
  ·trivial
  exact go _ _ (inc (by omega) (by omega)) (one _ (aLj (aKD h.hp _).2 _)) (by simp [aT,h21])
 rw [if_neg h21]
 by_cases h22 : x.o=22
 ·rw [if_pos h22]
  split
  ·trivial
  split
  ·trivial
  have hl : ∀ r,(v.hp.set (D.headD eD).n.toNat r).length=v.hp.length:=fun r=>List.length_set
  refine ⟨rfl,inc (by omega) (by omega),rfl,by rw [hlef];simp only;rw [hlt];simp [aT,h22],fun y hy=>by rw [vOk,hl];exact t.vl y hy,fun y hy=>by rw [vOk,hl];exact kt y hy,by rw [hl];omega,⟨by rw [hl];exact h.hp.made,fun r hr=>?_,h.hp.out⟩⟩
  rw [hl]
  rcases List.mem_or_eq_of_mem_set hr with hr | hr
  ·exact h.hp.recs r hr
  ·rw [hr]
   exact ⟨by rw [List.length_set];exact (aKD h.hp _).1,aMY (aKD h.hp _).2 kb _⟩
 rw [if_neg h22]
 by_cases h23 : x.o=23
 ·rw [if_pos h23]
  have hxa:=i23 h23
  have hu : aT m.funcs x=(x.a+1,1):=by
   have : 0≤x.a∧x.a≤6:=hxa
   simp [aT,h23,this]
  rw [hu] at hld hb
  simp only at hld hb
  split
  ·trivial
  rename_i hk
  have hk : (D.headD eD).k=5:=by omega
  split
  ·trivial
  rename_i hp
  have hp : eJ m.funcs (D.headD eD).n=x.a:=by omega
  split
  ·trivial
  rename_i hd
  refine ⟨?_,.inl h23,?_,_,_,rfl,aDH ka hk,by rw [List.length_tail,hp];omega,ktl⟩
  ·omega
  ·rw [← htk,← hb,hu]
 rw [if_neg h23]
 by_cases h24 : x.o=24
 ·rw [if_pos h24]
  have hxa:=i5 (.inr h24)
  have hu : aT m.funcs x=(eJ m.funcs x.a,1):=by
   have : 0≤x.a∧x.a<m.funcs.length:=hxa
   simp [aT,h24,this]
  rw [hu] at hld hb
  simp only at hld hb
  split
  ·trivial
  rename_i hd
  refine ⟨?_,.inr h24,?_,_,_,rfl,hxa,hld,kd⟩
  ·omega
  ·rw [← htk,← hb,hu]
 rw [if_neg h24]
 by_cases h25 : x.o=25
 ·rw [if_pos h25]
  exact ka
 rw [if_neg h25]
 have h26 : x.o=26:=by omega
 split
 ·trivial
 rename_i ho
 have:=h.hp.out
 exact ⟨rfl,inc (by omega) (by omega),rfl,by rw [hlef];simp only;rw [hlt];simp [aT,h26],t.vl,kt,Nat.le_refl _,⟨h.hp.made,h.hp.recs,by simp;omega⟩⟩
end
theorem aCN {α : Type} {a b : List α} {x y : α} (h : a++[x]=b++[y]) : a=b∧x=y:=by
 have:=List.append_inj' h rfl
 exact ⟨this.1,by simpa using this.2⟩
theorem aL9.top {m : dT} {n : Int} {f : cH} {a : cO} (h : aL9 m n f) (ha : vOk m n a) : aKC m n ⟨f.f,f.pc,f.loc,f.stk++[a]⟩:=
 ⟨⟨h.fi,h.pc,h.loc,h.d,h.vl,aIj h.vs (fun y hy=>by rw [List.mem_singleton] at hy;rw [hy];exact ha)⟩,by
   have:=h.h
   simp only [List.length_append,List.length_singleton]
   omega⟩
theorem aJC {m : dT} (g : iY m) {n i : Int} {args : List cO} (hi : 0≤i∧i<m.funcs.length) (hn : (args.length : Int)=eJ m.funcs i) (ha : ∀ y∈args,vOk m n y) : aKC m n (qA m.funcs i args):=by
 obtain ⟨k,hk,he,hc,F,p1,p2,p3,p4,hlc,hpar,hins⟩:=g.code hi
 have h0 : dAt m i 0=0:=by
  rw [dAt,hc,Int.toNat_zero,aJr F];rfl
 refine ⟨⟨hi,?_,?_,?_,?_,fun y hy=>by cases hy⟩,?_⟩
 ·show (0 : Int)≤0∧0<((eH m.funcs i).length : Int)
  have:=F.n1
  rw [hc];omega
 ·show ((args++List.replicate ((wN m.funcs i).toNat - args.length) eD).length : Int)=wN m.funcs i
  rw [List.length_append,List.length_replicate]
  omega
 ·show 0≤dAt m i 0
  omega
 ·refine aIj ha (fun y hy=>?_)
  rw [List.eq_of_mem_replicate hy]
  exact nQ
 ·show ((0 : Nat) : Int)=dAt m i 0
  omega
theorem VmI.step {m : dT} (g : iY m) {v : qY} (h : VmI m v) : VmI m (nY m v):=by
 by_cases h0 : v.st≠0
 ·have : nY m v=v:=by unfold nY;rw [if_pos h0]
  rw [this];exact h
 have h0 : v.st=0:=by omega
 by_cases h5 : v.steps=50000
 ·have : nY m v=v:=by unfold nY;rw [if_neg (by omega),if_pos h5]
  rw [this];exact h
 obtain ⟨fs0,f,G⟩:=h.goes g h0
 obtain ⟨t,low⟩:=h.top fs0 f G.fr
 have hnf:=h.nfr
 rw [G.fr,List.length_append,List.length_singleton] at hnf
 have hst:=h.steps
 rw [aDK h0 h5 G.fr]
 have A:=aOJ (fs0:=fs0) g h t rfl hnf
 obtain ⟨a1,a2,a3,a4,a5⟩:=g.at_ t.fi t.pc t.d
 have hh:=t.h
 have hx : dF m f.f f.pc=iJ m.funcs f:=rfl
 rw [hx] at a1 a2 a4 a5
 cases ha : aAL m v fs0 f with
 | trap c=>
   exact ⟨h.hp,by show 0≤v.steps+1∧v.steps+1≤50000;omega,h.nfr,fun h=>absurd h (by show (2 : Int)≠0;omega),h.top⟩
 | next fr hp made out=>
   rw [ha] at A
   have A : aLi m v f (iJ m.funcs f) fr hp made out:=A
   obtain ⟨b1,b2⟩:=a5 _ A.pc
   refine ⟨A.hpI,by show 0≤v.steps+1∧v.steps+1≤50000;omega,by show (fs0++[fr]).length≤24;rw [List.length_append,List.length_singleton];exact hnf,fun _=>by show fs0++[fr]≠[];simp,fun fs1 f1 he=>?_⟩
   obtain ⟨rfl,rfl⟩:=aCN (show fs0++[fr]=fs1++[f1] from he)
   refine ⟨⟨⟨by rw [A.ff];exact t.fi,by rw [A.ff];exact b1,by rw [A.ff,A.loc];exact t.loc,by rw [A.ff,b2];have:=A.len;rw [hh] at this;omega,A.vl,A.vs⟩,by rw [A.len,A.ff,b2,hh]⟩,fun f hf=>(low f hf).mono (n':=(hp.length : Int)) (by have:=A.n;omega)⟩
 | call fr gg=>
   rw [ha] at A
   have A : aOu m v fs0 f (iJ m.funcs f) fr gg:=A
   obtain ⟨i,args,rfl,hi,hn,hv⟩:=A.gg
   have hnx : f.pc+1∈fI (iJ m.funcs f) f.pc:=aHC (by have:=A.o;omega)
   obtain ⟨b1,b2⟩:=a5 _ hnx
   have hu2 : (aT m.funcs (iJ m.funcs f)).2=1:=by
    have ib:=rH a1
    rcases A.o with ho | ho
    ·have:=ib.2.2.2.2.2.1 ho
     simp [aT,ho,this]
    ·have:=ib.2.2.2.2.2.2.1 (.inr ho)
     simp [aT,ho,this]
   have hlef : gE m.funcs (iJ m.funcs f) (dAt m f.f f.pc)=dAt m f.f f.pc - (aT m.funcs (iJ m.funcs f)).1+(aT m.funcs (iJ m.funcs f)).2:=rfl
   refine ⟨h.hp,by show 0≤v.steps+1∧v.steps+1≤50000;omega,by show (fs0++[fr,qA m.funcs i args]).length≤24;rw [List.length_append];have:=A.n;simp only [List.length_cons,List.length_nil];omega,fun _=>by show fs0++[fr,qA m.funcs i args]≠[];simp,fun fs1 f1 he=>?_⟩
   have he : fs0++[fr,qA m.funcs i args]=fs1++[f1]:=he
   rw [show fs0++[fr,qA m.funcs i args]=(fs0++[fr])++[qA m.funcs i args] by simp] at he
   obtain ⟨rfl,rfl⟩:=aCN he
   refine ⟨aJC g hi hn hv,fun y hy=>?_⟩
   rcases List.mem_append.1 hy with hy | hy
   ·exact low y hy
   ·rw [List.mem_singleton] at hy
    rw [hy,A.frr]
    refine ⟨⟨t.fi,b1,t.loc,by show 0≤dAt m f.f (f.pc+1);rw [b2];omega,t.vl,fun y hy=>t.vs y (List.mem_of_mem_take hy)⟩,?_,?_⟩
    ·show 1≤f.pc+1∧0≤dAt m f.f (f.pc+1 - 1)∧((dF m f.f (f.pc+1 - 1)).o=23∨(dF m f.f (f.pc+1 - 1)).o=24)
     rw [show f.pc+1 - 1=f.pc by omega]
     exact ⟨by have:=t.pc;omega,t.d,A.o⟩
    ·show ((f.stk.take (f.stk.length - (aT m.funcs (iJ m.funcs f)).1.toNat)).length : Int)=dAt m f.f (f.pc+1) - 1
     rw [b2,List.length_take]
     omega
 | ret a=>
   rw [ha] at A
   have A : vOk m v.hp.length a:=A
   by_cases hf : fs0 = []
   ·have e : aBK m v fs0 (.ret a)=⟨[],v.hp,v.made,v.out,1,v.tr,a,v.steps+1⟩:=if_pos hf
    rw [e]
    exact ⟨h.hp,by show 0≤v.steps+1∧v.steps+1≤50000;omega,by simp,fun h=>absurd h (by show (1 : Int)≠0;omega),fun fs1 f1 he=>by simp at he⟩
   ·have e : aBK m v fs0 (.ret a)=⟨aCJ a fs0,v.hp,v.made,v.out,v.st,v.tr,v.val,v.steps+1⟩:=if_neg hf
    rw [e]
    rcases List.eq_nil_or_concat fs0 with e0 | ⟨fs1,f1,e1⟩
    ·exact absurd e0 hf
    rw [List.concat_eq_append] at e1
    subst e1
    rw [wO]
    simp only [List.length_append,List.length_singleton] at hnf
    refine ⟨h.hp,by show 0≤v.steps+1∧v.steps+1≤50000;omega,by simp only [List.length_append,List.length_singleton];omega,fun _=>by simp,fun fs2 f2 he=>?_⟩
    obtain ⟨rfl,rfl⟩:=aCN he
    exact ⟨(low f1 (by simp)).top A,fun y hy=>low y (by simp [hy])⟩
end
noncomputable section
open Go
attribute [local irreducible] bd PV.ite PV.guardFlat PV.guardOwn PV.whole PV.one PV.cell PV.sub PV.at_ PV.len PV.slen PV.chr PV.beq PV.peq PV.ceq PV.bin PV.neg PV.not PV.conv PV.cut PV.scut PV.cat PV.setAt PV.setCell PV.ncopy PV.copyIn PV.zeros PV.toStr PV.toBytes PV.deref PV.isPtr PV.comp PV.inb PV.off PV.imin PV.imax PV.sel PV.apply PV.isLst PV.isInt PV.ix PV.nilT
def aPl (x : PV) : Prop:=∃ o a : Int,x = .agg [.int .i64 o,.int .i64 a]∧(-9223372036854775808≤o∧o≤9223372036854775807)∧(-9223372036854775808≤a∧a≤9223372036854775807)
def Cd (cs : List PV) : Prop:=∀ x∈cs,aPl x
theorem Cd.el {cs : List PV} (h : Cd cs) : ∀ x∈cs,x.isEl 2 true=true:=by
 intro x hx
 obtain ⟨o,a,rfl,_⟩:=h x hx
 rfl
theorem Cd.nil : Cd []:=fun x hx=>by cases hx
theorem Cd.append {a b : List PV} (h : Cd a) (k : Cd b) : Cd (a++b):=fun x hx=>(List.mem_append.1 hx).elim (h x) (k x)
theorem Cd.one {o a : Int} (h : -9223372036854775808≤o∧o≤9223372036854775807) (k : -9223372036854775808≤a∧a≤9223372036854775807) : Cd [.agg [.int .i64 o,.int .i64 a]]:=by
 intro x hx
 simp only [List.mem_singleton] at hx
 exact ⟨o,a,hx,h,k⟩
section
variable {P : R → Prop} {k : R → Option R}
end
def aPD : PV→Bool
 | .int .i64 n=>decide (-1000000000≤n)&&decide (n≤1000000000)
 | _=>false
def aIk (x : PV) : Prop:=∃ p lc : Int,∃ cs : List PV,x = .agg [.int .i64 p,.int .i64 lc,.lst cs]∧(0≤p∧p≤2)∧(0≤lc∧lc≤100)∧Cd cs∧1≤(cs.length : Int)∧(cs.length : Int)≤100000000
structure Asm (l : List Int) (fs : List PV) (t lc : Int) : Prop where
 hl : Bts l
 hf : ∀ x∈fs,aIk x
 hn : fs.length≤1000
 ht : 0≤t∧t≤1000
 hlc : 1≤lc∧lc≤1000
theorem aIk.el {fs : List PV} (h : ∀ x∈fs,aIk x) : ∀ x∈fs,x.isEl 3 true=true:=by
 intro x hx
 obtain ⟨p,lc,cs,rfl,_⟩:=h x hx
 rfl
def aPE (l : List Int) (fs : List PV) (t lc : Int) (mn : PV) (A B0 B : Int) (r : R) : Prop:=∃ a s : Int,∃ cs : List PV,r = [.lst fs,.int .i64 t,.int .i64 lc,mn,oT l,.int .i64 a,.int .i64 s,.lst cs]∧0≤a∧a≤A∧0≤s∧s<65521∧B0≤cs.length∧(cs.length : Int)≤B∧Cd cs
def aMZ (l : List Int) (fs : List PV) (t lc : Int) (mn : PV) (c : Int) (f : PV→PV→PV→PV→PV→PV→PV→PV→Option R) : Prop:=
 ∀ (a s : Int) (cs : List PV),0≤a∧a+c≤1000000000∧0≤s∧s<65521→(cs.length : Int)+c≤1000000000→Cd cs→
   Ok (aPE l fs t lc mn (a+c) cs.length (cs.length+c)) (f (.lst fs) (.int .i64 t) (.int .i64 lc) mn (oT l) (.int .i64 a) (.int .i64 s) (.lst cs))
section
variable {P : R → Prop} {k : R → Option R} {l : List Int} {fs : List PV} {t lc : Int} {mn : PV}
theorem aMZ.mono {c c' : Int} {f : PV→PV→PV→PV→PV→PV→PV→PV→Option R} (H : aMZ l fs t lc mn c f) (hc : 0≤c∧c≤c') : aMZ l fs t lc mn c' f:=by
 intro a s cs h0 hl hcs
 refine (H a s cs (by omega) (by omega) hcs).mono ?_
 rintro r ⟨a',s',cs',hr,h1,h2,h3,h4,h5,h6,h7⟩
 exact ⟨a',s',cs',hr,h1,by omega,h3,h4,h5,by omega,h7⟩
section
def Par (fs : List PV) (i p : Int) : Prop:=0≤i∧i<fs.length∧(0≤p∧p≤2)∧∃ q r : PV,fs[i.toNat]? = some (.agg [.int .i64 p,q,r])
end
end
section
variable {l : List Int} {fs : List PV} {t lc : Int} {mn : PV}
section
end
section
end
end
def aCO (x : PV) : Prop:=∃ b : ByteArray,x = .str b∧b.size≤1000
theorem aCO.el {ts : List PV} (h : ∀ x∈ts,aCO x) : ∀ x∈ts,x.isEl 1 false=true:=by
 intro x hx
 obtain ⟨b,rfl,_⟩:=h x hx
 rfl
def aPF (l : List Int) (A : Int) (r : R) : Prop:=∃ a s : Int,∃ ts fs : List PV,r = [.agg [.lst ts,.lst fs],oT l,.int .i64 a,.int .i64 s]∧0≤a∧a≤A∧0≤s∧s<65521∧(∀ x∈ts,aCO x)∧ts.length≤10∧(∀ x∈fs,aIk x)∧1≤fs.length∧fs.length≤10
section
variable {l : List Int} (hl : Bts l) {ts : List PV} (hts : ∀ x ∈ ts, aCO x) (htn : ts.length ≤ 10)
include hl hts htn
end
def aAN (x : PV) : Prop:=∃ p lc : Int,∃ cs : List PV,x = .agg [.int .i64 p,.int .i64 lc,.lst cs]∧(-9223372036854775808≤p∧p≤9223372036854775807)∧(-9223372036854775808≤lc∧lc≤9223372036854775807)∧Cd cs∧(cs.length : Int)≤200000000
theorem aAN.el {fs : List PV} (h : ∀ x∈fs,aAN x) : ∀ x∈fs,x.isEl 3 true=true:=by
 intro x hx
 obtain ⟨p,lc,cs,rfl,_⟩:=h x hx
 rfl
def aPS (l : List Int) (A : Int) (r : R) : Prop:=∃ a s : Int,∃ ts fs : List PV,r = [.agg [.lst ts,.lst fs],oT l,.int .i64 a,.int .i64 s]∧0≤a∧a≤A∧0≤s∧s<65521∧(∀ x∈ts,aCO x)∧ts.length≤100∧(∀ x∈fs,aAN x)∧fs.length≤100∧1≤fs.length
theorem aAN.set {fs : List PV} (hf : ∀ x∈fs,aAN x) {i : Nat} {y : PV} (hy : aAN y) : ∀ x∈fs.set i y,aAN x:=by
 intro x hx
 rcases List.mem_or_eq_of_mem_set hx with h | h
 ·exact hf x h
 ·rw [h];exact hy
section
variable {l : List Int} (hl : Bts l) {ts : List PV} (ht : ∀ x ∈ ts, aCO x) (htn : ts.length ≤ 20)
include hl ht htn
end
def aPK (x : PV) : Prop:=∃ ts fs : List PV,x = .agg [.lst ts,.lst fs]∧(∀ x∈ts,aCO x)∧ts.length≤100∧(∀ x∈fs,aAN x)∧fs.length≤100∧1≤fs.length
def Byt (l : List Int) : Prop:=∀ x∈l,0≤x∧x≤255
theorem aLk : ∀ {ts : List PV},(∀ x∈ts,aCO x)→∃ l : List ByteArray,ts=l.map PV.str∧∀ t∈l,t.size≤1000
 | [],_=>⟨[],rfl,fun t ht=>by cases ht⟩
 | x::r,h=>by
   obtain ⟨b,rfl,hb⟩:=h x List.mem_cons_self
   obtain ⟨l,rfl,hl⟩:=aLk (fun y hy=>h y (List.mem_cons_of_mem _ hy))
   refine ⟨b::l,rfl,fun t ht=>?_⟩
   rcases List.mem_cons.1 ht with rfl | ht
   ·exact hb
   ·exact hl t ht
theorem aLl : ∀ {cs : List PV},Cd cs→∃ l : List bE,cs=l.map bE.pv
 | [],_=>⟨[],rfl⟩
 | x::r,h=>by
   obtain ⟨o,a,rfl,_⟩:=h x List.mem_cons_self
   obtain ⟨l,rfl⟩:=aLl (fun y hy=>h y (List.mem_cons_of_mem _ hy))
   exact ⟨⟨o,a⟩::l,rfl⟩
theorem aLm : ∀ {fs : List PV},(∀ x∈fs,aAN x)→∃ l : List cN,fs=l.map cN.pv∧∀ f∈l,f.code.length≤1000000000
 | [],_=>⟨[],rfl,fun t ht=>by cases ht⟩
 | x::r,h=>by
   obtain ⟨p,lc,cs,rfl,_,_,hc,hl⟩:=h x List.mem_cons_self
   obtain ⟨l,rfl,hl2⟩:=aLm (fun y hy=>h y (List.mem_cons_of_mem _ hy))
   obtain ⟨c,rfl⟩:=aLl hc
   refine ⟨⟨p,lc,c⟩::l,rfl,fun t ht=>?_⟩
   rcases List.mem_cons.1 ht with rfl | ht
   ·rw [List.length_map] at hl
    show c.length≤_
    omega
   ·exact hl2 t ht
end
noncomputable section
open Go Go.IntWalk
attribute [local irreducible] bd PV.ite PV.guardFlat PV.guardOwn PV.whole PV.one PV.cell PV.sub PV.at_ PV.len PV.slen PV.chr PV.beq PV.peq PV.ceq PV.bin PV.neg PV.not PV.conv PV.cut PV.scut PV.cat PV.setAt PV.setCell PV.ncopy PV.copyIn PV.zeros PV.toStr PV.toBytes PV.deref PV.isPtr PV.comp PV.inb PV.off PV.imin PV.imax PV.sel PV.apply PV.isLst PV.isInt PV.ix PV.nilT
def xI (m : dT) : Bool:=m.okB&&(bad m.funcs).isNone
theorem aBL {m : dT} (hs : m.sized) (h : xI m=true) : iY m:=by
 simp only [xI,Bool.and_eq_true,Option.isNone_iff_eq_none] at h
 exact ⟨hs,h.1,h.2⟩
theorem aMa {fs : List cN} {code : List bE} {d : List Int} {pc : Nat} {c : Int} (h : aCK fs code d pc=some c) : c≠0:=by
 unfold aCK at h
 repeat' split at h
 all_goals first
  | (cases h;done)
  | (injection h with h;omega)
theorem aJD {fs : List cN} {c : Int} {f pc : Nat} (h : bad fs=some (c,f,pc)) : c≠0:=by
 unfold bad at h
 obtain ⟨i,_,h⟩:=List.exists_of_findSome?_eq_some h
 unfold aHA at h
 split at h
 ·obtain ⟨j,_,h⟩:=List.exists_of_findSome?_eq_some h
  unfold aAM at h
  simp only [Option.map_eq_some_iff] at h
  obtain ⟨c',h1,h2⟩:=h
  injection h2 with h2 h3
  rw [← h2]
  exact aMa h1
 ·cases h
section
variable {P : R → Prop} {k : R → Option R}
theorem aNV {m : dT} (hs : m.sized) (h : Ok P (k [.bool (xI m)])) : Ok P (bd (vX m.pv) k):=by
 refine aG (Q:=fun r=>r = [.bool (xI m)]) ?_ (fun r hr=>by rw [hr];exact h)
 rw [aEt]
 refine aD rfl (aA rfl (aA rfl (aG (aJz hs) (fun r hr=>?_))))
 subst hr
 show Ok _ (bd (PV.cell m.verify 0) _)
 unfold dT.verify xI
 cases ho : m.okB with
 | false=>exact aA (y:=.int .i64 1) rfl (aF (aB rfl))
 | true=>
   simp only [if_true,Bool.true_and]
   cases hb : bad m.funcs with
   | none=>exact aA (y:=.int .i64 0) rfl (aF (aB rfl))
   | some p=>
     obtain ⟨c,f,pc⟩:=p
     have:=aJD hb
     refine aA (y:=.int .i64 c) rfl (aF (aB ?_))
     rw [decide_eq_false this];rfl
theorem aM0 {m : dT} (hs : m.sized) (h : Ok P (k [.bool (xI m)])) : Ok P (bd (yW m.pv) k):=by
 refine aG (Q:=fun r=>r = [.bool (xI m)]) ?_ (fun r hr=>by rw [hr];exact h)
 rw [aFY]
 refine aD rfl (aA rfl (aA rfl (aG (aJA hs) (fun r hr=>?_))))
 subst hr
 show Ok _ (bd (PV.whole 3 m.verify) _)
 have eq : ∀ a b c : Int,(PV.ceq [1,1,1] .eql (.agg [.int .i64 a,.int .i64 b,.int .i64 c]) (.agg [.int .i64 0,.int .i64 0,.int .i64 0]))=some (.bool (decide (a=0)&&(decide (b=0)&&decide (c=0)))):=by
  intro a b c
  simp [PV.ceq,PV.eqCells,PV.eqScalar,PV.eqOr]
  rfl
 unfold dT.verify xI
 cases ho : m.okB with
 | false=>exact aD (cs:=[.int .i64 1,.int .i64 0,.int .i64 0]) rfl (aA rfl (aA rfl (aA rfl (cK _ (eq _ _ _) (aB rfl)))))
 | true=>
   simp only [if_true,Bool.true_and]
   cases hb : bad m.funcs with
   | none=>exact aD (cs:=[.int .i64 0,.int .i64 0,.int .i64 0]) rfl (aA rfl (aA rfl (aA rfl (cK _ (eq _ _ _) (aB rfl)))))
   | some p=>
     obtain ⟨c,f,pc⟩:=p
     have:=aJD hb
     refine aD (cs:=[.int .i64 c,.int .i64 f,.int .i64 pc]) rfl (aA rfl (aA rfl (aA rfl (cK _ (eq _ _ _) (aB ?_)))))
     rw [decide_eq_false this];rfl
end
section
variable {P : R → Prop} {m : dT}
theorem aCP {kp : PV→Option R} {i : Int} (h0 : 0≤i∧i<m.funcs.length) (h : ∀ lc,Ok P (kp (.agg [.int .i64 (eJ m.funcs i),lc,.lst ((eH m.funcs i).map bE.pv)]))) : Ok P (bd (PV.at_ 3 true (.lst (m.funcs.map cN.pv)) (.int .i64 i)) kp):=by
 obtain ⟨j,rfl⟩:=Int.eq_ofNat_of_zero_le h0.1
 have hj : j<m.funcs.length:=by omega
 refine aQ hj (fun _=>rfl) ?_
 have:=h (.int .i64 m.funcs[j].lc)
 have e1 : eH m.funcs j=m.funcs[j].code:=by simp [eH,List.getElem?_eq_getElem hj]
 have e2 : eJ m.funcs j=m.funcs[j].p:=by simp [eJ,List.getElem?_eq_getElem hj]
 rw [e1,e2] at this
 exact this
theorem aHD {kp : PV→Option R} {i : Int} (h0 : 0≤i∧i<m.funcs.length) (h : Ok P (kp (.agg [.int .i64 (eJ m.funcs i),.int .i64 (wN m.funcs i),.lst ((eH m.funcs i).map bE.pv)]))) : Ok P (bd (PV.at_ 3 true (.lst (m.funcs.map cN.pv)) (.int .i64 i)) kp):=by
 obtain ⟨j,rfl⟩:=Int.eq_ofNat_of_zero_le h0.1
 have hj : j<m.funcs.length:=by omega
 refine aQ hj (fun _=>rfl) ?_
 have e1 : eH m.funcs j=m.funcs[j].code:=by simp [eH,List.getElem?_eq_getElem hj]
 have e2 : eJ m.funcs j=m.funcs[j].p:=by simp [eJ,List.getElem?_eq_getElem hj]
 have e3 : wN m.funcs j=m.funcs[j].lc:=by simp [wN,List.getElem?_eq_getElem hj]
 rw [e1,e2,e3] at h
 exact h
def vmZ : qY:=⟨[],[],0,[],0,0,eD,0⟩
end
section
variable {P : R → Prop} {k : R → Option R}
def aKE (a b : Int) : Int:=if a<b then -1 else if b<a then 1 else 0
theorem aM1 {a : Int} (h : Ok P (k [.bool false])) : Ok P (bd (oY (.int .i64 a)) k):=by
 refine aG (Q:=fun r=>r = [.bool false]) ?_ (fun r hr=>by rw [hr];exact h)
 rw [aDC]
 exact aY (aB (by simp))
theorem aM2 {a b : Int} (h : Ok P (k [.int .i64 (aKE a b)])) : Ok P (bd (lV (.int .i64 a) (.int .i64 b)) k):=by
 refine aG (Q:=fun r=>r = [.int .i64 (aKE a b)]) ?_ (fun r hr=>by rw [hr];exact h)
 rw [aBE]
 refine aM1 (aM1 (aV (aV (aH (aC (fun h=>aB ?_) (fun h=>mX (aC (fun h'=>aB ?_) (fun h'=>aB ?_))))))))
 ·rw [aKE,if_pos h]
 ·rw [aKE,if_neg h,if_pos h']
 ·rw [aKE,if_neg h,if_neg h']
theorem aOL {a b : Int} (h : Ok P (k [.int .i64 (if a≠0 then a else b)])) : Ok P (bd (PV.cat 1 8 false (.lst []) (.lst [.int .i64 a,.int .i64 b])) fun v=>bd (aBh v) k):=by
 refine aLa (aG (Q:=fun r=>r = [.int .i64 (if a≠0 then a else b)]) ?_ (fun r hr=>by rw [hr];exact h))
 rw [aGW]
 refine dY ?_
 rw [oJ]
 refine aH (aW ?_)
 refine cZ (i:=0) (l:=[a,b]) (by simp) ?_
 refine aY (aI (fun h0=>aB (by rw [if_pos (show a≠0 from h0)];rfl)) (fun h0=>aM (by omega) ?_))
 have h0 : a=0:=h0
 rw [oJ]
 refine aH (aW ?_)
 refine cZ (i:=1) (l:=[a,b]) (by simp) ?_
 refine aY (aI (fun h1=>aB (by rw [if_neg (by omega)];rfl)) (fun h1=>aM (by omega) ?_))
 rw [oJ]
 refine aH (aV (aB ?_))
 have : b=0:=h1
 rw [if_neg (by omega),this]
end
structure fF where
 f : Int
 pc : Int
 seen : Int
 tgt : Int
def fF.pv (s : fF) : PV:=.agg [.int .i64 s.f,.int .i64 s.pc,.int .i64 s.seen,.int .i64 s.tgt]
def bD (l : List fF) : PV:=.lst (l.map fF.pv)
def isW (o : Int) : Prop:=o=23∨(11≤o∧o≤14)
instance (o : Int) : Decidable (isW o):=by unfold isW;infer_instance
def dM (a b : fF) : Prop:=a.f<b.f∨(a.f=b.f∧a.pc<b.pc)
instance (a b : fF) : Decidable (dM a b):=by unfold dM;infer_instance
def plP (m : dT) (f pc : Int) : Prop:=(0≤f∧f<m.funcs.length)∧(0≤pc∧pc<(eH m.funcs f).length)
instance (m : dT) (f pc : Int) : Decidable (plP m f pc):=by unfold plP;infer_instance
def zQ (m : dT) (s : fF) : Prop:=plP m s.f s.pc∧
 (((dF m s.f s.pc).o=23∧s.seen=1∧0≤s.tgt∧s.tgt<m.funcs.length)∨((dF m s.f s.pc).o=23∧s.seen=2∧s.tgt=0)∨((11≤(dF m s.f s.pc).o∧(dF m s.f s.pc).o≤14)∧1≤s.seen∧s.seen≤3∧s.tgt=0))
instance (m : dT) (s : fF) : Decidable (zQ m s):=by unfold zQ;infer_instance
def aOv (m : dT) : Option fF→List fF→Bool
 | _,[]=>true
 | q,s::r=>decide (zQ m s)&&((match q with | none=>true | some q=>decide (dM q s))&&aOv m (some s) r)
def aPm (m : dT) (p : List fF) : Bool:=decide (p.length≤150)&&aOv m none p
def aPL (p : List fF) (i : Nat) : Option fF:=if i=0 then none else p[i - 1]?
section
variable {P : R → Prop} {k : R → Option R} {m : dT}
theorem wP {kp : PV→Option R} {i j : Int} (h0 : 0≤j∧j<(eH m.funcs i).length) (h : Ok P (kp (.agg [.int .i64 (dF m i j).o,.int .i64 (dF m i j).a]))) : Ok P (bd (PV.at_ 2 true (.lst ((eH m.funcs i).map bE.pv)) (.int .i64 j)) kp):=by
 obtain ⟨q,rfl⟩:=Int.eq_ofNat_of_zero_le h0.1
 have hq : q<(eH m.funcs i).length:=by omega
 refine aQ hq (fun _=>rfl) ?_
 have e : dF m i q=(eH m.funcs i)[q]:=by simp [dF,List.getElem?_eq_getElem hq]
 rw [e] at h
 exact h
theorem aOM {o : Int} (h : Ok P (k [.bool (decide (isW o))])) : Ok P (bd (aA8 (.int .i64 o)) k):=by
 refine aG (Q:=fun r=>r = [.bool (decide (isW o))]) ?_ (fun r hr=>by rw [hr];exact h)
 rw [aGM]
 have t : isW o→Ok (fun r=>r = [.bool (decide (isW o))]) (some [.bool true]):=fun h=>aB (by rw [decide_eq_true h])
 have f : ¬ isW o→Ok (fun r=>r = [.bool (decide (isW o))]) (some [.bool false]):=fun h=>aB (by rw [decide_eq_false h])
 unfold isW at t f ⊢
 refine aF (aC (fun _=>t (by omega)) (fun _=>?_))
 refine aF (aC (fun _=>t (by omega)) (fun _=>?_))
 refine aF (aC (fun _=>t (by omega)) (fun _=>?_))
 refine aF (aC (fun _=>t (by omega)) (fun _=>?_))
 exact aF (aC (fun _=>t (by omega)) (fun _=>f (by omega)))
theorem aM4 {a b : fF} (h : Ok P (k [.bool (decide (dM a b))])) : Ok P (bd (wA a.pv b.pv) k):=by
 refine aG (Q:=fun r=>r = [.bool (decide (dM a b))]) ?_ (fun r hr=>by rw [hr];exact h)
 rw [aEz]
 have t : (a.f<b.f∨(a.f=b.f∧a.pc<b.pc))→decide (dM a b)=true:=fun h=>decide_eq_true h
 have f : ¬ (a.f<b.f∨(a.f=b.f∧a.pc<b.pc))→decide (dM a b)=false:=fun h=>decide_eq_false h
 refine aD rfl (aA rfl (aA rfl (aA rfl (aA rfl (aD rfl (aA rfl (aA rfl (aA rfl (aA rfl ?_)))))))))
 refine aH (aC (fun h=>aB (by rw [t (by omega)])) (fun h=>aF (aC (fun h'=>aH (aB ?_)) (fun h'=>aB (by rw [f (by omega)])))))
 by_cases h2 : a.pc<b.pc
 ·rw [t (by omega),decide_eq_true h2]
 ·rw [f (by omega),decide_eq_false h2]
end
def aPT (m : dT) (f pc : Int) : R:=if plP m f pc then [.tup [.agg [.int .i64 (dF m f pc).o,.int .i64 (dF m f pc).a],.bool true]] else [.tup [.agg [.int .i64 0,.int .i64 0],.bool false]]
section
variable {P : R → Prop} {k : R → Option R} {m : dT}
theorem aKF {o a : Int} (h : Ok P (k [.bool (iP o 11 14)])) : Ok P (bd (wE (.agg [.int .i64 o,.int .i64 a])) k):=by
 refine aG (Q:=fun r=>r = [.bool (iP o 11 14)]) ?_ (fun r hr=>by rw [hr];exact h)
 rw [aEH]
 exact aD rfl (aA rfl (aA rfl (gC (aB rfl))))
def aPG (m : dT) (p : List fF) : Bool:=xI m&&aPm m p
def aJE (f pc : Int) (s : fF) : Bool:=decide (s.f=f)&&decide (s.pc=pc)
def zR (p : List fF) (f pc : Int) : fF:=(p.find? (aJE f pc)).getD ⟨0,0,0,0⟩
theorem aJF {s : fF} {p : List fF} {f pc : Int} : zR (s::p) f pc=if s.f=f∧s.pc=pc then s else zR p f pc:=by
 unfold zR
 rw [List.find?_cons]
 by_cases h : s.f=f∧s.pc=pc
 ·have : aJE f pc s=true:=by simp [aJE,h]
  rw [this,if_pos h];rfl
 ·have : aJE f pc s=false:=by simp [aJE];omega
  rw [this,if_neg h]
theorem aMb {p : List fF} (hp : p.length≤2097152) {f pc : Int} (h : Ok P (k [(zR p f pc).pv])) : Ok P (bd (yQ (bD p) (.int .i64 f) (.int .i64 pc)) k):=by
 refine aG (Q:=fun r=>r = [(zR p f pc).pv]) ?_ (fun r hr=>by rw [hr];exact h)
 rw [aFS]
 refine kY (n:=p.length) (P:=fun i r=>r = [(zR (p.drop i) f pc).pv]) (F:=fun i=>jY (bD p) (.int .i64 f) (.int .i64 pc) (.int .i64 i) (.int .i64 0) (.int .i64 0) (.int .i64 0) (.int .i64 0)) ?_ ?_ 0 (by omega)
 ·rw [tK]
  refine aE (aH (aC (fun h=>by omega) (fun _=>aB ?_)))
  rw [List.drop_length];rfl
 ·intro i hi ih
  rw [tK,List.drop_eq_getElem_cons hi,aJF]
  refine aE (aH (aC (fun _=>?_) (fun h=>by omega)))
  refine aQ hi (fun _=>rfl) (aA rfl (aF (aC (fun h1=>?_) (fun h1=>aM (by omega) ?_))))
  ·refine aQ hi (fun _=>rfl) (aA rfl (aF (aC (fun h2=>?_) (fun h2=>aM (by omega) ?_))))
   ·refine aQ hi (fun _=>rfl) (aD rfl (aA rfl (aA rfl (aA rfl (aA rfl (aB ?_))))))
    rw [if_pos ⟨h1,h2⟩];rfl
   ·rw [if_neg (fun h=>h2 h.2)];exact ih
  ·rw [if_neg (fun h=>h1 h.1)];exact ih
end
structure SpT where
 f : Int
 pc : Int
 kind : Int
 tgt : Int
def SpT.pv (s : SpT) : PV:=.agg [.int .i64 s.f,.int .i64 s.pc,.int .i64 s.kind,.int .i64 s.tgt]
def aNW (l : List SpT) : PV:=.lst (l.map SpT.pv)
def aM5 (m : dT) (s : SpT) : Prop:=plP m s.f s.pc∧
 ((s.kind=1∧(11≤(dF m s.f s.pc).o∧(dF m s.f s.pc).o≤14)∧s.tgt=0)∨(s.kind=2∧(dF m s.f s.pc).o=23∧(0≤s.tgt∧s.tgt<m.funcs.length)∧eJ m.funcs s.tgt=(dF m s.f s.pc).a))
instance (m : dT) (s : SpT) : Decidable (aM5 m s):=by unfold aM5;infer_instance
def aM6 (m : dT) (x : fF) : SpT:=if (dF m x.f x.pc).o=23 then ⟨x.f,x.pc,2,x.tgt⟩ else ⟨x.f,x.pc,1,0⟩
def aPH (s b : SpT) : Bool:=decide (b.f=s.f)&&(decide (b.pc=s.pc)&&decide (b.kind=s.kind))
def aPn (m : dT) (black : List SpT) (x : fF) : Bool:=decide (x.seen=1)&&(decide (aM5 m (aM6 m x))&&!(black.any (aPH (aM6 m x))))
def aPo (m : dT) (sites : List fF) (black : List SpT) : List SpT:=(sites.filter (aPn m black)).map (aM6 m)
section
variable {P : R → Prop} {k : R → Option R} {m : dT}
end
section
variable {P : R → Prop} {k : R → Option R} {m : dT}
def aPM (m : dT) (sites : List fF) (black : List SpT) (lay : Int) (bare : Bool) : PV:=
 if aPG m sites=true∧0≤lay∧lay≤3 then .agg [aNW (aPo m sites black),.int .i64 lay,.bool bare] else .agg [.lst [],.int .i64 0,.bool false]
end
def aPN (a b : SpT) : Prop:=a.f<b.f∨(a.f=b.f∧a.pc<b.pc)
section
variable {P : R → Prop} {k : R → Option R} {m : dT}
end
def MdP (l : List Int) (A : Int) (r : R) : Prop:=∃ a s : Int,∃ m : dT,r = [m.pv,oT l,.int .i64 a,.int .i64 s]∧0≤a∧a≤A∧0≤s∧s<65521∧m.sized∧1≤m.funcs.length∧m.funcs.length≤100
theorem MdP.of {l : List Int} {A a s : Int} {ts fs : List PV} (h : 0≤a∧a≤A∧0≤s∧s<65521) (h1 : ∀ x∈ts,aCO x) (h2 : ts.length≤100) (h3 : ∀ x∈fs,aAN x) (h4 : fs.length≤100) (h5 : 1≤fs.length) : ∃ m : dT,ts=m.texts.map PV.str∧fs=m.funcs.map cN.pv∧m.sized∧1≤m.funcs.length∧m.funcs.length≤100:=by
 obtain ⟨t,rfl,ht⟩:=aLk h1
 obtain ⟨f,rfl,hf⟩:=aLm h3
 rw [List.length_map] at h2 h4 h5
 exact ⟨⟨t,f⟩,rfl,rfl,⟨by show t.length≤_;omega,by show f.length≤_;omega,fun x hx=>by have:=ht x hx;omega,hf⟩,h5,h4⟩
section
variable {l : List Int} (hl : Bts l) {P : R → Prop}
include hl
def aPV (l : List Int) (A : Int) (r : R) : Prop:=∃ a s : Int,∃ v : cO,r = [v.pv,oT l,.int .i64 a,.int .i64 s]∧0≤a∧a≤A∧0≤s∧s<65521∧v.s.size≤1000
def aPO (l : List Int) (A : Int) (r : R) : Prop:=∃ a s : Int,∃ vs : List cO,r = [aO vs,oT l,.int .i64 a,.int .i64 s]∧0≤a∧a≤A∧0≤s∧s<65521∧(∀ v∈vs,v.s.size≤1000)∧vs.length≤21
end
theorem aIl {l : List fF} : ∀ x∈l.map fF.pv,x.isEl 4 true=true:=by
 intro x hx
 obtain ⟨a,_,rfl⟩:=List.mem_map.1 hx
 rfl
theorem sQ (l : List fF) : PV.flatO (.own 4 32 true []) (bD l)=true:=by
 show PV.flatEs true [] (l.map fF.pv)=true
 induction l with
 | nil=>simp [PV.flatEs]
 | cons x r ih=>simp [PV.flatEs,PV.flatE,PV.flatCs,PV.flat,fF.pv,ih]
section
variable {P : R → Prop} {m : dT}
theorem mJ {k : PV→Option R} {vs : List fF} (hn : vs.length≤100000) {v : fF} (h : Ok P (k (bD (vs++[v])))) : Ok P (bd (PV.cat 4 32 true (bD vs) (.lst [v.pv])) k):=by
 refine lW (by simp;omega) (aIl (l:=[v])) ?_
 rw [show vs.map fF.pv++[v.pv]=(vs++[v]).map fF.pv by rw [List.map_append];rfl]
 exact h
theorem tU {k : PV→Option R} {v : fF} (h : Ok P (k (.lst [v.pv]))) : Ok P (bd (PV.cat 4 32 true (.lst []) (.lst [v.pv])) k):=mZ (by simp) (aIl (l:=[v])) h
end
section
variable {P : R → Prop} {k : R → Option R}
theorem qZ {a b : cO} {q : Int} (h : Ok P (k [.bool (decide (a.k=q)&&decide (b.k=q))])) : Ok P (bd (mE a.pv b.pv (.int .i64 q)) k):=by
 refine aG (Q:=fun r=>r = [.bool (decide (a.k=q)&&decide (b.k=q))]) ?_ (fun r hr=>by rw [hr];exact h)
 rw [aCv]
 refine aD rfl (aA rfl (aA rfl (aA rfl (aD rfl (aA rfl (aA rfl (aA rfl (aF ?_))))))))
 refine aC (fun h1=>aF (aB ?_)) (fun h1=>aB ?_)
 ·rw [decide_eq_true h1];rfl
 ·rw [decide_eq_false h1];rfl
theorem pA {n : Int} (h : Ok P (k [.bool (bY n)])) : Ok P (bd (kD (.int .i64 n)) k):=by
 refine aG (Q:=fun r=>r = [.bool (bY n)]) ?_ (fun r hr=>by rw [hr];exact h)
 rw [aAJ]
 exact gC (aB rfl)
theorem aAO {n : Int} (h : Ok P (k [(aCA n).pv])) : Ok P (bd (wF (.int .i64 n)) k):=by
 refine aG (Q:=fun r=>r = [(aCA n).pv]) ?_ (fun r hr=>by rw [hr];exact h)
 rw [aGY]
 exact bA rfl (aB rfl)
theorem kI {c : Bool} (h : Ok P (k [(mG c).pv])) : Ok P (bd (kE (.bool c)) k):=by
 refine aG (Q:=fun r=>r = [(mG c).pv]) ?_ (fun r hr=>by rw [hr];exact h)
 rw [aF6]
 cases c
 ·exact aV (aB rfl)
 ·exact aW (aB rfl)
def aM7 (f : PV) (g : Int→Int→Int) : Prop:=∀ {a b : Int} {P : R→Prop} {k : R→Option R},bY a=true→bY b=true→Ok P (k [.int .i64 (g a b)])→Ok P (bd (PV.apply aJ f [.int .i64 a,.int .i64 b]) k)
theorem aIm {a : Int} (h : bY a=true) : -1000000000≤a∧a≤1000000000:=bL.1 h
theorem qB {a b : cO} {o : Int} {f : PV} (hf : aM7 f (wK o)) (h : Ok P (k (opR (aBI o a b)))) : Ok P (bd (nK a.pv b.pv f) k):=by
 refine aG (Q:=fun r=>r=opR (aBI o a b)) ?_ (fun r hr=>by rw [hr];exact h)
 rw [aEJ]
 unfold aBI
 refine aD rfl (aA rfl (aA rfl (aA rfl (aD rfl (aA rfl (aA rfl (aA rfl (qZ (bX ?_)))))))))
 by_cases h1 : a.k=1∧b.k=1
 ·rw [decide_eq_true h1.1,decide_eq_true h1.2,if_neg (by omega),if_neg (by omega)]
  refine aV (pA (bX ?_))
  cases h2 : bY a.n with
  | false=>exact aW (aB (by simp [opR,cO.pv,eD]))
  | true=>
    refine aV (pA (bX ?_))
    cases h3 : bY b.n with
    | false=>exact aW (aB (by simp [opR,cO.pv,eD]))
    | true=>
      refine aV (hf h2 h3 (pA (bX ?_)))
      cases h4 : bY (wK o a.n b.n) with
      | false=>exact aW (aB (by simp [opR,cO.pv,eD,h4]))
      | true=>
        refine aV (hf h2 h3 (aAO ?_))
        exact aD rfl (aA rfl (aA rfl (aA rfl (aB (by simp [opR,cO.pv,aCA,h4])))))
 ·have h5 : (decide (a.k=1)&&decide (b.k=1))=false:=by
   cases h : (decide (a.k=1)&&decide (b.k=1))
   ·rfl
   ·simp only [Bool.and_eq_true,decide_eq_true_eq] at h;exact absurd h h1
  rw [h5]
  refine aW (aB ?_)
  by_cases h6 : a.k=1
  ·rw [if_neg (by omega),if_pos (fun h7=>h1 ⟨h6,h7⟩)];rfl
  ·rw [if_pos h6];rfl
theorem aIn {f : Nat} {o : Int} {g : PV→PV→Option R} (hg : ∀ x y,aJ f [x,y]=g x y) (h : ∀ {a b : Int},bY a=true→bY b=true→Ok (fun r=>r = [.int .i64 (wK o a b)]) (g (.int .i64 a) (.int .i64 b))) : aM7 (.fn f []) (wK o):=
 fun ha hb hk=>pC (f:=f) (hg _ _) (h ha hb) (fun r hr=>by rw [hr];exact hk)
theorem aM8 {s : ByteArray} (h : Ok P (k [.bool false])) : Ok P (bd (kV (.str s)) k):=by
 refine aG (Q:=fun r=>r = [.bool false]) ?_ (fun r hr=>by rw [hr];exact h)
 rw [aAu]
 exact aDi (aB rfl)
theorem aKG {s t : ByteArray} (h : Ok P (k [.bool (PV.bytesLt s.toList t.toList)])) : Ok P (bd (pZ (.str s) (.str t)) k):=by
 refine aG (Q:=fun r=>r = [.bool (PV.bytesLt s.toList t.toList)]) ?_ (fun r hr=>by rw [hr];exact h)
 rw [aBG]
 exact aM8 (aV (aLb (aB rfl)))
theorem aON {f : Nat} (hg : ∀ x y,aJ f [x,y]=wG x y) : aM7 (.fn f []) (wK 11):=aIn (g:=wG) hg (fun ha hb=>by
 have:=aIm ha;have:=aIm hb
 rw [aEK]
 exact aM (by omega) (aB rfl))
theorem aOO {f : Nat} (hg : ∀ x y,aJ f [x,y]=wH x y) : aM7 (.fn f []) (wK 12):=aIn (g:=wH) hg (fun ha hb=>by
 have:=aIm ha;have:=aIm hb
 rw [aEL]
 exact bW (by omega) (aB rfl))
theorem aOP {f : Nat} (hg : ∀ x y,aJ f [x,y]=wI x y) : aM7 (.fn f []) (wK 13):=aIn (g:=wI) hg (fun ha hb=>by
 have:=aMP ha hb
 rw [aEM]
 exact aMH (by omega) (aB rfl))
theorem aM9 {a b : cO} (hs : a.s.size≤2097152∧b.s.size≤2097152) : Ok (fun r=>r=opR (nS 11 a b)) (aBk a.pv b.pv):=by
 rw [aG0]
 refine aD rfl (aA rfl (aA rfl (aA rfl (aD rfl (aA rfl (aA rfl (aA rfl (qZ ?_))))))))
 have e : nS 11 a b=(if a.k=3∧b.k=3 then (if (60 : Int)<a.s.size+b.s.size then (eD,3) else (aCB (a.s++b.s),0)) else aBI 11 a b):=rfl
 rw [e]
 by_cases h1 : a.k=3∧b.k=3
 ·rw [if_pos h1,decide_eq_true h1.1,decide_eq_true h1.2]
  refine aW (mY (mY (aM (by omega) (mX (aC (fun h2=>aB ?_) (fun h2=>iQ (by omega) (bA rfl (aB ?_))))))))
  ·rw [if_pos h2];rfl
  ·rw [if_neg h2];rfl
 ·have h5 : (decide (a.k=3)&&decide (b.k=3))=false:=by
   cases h : (decide (a.k=3)&&decide (b.k=3))
   ·rfl
   ·simp only [Bool.and_eq_true,decide_eq_true_eq] at h;exact absurd h h1
  rw [if_neg h1,h5]
  refine aV (qB (aON (fun _ _=>rfl)) (aR rfl (aR rfl (aD rfl (aA rfl (aA rfl (aA rfl (aB rfl))))))))
theorem aNa {a b : cO} : Ok (fun r=>r=opR (nS 12 a b)) (aBl a.pv b.pv):=by
 rw [aG1]
 exact aD rfl (aA rfl (aA rfl (aA rfl (aD rfl (aA rfl (aA rfl (aA rfl (qB (aOO (fun _ _=>rfl)) (aR rfl (aR rfl (aD rfl (aA rfl (aA rfl (aA rfl (aB rfl)))))))))))))))
theorem aNb {a b : cO} : Ok (fun r=>r=opR (nS 13 a b)) (aBm a.pv b.pv):=by
 rw [aG2]
 exact aD rfl (aA rfl (aA rfl (aA rfl (aD rfl (aA rfl (aA rfl (aA rfl (qB (aOP (fun _ _=>rfl)) (aR rfl (aR rfl (aD rfl (aA rfl (aA rfl (aA rfl (aB rfl)))))))))))))))
theorem aNc {p q : Prop} [Decidable p] [Decidable q] (h : ¬ (p∧q)) : (decide p&&decide q)=false:=by
 cases h' : (decide p&&decide q)
 ·rfl
 ·simp only [Bool.and_eq_true,decide_eq_true_eq] at h';exact absurd h' h
theorem aMd {a b : cO} : Ok (fun r=>r=opR (nS 14 a b)) (zC a.pv b.pv):=by
 rw [aF8]
 have e : nS 14 a b=(if a.k=3∧b.k=3 then (mG (PV.bytesLt a.s.toList b.s.toList),0) else if a.k=1∧b.k=1 then (mG (decide (a.n<b.n)),0) else (eD,1)):=rfl
 rw [e]
 refine aD rfl (aA rfl (aA rfl (aA rfl (aD rfl (aA rfl (aA rfl (aA rfl (qZ ?_))))))))
 by_cases h1 : a.k=1∧b.k=1
 ·rw [if_neg (by omega),if_pos h1,decide_eq_true h1.1,decide_eq_true h1.2]
  exact aW (aH (kI (aD rfl (aA rfl (aA rfl (aA rfl (aB rfl)))))))
 ·rw [aNc h1]
  refine aV (qZ ?_)
  by_cases h2 : a.k=3∧b.k=3
  ·rw [if_pos h2,decide_eq_true h2.1,decide_eq_true h2.2]
   exact aW (aKG (kI (aD rfl (aA rfl (aA rfl (aA rfl (aB rfl)))))))
  ·rw [if_neg h2,if_neg h1,aNc h2]
   exact aV (aB rfl)
theorem aLn {a b : cO} {k : PV→Option R} (h : Ok P (k (.bool (decide (a.k=b.k)&&(decide (a.n=b.n)&&kH a.s b.s))))) : Ok P (bd (PV.ceq [1,1,2] .eql (.agg [.int .i64 a.k,.int .i64 a.n,.str a.s]) (.agg [.int .i64 b.k,.int .i64 b.n,.str b.s])) k):=
 cK _ (by simp [PV.ceq,PV.eqCells,PV.eqScalar,PV.eqOr,kH];rfl) h
theorem aMe {a b : cO} : Ok (fun r=>r = [(aAK a b).pv]) (zB a.pv b.pv):=by
 rw [aF7]
 exact aD rfl (aA rfl (aA rfl (aA rfl (aD rfl (aA rfl (aA rfl (aA rfl (aLn (kI (aD rfl (aA rfl (aA rfl (aA rfl (aB rfl))))))))))))))
theorem aNd {v : cO} : Ok (fun r=>r=opR (zI v)) (aBj v.pv):=by
 rw [aGZ]
 unfold zI
 refine aD rfl (aA rfl (aA rfl (aA rfl (aY (aI (fun h=>aB ?_) (fun h=>aY (kI (aD rfl (aA rfl (aA rfl (aA rfl (aB ?_))))))))))))
 ·rw [if_pos h];rfl
 ·rw [if_neg (by omega)];rfl
end
theorem aOQ {a b : ByteArray} (h : a.data.toList=b.data.toList) : a=b:=by
 cases a;cases b;congr 1;exact Array.toList_inj.1 h
theorem aAl (a b : ByteArray) : (a++b).data.toList=a.data.toList++b.data.toList:=by
 rw [ByteArray.data_append,Array.toList_append]
theorem vB : ∀ (j : Nat) (n : Nat),n<10 ^ (j+1)→(aAv j (n : Int)).data.toList=Lib.decDigits n
 | 0,n,h=>by
   rw [Lib.decDigits_one (by omega)]
   show [UInt8.ofNat (48+(n : Int)).toNat]=_
   rw [show (48+(n : Int)).toNat=48+n by omega]
 | j+1,n,h=>by
   unfold aAv
   by_cases h1 : (n : Int)<10
   ·rw [if_pos h1,Lib.decDigits_one (by omega)]
    show [UInt8.ofNat (48+(n : Int)).toNat]=_
    rw [show (48+(n : Int)).toNat=48+n by omega]
   ·rw [if_neg h1,aAl,show ((n : Int) / 10)=((n / 10 : Nat) : Int) by omega,vB j (n / 10) (by have : 10 ^ (j+1+1)=10 ^ (j+1)*10:=Nat.pow_succ ..;omega)]
    conv=>rhs;rw [Lib.decDigits,dif_neg (by omega)]
    show _++[UInt8.ofNat (48+(n : Int) % 10).toNat]=_
    rw [show (48+(n : Int) % 10).toNat=48+n % 10 by omega]
theorem aJG {n : Int} (hn : -1000000000≤n∧n≤1000000000) : (⟨(Lib.itoa n).toArray⟩ : ByteArray)=jQ n:=by
 refine aOQ ?_
 show Lib.itoa n=(jQ n).data.toList
 unfold Lib.itoa jQ
 by_cases h0 : n<0
 ·rw [if_pos h0,if_pos h0]
  obtain ⟨q,rfl⟩ : ∃ q : Nat,n = -(q : Int):=⟨n.natAbs,by omega⟩
  rw [show (-(q : Int)).natAbs=q by omega]
  by_cases h9 : -(q : Int) < -9
  ·obtain ⟨e1,e2⟩:=aJo h0
   rw [if_pos h9,e1,e2,Int.neg_neg,Int.neg_neg,Int.neg_neg,aAl,aAl,show (q : Int) / 10=((q / 10 : Nat) : Int) by omega,show (q : Int) % 10=((q % 10 : Nat) : Int) by omega,
    vB 18 (q / 10) (by omega),vB 18 (q % 10) (by omega),Lib.decDigits_one (show q % 10<10 by omega)]
   conv=>lhs;rw [Lib.decDigits,dif_neg (by omega)]
   rfl
  ·rw [if_neg h9,Int.neg_neg,aAl,vB 18 q (by omega)]
   rfl
 ·rw [if_neg h0,if_neg h0]
  obtain ⟨q,rfl⟩:=Int.eq_ofNat_of_zero_le (show 0≤n by omega)
  rw [Int.toNat_natCast,vB 18 q (by omega)]
section
variable {P : R → Prop} {k : R → Option R}
theorem aIo {n : Int} (hn : -1000000000≤n∧n≤1000000000) (h : Ok P (k [.str (jQ n)])) : Ok P (bd (strconv_Itoa (.int .i64 n)) k):=by
 refine aG (Q:=fun r=>r = [.str (jQ n)]) ?_ (fun r hr=>by rw [hr];exact h)
 rw [aEI]
 unfold xO
 simp only
 rw [if_pos (by omega)]
 exact aB (by rw [aJG hn])
theorem aKH {b : Bool} (h : Ok P (k [.str (if b then bs [116,114,117,101] else bs [102,97,108,115,101])])) : Ok P (bd (lY (.bool b)) k):=by
 refine aG (Q:=fun r=>r = [.str (if b then bs [116,114,117,101] else bs [102,97,108,115,101])]) ?_ (fun r hr=>by rw [hr];exact h)
 rw [xL]
 refine aG (Q:=fun r=>r = [.str (if b then bs [116,114,117,101] else bs [102,97,108,115,101])]) ?_ (fun r hr=>by rw [hr];exact aB rfl)
 rw [oK]
 cases b
 ·exact aV (aB rfl)
 ·exact aW (aB rfl)
theorem aNX {s : ByteArray} (hs : s.size≤2097152) (h : Ok P (k [.bool (gF s)])) : Ok P (bd (pF (.str s)) k):=aG (aHr hs) (fun r hr=>by rw [hr];exact h)
theorem aKI {v : cO} {nf recs : Int} (hs : v.s.size≤2097152) (hn : -1000000000≤nf∧nf≤1000000000) (hr : -1000000000≤recs∧recs≤1000000000) : Ok (fun r=>r = [.bool (bF nf recs v)]) (wC v.pv (.int .i64 nf) (.int .i64 recs)):=by
 rw [aED]
 refine aD rfl (aA rfl (aA rfl (aA rfl ?_)))
 refine aF (aC (fun h0=>?_) (fun h0=>?_))
 rotate_left
 refine aF (aC (fun h1=>pA ?_) (fun h1=>?_))
 rotate_left
 refine aF (aC (fun h2=>gC ?_) (fun h2=>?_))
 rotate_left
 refine aF (aC (fun h3=>aF ?_) (fun h3=>?_))
 rotate_left
 refine aF (aC (fun h4=>gT hr ?_) (fun h4=>?_))
 rotate_left
 refine aF (aC (fun h5=>gT hn ?_) (fun h5=>aB ?_))
 rotate_right 5
 ·refine aLn (a:=v) (b:=⟨0,0,bs []⟩) (aB ?_)
  unfold bF
  cases hse : kH v.s (bs []) with
  | false=>rw [if_pos ⟨by omega,rfl⟩];simp [hse]
  | true=>rw [if_neg (by simp),if_pos h0];simp [h0,hse]
 all_goals unfold bF
 ·cases hse : kH v.s (bs []) with
  | false=>
    rw [if_pos ⟨by omega,rfl⟩]
    cases bY v.n
    ·exact aV (aB rfl)
    ·exact aW (qV (aB (by rw [hse])))
  | true=>
    rw [if_neg (by simp),if_neg h0,if_pos h1]
    cases bY v.n
    ·exact aV (aB rfl)
    ·exact aW (qV (aB (by rw [hse])))
 ·cases hse : kH v.s (bs []) with
  | false=>
    rw [if_pos ⟨by omega,rfl⟩]
    cases iP v.n 0 1
    ·exact aV (aB rfl)
    ·exact aW (qV (aB (by rw [hse])))
  | true=>
    rw [if_neg (by simp),if_neg h0,if_neg h1,if_pos h2]
    cases iP v.n 0 1
    ·exact aV (aB rfl)
    ·exact aW (qV (aB (by rw [hse])))
 ·rw [if_neg (fun h=>h.1 h3),if_neg h0,if_neg h1,if_neg h2,if_pos h3]
  refine aC (fun h6=>aNX hs (aB ?_)) (fun h6=>aB ?_)
  ·rw [decide_eq_true h6];rfl
  ·rw [decide_eq_false h6];rfl
 ·have e : iP v.n 0 (recs - 1)=(decide (0≤v.n)&&decide (v.n<recs)):=by
   unfold iP
   congr 1
   exact decide_eq_decide.2 (by omega)
  rw [e]
  cases hse : kH v.s (bs []) with
  | false=>
    rw [if_pos ⟨by omega,rfl⟩]
    cases (decide (0≤v.n)&&decide (v.n<recs))
    ·exact aV (aB rfl)
    ·exact aW (qV (aB (by rw [hse])))
  | true=>
    rw [if_neg (by simp),if_neg h0,if_neg h1,if_neg h2,if_neg h3,if_pos h4]
    cases (decide (0≤v.n)&&decide (v.n<recs))
    ·exact aV (aB rfl)
    ·exact aW (qV (aB (by rw [hse])))
 ·cases hse : kH v.s (bs []) with
  | false=>
    rw [if_pos ⟨by omega,rfl⟩]
    cases iP v.n 0 (nf - 1)
    ·exact aV (aB rfl)
    ·exact aW (qV (aB (by rw [hse])))
  | true=>
    rw [if_neg (by simp),if_neg h0,if_neg h1,if_neg h2,if_neg h3,if_neg h4,if_pos h5]
    cases iP v.n 0 (nf - 1)
    ·exact aV (aB rfl)
    ·exact aW (qV (aB (by rw [hse])))
 ·by_cases hse : kH v.s (bs [])=false
  ·rw [if_pos ⟨by omega,hse⟩]
  ·rw [if_neg (fun h=>hse h.2),if_neg h0,if_neg h1,if_neg h2,if_neg h3,if_neg h4,if_neg h5]
theorem aIp {v : cO} {hp : List (List cO)} {nf : Int} (hnf : nf≤1000) (hh : hp.length≤1000) (hr : ∀ r∈hp,r.length≤1000) (hv : bF nf hp.length v=true) :
 Ok (fun r=>r = [.str (iG v hp)]) (sC v.pv (.lst (hp.map dO))):=by
 have hn : -1000000000≤v.n∧v.n≤1000000000∧(v.k=4→0≤v.n∧v.n<hp.length)∧0≤v.k∧v.k≤5:=by
  unfold bF at hv
  repeat' split at hv
  all_goals first
   | (cases hv;done)
   | (simp only [bY,bL,Bool.and_eq_true,decide_eq_true_eq] at hv;omega)
 rw [aCx]
 unfold iG
 have hdig:=qW v.n
 refine aD rfl (aA rfl (aA rfl (aA rfl ?_)))
 refine aF (aC (fun h0=>aB ?_) (fun h0=>?_))
 ·rw [if_pos h0]
 refine aF (aC (fun h1=>aIo (by omega) (aB ?_)) (fun h1=>?_))
 ·rw [if_neg h0,if_pos h1];rfl
 refine aF (aC (fun h2=>aF (aKH (aB ?_))) (fun h2=>?_))
 ·rw [if_neg h0,if_neg h1,if_pos h2]
  by_cases h : v.n=1
  ·rw [decide_eq_true h,if_pos h,if_pos rfl];rfl
  ·rw [decide_eq_false h,if_neg h,if_neg (by simp)];rfl
 refine aF (aC (fun h3=>aB ?_) (fun h3=>?_))
 ·rw [if_neg h0,if_neg h1,if_neg h2,if_pos h3]
 refine aF (aC (fun h5=>aIo (by omega) (iQ ?_ (aB ?_))) (fun h5=>?_))
 ·have : (bs [102,117,110]).size=3:=rfl
  omega
 ·rw [if_neg h0,if_neg h1,if_neg h2,if_neg h3,if_pos h5]
 refine aF (aC (fun h4=>aE (gT (by omega) ?_)) (fun h4=>aB ?_))
 ·have h6:=hn.2.2.1 h4
  rw [bL.2 (by omega),if_neg h0,if_neg h1,if_neg h2,if_neg h3,if_neg h5,if_pos h4]
  have hlen : (hp[v.n.toNat]?.getD []).length≤1000:=by
   cases hg : hp[v.n.toNat]? with
   | none=>simp
   | some r=>exact hr r (List.mem_of_getElem? hg)
  have hd:=qW (hp[v.n.toNat]?.getD []).length
  have e1 : (bs [123]).size=1:=rfl
  have e2 : (bs [125]).size=1:=rfl
  refine aW (dD h6.1 h6.2 (aA rfl (aE (aIo (by omega) (iQ ?_ (iQ ?_ (aB rfl)))))))
  ·omega
  ·rw [ByteArray.size_append]
   omega
 ·rw [if_neg h0,if_neg h1,if_neg h2,if_neg h3,if_neg h5,if_neg h4]
end
section
variable {P : R → Prop} {k : R → Option R}
theorem wQ {l : List cO} (hl : l.length≤2097152) (h : Ok P (k [aO l])) : Ok P (bd (bP (aO l)) k):=by
 refine aG (Q:=fun r=>r = [aO l]) ?_ (fun r hr=>by rw [hr];exact h)
 rw [kX]
 refine aJi (aK7 (fun e=>aB ?_) ?_)
 ·have : l = []:=List.map_eq_nil_iff.1 e
  subst this;rfl
 ·exact gU (l:=[]) (m:=l) (by simp;omega) (aB (by simp))
theorem aKJ {l : List ByteArray} (hl : l.length≤2097152) (h : Ok P (k [.lst (l.map PV.str)])) : Ok P (bd (gB (.lst (l.map PV.str))) k):=by
 refine aG (Q:=fun r=>r = [.lst (l.map PV.str)]) ?_ (fun r hr=>by rw [hr];exact h)
 rw [pP]
 refine aJi (aK7 (fun e=>aB ?_) ?_)
 ·have : l = []:=List.map_eq_nil_iff.1 e
  subst this;rfl
 ·exact mZ (by simp;omega) aLf (aB rfl)
theorem aLo {n : Int} (h0 : 0≤n) (h1 : n≤1000000000) (h : Ok P (k [aO (List.replicate n.toNat eD)])) : Ok P (bd (aAf (.int .i64 n)) k):=by
 refine aG (Q:=fun r=>r = [aO (List.replicate n.toNat eD)]) ?_ (fun r hr=>by rw [hr];exact h)
 rw [aH9]
 refine tT h0 h1 (lB ?_)
 rw [decide_eq_true (Int.le_refl n)]
 exact aW (tT h0 h1 (aB rfl))
theorem aNY {n : Int} (h0 : 0≤n) (h1 : n≤4194304) (h : Ok P (k [.lst []])) : Ok P (bd (eN (.int .i64 n)) k):=by
 refine aG (Q:=fun r=>r = [.lst []]) ?_ (fun r hr=>by rw [hr];exact h)
 rw [lE]
 unfold rI
 simp only
 rw [if_pos (by omega)]
 exact aB rfl
theorem aNZ {a b : List cO} (ha : a.length≤2097152) (hb : b.length≤2097152) (h : Ok P (k [aO (a++b)])) : Ok P (bd (eB (.lst [aO a,aO b])) k):=by
 refine aG (Q:=fun r=>r = [aO (a++b)]) ?_ (fun r hr=>by rw [hr];exact h)
 have at0 : ∀ {P : R→Prop} {k : PV→Option R},Ok P (k (aO a))→Ok P (bd (PV.at_ 1 false (.lst [aO a,aO b]) (.int .i64 0)) k):=fun h=>aH7 (by omega) rfl rfl h
 have at1 : ∀ {P : R→Prop} {k : PV→Option R},Ok P (k (aO b))→Ok P (bd (PV.at_ 1 false (.lst [aO a,aO b]) (.int .i64 1)) k):=fun h=>aH7 (by omega) rfl rfl h
 rw [kG]
 refine bS ?_
 show Ok _ (bI _ (.int .i64 0) _ (.int .i64 2) (.int .i64 0))
 rw [dB]
 refine aH (aW (at0 (dP (aM (by omega) (aH (aC (fun h=>by omega) (fun _=>aM (by omega) ?_)))))))
 show Ok _ (bI _ _ _ (.int .i64 2) (.int .i64 1))
 rw [dB]
 refine aH (aW (at1 (dP (aM (by omega) (aH (aC (fun h=>by omega) (fun _=>aM (by omega) ?_)))))))
 show Ok _ (bI _ _ _ (.int .i64 2) (.int .i64 2))
 rw [dB]
 refine aH (aV (aNY (by omega) (by omega) (bS ?_)))
 show Ok _ (bG _ (.int .i64 2) (.int .i64 0) (aO []))
 rw [cY]
 refine aH (aW (at0 (gU (by simp;omega) (aM (by omega) ?_))))
 show Ok _ (bG _ (.int .i64 2) (.int .i64 1) _)
 rw [cY]
 refine aH (aW (at1 (gU (by simp;omega) (aM (by omega) ?_))))
 show Ok _ (bG _ (.int .i64 2) (.int .i64 2) _)
 rw [cY]
 refine aH (aV (aB ?_))
 simp
theorem aIq {fs : List cN} {i : Int} {k : PV→Option R} (h0 : 0≤i) (h1 : i<fs.length) (h : ∀ f : cN,fs[i.toNat]? = some f→Ok P (k f.pv)) : Ok P (bd (PV.at_ 3 true (.lst (fs.map cN.pv)) (.int .i64 i)) k):=by
 obtain ⟨n,rfl⟩:=Int.eq_ofNat_of_zero_le h0
 refine aQ (by omega) (fun _=>rfl) (h _ ?_)
 rw [Int.toNat_natCast,List.getElem?_eq_getElem (by omega)]
theorem aGi {T : PV} {fs : List cN} {g : Int} {args : List cO} (h0 : 0≤g) (h1 : g<fs.length) (hl : (args.length : Int)≤wN fs g) (hl2 : wN fs g≤12) (h : Ok P (k [.int .i64 g,.int .i64 0,aO (qA fs g args).loc,aO []])) :
 Ok P (bd (qR (.agg [T,.lst (fs.map cN.pv)]) (.int .i64 g) (aO args)) k):=by
 refine aG (Q:=fun r=>r = [.int .i64 g,.int .i64 0,aO (qA fs g args).loc,aO []]) ?_ (fun r hr=>by rw [hr];exact h)
 rw [aEG]
 refine aD rfl (aA rfl (aA rfl (aIq h0 h1 (fun f hf=>?_))))
 have e : wN fs g=f.lc:=by unfold wN;rw [hf];rfl
 rw [e] at hl hl2
 refine aA rfl (dP (bW (by omega) (aLo (by omega) (by omega) (dK (eR _) ?_))))
 refine mZ (by simp) (fun x hx=>?_) (aNZ (by omega) (by simp;omega) (dK (eR _) (bA rfl (aB ?_))))
 ·simp at hx
  rcases hx with rfl | rfl<;>rfl
 ·unfold qA
  rw [e]
  simp only
  rw [show (f.lc - (args.length : Int)).toNat=f.lc.toNat - args.length by omega]
  rfl
theorem aJH {hp : List (List cO)} (h : hp.length≤1000) (hl : ∀ r∈hp,r.length≤1000) : Ok (fun r=>r = [.lst (hp.map dO)]) (uG (.lst (hp.map dO))):=by
 rw [aDz]
 have e : (hp.map dO).length=hp.length:=List.length_map ..
 refine bS ?_
 rw [e]
 refine (kY (n:=hp.length) (F:=fun i=>kU (.lst (hp.map dO)) (.int .i64 hp.length) (.int .i64 i) (.lst ((hp.take i).map dO))) (P:=fun _ r=>r = [.lst (hp.map dO)]) ?_ (fun i hi ih=>?_) 0 (Nat.zero_le _))
 ·rw [qN]
  refine aH ?_
  rw [decide_eq_false (by omega)]
  refine aV (aB ?_)
  rw [List.take_length]
 ·rw [qN]
  refine aH ?_
  rw [decide_eq_true (by omega)]
  refine aW (aQ hi (fun _=>rfl) (aD rfl (aA rfl (wQ (by have:=hl _ (List.getElem_mem hi);omega) (dK (eR _) ?_)))))
  refine lW (by simp;omega) (fun x hx=>by simp at hx;subst hx;rfl) (aM (by omega) ?_)
  have e : (hp.take (i+1)).map dO=(hp.take i).map dO++[PV.agg [aO hp[i]]]:=by
   rw [List.take_add_one,List.getElem?_eq_getElem hi,List.map_append];rfl
  rw [e] at ih
  exact ih
theorem aG7 {fr : List cH} (h : fr.length≤1000) (hl : ∀ f∈fr,f.loc.length≤1000∧f.stk.length≤1000) : Ok (fun r=>r = [.lst (fr.map cH.pv)]) (pY (.lst (fr.map cH.pv))):=by
 rw [aBD]
 have e : (fr.map cH.pv).length=fr.length:=List.length_map ..
 refine bS ?_
 rw [e]
 refine (kY (n:=fr.length) (F:=fun i=>iO (.lst (fr.map cH.pv)) (.int .i64 fr.length) (.int .i64 i) (.lst ((fr.take i).map cH.pv))) (P:=fun _ r=>r = [.lst (fr.map cH.pv)]) ?_ (fun i hi ih=>?_) 0 (Nat.zero_le _))
 ·rw [nX]
  refine aH ?_
  rw [decide_eq_false (by omega)]
  refine aV (aB ?_)
  rw [List.take_length]
 ·rw [nX]
  refine aH ?_
  rw [decide_eq_true (by omega)]
  have hb:=hl _ (List.getElem_mem hi)
  refine aW (aQ hi (fun _=>rfl) (aD rfl (aA rfl (aA rfl (aA rfl (aA rfl (wQ (by omega) (dK (eR _) (wQ (by omega) (dK (eR _) ?_))))))))))
  refine lW (by simp;omega) (fun x hx=>by simp at hx;subst hx;rfl) (aM (by omega) ?_)
  have e : (fr.take (i+1)).map cH.pv=(fr.take i).map cH.pv++[fr[i].pv]:=by
   rw [List.take_add_one,List.getElem?_eq_getElem hi,List.map_append];rfl
  rw [e] at ih
  exact ih
theorem aJI {v : qY} (z : Sz v) (h : Ok P (k (iI v))) : Ok P (bd (oX v.pv) k):=by
 refine aG (Q:=fun r=>r=iI v) ?_ (fun r hr=>by rw [hr];exact h)
 rw [aDw]
 refine aD rfl (aA rfl (aA rfl (aA rfl (aA rfl (aA rfl (aA rfl (aA rfl (aA rfl (aA rfl (aA rfl ?_))))))))))
 refine aG (aG7 z.f z.fl) (fun r hr=>?_)
 rw [hr]
 refine dK (zO _) (aG (aJH z.h z.hl) (fun r hr=>?_))
 rw [hr]
 refine dK (aAk _) (aKJ (by have:=z.o;omega) (dK (aDJ _) (aB rfl)))
end
def DoI (made a3 a4 a5 a6 a7 a8 F H O : PV) (fs0 : List cH) : aJw→R→Prop
 | .trap c,r=>c≠0∧r = [.int .i64 c,made,a3,a4,a5,a6,a7,a8,F,H,O]
 | .next fr hp made' out,r=>r = [.int .i64 0,.int .i64 made',a3,a4,a5,a6,a7,a8,.lst (fs0.map cH.pv++[fr.pv]),.lst (hp.map dO),.lst (out.map PV.str)]
 | .call fr g,r=>r = [.int .i64 0,made,a3,a4,a5,a6,a7,a8,.lst (fs0.map cH.pv++[fr.pv]++[g.pv]),H,O]
 | .ret v,r=>r=if fs0 = [] then [.int .i64 0,made,.int .i64 1,a4,.int .i64 v.k,.int .i64 v.n,.str v.s,a8,.lst [],H,O]
  else [.int .i64 0,made,a3,a4,a5,a6,a7,a8,.lst ((aCJ v fs0).map cH.pv),H,O]
section
variable {P : R → Prop} {k : R → Option R} {A : List PV}
theorem iH {A : List PV} {f pc : Int} {loc s : List cO} {i : Int} {j : Nat} {y : PV} {k : PV→Option R} (hi : i=A.length) (hy : [PV.int .i64 f,.int .i64 pc,aO loc,aO s][j]? = some y) (h : Ok P (k y)) :
 Ok P (bd (PV.at_ 4 true (.lst (A++[cH.pv ⟨f,pc,loc,s⟩])) (.int .i64 i)) fun x=>bd (PV.cell x j) k):=bN hi rfl (aA hy h)
theorem wR {A : List PV} {f : cH} {i : Int} {k : PV→Option R} (hi : i=A.length) (h : ∀ x,Ok P (k x)) : Ok P (bd (PV.at_ 4 true (.lst (A++[f.pv])) (.int .i64 i)) k):=bN hi rfl (h _)
theorem fL {f pc next base i : Int} {loc s t laid : List cO} {k : PV→Option R} (hi : i=A.length) (hb : base=s.length) (hs : s.length≤1000) (hl : laid.length≤1000) (h : Ok P (k (.lst (A++[cH.pv ⟨f,next,loc,s++laid⟩])))) :
 Ok P (bd (PV.at_ 4 true (.lst (A++[cH.pv ⟨f,pc,loc,s++t⟩])) (.int .i64 i)) fun _=>
  bd (PV.at_ 4 true (.lst (A++[cH.pv ⟨f,pc,loc,s++t⟩])) (.int .i64 i)) fun v1=>
  bd (PV.cell v1 3) fun v2=>
  bd (PV.cut 3 true v2 (.int .i64 0) (.int .i64 base)) fun _=>
  bd (PV.at_ 4 true (.lst (A++[cH.pv ⟨f,pc,loc,s++t⟩])) (.int .i64 i)) fun v4=>
  bd (PV.cell v4 3) fun v5=>
  bd (PV.cut 3 true v5 (.int .i64 0) (.int .i64 base)) fun v6=>
  bd (PV.at_ 4 true (.lst (A++[cH.pv ⟨f,pc,loc,s++t⟩])) (.int .i64 i)) fun v7=>
  bd (PV.cell v7 3) fun _=>
  bd (PV.setCell 4 (.lst (A++[cH.pv ⟨f,pc,loc,s++t⟩])) (.int .i64 i) 3 .hole) fun v9=>
  bd (PV.cat 3 32 true v6 (aO laid)) fun v10=>
  bd (PV.setCell 4 v9 (.int .i64 i) 3 v10) fun v11=>
  bd (PV.one (.int .i64 next)) fun v12=>
  bd (PV.setCell 4 v11 (.int .i64 i) 1 v12) k):=by
 subst hb
 refine wR hi (fun _=>iH hi rfl (fV (by omega) (by omega) (by simp;omega) (iH hi rfl (fV (by omega) (by omega) (by simp;omega) (iH hi rfl ?_)))))
 have e : (((s++t).take (s.length : Int).toNat).drop (0 : Int).toNat)=s:=by simp
 rw [e]
 exact cC hi rfl (by omega) rfl (gU (by omega) (cC hi rfl (by omega) rfl (bA rfl (cC hi rfl (by omega) rfl h))))
theorem aLp {l : List cO} {i : Nat} {v : cO} {k : PV→Option R} (hv : l[i]? = some v) (h : Ok P (k v.pv)) : Ok P (bd (PV.inb (aO l) (.int .i64 (i : Int))) fun _=>bd (PV.at_ 3 true (aO l) (.int .i64 (i : Int))) k):=by
 have hi:=(List.getElem?_eq_some_iff.1 hv).1
 refine eV (by omega) (by omega) (mA (by omega) (by omega) (fun w hw=>?_))
 rw [Int.toNat_natCast,hv] at hw
 cases hw
 exact h
theorem wS {l : List cO} {k : PV→Option R} (hl : l.length≤1000) (h : Ok P (k (aO l))) : Ok P (bd (PV.cat 3 32 true (.lst []) (.lst (l.map cO.pv))) fun v=>bd (PV.cat 3 32 true (.lst []) v) k):=
 gU (l:=[]) (m:=l) (by simp;omega) (gU (l:=[]) (m:=l) (by simp;omega) (by simpa using h))
theorem aAm {f : Nat} {x y : PV} {g : PV→PV→Option R} {Q : R→Prop} (hg : aJ f [x,y]=g x y) (h : Ok Q (g x y)) (hk : ∀ r,Q r→Ok P (k r)) : Ok P (bd (PV.apply aJ (.fn f []) [x,y]) k):=pC hg h hk
theorem aJJ {v : cO} {x : Int} {hp : List (List cO)} {c0 c1 c2 c3 c4 c5 c6 F O : PV} (hx : 0≤x∧x≤1000) (hh : hp.length≤1000) (hr : ∀ r∈hp,r.length≤1000) (hv : v.k=4→0≤v.n∧v.n<hp.length)
 (h1 : v.k≠4→Ok P (k [.nil,.nil,.int .i64 1,c0,c1,c2,c3,c4,c5,c6,F,.lst (hp.map dO),O]))
 (h2 : v.k=4→(hp[v.n.toNat]?.getD []).length≤x→Ok P (k [.nil,.nil,.int .i64 4,c0,c1,c2,c3,c4,c5,c6,F,.lst (hp.map dO),O]))
 (h3 : v.k=4→x<(hp[v.n.toNat]?.getD []).length→Ok P (k [.int .i64 v.n,.int .i64 x,.int .i64 0,c0,c1,c2,c3,c4,c5,c6,F,.lst (hp.map dO),O])) :
 Ok P (bd (oZ v.pv (.int .i64 x) c0 c1 c2 c3 c4 c5 c6 F (.lst (hp.map dO)) O) k):=by
 refine aG (Q:=fun r=>(v.k≠4∧r = [.nil,.nil,.int .i64 1,c0,c1,c2,c3,c4,c5,c6,F,.lst (hp.map dO),O])∨(v.k=4∧(hp[v.n.toNat]?.getD []).length≤x∧r = [.nil,.nil,.int .i64 4,c0,c1,c2,c3,c4,c5,c6,F,.lst (hp.map dO),O])∨
  (v.k=4∧x<(hp[v.n.toNat]?.getD []).length∧r = [.int .i64 v.n,.int .i64 x,.int .i64 0,c0,c1,c2,c3,c4,c5,c6,F,.lst (hp.map dO),O])) ?_ ?_
 rotate_left
 ·rintro r (⟨g1,rfl⟩ | ⟨g1,g2,rfl⟩ | ⟨g1,g2,rfl⟩)
  ·exact h1 g1
  ·exact h2 g1 g2
  ·exact h3 g1 g2
 rw [aDD]
 refine aD rfl (aA rfl (aA rfl (aA rfl (aY (aI (fun g=>aB (.inl ⟨g,rfl⟩)) (fun g=>?_))))))
 obtain ⟨g1,g2⟩:=hv g
 have hlen : (hp[v.n.toNat]?.getD []).length≤1000:=by
  cases hg : hp[v.n.toNat]? with
  | none=>simp
  | some r=>exact hr r (List.mem_of_getElem? hg)
 refine oN g1 g2 (dD g1 g2 (dD g1 g2 (aA rfl (dP (oF (aC (fun q=>aB (.inr (.inl ⟨g,q,rfl⟩))) (fun q=>?_)))))))
 exact oN g1 g2 (dD g1 g2 (dD g1 g2 (aA rfl (eV (by omega) (by omega) (aB (.inr (.inr ⟨g,by omega,rfl⟩)))))))
theorem aMf {v : cO} {fs0 : List cH} {f : cH} {c0 c1 c2 c3 c4 c5 c6 H O : PV} (hn : fs0.length≤1000) (hs : ∀ g∈fs0,g.stk.length≤1000)
 (h : Ok P (k (if fs0 = [] then [c0,.int .i64 1,c2,.int .i64 v.k,.int .i64 v.n,.str v.s,c6,.lst [],H,O] else [c0,c1,c2,c3,c4,c5,c6,.lst ((aCJ v fs0).map cH.pv),H,O]))) :
 Ok P (bd (sD v.pv c0 c1 c2 c3 c4 c5 c6 (.lst (fs0.map cH.pv++[f.pv])) H O) k):=by
 refine aG (Q:=fun r=>r=(if fs0 = [] then [c0,.int .i64 1,c2,.int .i64 v.k,.int .i64 v.n,.str v.s,c6,.lst [],H,O] else [c0,c1,c2,c3,c4,c5,c6,.lst ((aCJ v fs0).map cH.pv),H,O])) ?_ (fun r hr=>by rw [hr];exact h)
 rw [aCy]
 have e : ((fs0.map cH.pv++[f.pv]).length : Int) - 1=fs0.length:=by simp
 have el : ∀ x∈fs0.map cH.pv++[f.pv],x.isEl 4 true=true:=by
  intro x hx
  rcases List.mem_append.1 hx with hx | hx
  ·exact aHz x hx
  ·simp at hx;subst hx;rfl
 have et : (((fs0.map cH.pv++[f.pv]).take ((fs0.length : Int)).toNat).drop ((0 : Int)).toNat)=fs0.map cH.pv:=by simp
 refine aD rfl (aA rfl (aA rfl (aA rfl (bS (bW (by simp;omega) ?_)))))
 rw [e]
 refine yJ (by omega) (by omega) (by simp;omega) el (yJ (by omega) (by omega) (by simp;omega) el ?_)
 rw [et]
 refine aF (aC (fun h0=>aB ?_) (fun h0=>?_))
 ·have : fs0 = []:=List.eq_nil_of_length_eq_zero (by omega)
  subst this
  rfl
 ·obtain ⟨gs,g,rfl⟩ : ∃ gs g,fs0=gs++[g]:=by
   rcases List.eq_nil_or_concat fs0 with rfl | ⟨gs,g,rfl⟩
   ·simp at h0
   ·exact ⟨gs,g,by simp⟩
  have e2 : ((gs++[g]).length : Int) - 1=gs.length:=by simp
  have em : (gs++[g]).map cH.pv=gs.map cH.pv++[g.pv]:=by simp
  refine bW (by omega) ?_
  rw [e2,em]
  have hi : (gs.length : Int)=(gs.map cH.pv).length:=by simp
  have hg:=hs g (by simp)
  obtain ⟨gf,gp,gl,gk⟩:=g
  have hg : gk.length≤1000:=hg
  refine vQ (by omega) (by simp;omega) (wR hi (fun _=>iH hi rfl (iH hi rfl ?_)))
  refine cC hi rfl (by omega) rfl (gU (m:=[v]) (by simp;omega) (cC hi rfl (by omega) rfl (aB ?_)))
  rw [if_neg (by simp),wO]
  simp
  rfl
end
theorem eC {P : R→Prop} {l : List cO} {v : cO} {k : PV→Option R} (hv : l[0]? = some v) (h : Ok P (k v.pv)) : Ok P (bd (PV.inb (aO l) (.int .i64 0)) fun _=>bd (PV.at_ 3 true (aO l) (.int .i64 0)) k):=aLp (i:=0) hv h
theorem sR {P : R→Prop} {l : List cO} {v : cO} {k : PV→Option R} (hv : l[1]? = some v) (h : Ok P (k v.pv)) : Ok P (bd (PV.inb (aO l) (.int .i64 1)) fun _=>bd (PV.at_ 3 true (aO l) (.int .i64 1)) k):=aLp (i:=1) hv h
theorem aEZ {o : Int} {a b : cO} (ho : 11≤o∧o≤14) (hs : a.s.size≤2097152∧b.s.size≤2097152) : Ok (fun r=>∀ {P : R→Prop} {k : R→Option R},Ok P (k (opR (nS o a b)))→Ok P (bd (PV.apply aJ (hd r) [a.pv,b.pv]) k)) (gJ (.int .i64 o)):=by
 rw [aBF]
 refine bW (by omega) ?_
 have : o=11∨o=12∨o=13∨o=14:=by omega
 rcases this with rfl | rfl | rfl | rfl
 ·exact aK6 (by decide) rfl rfl (aB (fun h=>aAm (g:=aBk) rfl (aM9 hs) (fun r hr=>by rw [hr];exact h)))
 ·exact aK6 (by decide) rfl rfl (aB (fun h=>aAm (g:=aBl) rfl aNa (fun r hr=>by rw [hr];exact h)))
 ·exact aK6 (by decide) rfl rfl (aB (fun h=>aAm (g:=aBm) rfl aNb (fun r hr=>by rw [hr];exact h)))
 ·exact aK6 (by decide) rfl rfl (aB (fun h=>aAm (g:=zC) rfl aMd (fun r hr=>by rw [hr];exact h)))
theorem aNe {m : dT} {A : List PV} {made a3 a4 a5 a6 a7 a8 T H O : PV} {f pc base g next i : Int} {loc s t args : List cO} (hi : i=A.length) (hb : base=s.length) (hs : s.length≤1000) (hA : A.length≤23) (hg : 0≤g∧g<m.funcs.length) (hargs : (args.length : Int)=eJ m.funcs g)
 (par : ∀ f∈m.funcs,0≤f.p∧f.p≤6∧f.p≤f.lc∧f.lc≤12) :
 Ok (fun r=>(A.length=23∧r = [.int .i64 6,made,a3,a4,a5,a6,a7,a8,.lst (A++[cH.pv ⟨f,pc,loc,s++t⟩]),H,O])∨(A.length≠23∧r = [.int .i64 0,made,a3,a4,a5,a6,a7,a8,.lst (A++[cH.pv ⟨f,next,loc,s⟩]++[(qA m.funcs g args).pv]),H,O]))
  (iD (.int .i64 i) (.int .i64 base) (.int .i64 next) (.int .i64 g) made a3 a4 a5 a6 a7 a8 T (.lst (m.funcs.map cN.pv)) (.lst (A++[cH.pv ⟨f,pc,loc,s++t⟩])) H O (aO args)):=by
 subst hb
 rw [aCw]
 refine bS (aF (aC (fun h=>aB (.inl ⟨by simp at h;omega,rfl⟩)) (fun h=>?_)))
 refine wR hi (fun _=>iH hi rfl (fV (by omega) (by omega) (by simp;omega) (iH hi rfl (fV (by omega) (by omega) (by simp;omega) (iH hi rfl ?_)))))
 have e : (((s++t).take (s.length : Int).toNat).drop (0 : Int).toNat)=s:=by simp
 rw [e]
 refine cC hi rfl (by omega) rfl (cC hi rfl (by omega) rfl (bA rfl (cC hi rfl (by omega) rfl ?_)))
 obtain ⟨q,rfl⟩:=Int.eq_ofNat_of_zero_le hg.1
 have hq : q<m.funcs.length:=by omega
 have hf:=par _ (List.getElem_mem hq)
 have hlc : wN m.funcs q=m.funcs[q].lc:=by unfold wN;rw [Int.toNat_natCast,List.getElem?_eq_getElem hq];rfl
 have hpa : eJ m.funcs q=m.funcs[q].p:=by unfold eJ;rw [Int.toNat_natCast,List.getElem?_eq_getElem hq];rfl
 refine aGi (by omega) (by omega) (by rw [hlc];omega) (by rw [hlc];omega) (cG rfl (cG rfl (dK (eR _) (dK (eR []) ?_))))
 refine lW (by simp;omega) (fun x hx=>by simp at hx;subst hx;rfl) (aB (.inr ⟨?_,rfl⟩))
 intro h0
 exact h (by simp;omega)
set_option maxHeartbeats 8000000 in
theorem aN0 {m : dT} {fs0 : List cH} {took : List cO} {hp : List (List cO)} {made ff fpc : Int} {floc fstk : List cO} {out : List ByteArray} {x : bE} {nc : Int} {a3 a4 a5 a6 a7 a8 : PV}
 (S : aMV m fs0 ⟨ff,fpc+1,floc,fstk⟩ took hp made out) (hx : bU m.texts.length m.funcs.length floc.length nc x.o x.a=true) (hu : (took.length : Int)=(aT m.funcs x).1)
 (hff : 0≤ff∧ff<m.funcs.length) (hpc : 0≤fpc∧fpc≤1000) (hcode : (eH m.funcs ff)[fpc.toNat]? = some x) :
 Ok (DoI (.int .i64 made) a3 a4 a5 a6 a7 a8 (.lst (fs0.map cH.pv++[cH.pv ⟨ff,fpc,floc,fstk++took⟩])) (.lst (hp.map dO)) (.lst (out.map PV.str)) fs0 (dJ m ⟨ff,fpc+1,floc,fstk⟩ took (fs0.length+1) hp made out x))
  (aBi (.lst (m.texts.map PV.str)) (.lst (m.funcs.map cN.pv)) (.int .i64 made) a3 a4 a5 a6 a7 a8
   (.lst (fs0.map cH.pv++[cH.pv ⟨ff,fpc,floc,fstk++took⟩])) (.lst (hp.map dO)) (.lst (out.map PV.str))):=by
 obtain ⟨q26,q3,q67,q20,q2122,q23,q524,qj,q1⟩:=rH hx
 obtain ⟨nf,nt,par,n0,stks,nl,ns,recs,nh,nm,no,vals0⟩:=S
 simp only at *
 have hsz : ∀ v∈took,v.s.size≤2097152:=fun v hv=>by have:=bT (vals0 v hv);omega
 have hrec : ∀ r∈hp,r.length≤1000:=fun r hr=>by have:=recs r hr;omega
 rw [aGX]
 have hA : (fs0.map cH.pv).length=fs0.length:=List.length_map ..
 have hi : (fs0.length : Int)=(fs0.map cH.pv).length:=by rw [hA]
 have e : ((fs0.map cH.pv++[cH.pv ⟨ff,fpc,floc,fstk++took⟩]).length : Int) - 1=fs0.length:=by simp
 refine bS (bW (by simp;omega) ?_)
 rw [e]
 refine vQ (by omega) (by simp;omega) (iH hi rfl (aIq hff.1 hff.2 (fun fn hfn=>aA rfl (iH hi rfl ?_))))
 have hcd : (fn.code.map bE.pv)[fpc.toNat]? = some x.pv:=by
  have : eH m.funcs ff=fn.code:=by unfold eH;rw [hfn];rfl
  rw [List.getElem?_map,← this,hcode];rfl
 refine aH7 (by omega) hcd rfl (aD rfl (aA rfl (aA rfl (aG (aHt (by omega)) (fun r hr=>?_)))))
 rw [hr]
 refine aR rfl (aR rfl (wR hi (fun _=>iH hi rfl (dP (bW (by simp;omega) ?_)))))
 have e2 : ((fstk++took).length : Int) - (aT m.funcs x).1=fstk.length:=by rw [← hu];simp
 rw [e2]
 refine wR hi (fun _=>iH hi rfl (dP (fV (by omega) (by simp;omega) (by omega) (iH hi rfl (fV (by omega) (by simp;omega) (by omega) ?_)))))
 have e3 : (((fstk++took).take ((fstk++took).length : Int).toNat).drop (fstk.length : Int).toNat)=took:=by rw [Int.toNat_natCast,Int.toNat_natCast,List.take_length,List.drop_left]
 rw [e3]
 refine wQ (by omega) (dK (eR _) (iH hi rfl (aM (by omega) ?_)))
 have hfs : fstk.length≤1000:=by omega
 refine aF (aC (fun ho=>?_) (fun n1=>?_))
 ·have e0 : aT m.funcs x=(0,1):=by unfold aT;repeat (first | rfl | rw [if_pos (by omega)] | rw [if_neg (by omega)])
  rw [e0] at hu
  obtain rfl:=List.eq_nil_of_length_eq_zero (show took.length=0 by omega)
  have e : dJ m ⟨ff,fpc+1,floc,fstk⟩ [] (fs0.length+1) hp made out x = .next ⟨ff,fpc+1,floc,fstk++[aCA x.a]⟩ hp made out:=by simp only [dJ,List.headD,List.tail];(repeat (first | rfl | refine (if_pos (by omega)).trans ?_ | refine (if_neg (by omega)).trans ?_))
  exact aAO (wS (l:=[aCA x.a]) (by simp) (fL (laid:=[aCA x.a]) hi rfl hfs (by simp) (aB (by rw [e];rfl))))
 refine aF (aC (fun ho=>?_) (fun n2=>?_))
 ·have e0 : aT m.funcs x=(0,1):=by unfold aT;repeat (first | rfl | rw [if_pos (by omega)] | rw [if_neg (by omega)])
  rw [e0] at hu
  obtain rfl:=List.eq_nil_of_length_eq_zero (show took.length=0 by omega)
  have e : dJ m ⟨ff,fpc+1,floc,fstk⟩ [] (fs0.length+1) hp made out x = .next ⟨ff,fpc+1,floc,fstk++[mG (decide (x.a=1))]⟩ hp made out:=by simp only [dJ,List.headD,List.tail];(repeat (first | rfl | refine (if_pos (by omega)).trans ?_ | refine (if_neg (by omega)).trans ?_))
  exact aF (kI (wS (l:=[mG (decide (x.a=1))]) (by simp) (fL (laid:=[mG (decide (x.a=1))]) hi rfl hfs (by simp) (aB (by rw [e];rfl)))))
 refine aF (aC (fun ho=>?_) (fun n3=>?_))
 ·have e0 : aT m.funcs x=(0,1):=by unfold aT;repeat (first | rfl | rw [if_pos (by omega)] | rw [if_neg (by omega)])
  rw [e0] at hu
  obtain rfl:=List.eq_nil_of_length_eq_zero (show took.length=0 by omega)
  obtain ⟨xa,hxa⟩:=Int.eq_ofNat_of_zero_le (q3 ho).1
  have hlt : xa<m.texts.length:=by have:=q3 ho;omega
  have e : dJ m ⟨ff,fpc+1,floc,fstk⟩ [] (fs0.length+1) hp made out x = .next ⟨ff,fpc+1,floc,fstk++[aCB m.texts[xa]]⟩ hp made out:=by
   have et : m.texts[x.a.toNat]?.getD (bs [])=m.texts[xa]:=by rw [hxa,Int.toNat_natCast,List.getElem?_eq_getElem hlt];rfl
   simp only [dJ,List.headD,List.tail,et];(repeat (first | rfl | refine (if_pos (by omega)).trans ?_ | refine (if_neg (by omega)).trans ?_))
  rw [hxa]
  refine aQ hlt (fun _=>rfl) (bA rfl (fL (laid:=[aCB m.texts[xa]]) hi rfl hfs (by simp) (aB (by rw [e];rfl))))
 refine aF (aC (fun ho=>?_) (fun n4=>?_))
 ·have e0 : aT m.funcs x=(0,1):=by unfold aT;repeat (first | rfl | rw [if_pos (by omega)] | rw [if_neg (by omega)])
  rw [e0] at hu
  obtain rfl:=List.eq_nil_of_length_eq_zero (show took.length=0 by omega)
  have e : dJ m ⟨ff,fpc+1,floc,fstk⟩ [] (fs0.length+1) hp made out x = .next ⟨ff,fpc+1,floc,fstk++[eD]⟩ hp made out:=by simp only [dJ,List.headD,List.tail];(repeat (first | rfl | refine (if_pos (by omega)).trans ?_ | refine (if_neg (by omega)).trans ?_))
  exact fL (laid:=[eD]) hi rfl hfs (by simp) (aB (by rw [e];rfl))
 refine aF (aC (fun ho=>?_) (fun n5=>?_))
 ·have e0 : aT m.funcs x=(0,1):=by unfold aT;repeat (first | rfl | rw [if_pos (by omega)] | rw [if_neg (by omega)])
  rw [e0] at hu
  obtain rfl:=List.eq_nil_of_length_eq_zero (show took.length=0 by omega)
  have e : dJ m ⟨ff,fpc+1,floc,fstk⟩ [] (fs0.length+1) hp made out x = .next ⟨ff,fpc+1,floc,fstk++[aLW x.a]⟩ hp made out:=by simp only [dJ,List.headD,List.tail];(repeat (first | rfl | refine (if_pos (by omega)).trans ?_ | refine (if_neg (by omega)).trans ?_))
  exact bA rfl (fL (laid:=[aLW x.a]) hi rfl hfs (by simp) (aB (by rw [e];rfl)))
 refine aF (aC (fun ho=>?_) (fun n6=>?_))
 ·have e0 : aT m.funcs x=(0,1):=by unfold aT;repeat (first | rfl | rw [if_pos (by omega)] | rw [if_neg (by omega)])
  rw [e0] at hu
  obtain rfl:=List.eq_nil_of_length_eq_zero (show took.length=0 by omega)
  have hq:=q67 (.inl ho)
  obtain ⟨v,hv⟩ : ∃ v,floc[x.a.toNat]? = some v:=⟨_,List.getElem?_eq_getElem (show x.a.toNat<floc.length by omega)⟩
  have e : dJ m ⟨ff,fpc+1,floc,fstk⟩ [] (fs0.length+1) hp made out x = .next ⟨ff,fpc+1,floc,fstk++[v]⟩ hp made out:=by
   have et : floc[x.a.toNat]?.getD eD=v:=by rw [hv];rfl
   simp only [dJ,List.headD,List.tail,et];(repeat (first | rfl | refine (if_pos (by omega)).trans ?_ | refine (if_neg (by omega)).trans ?_))
  refine wR hi (fun _=>iH hi rfl (eV (by omega) (by omega) (iH hi rfl (mA (by omega) (by omega) (fun v' hv'=>?_)))))
  rw [hv] at hv';cases hv'
  exact wS (l:=[v]) (by simp) (fL (laid:=[v]) hi rfl hfs (by simp) (aB (by rw [e];rfl)))
 refine aF (aC (fun ho=>?_) (fun n7=>?_))
 ·have e0 : aT m.funcs x=(1,0):=by unfold aT;repeat (first | rfl | rw [if_pos (by omega)] | rw [if_neg (by omega)])
  rw [e0] at hu
  obtain ⟨a,rfl⟩:=List.length_eq_one_iff.1 (show took.length=1 by omega)
  have hq:=q67 (.inr ho)
  have e : dJ m ⟨ff,fpc+1,floc,fstk⟩ [a] (fs0.length+1) hp made out x = .next ⟨ff,fpc+1,floc.set x.a.toNat a,fstk⟩ hp made out:=by simp only [dJ,List.headD,List.tail];(repeat (first | rfl | refine (if_pos (by omega)).trans ?_ | refine (if_neg (by omega)).trans ?_))
  refine wR hi (fun _=>eC rfl (iH hi rfl (eV (by omega) (by omega) (iH hi rfl (iH hi rfl (mH (by omega) (by omega) (iH hi rfl (cC hi rfl (by omega) rfl ?_))))))))
  exact fL (loc:=floc.set x.a.toNat a) (laid:=[]) hi rfl hfs (by simp) (aB (by rw [e];simp [DoI]))
 refine aF (aC (fun ho=>?_) (fun n8=>?_))
 ·have e0 : aT m.funcs x=(1,2):=by unfold aT;repeat (first | rfl | rw [if_pos (by omega)] | rw [if_neg (by omega)])
  rw [e0] at hu
  obtain ⟨a,rfl⟩:=List.length_eq_one_iff.1 (show took.length=1 by omega)
  have e : dJ m ⟨ff,fpc+1,floc,fstk⟩ [a] (fs0.length+1) hp made out x = .next ⟨ff,fpc+1,floc,fstk++[a,a]⟩ hp made out:=by simp only [dJ,List.headD,List.tail];(repeat (first | rfl | refine (if_pos (by omega)).trans ?_ | refine (if_neg (by omega)).trans ?_))
  exact eC rfl (eC rfl (wS (l:=[a,a]) (by simp) (fL (laid:=[a,a]) hi rfl hfs (by simp) (aB (by rw [e];rfl)))))
 refine aF (aC (fun ho=>?_) (fun n10=>?_))
 ·have e0 : aT m.funcs x=(2,2):=by unfold aT;repeat (first | rfl | rw [if_pos (by omega)] | rw [if_neg (by omega)])
  rw [e0] at hu
  obtain ⟨a,b,rfl⟩:=nP (show took.length=2 by omega)
  have e : dJ m ⟨ff,fpc+1,floc,fstk⟩ [a,b] (fs0.length+1) hp made out x = .next ⟨ff,fpc+1,floc,fstk++[b,a]⟩ hp made out:=by simp only [dJ,List.headD,List.tail];(repeat (first | rfl | refine (if_pos (by omega)).trans ?_ | refine (if_neg (by omega)).trans ?_))
  exact sR rfl (eC rfl (wS (l:=[b,a]) (by simp) (fL (laid:=[b,a]) hi rfl hfs (by simp) (aB (by rw [e];rfl)))))
 refine aF (aC (fun ho=>?_) (fun n11=>?_))
 ·have e0 : aT m.funcs x=(2,1):=by unfold aT;repeat (first | rfl | rw [if_pos (by omega)] | rw [if_neg (by omega)])
  rw [e0] at hu
  obtain ⟨a,b,rfl⟩:=nP (show took.length=2 by omega)
  have hab:=hsz a (by simp);have hbb:=hsz b (by simp)
  refine aG (aEZ (a:=a) (b:=b) (by omega) ⟨hab,hbb⟩) (fun r hr=>eC rfl (sR rfl (hr (aR rfl (aR rfl (aD rfl (aA rfl (aA rfl (aA rfl (aY (aI (fun ht=>aB ?_) (fun ht=>?_))))))))))))
  ·have e : dJ m ⟨ff,fpc+1,floc,fstk⟩ [a,b] (fs0.length+1) hp made out x = .trap (nS x.o a b).2:=by simp only [dJ,List.headD,List.tail];(repeat (first | rfl | refine (if_pos (by omega)).trans ?_ | refine (if_neg (by omega)).trans ?_))
   rw [e];exact ⟨ht,rfl⟩
  ·have e : dJ m ⟨ff,fpc+1,floc,fstk⟩ [a,b] (fs0.length+1) hp made out x = .next ⟨ff,fpc+1,floc,fstk++[(nS x.o a b).1]⟩ hp made out:=by simp only [dJ,List.headD,List.tail];(repeat (first | rfl | refine (if_pos (by omega)).trans ?_ | refine (if_neg (by omega)).trans ?_))
   exact fL (laid:=[(nS x.o a b).1]) hi rfl hfs (by simp) (aB (by rw [e];rfl))
 refine aF (aC (fun ho=>?_) (fun n12=>?_))
 ·have e0 : aT m.funcs x=(2,1):=by unfold aT;repeat (first | rfl | rw [if_pos (by omega)] | rw [if_neg (by omega)])
  rw [e0] at hu
  obtain ⟨a,b,rfl⟩:=nP (show took.length=2 by omega)
  have hab:=hsz a (by simp);have hbb:=hsz b (by simp)
  refine aG (aEZ (a:=a) (b:=b) (by omega) ⟨hab,hbb⟩) (fun r hr=>eC rfl (sR rfl (hr (aR rfl (aR rfl (aD rfl (aA rfl (aA rfl (aA rfl (aY (aI (fun ht=>aB ?_) (fun ht=>?_))))))))))))
  ·have e : dJ m ⟨ff,fpc+1,floc,fstk⟩ [a,b] (fs0.length+1) hp made out x = .trap (nS x.o a b).2:=by simp only [dJ,List.headD,List.tail];(repeat (first | rfl | refine (if_pos (by omega)).trans ?_ | refine (if_neg (by omega)).trans ?_))
   rw [e];exact ⟨ht,rfl⟩
  ·have e : dJ m ⟨ff,fpc+1,floc,fstk⟩ [a,b] (fs0.length+1) hp made out x = .next ⟨ff,fpc+1,floc,fstk++[(nS x.o a b).1]⟩ hp made out:=by simp only [dJ,List.headD,List.tail];(repeat (first | rfl | refine (if_pos (by omega)).trans ?_ | refine (if_neg (by omega)).trans ?_))
   exact fL (laid:=[(nS x.o a b).1]) hi rfl hfs (by simp) (aB (by rw [e];rfl))
 refine aF (aC (fun ho=>?_) (fun n13=>?_))
 ·have e0 : aT m.funcs x=(2,1):=by unfold aT;repeat (first | rfl | rw [if_pos (by omega)] | rw [if_neg (by omega)])
  rw [e0] at hu
  obtain ⟨a,b,rfl⟩:=nP (show took.length=2 by omega)
  have hab:=hsz a (by simp);have hbb:=hsz b (by simp)
  refine aG (aEZ (a:=a) (b:=b) (by omega) ⟨hab,hbb⟩) (fun r hr=>eC rfl (sR rfl (hr (aR rfl (aR rfl (aD rfl (aA rfl (aA rfl (aA rfl (aY (aI (fun ht=>aB ?_) (fun ht=>?_))))))))))))
  ·have e : dJ m ⟨ff,fpc+1,floc,fstk⟩ [a,b] (fs0.length+1) hp made out x = .trap (nS x.o a b).2:=by simp only [dJ,List.headD,List.tail];(repeat (first | rfl | refine (if_pos (by omega)).trans ?_ | refine (if_neg (by omega)).trans ?_))
   rw [e];exact ⟨ht,rfl⟩
  ·have e : dJ m ⟨ff,fpc+1,floc,fstk⟩ [a,b] (fs0.length+1) hp made out x = .next ⟨ff,fpc+1,floc,fstk++[(nS x.o a b).1]⟩ hp made out:=by simp only [dJ,List.headD,List.tail];(repeat (first | rfl | refine (if_pos (by omega)).trans ?_ | refine (if_neg (by omega)).trans ?_))
   exact fL (laid:=[(nS x.o a b).1]) hi rfl hfs (by simp) (aB (by rw [e];rfl))
 refine aF (aC (fun ho=>?_) (fun n14=>?_))
 ·have e0 : aT m.funcs x=(2,1):=by unfold aT;repeat (first | rfl | rw [if_pos (by omega)] | rw [if_neg (by omega)])
  rw [e0] at hu
  obtain ⟨a,b,rfl⟩:=nP (show took.length=2 by omega)
  have hab:=hsz a (by simp);have hbb:=hsz b (by simp)
  refine aG (aEZ (a:=a) (b:=b) (by omega) ⟨hab,hbb⟩) (fun r hr=>eC rfl (sR rfl (hr (aR rfl (aR rfl (aD rfl (aA rfl (aA rfl (aA rfl (aY (aI (fun ht=>aB ?_) (fun ht=>?_))))))))))))
  ·have e : dJ m ⟨ff,fpc+1,floc,fstk⟩ [a,b] (fs0.length+1) hp made out x = .trap (nS x.o a b).2:=by simp only [dJ,List.headD,List.tail];(repeat (first | rfl | refine (if_pos (by omega)).trans ?_ | refine (if_neg (by omega)).trans ?_))
   rw [e];exact ⟨ht,rfl⟩
  ·have e : dJ m ⟨ff,fpc+1,floc,fstk⟩ [a,b] (fs0.length+1) hp made out x = .next ⟨ff,fpc+1,floc,fstk++[(nS x.o a b).1]⟩ hp made out:=by simp only [dJ,List.headD,List.tail];(repeat (first | rfl | refine (if_pos (by omega)).trans ?_ | refine (if_neg (by omega)).trans ?_))
   exact fL (laid:=[(nS x.o a b).1]) hi rfl hfs (by simp) (aB (by rw [e];rfl))
 refine aF (aC (fun ho=>?_) (fun n15=>?_))
 ·have e0 : aT m.funcs x=(2,1):=by unfold aT;repeat (first | rfl | rw [if_pos (by omega)] | rw [if_neg (by omega)])
  rw [e0] at hu
  obtain ⟨a,b,rfl⟩:=nP (show took.length=2 by omega)
  have e4 : (nS x.o a b)=(aAK a b,0):=by unfold nS;repeat (first | rfl | rw [if_pos (by omega)] | rw [if_neg (by omega)])
  have e : dJ m ⟨ff,fpc+1,floc,fstk⟩ [a,b] (fs0.length+1) hp made out x = .next ⟨ff,fpc+1,floc,fstk++[aAK a b]⟩ hp made out:=by simp only [dJ,List.headD,List.tail,e4];(repeat (first | rfl | exact if_neg (fun h=>h rfl) | refine (if_pos (by omega)).trans ?_ | refine (if_neg (by omega)).trans ?_))
  exact eC rfl (sR rfl (aG aMe (fun r hr=>by rw [hr];exact wS (l:=[aAK a b]) (by simp) (fL (laid:=[aAK a b]) hi rfl hfs (by simp) (aB (by rw [e];rfl))))))
 refine aF (aC (fun ho=>?_) (fun n16=>?_))
 ·have e0 : aT m.funcs x=(1,1):=by unfold aT;repeat (first | rfl | rw [if_pos (by omega)] | rw [if_neg (by omega)])
  rw [e0] at hu
  obtain ⟨a,rfl⟩:=List.length_eq_one_iff.1 (show took.length=1 by omega)
  refine eC rfl (lZ aNd (aR rfl (aR rfl (aD rfl (aA rfl (aA rfl (aA rfl (aY (aI (fun ht=>aB ?_) (fun ht=>?_))))))))))
  ·have e : dJ m ⟨ff,fpc+1,floc,fstk⟩ [a] (fs0.length+1) hp made out x = .trap (zI a).2:=by simp only [dJ,List.headD,List.tail];(repeat (first | rfl | refine (if_pos (by omega)).trans ?_ | refine (if_neg (by omega)).trans ?_))
   rw [e];exact ⟨ht,rfl⟩
  ·have e : dJ m ⟨ff,fpc+1,floc,fstk⟩ [a] (fs0.length+1) hp made out x = .next ⟨ff,fpc+1,floc,fstk++[(zI a).1]⟩ hp made out:=by simp only [dJ,List.headD,List.tail];(repeat (first | rfl | refine (if_pos (by omega)).trans ?_ | refine (if_neg (by omega)).trans ?_))
   exact fL (laid:=[(zI a).1]) hi rfl hfs (by simp) (aB (by rw [e];rfl))
 refine aF (aC (fun ho=>?_) (fun n17=>?_))
 ·have e0 : aT m.funcs x=(0,0):=by unfold aT;repeat (first | rfl | rw [if_pos (by omega)] | rw [if_neg (by omega)])
  rw [e0] at hu
  obtain rfl:=List.eq_nil_of_length_eq_zero (show took.length=0 by omega)
  have e : dJ m ⟨ff,fpc+1,floc,fstk⟩ [] (fs0.length+1) hp made out x = .next ⟨ff,x.a,floc,fstk⟩ hp made out:=by simp only [dJ,List.headD,List.tail];(repeat (first | rfl | refine (if_pos (by omega)).trans ?_ | refine (if_neg (by omega)).trans ?_))
  exact fL (next:=x.a) (laid:=[]) hi rfl hfs (by simp) (aB (by rw [e];simp [DoI]))
 refine aF (aC (fun ho=>?_) (fun n18=>?_))
 ·have e0 : aT m.funcs x=(1,0):=by unfold aT;repeat (first | rfl | rw [if_pos (by omega)] | rw [if_neg (by omega)])
  rw [e0] at hu
  obtain ⟨a,rfl⟩:=List.length_eq_one_iff.1 (show took.length=1 by omega)
  have hd : decide (x.o=18)=true:=by simp [ho]
  refine eC rfl (aA rfl (aY (aI (fun h1=>aB ?_) (fun h1=>?_))))
  ·have e : dJ m ⟨ff,fpc+1,floc,fstk⟩ [a] (fs0.length+1) hp made out x = .trap 1:=by simp only [dJ,List.headD,List.tail];(repeat (first | rfl | refine (if_pos (by omega)).trans ?_ | refine (if_neg (by omega)).trans ?_))
   rw [e];exact ⟨by omega,rfl⟩
  refine eC rfl (aA rfl (aF (aF (vP (bQ (fun h2=>?_) (fun h2=>?_))))))
  ·have e : dJ m ⟨ff,fpc+1,floc,fstk⟩ [a] (fs0.length+1) hp made out x = .next ⟨ff,x.a,floc,fstk⟩ hp made out:=by simp only [dJ,List.headD,List.tail];(repeat (first | rfl | refine (if_pos (by omega)).trans ?_ | refine (if_neg (by omega)).trans ?_ | refine (if_pos h2).trans ?_))
   exact fL (next:=x.a) (laid:=[]) hi rfl hfs (by simp) (aB (by rw [e];simp [DoI]))
  ·have e : dJ m ⟨ff,fpc+1,floc,fstk⟩ [a] (fs0.length+1) hp made out x = .next ⟨ff,fpc+1,floc,fstk++[]⟩ hp made out:=by simp only [dJ,List.headD,List.tail];(repeat (first | rfl | refine (if_pos (by omega)).trans ?_ | refine (if_neg (by omega)).trans ?_ | exact if_neg (fun h=>Bool.noConfusion (h2.symm.trans h))))
   exact fL (laid:=[]) hi rfl hfs (by simp) (aB (by rw [e];rfl))
 refine aF (aC (fun ho=>?_) (fun n19=>?_))
 ·have e0 : aT m.funcs x=(1,0):=by unfold aT;repeat (first | rfl | rw [if_pos (by omega)] | rw [if_neg (by omega)])
  rw [e0] at hu
  obtain ⟨a,rfl⟩:=List.length_eq_one_iff.1 (show took.length=1 by omega)
  have hd : decide (x.o=18)=false:=by simp [ho]
  refine eC rfl (aA rfl (aY (aI (fun h1=>aB ?_) (fun h1=>?_))))
  ·have e : dJ m ⟨ff,fpc+1,floc,fstk⟩ [a] (fs0.length+1) hp made out x = .trap 1:=by simp only [dJ,List.headD,List.tail];(repeat (first | rfl | refine (if_pos (by omega)).trans ?_ | refine (if_neg (by omega)).trans ?_))
   rw [e];exact ⟨by omega,rfl⟩
  refine eC rfl (aA rfl (aF (aF (vP (bQ (fun h2=>?_) (fun h2=>?_))))))
  ·have e : dJ m ⟨ff,fpc+1,floc,fstk⟩ [a] (fs0.length+1) hp made out x = .next ⟨ff,x.a,floc,fstk⟩ hp made out:=by simp only [dJ,List.headD,List.tail];(repeat (first | rfl | refine (if_pos (by omega)).trans ?_ | refine (if_neg (by omega)).trans ?_ | refine (if_pos h2).trans ?_))
   exact fL (next:=x.a) (laid:=[]) hi rfl hfs (by simp) (aB (by rw [e];simp [DoI]))
  ·have e : dJ m ⟨ff,fpc+1,floc,fstk⟩ [a] (fs0.length+1) hp made out x = .next ⟨ff,fpc+1,floc,fstk++[]⟩ hp made out:=by simp only [dJ,List.headD,List.tail];(repeat (first | rfl | refine (if_pos (by omega)).trans ?_ | refine (if_neg (by omega)).trans ?_ | exact if_neg (fun h=>Bool.noConfusion (h2.symm.trans h))))
   exact fL (laid:=[]) hi rfl hfs (by simp) (aB (by rw [e];rfl))
 refine aF (aC (fun ho=>?_) (fun n20=>?_))
 ·have e0 : aT m.funcs x=(0,1):=by unfold aT;repeat (first | rfl | rw [if_pos (by omega)] | rw [if_neg (by omega)])
  rw [e0] at hu
  obtain rfl:=List.eq_nil_of_length_eq_zero (show took.length=0 by omega)
  have hq:=q20 ho
  refine aF (aC (fun h1=>aB ?_) (fun h1=>?_))
  ·have e : dJ m ⟨ff,fpc+1,floc,fstk⟩ [] (fs0.length+1) hp made out x = .trap 7:=by simp only [dJ,List.headD,List.tail];(repeat (first | rfl | refine (if_pos (by omega)).trans ?_ | refine (if_neg (by omega)).trans ?_))
   rw [e];exact ⟨by omega,rfl⟩
  have e : dJ m ⟨ff,fpc+1,floc,fstk⟩ [] (fs0.length+1) hp made out x = .next ⟨ff,fpc+1,floc,fstk++[aLV hp.length]⟩ (hp++[List.replicate x.a.toNat eD]) (made+1) out:=by simp only [dJ,List.headD,List.tail];(repeat (first | rfl | refine (if_pos (by omega)).trans ?_ | refine (if_neg (by omega)).trans ?_))
  refine aE (bA rfl (aLo (by omega) (by omega) (dK (eR _) (lW (by simp;omega) (fun y hy=>by simp at hy;subst hy;rfl) (aM (by omega) (bA rfl ?_))))))
  exact fL (laid:=[aLV hp.length]) hi rfl hfs (by simp) (aB (by rw [e];simp [DoI];rfl))
 refine aF (aC (fun ho=>?_) (fun n21=>?_))
 ·have e0 : aT m.funcs x=(1,1):=by unfold aT;repeat (first | rfl | rw [if_pos (by omega)] | rw [if_neg (by omega)])
  rw [e0] at hu
  obtain ⟨a,rfl⟩:=List.length_eq_one_iff.1 (show took.length=1 by omega)
  have hq:=q2122 (.inl ho)
  refine eC rfl (aJJ (by omega) (by omega) hrec (rG (vals0 a (by simp))) (fun h1=>?_) (fun h1 h2=>?_) (fun h1 h2=>?_))
  ·have e : dJ m ⟨ff,fpc+1,floc,fstk⟩ [a] (fs0.length+1) hp made out x = .trap 1:=by simp only [dJ,List.headD,List.tail];(repeat (first | rfl | refine (if_pos (by omega)).trans ?_ | refine (if_neg (by omega)).trans ?_))
   refine aY (aI (fun _=>aB ?_) (fun h=>absurd h (by decide)))
   rw [e];exact ⟨by omega,rfl⟩
  ·have e : dJ m ⟨ff,fpc+1,floc,fstk⟩ [a] (fs0.length+1) hp made out x = .trap 4:=by simp only [dJ,List.headD,List.tail];(repeat (first | rfl | refine (if_pos (by omega)).trans ?_ | refine (if_neg (by omega)).trans ?_))
   refine aY (aI (fun _=>aB ?_) (fun h=>absurd h (by decide)))
   rw [e];exact ⟨by omega,rfl⟩
  ·have hr4:=rG (vals0 a (by simp)) h1
   obtain ⟨v,hv⟩ : ∃ v,(hp[a.n.toNat]?.getD [])[x.a.toNat]? = some v:=⟨_,List.getElem?_eq_getElem (show x.a.toNat<(hp[a.n.toNat]?.getD []).length by omega)⟩
   have et : (hp[a.n.toNat]?.getD [])[x.a.toNat]?.getD eD=v:=by rw [hv];rfl
   have e : dJ m ⟨ff,fpc+1,floc,fstk⟩ [a] (fs0.length+1) hp made out x = .next ⟨ff,fpc+1,floc,fstk++[v]⟩ hp made out:=by simp only [dJ,List.headD,List.tail,et];(repeat (first | rfl | refine (if_pos (by omega)).trans ?_ | refine (if_neg (by omega)).trans ?_))
   refine aY (aI (fun h=>absurd rfl h) (fun _=>aJj (dD hr4.1 hr4.2 (aA rfl (mA (by omega) (by omega) (fun v' hv'=>?_))))))
   rw [hv] at hv';cases hv'
   exact wS (l:=[v]) (by simp) (fL (laid:=[v]) hi rfl hfs (by simp) (aB (by rw [e];rfl)))
 refine aF (aC (fun ho=>?_) (fun n22=>?_))
 ·have e0 : aT m.funcs x=(2,0):=by unfold aT;repeat (first | rfl | rw [if_pos (by omega)] | rw [if_neg (by omega)])
  rw [e0] at hu
  obtain ⟨a,b,rfl⟩:=nP (show took.length=2 by omega)
  have hq:=q2122 (.inr ho)
  refine eC rfl (aJJ (by omega) (by omega) hrec (rG (vals0 a (by simp))) (fun h1=>?_) (fun h1 h2=>?_) (fun h1 h2=>?_))
  ·have e : dJ m ⟨ff,fpc+1,floc,fstk⟩ [a,b] (fs0.length+1) hp made out x = .trap 1:=by simp only [dJ,List.headD,List.tail];(repeat (first | rfl | refine (if_pos (by omega)).trans ?_ | refine (if_neg (by omega)).trans ?_))
   refine aY (aI (fun _=>aB ?_) (fun h=>absurd h (by decide)))
   rw [e];exact ⟨by omega,rfl⟩
  ·have e : dJ m ⟨ff,fpc+1,floc,fstk⟩ [a,b] (fs0.length+1) hp made out x = .trap 4:=by simp only [dJ,List.headD,List.tail];(repeat (first | rfl | refine (if_pos (by omega)).trans ?_ | refine (if_neg (by omega)).trans ?_))
   refine aY (aI (fun _=>aB ?_) (fun h=>absurd h (by decide)))
   rw [e];exact ⟨by omega,rfl⟩
  ·have hr4:=rG (vals0 a (by simp)) h1
   have e : dJ m ⟨ff,fpc+1,floc,fstk⟩ [a,b] (fs0.length+1) hp made out x = .next ⟨ff,fpc+1,floc,fstk⟩ (hp.set a.n.toNat ((hp[a.n.toNat]?.getD []).set x.a.toNat b)) made out:=by simp only [dJ,List.headD,List.tail];(repeat (first | rfl | refine (if_pos (by omega)).trans ?_ | refine (if_neg (by omega)).trans ?_))
   refine aY (aI (fun h=>absurd rfl h) (fun _=>sR rfl (aJj (dD hr4.1 hr4.2 (aA rfl (dD hr4.1 hr4.2 (aA rfl (mH (by omega) (by omega) (dD hr4.1 hr4.2 (aA rfl (aGe hr4.1 hr4.2 ?_)))))))))))
   exact fL (laid:=[]) hi rfl hfs (by simp) (aB (by rw [e,List.append_nil];rfl))
 refine aF (aC (fun ho=>?_) (fun n23=>?_))
 ·have e0 : aT m.funcs x=(x.a+1,1):=by unfold aT;repeat (first | rfl | rw [if_pos (by omega)] | rw [if_neg (by omega)])
  rw [e0] at hu
  have hq:=q23 ho
  obtain ⟨a,args,rfl⟩ : ∃ a args,took=a::args:=by
   cases took with
   | nil=>simp at hu;omega
   | cons a args=>exact ⟨a,args,rfl⟩
  simp only [List.length_cons] at hu
  have hk:=vals0 a (by simp)
  refine aF ?_
  rw [decide_eq_true ho]
  refine aW (eC rfl (aA rfl (aY (aI (fun h1=>aB ?_) (fun h1=>?_)))))
  ·have e : dJ m ⟨ff,fpc+1,floc,fstk⟩ (a::args) (fs0.length+1) hp made out x = .trap 1:=by simp only [dJ,List.headD,List.tail];(repeat (first | rfl | refine (if_pos (by omega)).trans ?_ | refine (if_neg (by omega)).trans ?_))
   rw [e];exact ⟨by omega,rfl⟩
  have h5:=aDH hk h1
  obtain ⟨q,hqn⟩:=Int.eq_ofNat_of_zero_le h5.1
  have hql : q<m.funcs.length:=by omega
  have hpa : eJ m.funcs a.n=m.funcs[q].p:=by unfold eJ;rw [hqn,Int.toNat_natCast,List.getElem?_eq_getElem hql];rfl
  refine eC rfl (aA rfl (aIq h5.1 h5.2 (fun fn2 hfn2=>aA rfl ?_)))
  have hp2 : fn2.p=eJ m.funcs a.n:=by unfold eJ;rw [hfn2];rfl
  rw [hp2]
  refine aY (aI (fun h2=>aB ?_) (fun h2=>?_))
  ·have e : dJ m ⟨ff,fpc+1,floc,fstk⟩ (a::args) (fs0.length+1) hp made out x = .trap 5:=by simp only [dJ,List.headD,List.tail];(repeat (first | rfl | refine (if_pos (by omega)).trans ?_ | refine (if_neg (by omega)).trans ?_))
   rw [e];exact ⟨by omega,rfl⟩
  refine eC rfl (aA rfl (dP (fV (by omega) (by simp;omega) (by omega) (fV (by omega) (by simp;omega) (by omega) ?_))))
  have et : (((a::args).take ((a::args).length : Int).toNat).drop (1 : Int).toNat)=args:=by rw [Int.toNat_natCast,List.take_length];rfl
  rw [et]
  refine (aNe (t:=a::args) hi rfl hfs (by rw [hA];omega) h5 (by omega) par).mono (fun r hr=>?_)
  rcases hr with ⟨h6,rfl⟩ | ⟨h6,rfl⟩
  ·have e : dJ m ⟨ff,fpc+1,floc,fstk⟩ (a::args) (fs0.length+1) hp made out x = .trap 6:=by simp only [dJ,List.headD,List.tail];(repeat (first | rfl | refine (if_pos (by omega)).trans ?_ | refine (if_neg (by omega)).trans ?_))
   rw [e];exact ⟨by omega,rfl⟩
  ·have e : dJ m ⟨ff,fpc+1,floc,fstk⟩ (a::args) (fs0.length+1) hp made out x = .call ⟨ff,fpc+1,floc,fstk⟩ (qA m.funcs a.n args):=by simp only [dJ,List.headD,List.tail];(repeat (first | rfl | refine (if_pos (by omega)).trans ?_ | refine (if_neg (by omega)).trans ?_))
   rw [e];rfl
 refine aF (aC (fun ho=>?_) (fun n24=>?_))
 ·have e0 : aT m.funcs x=(eJ m.funcs x.a,1):=by unfold aT;repeat (first | rfl | rw [if_pos (by omega)] | rw [if_neg (by omega)])
  rw [e0] at hu
  have hq:=q524 (.inr ho)
  refine aF ?_
  rw [decide_eq_false n23]
  refine aV ((aNe (t:=took) hi rfl hfs (by rw [hA];omega) hq hu par).mono (fun r hr=>?_))
  rcases hr with ⟨h6,rfl⟩ | ⟨h6,rfl⟩
  ·have e : dJ m ⟨ff,fpc+1,floc,fstk⟩ took (fs0.length+1) hp made out x = .trap 6:=by simp only [dJ];(repeat (first | rfl | refine (if_pos (by omega)).trans ?_ | refine (if_neg (by omega)).trans ?_))
   rw [e];exact ⟨by omega,rfl⟩
  ·have e : dJ m ⟨ff,fpc+1,floc,fstk⟩ took (fs0.length+1) hp made out x = .call ⟨ff,fpc+1,floc,fstk⟩ (qA m.funcs x.a took):=by simp only [dJ];(repeat (first | rfl | refine (if_pos (by omega)).trans ?_ | refine (if_neg (by omega)).trans ?_))
   rw [e];rfl
 refine aF (aC (fun ho=>?_) (fun n25=>?_))
 ·have e0 : aT m.funcs x=(1,0):=by unfold aT;repeat (first | rfl | rw [if_pos (by omega)] | rw [if_neg (by omega)])
  rw [e0] at hu
  obtain ⟨a,rfl⟩:=List.length_eq_one_iff.1 (show took.length=1 by omega)
  have e : dJ m ⟨ff,fpc+1,floc,fstk⟩ [a] (fs0.length+1) hp made out x = .ret a:=by simp only [dJ,List.headD,List.tail];(repeat (first | rfl | refine (if_pos (by omega)).trans ?_ | refine (if_neg (by omega)).trans ?_))
  refine eC rfl (aMf (by omega) (fun g hg=>by have:=stks g hg;omega) (aB ?_))
  rw [e]
  show _=_
  by_cases h0 : fs0 = []
  ·rw [if_pos h0,if_pos h0];rfl
  ·rw [if_neg h0,if_neg h0];rfl
 refine aF (aC (fun ho=>?_) (fun n26=>?_))
 ·have e0 : aT m.funcs x=(1,0):=by unfold aT;repeat (first | rfl | rw [if_pos (by omega)] | rw [if_neg (by omega)])
  rw [e0] at hu
  obtain ⟨a,rfl⟩:=List.length_eq_one_iff.1 (show took.length=1 by omega)
  refine aE (aF (aC (fun h1=>aB ?_) (fun h1=>?_)))
  ·have e : dJ m ⟨ff,fpc+1,floc,fstk⟩ [a] (fs0.length+1) hp made out x = .trap 8:=by simp only [dJ,List.headD,List.tail];(repeat (first | rfl | refine (if_pos (by omega)).trans ?_ | refine (if_neg (by omega)).trans ?_))
   rw [e];exact ⟨by omega,rfl⟩
  have e : dJ m ⟨ff,fpc+1,floc,fstk⟩ [a] (fs0.length+1) hp made out x = .next ⟨ff,fpc+1,floc,fstk⟩ hp made (out++[iG a hp]):=by simp only [dJ,List.headD,List.tail];(repeat (first | rfl | refine (if_pos (by omega)).trans ?_ | refine (if_neg (by omega)).trans ?_))
  refine eC rfl (aG (aIp (nf:=m.funcs.length) (by omega) (by omega) hrec (vals0 a (by simp))) (fun r hr=>?_))
  rw [hr]
  refine cG rfl (lW (by simp) (fun y hy=>by simp at hy;subst hy;rfl) (lW (by simp;omega) (fun y hy=>by simp at hy;subst hy;rfl) ?_))
  exact fL (laid:=[]) hi rfl hfs (by simp) (aB (by rw [e];simp [DoI];rfl))
 have h9 : x.o=9:=by omega
 have e0 : aT m.funcs x=(1,0):=by unfold aT;repeat (first | rfl | rw [if_pos (by omega)] | rw [if_neg (by omega)])
 rw [e0] at hu
 obtain ⟨a,rfl⟩:=List.length_eq_one_iff.1 (show took.length=1 by omega)
 have e : dJ m ⟨ff,fpc+1,floc,fstk⟩ [a] (fs0.length+1) hp made out x = .next ⟨ff,fpc+1,floc,fstk++[]⟩ hp made out:=by simp only [dJ,List.headD,List.tail];(repeat (first | rfl | refine (if_pos (by omega)).trans ?_ | refine (if_neg (by omega)).trans ?_))
 exact fL (laid:=[]) hi rfl hfs (by simp) (aB (by rw [e];rfl))
def aPp (m : dT) : Nat→qY→qY
 | 0,v=>v
 | n+1,v=>aPp m n (nY m v)
def gY (m : dT) (args : List cO) : qY:=⟨[qA m.funcs 0 args],[],0,[],0,0,eD,0⟩
def gG (m : dT) (args : List cO) : Bool:=xI m&&(decide ((args.length : Int)=eJ m.funcs 0)&&args.all (bF m.funcs.length 0))
def zS (m : dT) (args : List cO) (fuel : Int) : Bool:=gG m args&&iP fuel 0 50000
def aPW (m : dT) (args : List cO) (fuel : Int) : qY:=if zS m args fuel then aPp m fuel.toNat (gY m args) else vmZ
theorem aKK {m : dT} {v : qY} {fs0 : List cH} (a : aJw) : (aBK m v fs0 a).steps=v.steps+1:=by
 cases a with
 | ret x=>simp only [aBK];split<;>rfl
 | _=>rfl
theorem aJK {m : dT} {v : qY} (hs : v.steps≤50000) : v.steps≤(nY m v).steps∧(nY m v).steps≤v.steps+1:=by
 unfold nY
 split
 ·omega
 ·split
  ·omega
  ·split
   ·omega
   ·rw [aKK];omega
section
variable {P : R → Prop} {k : R → Option R}
theorem aDL {m : dT} {args : List cO} (hs : m.sized) (h : gG m args=true) : iY m∧VmI m (gY m args):=by
 simp only [gG,Bool.and_eq_true,decide_eq_true_eq,List.all_eq_true] at h
 have g:=aBL hs h.1
 obtain ⟨f1,f2,ff⟩:=g.fit
 have h0 : (0 : Int)≤0∧(0 : Int)<m.funcs.length:=by omega
 refine ⟨g,⟨by simp [gY],by simp [gY],by simp [gY]⟩,by simp [gY],by simp [gY],by simp [gY],fun fs0 f hf=>?_⟩
 obtain ⟨rfl,rfl⟩:=aCN (a:=[]) (show []++[qA m.funcs 0 args]=fs0++[f] from hf)
 exact ⟨aJC g h0 h.2.1 h.2.2,by simp⟩
end
section
variable {P : R → Prop} {k : R → Option R}
theorem aGj {cs : List PV} {k : PV→Option R} (h : Ok P (k (.bx cs))) : Ok P (bd (PV.isPtr (.bx cs)) k):=cK _ (by simp only [PV.isPtr]) h
theorem aJL {m : dT} {v : cO} (hf : m.funcs.length≤2097152) (hs : v.s.size≤2097152) : Ok (fun r=>r = [.bool (!bF m.funcs.length 0 v)]) (aAG v.pv (.bx [.lst (m.texts.map PV.str),.lst (m.funcs.map cN.pv)])):=by
 rw [aDt]
 refine aD rfl (aA rfl (aA rfl (aA rfl (aGj (lI rfl (aE (aG (aKI (v:=v) hs (by omega) (by omega)) (fun r hr=>?_))))))))
 rw [hr]
 exact bX (aB rfl)
theorem aGk {m : dT} {args : List cO} (hs : m.sized) (h0 : 0<m.funcs.length) (ha : ∀ v∈args,v.s.size≤2097152) (hn : args.length≤2097152) :
 Ok (fun r=>r = [.bool (decide ((args.length : Int)=eJ m.funcs 0)&&args.all (bF m.funcs.length 0))]) (yX m.pv (aO args)):=by
 rw [aFZ]
 refine aD rfl (aA rfl (aA rfl (dP (aIq (by omega) (by omega) (fun f hf=>aA rfl (aF ?_))))))
 have hp : f.p=eJ m.funcs 0:=by unfold eJ;rw [hf];rfl
 rw [hp]
 refine aC (fun h=>?_) (fun h=>aB (by rw [decide_eq_false h];rfl))
 rw [decide_eq_true h,Bool.true_and]
 have hfl:=hs.2.1
 have loop : ∀ i,i≤args.length→Ok (fun r=>∃ j : Int,r = [.int .i64 j]∧(0≤j↔(args.drop i).all (bF m.funcs.length 0)=false))
  (bM (aO args) (.fn 204 [(.bx [.lst (m.texts.map PV.str),.lst (m.funcs.map cN.pv)])]) (.int .i64 args.length) (.int .i64 i)):=by
  refine kY (n:=args.length) (F:=fun i=>bM (aO args) (.fn 204 [(.bx [.lst (m.texts.map PV.str),.lst (m.funcs.map cN.pv)])]) (.int .i64 args.length) (.int .i64 i)) (P:=fun i r=>∃ j : Int,r = [.int .i64 j]∧(0≤j↔(args.drop i).all (bF m.funcs.length 0)=false)) ?_ (fun i hi ih=>?_)
  ·rw [eI,List.drop_length]
   refine aH (aC (fun h=>by omega) (fun _=>aB ⟨_,rfl,by simp⟩))
  ·rw [eI]
   have:=ha _ (List.getElem_mem hi)
   refine aH (aC (fun _=>?_) (fun h=>by omega))
   refine aQ hi (fun _=>rfl) (pC rfl (aJL (v:=args[i]) hfl (by omega)) (fun r hr=>?_))
   rw [hr,List.drop_eq_getElem_cons hi,List.all_cons]
   cases hv : bF m.funcs.length 0 args[i] with
   | false=>exact aW (aB ⟨_,rfl,by simp⟩)
   | true=>
     refine aV (aM (by omega) ?_)
     rw [Bool.true_and]
     exact ih
 refine aG (Q:=fun r=>r = [.bool (!args.all (bF m.funcs.length 0))]) ?_ (fun r hr=>?_)
 ·rw [iE]
  refine aG (Q:=fun r=>∃ j : Int,r = [.int .i64 j]∧(0≤j↔args.all (bF m.funcs.length 0)=false)) ?_ (fun r hr=>?_)
  ·rw [iX]
   refine dP ?_
   have:=loop 0 (by omega)
   rw [List.drop_zero] at this
   exact this
  ·obtain ⟨j,rfl,hj⟩:=hr
   refine oF (aB ?_)
   cases ha : args.all (bF m.funcs.length 0) with
   | false=>rw [decide_eq_true (hj.2 ha)];rfl
   | true=>rw [decide_eq_false (fun h=>by rw [hj.1 h] at ha;cases ha)];rfl
 ·rw [hr]
  refine cG rfl (bX (aB (by rw [Bool.not_not])))
theorem aKL {m : dT} {args : List cO} (hs : m.sized) (ha : ∀ v∈args,v.s.size≤2097152) (hn : args.length≤2097152) :
 Ok (fun r=>r=if gG m args then [.int .i64 0,.int .i64 0,.int .i64 0,.int .i64 0,.int .i64 0,.str (bs []),.int .i64 0,.bool true,.lst [(qA m.funcs 0 args).pv],.lst [],.lst []]
  else [.int .i64 0,.int .i64 0,.int .i64 0,.int .i64 0,.int .i64 0,.str (bs []),.int .i64 0,.bool false,.lst [],.lst [],.lst []]) (aBd m.pv (aO args)):=by
 rw [aGS]
 refine aD rfl (aA rfl (aA rfl (aM0 hs (bX ?_))))
 cases hg : xI m with
 | false=>exact aW (aB (by rw [if_neg (by simp [gG,hg])]))
 | true=>
   have g:=aBL hs hg
   obtain ⟨f1,f2,ff⟩:=g.fit
   have h0 : (0 : Int)≤0∧(0 : Int)<m.funcs.length:=by omega
   obtain ⟨i0,hi0,he,hc,F,p1,p2,p3,p4,hlc,hpar,hins⟩:=g.code h0
   have e0 : gG m args=(decide ((args.length : Int)=eJ m.funcs 0)&&args.all (bF m.funcs.length 0)):=by simp [gG,hg]
   refine aV (aG (aGk hs (by omega) ha hn) (fun r hr=>?_))
   rw [hr,← e0]
   refine bX ?_
   cases hb : gG m args with
   | false=>exact aW (aB rfl)
   | true=>
     have hlen : (args.length : Int)=eJ m.funcs 0:=by
      rw [e0,Bool.and_eq_true,decide_eq_true_eq] at hb
      exact hb.1
     refine aV (aGi (T:=.lst (m.texts.map PV.str)) (fs:=m.funcs) (g:=0) (args:=args) (by omega) (by omega) (by omega) (by omega) (cG rfl (cG rfl (dK (eR _) (dK (eR []) (aB ?_))))))
     rfl
theorem aMg {m : dT} {v : qY} {fs0 : List cH} {f : cH} (G : aMW m v fs0 f) (h0 : v.st=0) (h5 : v.steps≠50000) (hst : 0≤v.steps∧v.steps≤50000) :
 Ok (fun r=>r=iI (nY m v)) (wD (.lst (m.texts.map PV.str)) (.lst (m.funcs.map cN.pv)) (.int .i64 v.made) (.int .i64 v.st) (.int .i64 v.tr) (.int .i64 v.val.k) (.int .i64 v.val.n) (.str v.val.s) (.int .i64 v.steps) (.lst (v.fr.map cH.pv)) (.lst (v.hp.map dO)) (.lst (v.out.map PV.str))):=by
 rw [aDK h0 h5 G.fr,aEF]
 obtain ⟨gfr,gfi,gpc,gnc,gins,gus,gsm⟩:=G
 obtain ⟨pi,hpi⟩:=Int.eq_ofNat_of_zero_le gpc.1
 have hin : (eH m.funcs f.f)[f.pc.toNat]? = some (iJ m.funcs f):=by
  unfold iJ
  rw [List.getElem?_eq_getElem (by omega)];rfl
 generalize hb : f.stk.length - (aT m.funcs (iJ m.funcs f)).1.toNat=b
 have hsplit : f.stk.take b++f.stk.drop b=f.stk:=List.take_append_drop b f.stk
 have hdo:=aN0 (a3:=.int .i64 v.st) (a4:=.int .i64 v.tr) (a5:=.int .i64 v.val.k) (a6:=.int .i64 v.val.n) (a7:=.str v.val.s) (a8:=.int .i64 (v.steps+1)) (gsm b) gins (by rw [List.length_drop];omega) gfi (by omega) hin
 have hnx : aAL m v fs0 f=dJ m ⟨f.f,f.pc+1,f.loc,f.stk.take b⟩ (f.stk.drop b) (fs0.length+1) v.hp v.made v.out (iJ m.funcs f):=by
  simp only [aAL]
  rw [hb]
 rw [← hnx,hsplit] at hdo
 have efr : v.fr.map cH.pv=fs0.map cH.pv++[f.pv]:=by rw [gfr,List.map_append];rfl
 rw [efr]
 refine aM (by omega) (bA rfl (aG hdo (fun r hr=>?_)))
 cases ha : aAL m v fs0 f with
 | trap c=>
   rw [ha] at hr
   obtain ⟨hc,hr⟩:=hr
   rw [hr]
   refine aY (aI (fun _=>bA rfl (aB ?_)) (fun h=>absurd (by simpa using h) hc))
   simp only [iI,aBK,efr]
   rfl
 | next fr hp made out=>
   rw [ha] at hr
   have hr : r=_:=hr
   subst hr
   refine aY (aI (fun h=>absurd rfl h) (fun _=>aB ?_))
   simp only [aBK,iI,List.map_append]
   rfl
 | call fr g=>
   rw [ha] at hr
   have hr : r=_:=hr
   subst hr
   refine aY (aI (fun h=>absurd rfl h) (fun _=>aB ?_))
   simp only [aBK,iI,List.map_append,List.append_assoc]
   rfl
 | ret a=>
   rw [ha] at hr
   have hr : r=_:=hr
   by_cases hf : fs0 = []
   ·rw [if_pos hf] at hr
    subst hr
    refine aY (aI (fun h=>absurd rfl h) (fun _=>aB ?_))
    simp only [aBK,if_pos hf,iI]
    rfl
   ·rw [if_neg hf] at hr
    subst hr
    refine aY (aI (fun h=>absurd rfl h) (fun _=>aB ?_))
    simp only [aBK,if_neg hf,iI]
    rfl
end
end
end Go.Proofs.YthkofpnllaapeaaGreatDoor
