/-
  Texts of the proof, part 6: a value-level evaluator and its soundness, what the functions compute, laws about it.
  Conditions: none.
-/
import Derived.Test.YthkofpnllaapeaaE
import Derived.Calls
import Derived.KernelRfl
import Derived.Orders
import Derived.Test.YthkofpnllaapeaaProg
import Derived.Lib.AppendIntMem
import Derived.Laws.IdiomCopy
import Derived.Laws.Cells
import Derived.Below
import Derived.Laws.StructEq
import Derived.Laws.BytesString
import Derived.Laws.NewFold
import Derived.Laws.Tables
import Derived.Great.FillDense
import Derived.Shelf.Spec.SlicesGrow
import Derived.Shelf.Strconv.Itoa3
import Derived.Shelf.SlGeneric
import Derived.Ground.Names8Prog
import Derived.IntWalk
import Derived.WalkKit
import Derived.ProofKit
import Derived.OpenShut
import Derived.ShutString
import Derived.ChangeOld
import Derived.Lib.Strings
import Derived.ChangeArms
import Derived.DataReads
set_option linter.all false
namespace Go.Proofs.Ythkofpnllaapeaa
open Go Go.IntWalk
attribute [local irreducible] bd PV.ite PV.guardFlat PV.guardOwn PV.whole PV.one PV.cell PV.sub PV.at_ PV.len PV.slen PV.chr PV.beq PV.peq PV.ceq PV.bin PV.neg PV.not PV.conv PV.cut PV.scut PV.cat PV.setAt PV.setCell PV.ncopy PV.copyIn PV.zeros PV.toStr PV.toBytes PV.deref PV.isPtr PV.comp PV.inb PV.off PV.imin PV.imax PV.sel PV.apply PV.isLst PV.isInt PV.ix PV.nilT
section
variable {Q : R → Prop}
theorem aIk {x0 x1 x3 x4 x5 x6 x7 x8 x10 x11 : PV} {code : List aE} (hn : code.length≤120) (hr : cN code<code.length) (h : Ok Q (eH x0 x1 (.int .i64 (cN code)) x3 x4 x5 x6 x7 x8 (.lst (code.map aE.pv)) x10 x11)) :
    ∀ i,i≤cN code→Ok Q (eH x0 x1 (.int .i64 i) x3 x4 x5 x6 x7 x8 (.lst (code.map aE.pv)) x10 x11):=by
  refine mW (n:=cN code) (F:=fun i=>eH x0 x1 (.int .i64 i) x3 x4 x5 x6 x7 x8 (.lst (code.map aE.pv)) x10 x11) (P:=fun _=>Q) h (fun i hi ih=>?_)
  have hic : i<code.length:=by omega
  have ih : Ok Q (eH x0 x1 (.int .i64 ((i : Int)+1)) x3 x4 x5 x6 x7 x8 (.lst (code.map aE.pv)) x10 x11):=ih
  rw [qP]
  refine aI hic (fun _=>rfl) (aA rfl (dC (bA (fun _=>aH (by omega) ih) (fun h=>absurd h (yF hi hic)))))
theorem aCv {f pc e p lc x5 x6 C x10 x11 : PV} {base : Int} (hb : 0≤base∧base≤100) : ∀ (n : Nat) (out : List aE),n≤100→out.length+n≤1000→
    Ok Q (gY f pc e (.int .i64 base) p x5 x6 p lc C x10 x11 (.lst ((out++oK base n).map aE.pv)))→
    Ok Q (kA f pc e (.int .i64 base) (.int .i64 ((n : Int) - 1)) x5 x6 p lc C x10 x11 (.lst (out.map aE.pv)))
  | 0,out,h1,h2,h=>by
    rw [pC]
    refine jX (aC (fun h=>absurd h (by omega)) (fun _=>?_))
    simpa [oK] using h
  | n+1,out,h1,h2,h=>by
    rw [pC]
    refine jX (aC (fun _=>?_) (fun h=>absurd h (by omega)))
    have e : ((n+1 : Nat) : Int) - 1=n:=by omega
    rw [e]
    refine aH (by omega) (bV rfl (bO (ys:=[⟨7,base+n⟩]) (by simp;omega) (dY (by omega) ?_)))
    refine aCv hb n (out++[⟨7,base+n⟩]) (by omega) (by simp;omega) ?_
    simpa [oK] using h
theorem aFq {f pc e p x5 x6 C x10 x11 : PV} {base lc : Int} (hb : 0≤base∧base≤100) : ∀ (n : Nat) (i : Int) (out : List aE),lc - i=n→0≤i→lc≤100→out.length+2*n≤1000→
    Ok Q (eJ f pc e (.int .i64 base) (.int .i64 0) x5 x6 p (.int .i64 lc) C x10 x11 (.lst ((out++ups base i n).map aE.pv)))→
    Ok Q (gY f pc e (.int .i64 base) (.int .i64 i) x5 x6 p (.int .i64 lc) C x10 x11 (.lst (out.map aE.pv)))
  | 0,i,out,h1,h2,h3,h4,h=>by
    rw [pD]
    refine aF (aC (fun h=>absurd h (by omega)) (fun _=>?_))
    simpa [ups] using h
  | n+1,i,out,h1,h2,h3,h4,h=>by
    rw [pD]
    refine aF (aC (fun _=>?_) (fun h=>absurd h (by omega)))
    refine aH (by omega) (bV rfl (bO (ys:=[⟨4,0⟩,⟨7,base+i⟩]) (by simp;omega) (aH (by omega) ?_)))
    refine aFq hb n (i+1) (out++[⟨4,0⟩,⟨7,base+i⟩]) (by omega) (by omega) h3 (by simp;omega) ?_
    simpa [ups] using h
theorem aDz {f pc p lc x5 x6 x10 x11 : PV} {base : Int} {code : List aE} (L : aHE code) (hb : 0≤base∧base≤100) : ∀ (j i : Nat) (out : List aE),cN code - i=j→i≤cN code→out.length≤1000+i→
    Ok Q (eJ f pc (.int .i64 (cN code)) (.int .i64 base) (.int .i64 (cN code)) x5 x6 p lc (.lst (code.map aE.pv)) x10 x11 (.lst ((out++((code.take (cN code)).drop i).map (qE base)).map aE.pv)))→
    Ok Q (eJ f pc (.int .i64 (cN code)) (.int .i64 base) (.int .i64 i) x5 x6 p lc (.lst (code.map aE.pv)) x10 x11 (.lst (out.map aE.pv)))
  | 0,i,out,h1,h2,h3,h=>by
    have hi : i=cN code:=by omega
    subst hi
    rw [List.drop_eq_nil_of_le (by simp;omega)] at h
    simpa using h
  | j+1,i,out,h1,h2,h3,h=>by
    have hi : i<cN code:=by omega
    have hic : i<code.length:=by have:=L.r;omega
    have hn:=L.n
    have hd : (code.take (cN code)).drop i=code[i]::(code.take (cN code)).drop (i+1):=by
      rw [List.drop_eq_getElem_cons (by simp;omega)]
      simp
    rw [hd,List.map_cons] at h
    have ih:=fun y=>aDz (f:=f) (pc:=pc) (p:=p) (lc:=lc) (x5:=x5) (x6:=x6) (x10:=x10) (x11:=x11) L hb j (i+1) (out++[y]) (by omega) (by omega) (by simp;omega)
    simp only [List.append_assoc,List.cons_append,List.nil_append] at ih
    rw [pE]
    refine aF (aC (fun _=>?_) (fun h=>absurd h (by omega)))
    refine aI hic (fun _=>rfl) (aL rfl (aA rfl (aA rfl (aX (aC (fun h6=>?_) (fun h6=>aX (aC (fun h7=>?_) (fun h7=>?_))))))))
    · have ha:=L.a _ (List.getElem_mem hic) (.inl h6)
      rw [pF]
      refine aH (by omega) (bV rfl (bO (ys:=[⟨code[i].o,code[i].a+base⟩]) (by simp;omega) (aH (by omega) (ih _ ?_))))
      have e : qE base code[i]=⟨code[i].o,code[i].a+base⟩:=if_pos (.inl h6)
      rw [e] at h
      exact h
    · have ha:=L.a _ (List.getElem_mem hic) (.inr h7)
      rw [pF]
      refine aH (by omega) (bV rfl (bO (ys:=[⟨code[i].o,code[i].a+base⟩]) (by simp;omega) (aH (by omega) (ih _ ?_))))
      have e : qE base code[i]=⟨code[i].o,code[i].a+base⟩:=if_pos (.inr h7)
      rw [e] at h
      exact h
    · refine bO (ys:=[code[i]]) (by simp;omega) (aH (by omega) (ih _ ?_))
      have e : qE base code[i]=code[i]:=if_neg (by omega)
      rw [e] at h
      exact h
def fV (old B : List aE) (pc i : Nat) : List aE:=if i≤pc then old.take i else old.take pc++(B++(old.take i).drop (pc+1))
def iP (pc n : Int) (i : Nat) : List Int:=(List.range i).map fun k=>tgt pc n (k : Nat)
theorem aGe {old B : List aE} {pc i : Nat} (hi : i≤old.length) (hpc : pc<old.length) : ((fV old B pc i).length : Int)=tgt pc B.length i:=by
  unfold fV tgt
  split
  · rw [if_neg (by omega)];simp;omega
  · rw [if_pos (by omega)];simp;omega
theorem aHG {old B : List aE} {pc : Nat} : fV old B pc (pc+1)=fV old B pc pc++B:=by
  unfold fV
  rw [if_neg (by omega),if_pos (by omega),List.drop_eq_nil_of_le (by simp;omega),List.append_nil]
theorem aFr {old B : List aE} {pc i : Nat} (hi : i<old.length) (hne : i≠pc) : fV old B pc (i+1)=fV old B pc i++[old[i]]:=by
  unfold fV
  have e : old.take (i+1)=old.take i++[old[i]]:=by rw [List.take_succ_eq_append_getElem hi]
  by_cases h : i<pc
  · rw [if_pos (by omega),if_pos (by omega),e]
  · rw [if_neg (by omega),if_neg (by omega),e,List.drop_append_of_le_length (by simp;omega)]
    simp
theorem aFs {f base p lc gc x8 x9 T Fs : PV} {old B : List aE} {pc : Nat} (hpc : pc<old.length) (hn : old.length≤120) (hB : B.length≤1000)
    (h : Ok Q (dO f (.int .i64 pc) base (.lst (old.map aE.pv)) (.int .i64 old.length) p lc gc x8 x9 (.lst (B.map aE.pv)) T Fs (.lst ((fV old B pc old.length).map aE.pv)) (bG (iP pc B.length old.length)))) :
    ∀ i,i≤old.length→Ok Q (dO f (.int .i64 pc) base (.lst (old.map aE.pv)) (.int .i64 i) p lc gc x8 x9 (.lst (B.map aE.pv)) T Fs (.lst ((fV old B pc i).map aE.pv)) (bG (iP pc B.length i))):=by
  refine mW (n:=old.length) (F:=fun i=>dO f (.int .i64 pc) base (.lst (old.map aE.pv)) (.int .i64 i) p lc gc x8 x9 (.lst (B.map aE.pv)) T Fs (.lst ((fV old B pc i).map aE.pv)) (bG (iP pc B.length i))) (P:=fun _=>Q) h (fun i hi ih=>?_)
  have hl:=aGe (B:=B) (Nat.le_of_lt hi) hpc
  have hnw : iP pc B.length (i+1)=iP pc B.length i++[((fV old B pc i).length : Int)]:=by
    unfold iP
    rw [List.range_succ,List.map_append,hl];rfl
  have ih : Ok Q (dO f (.int .i64 pc) base (.lst (old.map aE.pv)) (.int .i64 ((i : Int)+1)) p lc gc x8 x9 (.lst (B.map aE.pv)) T Fs (.lst ((fV old B pc (i+1)).map aE.pv)) (bG (iP pc B.length (i+1)))):=ih
  rw [hnw] at ih
  have hcl : (fV old B pc i).length≤2000:=by
    have : ((fV old B pc i).length : Int)≤2000:=by
      rw [hl];unfold tgt;split<;>omega
    omega
  have hnl : (iP pc B.length i).length=i:=by simp [iP]
  rw [pG]
  refine aD (aF (aC (fun _=>?_) (fun h=>absurd h (by omega))))
  refine aD (aEb (iB (ys:=[((fV old B pc i).length : Int)]) (by rw [hnl];simp;omega) (aX (aC (fun e=>?_) (fun e=>?_)))))
  · have e : i=pc:=by omega
    subst e
    rw [aHG] at ih
    exact bO (by omega) (aH (by omega) ih)
  · rw [aFr hi (by omega)] at ih
    exact aI hi (fun _=>rfl) (bO (l:=[]) (ys:=[old[i]]) (by simp) (bO (ys:=[old[i]]) (by simp;omega) (aH (by omega) ih)))
theorem yG {pc n i : Int} {z : aE} (h : ¬ (¬ (pc≤i∧i<pc+n)∧fK z.o 17 19=true)) : aGc pc n i z=z:=if_neg h
theorem aCw {pc n i : Int} {z : aE} (h : ¬ (pc≤i∧i<pc+n)) (hj : fK z.o 17 19=true) : aGc pc n i z=⟨z.o,tgt pc n z.a⟩:=if_pos ⟨h,hj⟩
def aAC (pc n L : Int) (i : Int) (r : List aE) : Prop:=∀ (q : Nat) z,r[q]? = some z→¬ (pc≤i+q∧i+q<pc+n)→fK z.o 17 19=true→0≤z.a∧z.a<L
theorem aAC.head {pc n L i : Int} {z : aE} {r : List aE} (h : aAC pc n L i (z::r)) : ¬ (pc≤i∧i<pc+n)→fK z.o 17 19=true→0≤z.a∧z.a<L:=by
  have:=h 0 z rfl
  simpa using this
theorem aAC.tail {pc n L i : Int} {z : aE} {r : List aE} (h : aAC pc n L i (z::r)) : aAC pc n L (i+1) r:=fun q y hy hq hb=>by
  refine h (q+1) y (by simpa using hy) ?_ hb
  have : i+((q+1 : Nat) : Int)=i+1+q:=by omega
  rw [this]
  exact hq
theorem aFt {f base p lc gc x7 x8 T Fs : PV} {B : List aE} {pc L : Nat} (hB : B.length≤1000) (hpc : pc≤120) (hL : L≤120) : ∀ (r done : List aE),done.length+r.length≤2000→aAC pc B.length L done.length r→
    Ok Q (cY f (.int .i64 pc) base (.int .i64 (done.length+r.length : Nat)) p lc gc x7 x8 (.lst (B.map aE.pv)) T Fs (.lst ((done++zY pc B.length done.length r).map aE.pv)) (bG (iP pc B.length L)))→
    Ok Q (cY f (.int .i64 pc) base (.int .i64 done.length) p lc gc x7 x8 (.lst (B.map aE.pv)) T Fs (.lst ((done++r).map aE.pv)) (bG (iP pc B.length L)))
  | [],done,_,_,h=>by simpa [zY] using h
  | z::r,done,hd,hj,h=>by
    simp only [List.length_cons] at hd h
    have hh:=hj.head
    have ih:=fun y=>aFt (f:=f) (base:=base) (p:=p) (lc:=lc) (gc:=gc) (x7:=x7) (x8:=x8) (T:=T) (Fs:=Fs) hB hpc hL r (done++[y]) (by simp;omega)
    have el : ∀ y : aE,((done++[y]).length : Int)=done.length+1:=fun y=>by simp
    have el2 : ∀ y : aE,(done++[y]).length+r.length=done.length+(r.length+1):=fun y=>by simp;omega
    simp only [List.append_assoc,List.cons_append,List.nil_append,el,el2] at ih
    unfold zY at h
    have pass : aGc pc B.length done.length z=z→Ok Q (cY f (.int .i64 pc) base (.int .i64 (done.length+1)) p lc gc x7 x8 (.lst (B.map aE.pv)) T Fs (.lst ((done++z::r).map aE.pv)) (bG (iP pc B.length L))):=fun e=>by
      rw [e] at h
      exact ih z hj.tail h
    have turn : ¬ ((pc : Int)≤done.length∧(done.length : Int)<pc+B.length)→fK z.o 17 19=true→Ok Q (dP f (.int .i64 pc) base (.int .i64 done.length) p lc gc x7 x8 (.lst (B.map aE.pv)) T Fs (.lst ((done++z::r).map aE.pv)) (bG (iP pc B.length L))):=fun hi hb=>by
      rw [aCw hi hb] at h
      have ha:=hh hi hb
      rw [xR]
      refine fJ rfl (eU rfl (aA rfl (dR ha.1 (by simp [iP];omega) (lP ha.1 (by simp [iP];omega) (fun x hx=>?_)))))
      have hx : x=tgt pc B.length z.a:=by
        unfold iP at hx
        rw [List.getElem?_map,List.getElem?_range (by omega)] at hx
        cases hx
        show tgt pc B.length ((z.a.toNat : Nat) : Int)=_
        rw [Int.toNat_of_nonneg ha.1]
      subst hx
      exact fJ rfl (bV rfl (aFn rfl (aH (by omega) (ih _ hj.tail h))))
    have jump : ¬ ((pc : Int)≤done.length∧(done.length : Int)<pc+B.length)→(z.o≠17→z.o≠18→z.o≠19→aGc pc B.length done.length z=z):=fun _ h1 h2 h3=>yG (fun hc=>by have:=aR.1 hc.2;omega)
    rw [pH]
    refine aD (aF (aC (fun _=>?_) (fun h=>absurd h (by simp;omega))))
    refine jX (aC (fun hge=>aD (aH (by omega) (aF (cE (bA (fun hlt=>?_) (fun hlt=>aH (by omega) (pass (yG (fun hc=>hc.1 ⟨hge,hlt⟩))))))))) (fun hge=>?_))
    · refine fJ rfl (eU rfl (aA rfl (aX (aC (fun h17=>turn (by omega) (aR.2 (by omega))) (fun h17=>?_)))))
      refine fJ rfl (eU rfl (aA rfl (aX (aC (fun h18=>turn (by omega) (aR.2 (by omega))) (fun h18=>?_)))))
      refine fJ rfl (eU rfl (aA rfl (aX (aC (fun h19=>turn (by omega) (aR.2 (by omega))) (fun h19=>aH (by omega) (pass (jump (by omega) h17 h18 h19)))))))
    · refine fJ rfl (eU rfl (aA rfl (aX (aC (fun h17=>turn (by omega) (aR.2 (by omega))) (fun h17=>?_)))))
      refine fJ rfl (eU rfl (aA rfl (aX (aC (fun h18=>turn (by omega) (aR.2 (by omega))) (fun h18=>?_)))))
      refine fJ rfl (eU rfl (aA rfl (aX (aC (fun h19=>turn (by omega) (aR.2 (by omega))) (fun h19=>aH (by omega) (pass (jump (by omega) h17 h18 h19)))))))
theorem aFu {x4 x5 T : PV} {A C : List PV} {B : List aE} {f p lc : Int} {pc L : Nat} (hf : f=A.length) (hB : B.length≤1000) (hpc : pc≤120) (hL : L≤120) : ∀ (r done : List aE),done.length+r.length≤2000→aAC pc B.length L done.length r→
    Ok Q (bW (.int .i64 pc) (.int .i64 f) (.int .i64 (done.length+r.length : Nat)) (.int .i64 (done.length+r.length : Nat)) x4 x5 T (fnW A C p lc ((done++zY pc B.length done.length r).map aE.pv)) (.lst (B.map aE.pv)))→
    Ok Q (bW (.int .i64 pc) (.int .i64 f) (.int .i64 (done.length+r.length : Nat)) (.int .i64 done.length) x4 x5 T (fnW A C p lc ((done++r).map aE.pv)) (.lst (B.map aE.pv)))
  | [],done,_,_,h=>by simpa [zY] using h
  | z::r,done,hd,hj,h=>by
    simp only [List.length_cons] at hd h ⊢
    have hh:=hj.head
    have ih:=fun y=>aFu (x4:=x4) (x5:=x5) (T:=T) (A:=A) (C:=C) (B:=B) (p:=p) (lc:=lc) hf hB hpc hL r (done++[y]) (by simp;omega)
    have el : ∀ y : aE,((done++[y]).length : Int)=done.length+1:=fun y=>by simp
    have el2 : ∀ y : aE,(done++[y]).length+r.length=done.length+(r.length+1):=fun y=>by simp;omega
    simp only [List.append_assoc,List.cons_append,List.nil_append,el,el2] at ih
    unfold zY at h
    have pass : aGc pc B.length done.length z=z→Ok Q (bW (.int .i64 pc) (.int .i64 f) (.int .i64 (done.length+(r.length+1) : Nat)) (.int .i64 (done.length+1)) x4 x5 T (fnW A C p lc ((done++z::r).map aE.pv)) (.lst (B.map aE.pv))):=fun e=>by
      rw [e] at h
      exact ih z hj.tail h
    have turn : ¬ ((pc : Int)≤done.length∧(done.length : Int)<pc+B.length)→fK z.o 17 19=true→(pc : Int)<z.a→Ok Q (kB (.int .i64 pc) (.int .i64 f) (.int .i64 f) (.int .i64 done.length) (.int .i64 (done.length+(r.length+1) : Nat)) (.int .i64 done.length) x4 x5 T (fnW A C p lc ((done++z::r).map aE.pv)) (.lst (B.map aE.pv))):=fun hi hb hgt=>by
      rw [aCw hi hb] at h
      have ha:=hh hi hb
      have e : tgt pc B.length z.a=z.a+(B.length - 1):=if_pos hgt
      rw [e] at h
      rw [xT]
      refine aQ hf rfl (aA rfl (eU rfl (aA rfl (aD (dY (by omega) (aH (by omega) (aQ hf rfl (aA rfl (bV rfl (aQ hf rfl (aA rfl ?_)))))))))))
      refine aFn (z:=z) rfl (aQ hf rfl (aA rfl (dQ hf rfl (by decide) rfl (aH (by omega) (ih _ hj.tail h)))))
    have tail : ¬ ((pc : Int)≤done.length∧(done.length : Int)<pc+B.length)→fK z.o 17 19=true→¬ ((pc : Int)<z.a)→aGc pc B.length done.length z=z:=fun hi hb hle=>by
      rw [aCw hi hb]
      have e : tgt pc B.length z.a=z.a:=if_neg hle
      rw [e]
    rw [pK]
    refine aF (aC (fun _=>?_) (fun h=>absurd h (by omega)))
    refine jX (aC (fun hge=>aD (aH (by omega) (aF ?_))) (fun hge=>?_))
    · refine aQ hf rfl (aQ hf rfl (aA rfl (fJ rfl (aQ hf rfl (aA rfl (eU rfl (zV (bC (fun hb=>cE (bA (fun hlt=>?_) (fun hlt=>aH (by omega) (pass (yG (fun hc=>hc.1 ⟨hge,hlt⟩)))))) (fun hb=>aH (by omega) (pass (yG (fun hc=>by rw [hb] at hc;exact absurd hc.2 (by simp)))))))))))))
      exact aQ hf rfl (aA rfl (eU rfl (aA rfl (kU (aC (fun hgt=>turn (by omega) hb hgt) (fun hgt=>aH (by omega) (pass (tail (by omega) hb hgt))))))))
    · refine aQ hf rfl (aQ hf rfl (aA rfl (fJ rfl (aQ hf rfl (aA rfl (eU rfl (zV (bC (fun hb=>?_) (fun hb=>aH (by omega) (pass (yG (fun hc=>by rw [hb] at hc;exact absurd hc.2 (by simp)))))))))))))
      exact aQ hf rfl (aA rfl (eU rfl (aA rfl (kU (aC (fun hgt=>turn (by omega) hb hgt) (fun hgt=>aH (by omega) (pass (tail (by omega) hb hgt))))))))
end
def zM : cZ:=⟨[],[]⟩
def aAa (m : cZ) (i : Nat) : bN:=m.funcs[i]?.getD ⟨0,0,[]⟩
def oL (m : cZ) (i j h : Nat) : List aE:=(aAa m i).code.take j++(jA (aAa m i).lc (aAa m h)++(aAa m i).code.drop (j+1))
def qT (m : cZ) (i j h : Nat) : cZ:=⟨m.texts,m.funcs.set i ⟨(aAa m i).p,(aAa m i).lc+(aAa m h).lc,zY j (jA (aAa m i).lc (aAa m h)).length 0 (oL m i j h)⟩⟩
def rN (m : cZ) (f pc : Int) : cZ:=
  if fU m=true∧0≤f∧f<m.funcs.length then
    if 0≤pc∧pc<(eF m.funcs f).length then
      if (iZ m f pc).o=24 then
        if 0≤uD m f pc then
          if (iZ m f pc).a≠f then
            if aCZ m.funcs (eF m.funcs (iZ m f pc).a)=true then
              if uD m (iZ m f pc).a (cN (eF m.funcs (iZ m f pc).a))=1 then
                if fU (qT m f.toNat pc.toNat (iZ m f pc).a.toNat)=true then qT m f.toNat pc.toNat (iZ m f pc).a.toNat else zM
              else zM
            else zM
          else zM
        else zM
      else zM
    else zM
  else zM
section
variable {m : cZ} (g : kJ m) {f : Nat} (hf : f < m.funcs.length)
include g hf
theorem aGJ (hs : aCZ m.funcs m.funcs[f].code=true) : aHE m.funcs[f].code:=by
  obtain ⟨i,hi,hfi,hc,F,p1,p2,p3,p4,_,_,hins⟩:=g.code (f:=f) ⟨by omega,by omega⟩
  have hfi : f=i:=by omega
  subst hfi
  unfold aCZ at hs
  rw [Bool.and_eq_true,aEl] at hs
  refine ⟨F.n2,?_,fun x hx ho=>?_⟩
  · have key : ∀ pc,pc≤cN m.funcs[f].code→pc<m.funcs[f].code.length∧0≤(bU m.funcs m.funcs[f].code)[pc]?.getD 0:=by
      intro pc
      induction pc with
      | zero=>intro _;exact ⟨F.n1,by rw [aAz F];simp⟩
      | succ pc ih=>
        intro h
        obtain ⟨h1,h2⟩:=ih (by omega)
        have ho:=yF (show pc<cN m.funcs[f].code by omega) h1
        have hj:=hs.1 pc (by omega) h1
        rw [aEm h1 (by rw [(eP F).1];exact h1)] at hj
        have hd : 0≤(bU m.funcs m.funcs[f].code)[pc]'(by rw [(eP F).1];exact h1):=by
          rw [iL];exact h2
        rw [decide_eq_true hd,Bool.true_and,aEa] at hj
        have hc:=zU h1 (aCn g.bad hf h1) (by omega)
        have hnx : ((pc : Int)+1)∈dB m.funcs[f].code[pc] pc:=by
          unfold dB
          rw [if_pos (by omega)]
          simp
        have h3:=hc.2 _ hnx
        have h4:=aCh (F.u _ (List.getElem_mem h1)) hc.1
        refine ⟨by omega,?_⟩
        have e : ((pc : Int)+1).toNat=pc+1:=by omega
        rw [e] at h3
        rw [h3.2]
        exact h4.1
    exact (key _ (Nat.le_refl _)).1
  · have:=hins x hx
    unfold bE at this
    rcases ho with ho | ho<;>simp [ho,fK] at this<;>omega
end
section
variable {P : R → Prop} {k : PV → Option R}
theorem mY {c : List aE} {a b : Int} {k1 k2 : IntKind} (h0 : 0≤a) (h1 : a≤b) (h2 : b≤c.length) (h : Ok P (k (.lst (((c.take b.toNat).drop a.toNat).map aE.pv)))) :
    Ok P (bd (PV.cut 2 true (.lst (c.map aE.pv)) (.int k1 a) (.int k2 b)) k):=by
  refine aD2 h0 h1 (by rw [List.length_map];exact h2) aIj ?_
  rw [← List.map_take,← List.map_drop]
  exact h
end
theorem aI2 {a b c : List aE} (ha : a.length≤1000) (hb : b.length≤1000) (hc : c.length≤1000) :
    Ok (fun r=>r = [.lst ((a++(b++c)).map aE.pv)]) (dD (.lst [.lst (a.map aE.pv),.lst (b.map aE.pv),.lst (c.map aE.pv)])):=by
  have at0 : ∀ {P : R→Prop} {k : PV→Option R},Ok P (k (.lst (a.map aE.pv)))→Ok P (bd (PV.at_ 1 false (.lst [.lst (a.map aE.pv),.lst (b.map aE.pv),.lst (c.map aE.pv)]) (.int .i64 0)) k):=fun h=>aD3 (by omega) rfl rfl h
  have at1 : ∀ {P : R→Prop} {k : PV→Option R},Ok P (k (.lst (b.map aE.pv)))→Ok P (bd (PV.at_ 1 false (.lst [.lst (a.map aE.pv),.lst (b.map aE.pv),.lst (c.map aE.pv)]) (.int .i64 1)) k):=fun h=>aD3 (by omega) rfl rfl h
  have at2 : ∀ {P : R→Prop} {k : PV→Option R},Ok P (k (.lst (c.map aE.pv)))→Ok P (bd (PV.at_ 1 false (.lst [.lst (a.map aE.pv),.lst (b.map aE.pv),.lst (c.map aE.pv)]) (.int .i64 2)) k):=fun h=>aD3 (by omega) rfl rfl h
  rw [jK]
  refine cG ?_
  show Ok _ (aW _ (.int .i64 0) _ (.int .i64 3) (.int .i64 0))
  rw [bL]
  refine aF (aC (fun _=>?_) (fun h=>absurd h (by omega)))
  refine at0 (aD (aH (by omega) (aF (aC (fun h=>absurd h (by omega)) (fun _=>aH (by omega) ?_)))))
  show Ok _ (aW _ _ _ (.int .i64 3) (.int .i64 1))
  rw [bL]
  refine aF (aC (fun _=>?_) (fun h=>absurd h (by omega)))
  refine at1 (aD (aH (by omega) (aF (aC (fun h=>absurd h (by omega)) (fun _=>aH (by omega) ?_)))))
  show Ok _ (aW _ _ _ (.int .i64 3) (.int .i64 2))
  rw [bL]
  refine aF (aC (fun _=>?_) (fun h=>absurd h (by omega)))
  refine at2 (aD (aH (by omega) (aF (aC (fun h=>absurd h (by omega)) (fun _=>aH (by omega) ?_)))))
  show Ok _ (aW _ _ _ (.int .i64 3) (.int .i64 3))
  rw [bL]
  refine aF (aC (fun h=>absurd h (by omega)) (fun _=>?_))
  refine aK (Q:=fun r=>r = [.lst []]) ?_ (fun r hr=>?_)
  · rw [kG]
    unfold nE
    simp only
    rw [if_pos (by omega)]
    exact aB rfl
  subst hr
  refine cG ?_
  show Ok _ (aU _ (.int .i64 3) (.int .i64 0) (.lst []))
  rw [bK]
  refine aF (aC (fun _=>?_) (fun h=>absurd h (by omega)))
  refine at0 (bO (l:=[]) (ys:=a) (by simp;omega) (aH (by omega) ?_))
  show Ok _ (aU _ (.int .i64 3) (.int .i64 1) _)
  rw [bK]
  refine aF (aC (fun _=>?_) (fun h=>absurd h (by omega)))
  refine at1 (bO (l:=[]++a) (ys:=b) (by simp;omega) (aH (by omega) ?_))
  show Ok _ (aU _ (.int .i64 3) (.int .i64 2) _)
  rw [bK]
  refine aF (aC (fun _=>?_) (fun h=>absurd h (by omega)))
  refine at2 (bO (l:=[]++a++b) (ys:=c) (by simp;omega) (aH (by omega) ?_))
  show Ok _ (aU _ (.int .i64 3) (.int .i64 3) _)
  rw [bK]
  refine aF (aC (fun h=>absurd h (by omega)) (fun _=>aB ?_))
  rw [List.nil_append,List.append_assoc]
theorem aHH {n : Nat} (hF : ∀ x,aP n [x]=xN x) {code : List aE} (hn : code.length≤1000) (hr : cN code<code.length) :
    Ok (fun r=>r = [.int .i64 (cN code)]) (bT (.lst (code.map aE.pv)) (.fn n [])):=by
  have one : ∀ {P : R→Prop} {k : R→Option R} {x : aE},Ok P (k [.bool (decide (x.o=25))])→Ok P (bd (PV.apply aP (.fn n []) [x.pv]) k):=fun {P k x} h=>by
    refine xL (f:=n) (hF _) (Q:=fun r=>r = [.bool (decide (x.o=25))]) ?_ (fun r hr=>by rw [hr];exact h)
    rw [aAQ]
    exact aL rfl (aA rfl (aA rfl (aX (aB rfl))))
  rw [dV]
  refine aD ?_
  refine mW (n:=cN code) (F:=fun i=>aY (.lst (code.map aE.pv)) (.fn n []) (.int .i64 code.length) (.int .i64 i)) (P:=fun _ r=>r = [.int .i64 (cN code)]) ?_ (fun i hi ih=>?_) 0 (by omega)
  · rw [bI]
    refine aF (aC (fun _=>?_) (fun h=>absurd h (by omega)))
    exact aI hr (fun _=>rfl) (one (aC (fun _=>aB rfl) (fun h=>absurd (zZ hr) h)))
  · have hic : i<code.length:=by omega
    have ih : Ok (fun r=>r = [.int .i64 (cN code)]) (aY (.lst (code.map aE.pv)) (.fn n []) (.int .i64 code.length) (.int .i64 ((i : Int)+1))):=ih
    rw [bI]
    refine aF (aC (fun _=>?_) (fun h=>absurd h (by omega)))
    exact aI hic (fun _=>rfl) (one (aC (fun h=>absurd h (yF hi hic)) (fun _=>aH (by omega) ih)))
structure aAY (m : cZ) (i j h : Nat) : Prop where
  g : kJ m
  hi : i<m.funcs.length
  hh : h<m.funcs.length
  F : Fit m.funcs m.funcs[i].code
  hj : j<m.funcs[i].code.length
  lc : 0≤m.funcs[i].lc∧m.funcs[i].lc≤12
  gp : 0≤m.funcs[h].p∧m.funcs[h].p≤m.funcs[h].lc∧m.funcs[h].lc≤12
  L : aHE m.funcs[h].code
theorem aAY.fni {m : cZ} {i j h : Nat} (K : aAY m i j h) : aAa m i=m.funcs[i]'K.hi:=by unfold aAa;rw [List.getElem?_eq_getElem K.hi];rfl
theorem aAY.fnh {m : cZ} {i j h : Nat} (K : aAY m i j h) : aAa m h=m.funcs[h]'K.hh:=by unfold aAa;rw [List.getElem?_eq_getElem K.hh];rfl
theorem yH {base : Int} {g : bN} (L : aHE g.code) (hp : 0≤g.p∧g.p≤g.lc∧g.lc≤12) : (jA base g).length≤200:=by
  unfold jA
  have:=L.n
  have:=L.r
  simp [nD,aA9]
  omega
theorem aAY.jumps {m : cZ} {i j h : Nat} (K : aAY m i j h) : aAC j (jA (m.funcs[i]'K.hi).lc (m.funcs[h]'K.hh)).length (m.funcs[i]'K.hi).code.length 0 (oL m i j h):=by
  intro q z hq hout hb
  unfold oL at hq
  rw [K.fni,K.fnh] at hq
  generalize jA (m.funcs[i]'K.hi).lc (m.funcs[h]'K.hh)=B at *
  have hj:=K.hj
  have hm : z∈(m.funcs[i]'K.hi).code:=by
    rw [List.getElem?_append] at hq
    split at hq
    · exact List.mem_of_mem_take (List.mem_of_getElem? hq)
    · rename_i h1
      rw [List.getElem?_append] at hq
      split at hq
      · rename_i h2
        exfalso
        simp at h1 h2
        apply hout
        omega
      · exact List.mem_of_mem_drop (List.mem_of_getElem? hq)
  have:=aR.1 hb
  exact K.F.j z hm (by omega)
theorem aAY.sized {m : cZ} {i j h : Nat} (K : aAY m i j h) : (qT m i j h).sized:=by
  obtain ⟨h1,h2,h3,h4⟩:=K.g.sz
  refine ⟨h1,by simpa [qT] using h2,h3,fun f hf=>?_⟩
  rcases List.mem_or_eq_of_mem_set hf with hf | rfl
  · exact h4 f hf
  · show (zY _ _ _ _).length≤_
    rw [aCs]
    unfold oL
    rw [K.fni,K.fnh]
    have:=yH (base:=(m.funcs[i]'K.hi).lc) K.L K.gp
    have:=K.F.n2
    simp
    omega
section
variable {P : R → Prop}
theorem aAD {α : Type} (l : List bN) (i : Nat) (hi : i<l.length) (y : bN) : (l.set i y).map bN.pv=(l.take i).map bN.pv++y.pv::(l.drop (i+1)).map bN.pv:=by
  rw [List.set_eq_take_append_cons_drop,if_pos hi,List.map_append,List.map_cons]
theorem aHI {m : cZ} {i j h : Nat} (K : aAY m i j h) {x3 J1 J2 : PV} (hc : (bU m.funcs (m.funcs[h]'K.hh).code)[cN (m.funcs[h]'K.hh).code]?.getD 0≠1→P [.lst [],.lst []]) (ho : (bU m.funcs (m.funcs[h]'K.hh).code)[cN (m.funcs[h]'K.hh).code]?.getD 0=1→∀ r,r=(if fU (qT m i j h)=true then qT m i j h else zM).rows→P r) :
    Ok P (eH (.int .i64 i) (.int .i64 j) (.int .i64 0) (.lst (m.texts.map PV.str)) (.lst (m.funcs.map bN.pv)) x3 (.int .i64 h) (.int .i64 (m.funcs[h]'K.hh).p) (.int .i64 (m.funcs[h]'K.hh).lc) (.lst ((m.funcs[h]'K.hh).code.map aE.pv)) J1 J2):=by
  have hi:=K.hi
  have hh:=K.hh
  have L:=K.L
  have F:=K.F
  have Fh:=yE K.g hh
  have hlc:=K.lc
  have hgp:=K.gp
  have hj:=K.hj
  have hn2:=F.n2
  have hbl:=yH (base:=m.funcs[i].lc) L hgp
  refine aIk L.n L.r ?_ 0 (by omega)
  rw [qP]
  refine aI L.r (fun _=>rfl) (aA rfl (dC (bA (fun h=>absurd (zZ L.r) h) (fun _=>aK (lS Fh hh rfl) (fun r hr=>?_)))))
  subst hr
  have hdl : cN m.funcs[h].code<(bU m.funcs m.funcs[h].code).length:=by rw [(eP Fh).1];exact L.r
  refine bF hdl (dC (bA (fun hd1=>aB (hc (by rw [← iL hdl];exact hd1))) (fun hd1=>?_)))
  have ho:=ho (by rw [← iL hdl];exact hd1)
  refine aI hi (fun _=>rfl) (aA rfl (dY (by omega) ?_))
  have e : m.funcs[h].p - 1=(m.funcs[h].p.toNat : Int) - 1:=by omega
  rw [e]
  refine aCv (out:=[]) ⟨hlc.1,by omega⟩ m.funcs[h].p.toNat (by omega) (by simp;omega) (aFq ⟨hlc.1,by omega⟩ (m.funcs[h].lc - m.funcs[h].p).toNat m.funcs[h].p (oK m.funcs[i].lc m.funcs[h].p.toNat) (by omega) (by omega) (by omega) (by rw [nD];omega) ?_)
  refine aDz L ⟨hlc.1,by omega⟩ _ 0 (oK m.funcs[i].lc m.funcs[h].p.toNat++ups m.funcs[i].lc m.funcs[h].p (m.funcs[h].lc - m.funcs[h].p).toNat) rfl (by omega) (by simp [nD,aA9];omega) ?_
  have eB : oK m.funcs[i].lc m.funcs[h].p.toNat++ups m.funcs[i].lc m.funcs[h].p (m.funcs[h].lc - m.funcs[h].p).toNat++((m.funcs[h].code.take (cN m.funcs[h].code)).drop 0).map (qE m.funcs[i].lc)=jA m.funcs[i].lc m.funcs[h]:=by
    rw [List.drop_zero];unfold jA;rw [List.append_assoc]
  rw [eB]
  rw [pE]
  refine aF (aC (fun h=>absurd h (by omega)) (fun _=>aK (aHD K.g.sz) (fun r hr=>?_)))
  subst hr
  refine gX (oH _) (gX (rM _) (aI hi (fun _=>rfl) (aA rfl ?_)))
  have ha:=aFs (Q:=P) (f:=.int .i64 i) (base:=.int .i64 m.funcs[i].lc) (p:=.int .i64 m.funcs[h].p) (lc:=.int .i64 m.funcs[h].lc) (gc:=.lst (m.funcs[h].code.map aE.pv)) (x8:=J1) (x9:=J2) (T:=.lst (m.texts.map PV.str)) (Fs:=.lst (m.funcs.map bN.pv)) (old:=m.funcs[i].code) (B:=jA m.funcs[i].lc m.funcs[h]) (pc:=j) hj hn2 (by omega) ?_ 0 (by omega)
  · have e0 : fV m.funcs[i].code (jA m.funcs[i].lc m.funcs[h]) j 0 = []:=by simp [fV]
    rw [e0] at ha
    exact ha
  rw [pG]
  refine aD (aF (aC (fun h=>absurd h (by omega)) (fun _=>?_)))
  have ec : fV m.funcs[i].code (jA m.funcs[i].lc m.funcs[h]) j m.funcs[i].code.length=oL m i j h:=by
    unfold fV oL
    rw [if_neg (by omega),List.take_length,K.fni,K.fnh]
  rw [ec]
  have hol : (oL m i j h).length≤1000:=by
    unfold oL
    rw [K.fni,K.fnh]
    simp
    omega
  have hJ:=K.jumps
  have hf:=aFt (Q:=P) (f:=.int .i64 i) (base:=.int .i64 m.funcs[i].lc) (p:=.int .i64 m.funcs[h].p) (lc:=.int .i64 m.funcs[h].lc) (gc:=.lst (m.funcs[h].code.map aE.pv)) (x7:=J1) (x8:=J2) (T:=.lst (m.texts.map PV.str)) (Fs:=.lst (m.funcs.map bN.pv)) (B:=jA m.funcs[i].lc m.funcs[h]) (pc:=j) (L:=m.funcs[i].code.length) (by omega) (by omega) hn2 (oL m i j h) [] (by simp;omega) (by simpa using hJ) ?_
  · simpa using hf
  rw [pH]
  simp only [List.nil_append,List.length_nil,Nat.zero_add]
  refine aD (aF (aC (fun h=>absurd h (by rw [aCs];omega)) (fun _=>?_)))
  refine vN (by omega) (by simp;omega) (aAB hi (aH (by omega) (vN (by omega) (by simp;omega) (bV rfl ?_))))
  refine aDx (by simpa using hi) ?_
  have e2 : ∀ (S : List bN),S=m.funcs.set i ⟨m.funcs[i].p,m.funcs[i].lc,zY j (jA m.funcs[i].lc m.funcs[h]).length ((0 : Nat) : Int) (oL m i j h)⟩→∀ (h1 h2 : i<S.length),S.set i ⟨(S[i]'h1).p,m.funcs[i].lc+m.funcs[h].lc,(S[i]'h2).code⟩=(qT m i j h).funcs:=by
    rintro S rfl h1 h2
    unfold qT
    rw [K.fni,K.fnh]
    simp
  rw [e2 _ rfl]
  refine aGI (m:=qT m i j h) K.sized (mL rfl (cE ?_))
  cases hgd : fU (qT m i j h) with
  | false=>exact gB (aB (ho _ (by rw [hgd];rfl)))
  | true=>exact dN (aB (ho _ (by rw [hgd];rfl)))
theorem aHJ {m : cZ} {i j h : Nat} (K : aAY m i j h) (ho : ∀ r,r=(if fU (qT m i j h)=true then qT m i j h else zM).rows→P r) :
    Ok P (bW (.int .i64 j) (.int .i64 i) (.int .i64 (oL m i j h).length) (.int .i64 0) (.lst []) (.lst []) (.lst (m.texts.map PV.str)) (.lst ((m.funcs.set i ⟨(m.funcs[i]'K.hi).p,(m.funcs[i]'K.hi).lc+(m.funcs[h]'K.hh).lc,oL m i j h⟩).map bN.pv)) (.lst ((jA (m.funcs[i]'K.hi).lc (m.funcs[h]'K.hh)).map aE.pv))):=by
  have hi:=K.hi
  have hh:=K.hh
  have hj:=K.hj
  have hn2:=K.F.n2
  have hbl:=yH (base:=m.funcs[i].lc) K.L K.gp
  have hol : (oL m i j h).length≤1000:=by
    unfold oL
    rw [K.fni,K.fnh]
    simp
    omega
  have hJ:=K.jumps
  rw [aAD (α:=Unit) _ _ hi]
  have hf:=aFu (Q:=P) (x4:=.lst []) (x5:=.lst []) (T:=.lst (m.texts.map PV.str)) (A:=(m.funcs.take i).map bN.pv) (C:=(m.funcs.drop (i+1)).map bN.pv) (B:=jA m.funcs[i].lc m.funcs[h]) (f:=i) (p:=m.funcs[i].p) (lc:=m.funcs[i].lc+m.funcs[h].lc) (pc:=j) (L:=m.funcs[i].code.length) (by simp;omega) (by omega) (by omega) hn2 (oL m i j h) [] (by simp;omega) (by simpa using hJ) ?_
  · simp only [List.length_nil,Nat.zero_add,List.nil_append] at hf
    exact hf
  simp only [List.length_nil,Nat.zero_add,List.nil_append]
  have e : fnW ((m.funcs.take i).map bN.pv) ((m.funcs.drop (i+1)).map bN.pv) m.funcs[i].p (m.funcs[i].lc+m.funcs[h].lc) ((zY j (jA m.funcs[i].lc m.funcs[h]).length ((0 : Nat) : Int) (oL m i j h)).map aE.pv) = .lst ((qT m i j h).funcs.map bN.pv):=by
    unfold qT
    rw [K.fni,K.fnh,aAD (α:=Unit) _ _ hi]
    rfl
  rw [e,pK]
  refine aF (aC (fun h=>absurd h (by omega)) (fun _=>?_))
  refine aFk (m:=qT m i j h) K.sized (mL rfl (cE ?_))
  cases hgd : fU (qT m i j h) with
  | false=>exact gB (aB (ho _ (by rw [hgd];rfl)))
  | true=>exact dN (aB (ho _ (by rw [hgd];rfl)))
end
theorem aDA {m : cZ} (hs : m.sized) {i j : Nat} (hg : fU m=true) (hi : i<m.funcs.length) (hj : j<m.funcs[i].code.length) (ho : m.funcs[i].code[j].o=24) :
    kJ m∧Fit m.funcs m.funcs[i].code∧eF m.funcs i=m.funcs[i].code∧iZ m i j=m.funcs[i].code[j]∧uD m i j=(bU m.funcs m.funcs[i].code)[j]?.getD 0∧
      (0≤m.funcs[i].lc∧m.funcs[i].lc≤12)∧∃ h : Nat,∃ hh : h<m.funcs.length,m.funcs[i].code[j].a=h∧eF m.funcs h=m.funcs[h].code∧(0≤m.funcs[h].p∧m.funcs[h].p≤m.funcs[h].lc∧m.funcs[h].lc≤12):=by
  have g:=aF9 hs hg
  obtain ⟨i',hi',hii,hc,F,p1,p2,p3,p4,_,_,hins⟩:=g.code (f:=i) ⟨by omega,by omega⟩
  have hii : i=i':=by omega
  subst hii
  have hn : iZ m i j=m.funcs[i].code[j]:=by simp [iZ,hc,List.getElem?_eq_getElem hj]
  have ha:=hins _ (List.getElem_mem hj)
  unfold bE at ha
  simp [ho,fK] at ha
  obtain ⟨h,hh⟩:=Int.eq_ofNat_of_zero_le ha.1
  have hhl : h<m.funcs.length:=by omega
  obtain ⟨h',hh',hhh,hc2,_,q1,q2,q3,q4,_⟩:=g.code (f:=h) ⟨by omega,by omega⟩
  have hhh : h=h':=by omega
  subst hhh
  exact ⟨g,F,hc,hn,by rw [uD,hc];simp,⟨by omega,p4⟩,h,hhl,hh,hc2,q1,q3,q4⟩
theorem aGf {m : cZ} (hs : m.sized) {f pc : Int} : Ok (fun r=>r=(rN m f pc).rows) (rI m.pv (.int .i64 f) (.int .i64 pc)):=by
  rw [aCN]
  refine aL rfl (aA rfl (aA rfl ?_))
  refine aK (Q:=fun r=>r = [.bool (fU m&&fK f 0 ((m.funcs.length : Int) - 1))]) ?_ (fun r hr=>?_)
  · rw [aCO]
    refine aL rfl (aA rfl (aA rfl (aGI hs (bC (fun hb=>aD (dY (by have:=hs.2.1;omega) (eN (aB ?_)))) (fun hb=>aB ?_)))))
    · rw [hb];rfl
    · rw [hb];rfl
  subst hr
  refine cE (bC (fun hb=>aB ?_) (fun hb=>?_))
  · unfold rN
    rw [if_neg (fun h=>?_)]
    · rfl
    · rw [h.1,Bool.true_and,aR.2 (by omega)] at hb
      cases hb
  have hb : fU m=true∧fK f 0 ((m.funcs.length : Int) - 1)=true:=by
    cases h1 : fU m<;>cases h2 : fK f 0 ((m.funcs.length : Int) - 1)<;>simp [h1,h2] at hb ⊢
  obtain ⟨hg,hf⟩:=hb
  rw [aR] at hf
  obtain ⟨i,rfl⟩:=Int.eq_ofNat_of_zero_le hf.1
  have hi : i<m.funcs.length:=by omega
  have hcode : eF m.funcs i=m.funcs[i].code:=by simp [eF,List.getElem?_eq_getElem hi]
  have c0 : fU m=true∧0≤(i : Int)∧(i : Int)<m.funcs.length:=⟨hg,by omega,by omega⟩
  have hlen:=hs.2.2.2 _ (List.getElem_mem hi)
  refine aI hi (fun _=>rfl) (aA rfl (aD (dY (by omega) (eN (cE (bC (fun hb=>aB ?_) (fun hb=>?_)))))))
  · unfold rN
    rw [if_pos c0,if_neg (fun h=>?_)]
    · rfl
    · rw [hcode] at h
      rw [aR.2 (by omega)] at hb
      cases hb
  have hp : fK pc 0 ((m.funcs[i].code.length : Int) - 1)=true:=by simpa using hb
  rw [aR] at hp
  obtain ⟨j,rfl⟩:=Int.eq_ofNat_of_zero_le hp.1
  have hj : j<m.funcs[i].code.length:=by omega
  have c1 : 0≤(j : Int)∧(j : Int)<(eF m.funcs i).length:=by rw [hcode];omega
  have hn : iZ m i j=m.funcs[i].code[j]:=by simp [iZ,hcode,List.getElem?_eq_getElem hj]
  refine aI hi (fun _=>rfl) (aA rfl (aI hj (fun _=>rfl) (aL rfl (aA rfl (aA rfl (dC (bA (fun h24=>aB ?_) (fun h24=>?_))))))))
  · unfold rN
    rw [if_pos c0,if_pos c1,hn,if_neg h24];rfl
  obtain ⟨g,F,_,_,hd,hlc,h,hh,ha,hch,hgp⟩:=aDA hs hg hi hj h24
  have hdl : j<(bU m.funcs m.funcs[i].code).length:=by rw [(eP F).1];exact hj
  refine aK (lS F hi rfl) (fun r hr=>?_)
  subst hr
  refine bF hdl (aF (aC (fun hneg=>aB ?_) (fun hpos=>?_)))
  · unfold rN
    rw [if_pos c0,if_pos c1,hn,if_pos h24,hd,← iL hdl,if_neg (by omega)];rfl
  have c3 : 0≤uD m i j:=by rw [hd,← iL hdl];omega
  refine aX (aC (fun hs'=>aB ?_) (fun hne=>?_))
  · unfold rN
    rw [if_pos c0,if_pos c1,hn,if_pos h24,if_pos c3,if_neg (by omega)];rfl
  have c4 : m.funcs[i].code[j].a≠(i : Int):=hne
  rw [ha]
  refine aK (zX g hh) (fun r hr=>?_)
  subst hr
  have e7 : ∀ (b : Bool),aCZ m.funcs m.funcs[h].code=b→rN m i j=(if b=true then (if uD m h (cN m.funcs[h].code)=1 then (if fU (qT m i j h)=true then qT m i j h else zM) else zM) else zM):=fun b hb=>by
    unfold rN
    rw [if_pos c0,if_pos c1,hn,if_pos h24,if_pos c3,if_pos c4,ha,hch,hb]
    rfl
  refine cE (bC (fun hst=>aB ?_) (fun hst=>?_))
  · rw [e7 false (by simpa using hst)];rfl
  have hst : aCZ m.funcs m.funcs[h].code=true:=by simpa using hst
  have K : aAY m i j h:=⟨g,hi,hh,F,hj,hlc,hgp,aGJ g hh hst⟩
  refine aI hh (fun _=>rfl) (aL rfl (aA rfl (aA rfl (aA rfl ?_))))
  have hdd : uD m h (cN m.funcs[h].code)=(bU m.funcs m.funcs[h].code)[cN m.funcs[h].code]?.getD 0:=by rw [uD,hch];simp
  rw [e7 true hst,if_pos rfl,hdd]
  exact aHI K (fun h1=>by rw [if_neg h1];rfl) (fun h1 r hr=>by rw [if_pos h1];exact hr)
theorem aGg {m : cZ} (hs : m.sized) {f pc : Int} : Ok (fun r=>r=(rN m f pc).rows) (nT m.pv (.int .i64 f) (.int .i64 pc)):=by
  rw [aCQ]
  refine aL rfl (aA rfl (aA rfl ?_))
  refine aK (Q:=fun r=>r = [.bool (fK f 0 ((m.funcs.length : Int) - 1)&&fU m)]) ?_ (fun r hr=>?_)
  · rw [aB2]
    refine aL rfl (aA rfl (aA rfl (aD (fA (by have:=hs.2.1;omega) (bC (fun hb=>aFk hs (aB ?_)) (fun hb=>aB ?_))))))
    · have hb : fK f 0 ((m.funcs.length : Int) - 1)=true:=hb
      rw [hb];rfl
    · have hb : fK f 0 ((m.funcs.length : Int) - 1)=false:=hb
      rw [hb];rfl
  subst hr
  refine cE (bC (fun hb=>aB ?_) (fun hb=>?_))
  · unfold rN
    rw [if_neg (fun h=>?_)]
    · rfl
    · rw [h.1,Bool.and_true,aR.2 (by omega)] at hb
      cases hb
  have hb : fU m=true∧fK f 0 ((m.funcs.length : Int) - 1)=true:=by
    cases h1 : fU m<;>cases h2 : fK f 0 ((m.funcs.length : Int) - 1)<;>simp [h1,h2] at hb ⊢
  obtain ⟨hg,hf⟩:=hb
  rw [aR] at hf
  obtain ⟨i,rfl⟩:=Int.eq_ofNat_of_zero_le hf.1
  have hi : i<m.funcs.length:=by omega
  have hcode : eF m.funcs i=m.funcs[i].code:=by simp [eF,List.getElem?_eq_getElem hi]
  have c0 : fU m=true∧0≤(i : Int)∧(i : Int)<m.funcs.length:=⟨hg,by omega,by omega⟩
  have hlen:=hs.2.2.2 _ (List.getElem_mem hi)
  have hfn:=hs.2.1
  refine aK (Q:=fun r=>(0≤pc∧pc<m.funcs[i].code.length∧∃ x : aE,m.funcs[i].code[pc.toNat]? = some x∧r = [.tup [x.pv,.bool true]])∨(¬ (0≤pc∧pc<m.funcs[i].code.length)∧r = [.tup [.agg [.int .i64 0,.int .i64 0],.bool false]])) ?_ (fun r hr=>?_)
  · rw [aCR]
    refine aL rfl (aA rfl (aA rfl (aD (fA (by omega) (cE ?_)))))
    rw [aR.2 (show (0 : Int)≤i∧(i : Int)≤(m.funcs.length : Int) - 1 by omega)]
    refine dN (aI hi (fun _=>rfl) (aA rfl (aD (fA (by omega) (cE (bC (fun hb=>aB (.inr ⟨fun h=>?_,rfl⟩)) (fun hb=>?_)))))))
    · rw [aR.2 (by omega)] at hb;cases hb
    · have hp : fK pc 0 ((m.funcs[i].code.length : Int) - 1)=true:=by simpa using hb
      rw [aR] at hp
      obtain ⟨j,rfl⟩:=Int.eq_ofNat_of_zero_le hp.1
      have hj : j<m.funcs[i].code.length:=by omega
      exact aI hi (fun _=>rfl) (aA rfl (aI hj (fun _=>rfl) (aL rfl (aA rfl (aA rfl (aB (.inl ⟨by omega,by omega,m.funcs[i].code[j],by rw [Int.toNat_natCast,List.getElem?_eq_getElem hj],rfl⟩)))))))
  rcases hr with ⟨hp0,hp1,x,hx,rfl⟩ | ⟨hp,rfl⟩
  rotate_left
  · refine eQ rfl (eQ rfl (aL rfl (aA rfl (aA rfl (cE (gB (aB ?_)))))))
    unfold rN
    rw [if_pos c0,if_neg (by rw [hcode];exact hp)];rfl
  obtain ⟨j,rfl⟩:=Int.eq_ofNat_of_zero_le hp0
  have hj : j<m.funcs[i].code.length:=by omega
  rw [Int.toNat_natCast,List.getElem?_eq_getElem hj] at hx
  cases hx
  have c1 : 0≤(j : Int)∧(j : Int)<(eF m.funcs i).length:=by rw [hcode];omega
  have hn : iZ m i j=m.funcs[i].code[j]:=by simp [iZ,hcode,List.getElem?_eq_getElem hj]
  refine eQ rfl (eQ rfl (aL rfl (aA rfl (aA rfl (cE (dN (dC (bA (fun h24=>aB ?_) (fun h24=>?_)))))))))
  · unfold rN
    rw [if_pos c0,if_pos c1,hn,if_neg h24];rfl
  obtain ⟨g,F,_,_,hd,hlc,h,hh,ha,hch,hgp⟩:=aDA hs hg hi hj h24
  have hdl : j<(bU m.funcs m.funcs[i].code).length:=by rw [(eP F).1];exact hj
  refine aK (kH F hi rfl) (fun r hr=>?_)
  subst hr
  refine bF hdl (aF (aC (fun hneg=>aB ?_) (fun hpos=>?_)))
  · unfold rN
    rw [if_pos c0,if_pos c1,hn,if_pos h24,hd,← iL hdl,if_neg (by omega)];rfl
  have c3 : 0≤uD m i j:=by rw [hd,← iL hdl];omega
  refine aX (aC (fun hs'=>aB ?_) (fun hne=>?_))
  · unfold rN
    rw [if_pos c0,if_pos c1,hn,if_pos h24,if_pos c3,if_neg (by omega)];rfl
  have c4 : m.funcs[i].code[j].a≠(i : Int):=hne
  rw [ha]
  refine aK (zW g hh) (fun r hr=>?_)
  subst hr
  have e7 : ∀ (b : Bool),aCZ m.funcs m.funcs[h].code=b→rN m i j=(if b=true then (if uD m h (cN m.funcs[h].code)=1 then (if fU (qT m i j h)=true then qT m i j h else zM) else zM) else zM):=fun b hb=>by
    unfold rN
    rw [if_pos c0,if_pos c1,hn,if_pos h24,if_pos c3,if_pos c4,ha,hch,hb]
    rfl
  refine cE (bC (fun hst=>aB ?_) (fun hst=>?_))
  · rw [e7 false (by simpa using hst)];rfl
  have hst : aCZ m.funcs m.funcs[h].code=true:=by simpa using hst
  have K : aAY m i j h:=⟨g,hi,hh,F,hj,hlc,hgp,aGJ g hh hst⟩
  have L:=K.L
  have Fh:=yE g hh
  have hn2:=F.n2
  have hbl:=yH (base:=m.funcs[i].lc) L hgp
  refine aI hh (fun _=>rfl) (aL rfl (aA rfl (aA rfl (aA rfl ?_))))
  have hdd : uD m h (cN m.funcs[h].code)=(bU m.funcs m.funcs[h].code)[cN m.funcs[h].code]?.getD 0:=by rw [uD,hch];simp
  rw [e7 true hst,if_pos rfl,hdd]
  refine aK (aHH (fun _=>rfl) (by have:=L.n;omega) L.r) (fun r hr=>?_)
  subst hr
  refine aF (aC (fun h=>absurd h (by omega)) (fun _=>aK (kH Fh hh rfl) (fun r hr=>?_)))
  subst hr
  have hdh : cN m.funcs[h].code<(bU m.funcs m.funcs[h].code).length:=by rw [(eP Fh).1];exact L.r
  refine bF hdh (dC (bA (fun hd1=>aB ?_) (fun hd1=>?_)))
  · rw [← iL hdh,if_neg hd1];rfl
  rw [← iL hdh,if_pos hd1]
  refine aK (aHC hs) (fun r hr=>?_)
  subst hr
  refine gX (oH _) (gX (rM _) (aI hi (fun _=>rfl) (aA rfl ?_)))
  refine aK (aHF L ⟨hlc.1,by omega⟩ ⟨hgp.1,hgp.2.1,by omega⟩) (fun r hr=>?_)
  subst hr
  have hbody : PV.flatO (.own 2 16 true []) (.lst ((jA m.funcs[i].lc m.funcs[h]).map aE.pv))=true:=kZ _
  refine gX hbody (vN (by omega) (by simp;omega) (aI hi (fun _=>rfl) (aA rfl (aH (by omega) (bV rfl (aDx hi ?_))))))
  have hi1 : i<(m.funcs.set i ⟨m.funcs[i].p,m.funcs[i].lc+m.funcs[h].lc,m.funcs[i].code⟩).length:=by simpa using hi
  have e1 : (m.funcs.set i ⟨m.funcs[i].p,m.funcs[i].lc+m.funcs[h].lc,m.funcs[i].code⟩)[i]=⟨m.funcs[i].p,m.funcs[i].lc+m.funcs[h].lc,m.funcs[i].code⟩:=by simp
  have atf : ∀ {P : R→Prop} {k : PV→Option R},Ok P (k (.agg [.int .i64 m.funcs[i].p,.int .i64 (m.funcs[i].lc+m.funcs[h].lc),.lst (m.funcs[i].code.map aE.pv)]))→Ok P (bd (PV.at_ 3 true (.lst ((m.funcs.set i ⟨m.funcs[i].p,m.funcs[i].lc+m.funcs[h].lc,m.funcs[i].code⟩).map bN.pv)) (.int .i64 i)) k):=fun {P k} h=>by
    refine aI hi1 (fun _=>rfl) ?_
    rw [e1]
    exact h
  refine atf (atf (aA rfl (mY (by omega) (by omega) (by omega) (atf (aH (by omega) (atf (aA rfl (aD (mY (by omega) (by omega) (by omega) ?_)))))))))
  refine atf (aA rfl (mY (by omega) (by omega) (by omega) (atf (aA rfl (mY (by omega) (by omega) (by omega) ?_)))))
  refine xM (by simp) (fun x hx=>?_) ?_
  · rcases List.mem_cons.1 hx with rfl | hx
    · rfl
    rcases List.mem_cons.1 hx with rfl | hx
    · rfl
    rw [List.mem_singleton] at hx;subst hx;rfl
  have ea : (m.funcs[i].code.take (Int.toNat j)).drop (Int.toNat 0)=m.funcs[i].code.take j:=by simp
  have eb : (m.funcs[i].code.take (Int.toNat (m.funcs[i].code.length : Nat))).drop (Int.toNat ((j : Int)+1))=m.funcs[i].code.drop (j+1):=by
    have : ((j : Int)+1).toNat=j+1:=by omega
    rw [this,Int.toNat_natCast,List.take_length]
  rw [ea,eb]
  refine aK (aI2 (a:=m.funcs[i].code.take j) (b:=jA m.funcs[i].lc m.funcs[h]) (c:=m.funcs[i].code.drop (j+1)) (by simp;omega) (by omega) (by simp;omega)) (fun r hr=>?_)
  subst hr
  have eo : m.funcs[i].code.take j++(jA m.funcs[i].lc m.funcs[h]++m.funcs[i].code.drop (j+1))=oL m i j h:=by unfold oL;rw [K.fni,K.fnh]
  rw [eo]
  refine gX (kZ _) (aAB hi1 ?_)
  have e2 : (m.funcs.set i ⟨m.funcs[i].p,m.funcs[i].lc+m.funcs[h].lc,m.funcs[i].code⟩).set i ⟨((m.funcs.set i ⟨m.funcs[i].p,m.funcs[i].lc+m.funcs[h].lc,m.funcs[i].code⟩)[i]'hi1).p,((m.funcs.set i ⟨m.funcs[i].p,m.funcs[i].lc+m.funcs[h].lc,m.funcs[i].code⟩)[i]'hi1).lc,oL m i j h⟩=m.funcs.set i ⟨m.funcs[i].p,m.funcs[i].lc+m.funcs[h].lc,oL m i j h⟩:=by simp
  rw [e2]
  have hi2 : i<(m.funcs.set i ⟨m.funcs[i].p,m.funcs[i].lc+m.funcs[h].lc,oL m i j h⟩).length:=by simpa using hi
  refine aI hi2 (fun _=>rfl) (aI hi2 (fun _=>rfl) (aA rfl (aD ?_)))
  have e3 : (m.funcs.set i ⟨m.funcs[i].p,m.funcs[i].lc+m.funcs[h].lc,oL m i j h⟩)[i].code.length=(oL m i j h).length:=by simp
  rw [e3]
  exact aHJ K (fun r hr=>hr)
end Go.Proofs.Ythkofpnllaapeaa
namespace Go.Proofs.Ythkofpnllaapeaa
open Go Go.ChangeShapes Go.WideShapes Go.ChangeAt
inductive CSh where
  | b
  | i (k : IntKind)
  | s
  | l (g : Bool) (cs : List CSh)
mutual
def oP : CSh→PV→Prop
  | .b,x=>∃ v,x = .bool v
  | .i k,x=>∃ n,x = .int k n∧(Lit.int k n).wf=true
  | .s,x=>∃ t : ByteArray,x = .str t∧t.size≤maxLen
  | .l g cs,x=>∃ xs,x = .lst xs∧xs.length≤maxLen∧∀ e∈xs,if g then ∃ ys,e = .agg ys∧bJ cs ys else bJ cs [e]
def bJ : List CSh→List PV→Prop
  | [],[]=>True
  | c::cs,y::ys=>oP c y∧bJ cs ys
  | _,_=>False
end
theorem bJ.len : ∀ {cs : List CSh} {ys : List PV},bJ cs ys→ys.length=cs.length
  | [],[],_=>rfl
  | [],_::_,h=>by unfold bJ at h;exact h.elim
  | _::_,[],h=>by unfold bJ at h;exact h.elim
  | c::cs,y::ys,h=>by
    unfold bJ at h
    simp [bJ.len h.2]
theorem bJ.append : ∀ {cs ds : List CSh} {ys zs : List PV},bJ cs ys→bJ ds zs→bJ (cs++ds) (ys++zs)
  | [],_,[],_,_,h=>h
  | [],_,_::_,_,h,_=>by unfold bJ at h;exact h.elim
  | _::_,_,[],_,h,_=>by unfold bJ at h;exact h.elim
  | c::cs,ds,y::ys,zs,h,k=>by
    unfold bJ at h
    show bJ (c::(cs++ds)) (y::(ys++zs))
    unfold bJ
    exact ⟨h.1,bJ.append h.2 k⟩
def isAggP (P : Program) (t : TypeId) : Bool:=match P.underlying t with
  | some (.struct _)=>true
  | _=>false
def fieldsSh (P : Program) (f : TypeId→Option (List CSh)) : Nat→List Field→Option (List CSh)
  | _,[]=>some []
  | off,fd::r=>if fd.offset=off then (f fd.type).bind fun cs=>if cs.length=P.cellsOf fd.type then (fieldsSh P f (off+cs.length) r).map (cs++·) else none else none
def shapeOf (P : Program) : Nat→TypeId→Option (List CSh)
  | 0,_=>none
  | n+1,t=>match P.underlying t with
    | some .bool=>some [.b]
    | some (.int k)=>some [.i k]
    | some .string=>some [.s]
    | some (.slice e)=>(shapeOf P n e).bind fun cs=>if cs.length=P.cellsOf e∧0<cs.length∧(isAggP P e=false→cs.length=1) then some [.l (isAggP P e) cs] else none
    | some (.struct fs)=>(fieldsSh P (shapeOf P n) 0 fs.toList).bind fun cs=>if cs.length=P.cellsOf t then some cs else none
    | _=>none
def CellsRep (w : World) (cs : List CSh) (vs : List Value) : Prop:=
  ∃ ys : List PV,bJ cs ys∧ys.length=vs.length∧(∀ (i : Nat) v,vs[i]? = some v→bM v)∧∀ (i : Nat) c v,ys[i]? = some c→vs[i]? = some v→dM w (fun r=>r<w.heap.size) c v
theorem CellsRep.one {w : World} {c : CSh} {x : PV} {v : Value} (h : oP c x) (hc : bM v) (hr : dM w (fun r=>r<w.heap.size) x v) : CellsRep w [c] [v]:=by
  refine ⟨[x],?_,rfl,fun i u hu=>?_,fun i c u hcu hu=>?_⟩
  · unfold bJ;exact ⟨h,by unfold bJ;trivial⟩
  · cases i with
    | zero=>cases hu;exact hc
    | succ i=>simp at hu
  · cases i with
    | zero=>cases hu;cases hcu;exact hr
    | succ i=>simp at hu
theorem CellsRep.append {w : World} {cs ds : List CSh} {vs us : List Value} (h : CellsRep w cs vs) (k : CellsRep w ds us) : CellsRep w (cs++ds) (vs++us):=by
  obtain ⟨ys,h1,h2,h3,h4⟩:=h
  obtain ⟨zs,k1,k2,k3,k4⟩:=k
  refine ⟨ys++zs,h1.append k1,by simp [h2,k2],fun i v hv=>?_,fun i c v hc hv=>?_⟩
  · rw [List.getElem?_append] at hv
    split at hv
    · exact h3 _ _ hv
    · exact k3 _ _ hv
  · rw [List.getElem?_append] at hv hc
    split at hv
    · rename_i hi
      rw [if_pos (by omega)] at hc
      exact h4 _ _ _ hc hv
    · rename_i hi
      rw [if_neg (by omega),h2] at hc
      exact k4 _ _ _ hc hv
section
variable {H : Type} {enc : TypeId × Value → H} {P : Program} {w : World} {held : Bool}
theorem fields_rep {f : TypeId→Option (List CSh)} {n : Nat} (hf : ∀ t cs,f t=some cs→∀ (vs : List Value) x,DataW.trod enc P w 0 (fun _=>true) held n t vs=some x→CellsRep w cs vs) {vs : List Value} :
    ∀ (fs : List Field) (off : Nat) (cs : List CSh),fieldsSh P f off fs=some cs→off+cs.length≤vs.length→
      (∀ fd∈fs,∃ x,DataW.trod enc P w 0 (fun _=>true) held n fd.type ((vs.drop fd.offset).take (P.cellsOf fd.type))=some x)→CellsRep w cs ((vs.drop off).take cs.length)
  | [],off,cs,h,_,_=>by
    cases h
    exact ⟨[],by unfold bJ;trivial,by simp,fun i v hv=>by simp at hv,fun i c v hc hv=>by simp at hc⟩
  | fd::r,off,cs,h,hl,ha=>by
    unfold fieldsSh at h
    split at h
    rotate_left
    · cases h
    rename_i ho
    obtain ⟨c1,h1,h2⟩:=Option.bind_eq_some_iff.1 h
    split at h2
    rotate_left
    · cases h2
    rename_i hc1
    obtain ⟨c2,h3,rfl⟩:=Option.map_eq_some_iff.1 h2
    rw [List.length_append] at hl
    obtain ⟨x,hx⟩:=ha fd List.mem_cons_self
    rw [ho,← hc1] at hx
    have k1:=hf _ _ h1 _ _ hx
    have k2:=fields_rep hf r (off+c1.length) c2 h3 (by omega) (fun fd' hfd=>ha fd' (List.mem_cons_of_mem _ hfd))
    have e : (vs.drop off).take (c1++c2).length=(vs.drop off).take c1.length++(vs.drop (off+c1.length)).take c2.length:=by
      rw [List.length_append,List.take_add,List.drop_drop]
    rw [e]
    exact k1.append k2
theorem cells_rep : ∀ (n : Nat) (t : TypeId) (cs : List CSh),shapeOf P n t=some cs→∀ (fuel : Nat) (vs : List Value) (x : DataW H × List MemPlace),DataW.trod enc P w 0 (fun _=>true) held fuel t vs=some x→CellsRep w cs vs
  | 0,_,_,h,_,_,_,_=>by cases h
  | n+1,t,cs,h,fuel,vs,x,hx=>by
    unfold shapeOf at h
    split at h
    · rename_i hu
      cases h
      obtain ⟨b,rfl,_⟩:=DataW.trod_bool hu hx
      exact .one (by unfold oP;exact ⟨b,rfl⟩) trivial (.bool b)
    · rename_i k hu
      cases h
      obtain ⟨z,rfl,_,hw⟩:=DataW.trod_int hu hx
      exact .one (by unfold oP;exact ⟨z,rfl,hw⟩) trivial (.int k z)
    · rename_i hu
      cases h
      obtain ⟨s,rfl,_,hs⟩:=DataW.trod_string hu hx
      exact .one (by unfold oP;exact ⟨s,rfl,hs⟩) trivial (.str s)
    · rename_i e hu
      obtain ⟨cs',h1,h2⟩:=Option.bind_eq_some_iff.1 h
      split at h2
      rotate_left
      · cases h2
      rename_i hc
      obtain ⟨hc1,hc2,hc3⟩:=hc
      cases h2
      rcases DataW.trod_slice hu hx with ⟨rfl,_⟩ | ⟨a,len,cap,elems,rest,m,hfu,rfl,_,hb,hle,hcap,hel,hE,_,_⟩
      · exact .one (by unfold oP;exact ⟨[],rfl,by simp,fun e he=>by cases he⟩) trivial (.empty none 0)
      have els : ∀ i,i<len→∃ vs : List Value,w.cells? 0 (a.add (i*P.cellsOf e)) (P.cellsOf e)=some vs∧CellsRep w cs' vs:=by
        intro i hi
        have:=hE i hi
        rw [List.getElem?_eq_getElem (by omega)] at this
        obtain ⟨vs,h3,h4⟩:=Option.bind_eq_some_iff.1 this
        exact ⟨vs,h3,cells_rep n e cs' h1 m vs _ h4⟩
      by_cases h0 : len=0
      · subst h0
        exact .one (by unfold oP;exact ⟨[],rfl,by simp,fun e he=>by cases he⟩) trivial (.empty (some a) cap)
      have hsz : 0<P.cellsOf e:=by omega
      have cell : ∀ i j,i<len→j<P.cellsOf e→∀ vs,w.cells? 0 (a.add (i*P.cellsOf e)) (P.cellsOf e)=some vs→w.cell? ((a.add (i*P.cellsOf e)).add j)=vs[j]?:=by
        intro i j hi hj vs hv
        exact (World.cells?_some hv).2.2 j hj
      have hlen : ∀ i,i<len→∀ vs,w.cells? 0 (a.add (i*P.cellsOf e)) (P.cellsOf e)=some vs→vs.length=P.cellsOf e:=fun i _ vs hv=>(World.cells?_some hv).2.1
      obtain ⟨v0,hv0,_⟩:=els 0 (by omega)
      have hl0:=hlen 0 (by omega) v0 hv0
      have hc0:=cell 0 0 (by omega) hsz v0 hv0
      rw [Nat.zero_mul] at hc0
      have ea : (a.add 0).add 0=a:=rfl
      rw [ea,List.getElem?_eq_getElem (by omega)] at hc0
      have hspot : a.spot=none∧∃ c ty fz,w.heap[a.block]? = some (.cells c ty fz):=by
        unfold World.cell? at hc0
        split at hc0
        · rename_i c ty fz hh
          split at hc0
          · cases hc0
          · rename_i hs;exact ⟨by simpa using hs,c,ty,fz,hh⟩
        · cases hc0
      obtain ⟨hs,c,ty,fz,hh⟩:=hspot
      have hblk : a.block<w.heap.size:=(Array.getElem?_eq_some_iff.1 hh).1
      have ha : a=⟨a.block,a.off,none⟩:=by cases a;simp at hs;rw [hs]
      have addr : ∀ i j,(a.add i).add j=⟨a.block,a.off+i+j,none⟩:=by
        intro i j
        rw [ha]
        unfold Addr.add
        by_cases hi : i=0
        · by_cases hj : j=0
          · simp [hi,hj]
          · simp [hi,hj]
        · by_cases hj : j=0
          · simp [hi,hj]
          · simp [hi,hj]
      have atc : ∀ i j,i<len→j<P.cellsOf e→∀ vs,w.cells? 0 (a.add (i*P.cellsOf e)) (P.cellsOf e)=some vs→c[a.off+i*P.cellsOf e+j]? = vs[j]?:=by
        intro i j hi hj vs hv
        have:=cell i j hi hj vs hv
        rw [addr] at this
        unfold World.cell? at this
        rw [hh] at this
        simpa using this
      have pick : ∀ i : Fin len,∃ (vs : List Value) (ys : List PV),w.cells? 0 (a.add (i.val*P.cellsOf e)) (P.cellsOf e)=some vs∧bJ cs' ys∧ys.length=vs.length∧(∀ (j : Nat) v,vs[j]? = some v→bM v)∧
          ∀ (j : Nat) c v,ys[j]? = some c→vs[j]? = some v→dM w (fun r=>r<w.heap.size) c v:=by
        intro i
        obtain ⟨vs,h3,ys,h4,h5,h6,h7⟩:=els i.val i.isLt
        exact ⟨vs,ys,h3,h4,h5,h6,h7⟩
      let vsF : Fin len→List Value:=fun i=>(pick i).choose
      let ysF : Fin len→List PV:=fun i=>(pick i).choose_spec.choose
      have spec : ∀ i,w.cells? 0 (a.add (i.val*P.cellsOf e)) (P.cellsOf e)=some (vsF i)∧bJ cs' (ysF i)∧(ysF i).length=(vsF i).length∧(∀ (j : Nat) v,(vsF i)[j]? = some v→bM v)∧
          ∀ (j : Nat) c v,(ysF i)[j]? = some c→(vsF i)[j]? = some v→dM w (fun r=>r<w.heap.size) c v:=fun i=>(pick i).choose_spec.choose_spec
      let el : List PV→PV:=fun ys=>if isAggP P e then .agg ys else ys.headD .hole
      let xs : List PV:=List.ofFn fun i=>el (ysF i)
      have hxl : xs.length=len:=by simp [xs]
      have hxs : ∀ (i : Nat) x,xs[i]? = some x→∃ h : i<len,x=el (ysF ⟨i,h⟩):=by
        intro i x hx
        obtain ⟨hi,rfl⟩:=List.getElem?_eq_some_iff.1 hx
        rw [hxl] at hi
        exact ⟨hi,by simp [xs]⟩
      have ylen : ∀ i,(ysF i).length=P.cellsOf e:=fun i=>by rw [(spec i).2.2.1];exact hlen i.val i.isLt _ (spec i).1
      have cellOf : ∀ (i : Fin len) j,j<P.cellsOf e→(ysF i)[j]? = some (bS (isAggP P e) (el (ysF i)) j):=by
        intro i j hj
        have hy:=ylen i
        by_cases hg : isAggP P e=true
        · simp only [el,hg,if_true,bS]
          rw [List.getD_eq_getElem?_getD,List.getElem?_eq_getElem (by omega)];rfl
        · have hg : isAggP P e=false:=by simpa using hg
          have h1 : cs'.length=1:=hc3 hg
          have hj0 : j=0:=by omega
          subst hj0
          simp only [el,hg,bS]
          cases hq : ysF i with
          | nil=>rw [hq] at hy;simp at hy;omega
          | cons y r=>simp
      refine .one (x:=.lst xs) ?_ trivial ?_
      · unfold oP
        refine ⟨xs,rfl,by rw [hxl];omega,fun e' he=>?_⟩
        obtain ⟨i,hi⟩:=List.getElem?_of_mem he
        obtain ⟨hlt,rfl⟩:=hxs i e' hi
        have hF:=(spec ⟨i,hlt⟩).2.1
        by_cases hg : isAggP P e=true
        · rw [if_pos hg]
          exact ⟨ysF ⟨i,hlt⟩,by simp [el,hg],hF⟩
        · rw [if_neg hg]
          have h1 : cs'.length=1:=hc3 (by simpa using hg)
          have hy:=hF.len
          have : [el (ysF ⟨i,hlt⟩)]=ysF ⟨i,hlt⟩:=by
            cases hq : ysF ⟨i,hlt⟩ with
            | nil=>rw [hq] at hy;simp at hy;omega
            | cons y r=>
              rw [hq] at hy
              simp only [List.length_cons] at hy
              have : r = []:=List.length_eq_zero_iff.1 (by omega)
              simp [el,hg,this]
          rw [this];exact hF
      · have key : ∀ len',xs.length=len'→dM w (fun r=>r<w.heap.size) (.lst xs) (.slice (some a) len' cap):=by
          intro len' hl'
          subst hl'
          rw [ha]
          refine dM.lst (w:=w) (Z:=fun r=>r<w.heap.size) xs a.block a.off (P.cellsOf e) cap (isAggP P e) c ty fz (fun i j=>if h : i<len then (vsF ⟨i,h⟩).getD j .nilFunc else .nilFunc) hblk hh hsz (by omega) ?_ ?_ ?_ ?_
          · intro i x hx
            obtain ⟨hlt,rfl⟩:=hxs i x hx
            have hy:=ylen ⟨i,hlt⟩
            by_cases hg : isAggP P e=true
            · simp [el,hg,PV.isEl,hy]
            · have hg : isAggP P e=false:=by simpa using hg
              have h1 : cs'.length=1:=hc3 hg
              have hF:=(spec ⟨i,hlt⟩).2.1
              cases hq : ysF ⟨i,hlt⟩ with
              | nil=>rw [hq] at hy;simp at hy;omega
              | cons y r=>
                rw [hq] at hF
                cases hcs : cs' with
                | nil=>rw [hcs] at h1;simp at h1
                | cons c0 cr=>
                  rw [hcs] at hF
                  unfold bJ at hF
                  have hf0:=hF.1
                  have e1 : P.cellsOf e=1:=by omega
                  simp only [el,hg,List.headD_cons]
                  rw [e1]
                  cases c0 with
                  | b=>unfold oP at hf0;obtain ⟨_,rfl⟩:=hf0;rfl
                  | i k=>unfold oP at hf0;obtain ⟨_,rfl,_⟩:=hf0;rfl
                  | s=>unfold oP at hf0;obtain ⟨_,rfl,_⟩:=hf0;rfl
                  | l g q=>unfold oP at hf0;obtain ⟨_,rfl,_⟩:=hf0;rfl
          · intro i j hi hj
            rw [hxl] at hi
            simp only [dif_pos hi]
            have hl:=hlen i hi _ (spec ⟨i,hi⟩).1
            rw [atc i j hi hj _ (spec ⟨i,hi⟩).1,List.getD_eq_getElem?_getD,List.getElem?_eq_getElem (by omega)];rfl
          · intro i j hi hj
            rw [hxl] at hi
            simp only [dif_pos hi]
            have hl:=hlen i hi _ (spec ⟨i,hi⟩).1
            refine (spec ⟨i,hi⟩).2.2.2.1 j _ ?_
            rw [List.getD_eq_getElem?_getD,List.getElem?_eq_getElem (by omega)];rfl
          · intro i j x hx hj
            obtain ⟨hi,rfl⟩:=hxs i x hx
            simp only [dif_pos hi]
            have hl:=hlen i hi _ (spec ⟨i,hi⟩).1
            refine (spec ⟨i,hi⟩).2.2.2.2 j _ _ (cellOf ⟨i,hi⟩ j hj) ?_
            rw [List.getD_eq_getElem?_getD,List.getElem?_eq_getElem (by omega)];rfl
        exact key len hxl
    · rename_i fs hu
      obtain ⟨cs',h1,h2⟩:=Option.bind_eq_some_iff.1 h
      split at h2
      rotate_left
      · cases h2
      rename_i hc
      cases h2
      obtain ⟨xs,m,rfl,_,hl,hxl,hf⟩:=DataW.trod_struct hu hx
      have:=fields_rep (f:=shapeOf P n) (n:=m) (enc:=enc) (held:=held) (fun t cs h vs x hx=>cells_rep n t cs h m vs x hx) (vs:=vs) fs.toList 0 cs h1 (by omega) (fun fd hfd=>by
        obtain ⟨i,hi⟩:=List.getElem?_of_mem hfd
        have hi' : fs[i]? = some fd:=by simpa using hi
        have hlt : i<xs.length:=by rw [hxl];exact (Array.getElem?_eq_some_iff.1 hi').1
        exact ⟨_,(hf i fd hi').trans (List.getElem?_eq_getElem hlt)⟩)
      rw [List.drop_zero,List.take_of_length_le (by omega)] at this
      exact this
    · cases h
def FitsArg (g : Bool) (cs : List CSh) (x : PV) : Prop:=if g then ∃ ys,x = .agg ys∧bJ cs ys else bJ cs [x]
theorem arg_agg {t : TypeId} {cs : List CSh} {v : Value} {p : DataW H × List MemPlace} {us : Array Value} {n fuel : Nat} (hv : v = .agg us) (hs : shapeOf P n t=some cs) (hx : DataW.trod enc P w 0 (fun _=>true) held fuel t v.cells.toList=some p) :
    ∃ x,FitsArg true cs x∧dM w (fun r=>r<w.heap.size) x v:=by
  obtain ⟨ys,h1,h2,h3,h4⟩:=cells_rep n t cs hs fuel _ _ hx
  subst hv
  refine ⟨.agg ys,?_,?_⟩
  · unfold FitsArg;rw [if_pos rfl];exact ⟨ys,rfl,h1⟩
  · have:=dM.agg (w:=w) (Z:=fun r=>r<w.heap.size) ys us.toList h2 h3 h4
    simpa using this
theorem arg_one {t : TypeId} {c : CSh} {v : Value} {p : DataW H × List MemPlace} {n fuel : Nat} (hv : v.cells = #[v]) (hs : shapeOf P n t=some [c]) (hx : DataW.trod enc P w 0 (fun _=>true) held fuel t v.cells.toList=some p) :
    ∃ x,FitsArg false [c] x∧dM w (fun r=>r<w.heap.size) x v:=by
  obtain ⟨ys,h1,h2,h3,h4⟩:=cells_rep n t [c] hs fuel _ _ hx
  rw [hv] at h2 h3 h4
  match ys,h2 with
  | [y],_=>
    refine ⟨y,?_,h4 0 y v rfl rfl⟩
    unfold FitsArg
    rw [if_neg (by simp)]
    exact h1
end
end Go.Proofs.Ythkofpnllaapeaa
namespace Go.Proofs.Ythkofpnllaapeaa
open Go Go.IntWalk
attribute [local irreducible] bd PV.ite PV.guardFlat PV.guardOwn PV.whole PV.one PV.cell PV.sub PV.at_ PV.len PV.slen PV.chr PV.beq PV.peq PV.ceq PV.bin PV.neg PV.not PV.conv PV.cut PV.scut PV.cat PV.setAt PV.setCell PV.ncopy PV.copyIn PV.zeros PV.toStr PV.toBytes PV.deref PV.isPtr PV.comp PV.inb PV.off PV.imin PV.imax PV.sel PV.apply PV.isLst PV.isInt PV.ix PV.nilT
theorem aHK {m : cZ} (h : m.okB=true) : m.sized:=by
  simp only [cZ.okB,Bool.and_eq_true,aR,decide_eq_true_eq,List.all_eq_true,mJ,fG] at h
  obtain ⟨h1,h2,h3,h4⟩:=h
  exact ⟨by omega,by omega,fun t ht=>by have:=(h3 t ht).1;omega,fun f hf=>by have:=(h4 f hf).2.2.1;omega⟩
theorem aFv {m : cZ} (h : fU m=true) : m.sized:=by
  simp only [fU,Bool.and_eq_true] at h
  exact aHK h.1
theorem aIl : zM.sized:=⟨by simp [zM],by simp [zM],fun t ht=>by simp [zM] at ht,fun f hf=>by simp [zM] at hf⟩
theorem aGh (m : cZ) (f pc : Int) : (rN m f pc).sized:=by
  unfold rN
  repeat' split
  all_goals first
    | exact aIl
    | (rename_i h;exact aFv h)
section
variable {P : R → Prop} {k : R → Option R}
theorem aGK {m : cZ} (h : m.sized) (hk : Ok P (k m.rows)) : Ok P (bd (fF m.pv) k):=aK (aJq h) (fun r hr=>by rw [hr];exact hk)
theorem rO {m : cZ} {o : Option R} (h : Ok P o) : Ok P (PV.guardOwn (.own 1 16 false []) (gd m.rows 0) (PV.guardOwn (.own 3 40 true [.leaf,.leaf,.own 2 16 true []]) (gd m.rows 1) o)):=
  gX (oH _) (gX (rM _) h)
theorem aEo {m : cZ} (h : m.sized) (hk : Ok P (k [.bool true])) : Ok P (bd (fE m.pv m.pv) k):=uA (aJv h) hk
theorem aBa {o : Option R} {x : Option R} (h : Ok P o) : Ok P (PV.guardFlat (hd [.bool true]) (bd (PV.not (hd [.bool true])) fun v=>PV.ite v x o)):=mL rfl (cE (dN h))
end
theorem aHL {m : cZ} (h : m.wide) {f pc : Int} : Ok (fun r=>r = [.bool true]) (jY m.pv (.int .i64 f) (.int .i64 pc)):=by
  rw [tJ]
  refine aL rfl (aA rfl (aA rfl (xW (aJs h (by omega) (by omega)) (fun z z1 z2 z3=>aF (aC (fun _=>aB rfl) (fun hz=>?_))))))
  have hs : m.sized:=z3 (by omega)
  have hos:=aGh m f pc
  generalize ho : rN m f pc=o at hos
  have hsp : Ok (fun r=>r=o.rows) (rI m.pv (.int .i64 f) (.int .i64 pc)):=by rw [← ho];exact aGf hs
  have him : Ok (fun r=>r=o.rows) (nT m.pv (.int .i64 f) (.int .i64 pc)):=by rw [← ho];exact aGg hs
  refine aGK hs (rO (aK hsp (fun r hr=>?_)))
  subst hr
  refine rO (aGK hs (rO (aK him (fun r hr=>?_))))
  subst hr
  refine rO (aEo hos (aBa (aGK hs (rO (aEo hs (aBa ?_))))))
  refine aK (aFb (m:=m) (q:=1) hs (by omega) (by omega)) (fun r hr=>?_)
  subst hr
  refine aF (aC (fun h=>absurd h (by omega)) (fun _=>aEo hos (aBa ?_)))
  refine aK (aFb (m:=o) (q:=1) hos (by omega) (by omega)) (fun r hr=>?_)
  subst hr
  refine aK (aFc (m:=o) (q:=1) hos (by omega) (by omega)) (fun r hr=>?_)
  subst hr
  refine mL rfl (aF (aC (fun h=>absurd h (by omega)) (fun _=>dC (bA (fun h=>absurd rfl h) (fun _=>?_)))))
  refine aGK hs (rO (aK him (fun r hr=>?_)))
  subst hr
  refine rO (aEo hos (aBa ?_))
  refine aK (aFc (m:=o) (q:=1) hos (by omega) (by omega)) (fun r hr=>?_)
  subst hr
  exact mL rfl (aF (aC (fun h=>absurd h (by omega)) (fun _=>dC (bA (fun h=>absurd rfl h) (fun _=>aB rfl)))))
theorem aCx {k : IntKind} {x : PV} (h : oP (.i k) x) : ∃ n,x = .int k n∧(Lit.int k n).wf=true:=by unfold oP at h;exact h
theorem aJE {x : PV} (h : oP .s x) : ∃ t : ByteArray,x = .str t∧t.size≤maxLen:=by unfold oP at h;exact h
theorem aGi {g : Bool} {cs : List CSh} {x : PV} (h : oP (.l g cs) x) : ∃ xs,x = .lst xs∧xs.length≤maxLen∧∀ e∈xs,if g then ∃ ys,e = .agg ys∧bJ cs ys else bJ cs [e]:=by unfold oP at h;exact h
theorem aCy {ys : List PV} (h : bJ [] ys) : ys = []:=by cases ys with | nil=>rfl | cons y r=>unfold bJ at h;exact h.elim
theorem iM {c : CSh} {cs : List CSh} {ys : List PV} (h : bJ (c::cs) ys) : ∃ y r,ys=y::r∧oP c y∧bJ cs r:=by
  cases ys with
  | nil=>unfold bJ at h;exact h.elim
  | cons y r=>unfold bJ at h;exact ⟨y,r,rfl,h.1,h.2⟩
theorem aBb {α : Type} {f : α→PV} {B : α→Prop} : ∀ {xs : List PV},(∀ e∈xs,∃ a,e=f a∧B a)→∃ l : List α,xs=l.map f∧∀ a∈l,B a
  | [],_=>⟨[],rfl,fun a h=>by cases h⟩
  | x::r,h=>by
    obtain ⟨a,rfl,ha⟩:=h x List.mem_cons_self
    obtain ⟨l,rfl,hl⟩:=aBb (fun e he=>h e (List.mem_cons_of_mem _ he))
    refine ⟨a::l,rfl,fun b hb=>?_⟩
    rcases List.mem_cons.1 hb with rfl | hb
    · exact ha
    · exact hl b hb
def aEp : CSh:=.l false [.s]
def aIm : CSh:=.l true [.i .i64,.i .i64]
def aEq : CSh:=.l true [.i .i64,.i .i64,aIm]
theorem aI3 {x : PV} (h : oP aEp x) : ∃ l : List ByteArray,x = .lst (l.map PV.str)∧l.length≤9223372036854775807∧∀ t∈l,t.size≤9223372036854775807:=by
  obtain ⟨xs,rfl,hl,he⟩:=aGi h
  obtain ⟨l,rfl,hs⟩:=aBb (f:=PV.str) (B:=fun t=>t.size≤9223372036854775807) (xs:=xs) (fun e hm=>by
    have h1:=he e hm
    rw [if_neg (by simp)] at h1
    obtain ⟨y,r,e1,h2,_⟩:=iM h1
    cases e1
    obtain ⟨t,rfl,ht⟩:=aJE h2
    exact ⟨t,rfl,by unfold maxLen at ht;omega⟩)
  exact ⟨l,rfl,by rw [List.length_map] at hl;unfold maxLen at hl;omega,hs⟩
theorem aIn {x : PV} (h : oP aIm x) : ∃ l : List aE,x = .lst (l.map aE.pv)∧l.length≤9223372036854775807:=by
  obtain ⟨xs,rfl,hl,he⟩:=aGi h
  obtain ⟨l,rfl,hs⟩:=aBb (f:=aE.pv) (B:=fun _=>True) (xs:=xs) (fun e hm=>by
    have h1:=he e hm
    rw [if_pos rfl] at h1
    obtain ⟨ys,rfl,h2⟩:=h1
    obtain ⟨y1,r1,rfl,g1,h2⟩:=iM h2
    obtain ⟨y2,r2,rfl,g2,h2⟩:=iM h2
    cases aCy h2
    obtain ⟨a,rfl,_⟩:=aCx g1
    obtain ⟨b,rfl,_⟩:=aCx g2
    exact ⟨⟨a,b⟩,rfl,trivial⟩)
  exact ⟨l,rfl,by rw [List.length_map] at hl;unfold maxLen at hl;omega⟩
theorem aIo {x : PV} (h : oP aEq x) : ∃ l : List bN,x = .lst (l.map bN.pv)∧l.length≤9223372036854775807∧∀ f∈l,f.code.length≤9223372036854775807:=by
  obtain ⟨xs,rfl,hl,he⟩:=aGi h
  obtain ⟨l,rfl,hs⟩:=aBb (f:=bN.pv) (B:=fun f=>f.code.length≤9223372036854775807) (xs:=xs) (fun e hm=>by
    have h1:=he e hm
    rw [if_pos rfl] at h1
    obtain ⟨ys,rfl,h2⟩:=h1
    obtain ⟨y1,r1,rfl,g1,h2⟩:=iM h2
    obtain ⟨y2,r2,rfl,g2,h2⟩:=iM h2
    obtain ⟨y3,r3,rfl,g3,h2⟩:=iM h2
    cases aCy h2
    obtain ⟨a,rfl,_⟩:=aCx g1
    obtain ⟨b,rfl,_⟩:=aCx g2
    obtain ⟨c,rfl,hc⟩:=aIn g3
    exact ⟨⟨a,b,c⟩,rfl,hc⟩)
  exact ⟨l,rfl,by rw [List.length_map] at hl;unfold maxLen at hl;omega,hs⟩
theorem aI4 {x : PV} (h : FitsArg true [aEp,aEq] x) : ∃ m : cZ,x=m.pv∧m.wide:=by
  unfold FitsArg at h
  rw [if_pos rfl] at h
  obtain ⟨ys,rfl,h⟩:=h
  obtain ⟨y1,r1,rfl,g1,h⟩:=iM h
  obtain ⟨y2,r2,rfl,g2,h⟩:=iM h
  cases aCy h
  obtain ⟨t,rfl,t1,t2⟩:=aI3 g1
  obtain ⟨f,rfl,f1,f2⟩:=aIo g2
  exact ⟨⟨t,f⟩,rfl,t1,f1,t2,f2⟩
theorem aIp {x : PV} (h : FitsArg false [.i .i64] x) : ∃ n,x = .int .i64 n:=by
  unfold FitsArg at h
  rw [if_neg (by simp)] at h
  obtain ⟨y,r,e,g,_⟩:=iM h
  cases e
  obtain ⟨n,rfl,_⟩:=aCx g
  exact ⟨n,rfl⟩
theorem aFw {x0 x1 x2 : PV} (h0 : FitsArg true [aEp,aEq] x0) (h1 : FitsArg false [.i .i64] x1) (h2 : FitsArg false [.i .i64] x2) : jY x0 x1 x2=some [.bool true]:=by
  obtain ⟨m,rfl,hm⟩:=aI4 h0
  obtain ⟨f,rfl⟩:=aIp h1
  obtain ⟨pc,rfl⟩:=aIp h2
  exact (aHL hm).eq
end Go.Proofs.Ythkofpnllaapeaa
