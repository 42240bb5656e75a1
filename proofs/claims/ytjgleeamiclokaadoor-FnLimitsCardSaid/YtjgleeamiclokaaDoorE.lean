/-
  Texts of the proof, part 5: a value-level evaluator and its soundness, what the functions compute, laws about it.
  Conditions: none.
-/
import Derived.Test.YtjgleeamiclokaaDoorD
import Derived.Calls
import Derived.KernelRfl
import Derived.Orders
import Derived.Test.YtjgleeamiclokaaDoorProg
import Derived.Lib.AppendIntMem
import Derived.Lib.ItoaNum
import Derived.Laws.IdiomCopy
import Derived.Laws.Cells
import Derived.Below
import Derived.Laws.StructEq
import Derived.Laws.BytesString
import Derived.Laws.NewFold
import Derived.Laws.Tables
import Derived.Great.FillDense
import Derived.Shelf.Spec.SlicesGrow
import Derived.Shelf.Strconv.Itoa3
import Derived.Shelf.SlGeneric
import Derived.Ground.NamesProg
import Derived.Ground.Names8Prog
import Derived.IntWalk
import Derived.WalkKit
import Derived.ProofKit
import Derived.OpenShut
import Derived.ShutString
import Derived.ChangeOld
import Derived.Lib.Strings
set_option linter.all false
namespace Go.Proofs.YtjgleeamiclokaaDoor
open Go
attribute [local irreducible] bd PV.ite PV.guardFlat PV.guardOwn PV.whole PV.one PV.cell PV.sub PV.at_ PV.len PV.slen PV.chr PV.beq PV.peq PV.ceq PV.bin PV.neg PV.not PV.conv PV.cut PV.scut PV.cat PV.setAt PV.setCell PV.ncopy PV.copyIn PV.zeros PV.toStr PV.toBytes PV.deref PV.isPtr PV.comp PV.inb PV.off PV.imin PV.imax PV.sel PV.apply PV.isLst PV.isInt PV.ix PV.nilT
def Bts (l : List Int) : Prop:=(∀ x∈l,0≤x∧x≤255)∧l.length≤1048576
def aHq (l : List Int) (n a : Int) (r : R) : Prop:=∃ v a' s' : Int,r = [.int .i64 v,bW l,.int .i64 a',.int .i64 s']∧0≤v∧(v<n∨v=0)∧a≤a'∧a'≤a+1∧0≤s'∧s'<65521
section
variable {P : R → Prop} {k : R → Option R} {l : List Int} {a s : Int}
end
structure bI where
  o : Int
  a : Int
  deriving DecidableEq
structure dL where
  p : Int
  lc : Int
  code : List bI
  deriving DecidableEq
structure dD where
  texts : List ByteArray
  funcs : List dL
def bI.pv (x : bI) : PV:=.agg [.int .i64 x.o,.int .i64 x.a]
def dL.pv (f : dL) : PV:=.agg [.int .i64 f.p,.int .i64 f.lc,.lst (f.code.map bI.pv)]
def dD.pv (m : dD) : PV:=.agg [.lst (m.texts.map PV.str),.lst (m.funcs.map dL.pv)]
def eK (n lo hi : Int) : Bool:=decide (lo≤n)&&decide (n≤hi)
def chB (c : UInt8) : Bool:=!(decide ((c.toNat : Int)<32))&&(!(decide ((126 : Int)<c.toNat))&&!(decide ((c.toNat : Int)=34)))
def eL (s : ByteArray) : Bool:=decide ((s.size : Int)≤60)&&s.data.toList.all chB
def bF (nt nf lc nc o a : Int) : Bool:=
  if o=1 then eK a (-1000000000) 1000000000 else if o=2 then eK a 0 1 else if o=3 then eK a 0 (nt - 1) else if o=5 then eK a 0 (nf - 1) else if o=24 then eK a 0 (nf - 1)
  else if o=6 then eK a 0 (lc - 1) else if o=7 then eK a 0 (lc - 1) else if o=17 then eK a 0 (nc - 1) else if o=18 then eK a 0 (nc - 1) else if o=19 then eK a 0 (nc - 1)
  else if o=20 then eK a 0 6 else if o=21 then eK a 0 5 else if o=22 then eK a 0 5 else if o=23 then eK a 0 6 else eK o 1 26&&decide (a=0)
def kE (nt nf : Int) (f : dL) : Bool:=eK f.p 0 6&&(eK f.lc f.p 12&&(eK f.code.length 1 120&&f.code.all fun x=>bF nt nf f.lc f.code.length x.o x.a))
def dD.okB (m : dD) : Bool:=eK m.funcs.length 1 12&&(decide ((m.texts.length : Int)≤20)&&(m.texts.all eL&&m.funcs.all (kE m.texts.length m.funcs.length)))
def dD.sized (m : dD) : Prop:=m.texts.length≤1000000∧m.funcs.length≤1000000∧(∀ t∈m.texts,t.size≤1000000)∧∀ f∈m.funcs,f.code.length≤1000000000
section
variable {P : R → Prop} {k : PV → Option R} {α : Type} {f : α → PV} {xs : List α}
theorem cD {s : Nat} {g : Bool} {kk : IntKind} {i : Nat} (hi : i<xs.length) (hel : ∀ a,(f a).isEl s g=true) (h : Ok P (k (f xs[i]))) : Ok P (bd (PV.at_ s g (.lst (xs.map f)) (.int kk (i : Int))) k):=by
  refine aC9 (by omega) (by rw [List.length_map];omega) (fun x hx=>?_) (fun x _ hx=>?_)
  · obtain ⟨a,_,rfl⟩:=List.mem_map.1 hx;exact hel a
  · rw [Int.toNat_natCast,List.getElem?_map,List.getElem?_eq_getElem hi] at hx
    cases hx
    exact h
theorem aI (h : Ok P (k (.int .i64 xs.length))) : Ok P (bd (PV.len (.lst (xs.map f))) k):=by
  refine lN ?_
  rw [List.length_map]
  exact h
theorem aEe {s : ByteArray} {i : Nat} (hi : i<s.data.toList.length) : s[i]? = some s.data.toList[i]:=by
  have h : i<s.size:=by
    have e : s.size=s.data.toList.length:=by rw [Array.length_toList];rfl
    rw [e];exact hi
  rw [getElem?_pos s i h,Array.getElem_toList]
  rfl
theorem tD {s : ByteArray} {kk : IntKind} {i : Nat} (hi : i<s.data.toList.length) (h : Ok P (k (.int .u8 (s.data.toList[i].toNat : Int)))) : Ok P (bd (PV.chr (.str s) (.int kk (i : Int))) k):=by
  refine cH _ ?_ h
  simp only [PV.chr]
  rw [if_pos (by omega),Int.toNat_natCast,aEe hi]
theorem bU {k : R→Option R} {n lo hi : Int} (h : Ok P (k [.bool (eK n lo hi)])) : Ok P (bd (aN (.int .i64 n) (.int .i64 lo) (.int .i64 hi)) k):=by
  refine aH (Q:=fun r=>r = [.bool (eK n lo hi)]) ?_ (fun r hr=>by rw [hr];exact h)
  rw [kK]
  refine nB (aC (fun h1=>nB (aA ?_)) (fun h1=>aA ?_))
  · simp [eK,h1]
  · simp [eK,h1]
theorem bV {k : R→Option R} {n m : Int} (hm : -1000000000≤m∧m≤1000000000) (h : Ok P (k [.bool (eK n 0 (m - 1))])) : Ok P (bd (aP (.int .i64 n) (.int .i64 m)) k):=by
  refine aH (Q:=fun r=>r = [.bool (eK n 0 (m - 1))]) ?_ (fun r hr=>by rw [hr];exact h)
  rw [kL]
  exact nC (by omega) (bU (aA rfl))
theorem aAm {k : R→Option R} {n : Int} (h : Ok P (k [.bool (eK n (-1000000000) 1000000000)])) : Ok P (bd (dV (.int .i64 n)) k):=by
  refine aH (Q:=fun r=>r = [.bool (eK n (-1000000000) 1000000000)]) ?_ (fun r hr=>by rw [hr];exact h)
  rw [jX]
  exact bU (aA rfl)
end
theorem qO {α : Type} {xs : List α} {i : Nat} (hi : i<xs.length) (p : α→Bool) : (xs.drop i).all p=(p xs[i]&&(xs.drop (i+1)).all p):=by
  rw [List.drop_eq_getElem_cons hi,List.all_cons]
theorem aFT {c : UInt8} (h : (c.toNat : Int)<32) : chB c=false:=by unfold chB;rw [decide_eq_true h];rfl
theorem aFU {c : UInt8} (h : (126 : Int)<c.toNat) : chB c=false:=by unfold chB;rw [decide_eq_true h];simp
theorem aFV {c : UInt8} (h : (c.toNat : Int)=34) : chB c=false:=by unfold chB;rw [decide_eq_true h];simp
theorem lU {s : ByteArray} (hs : s.size≤1000000) : ∀ (j i : Nat),s.data.toList.length - i=j→i≤s.data.toList.length→
    Ok (fun r=>r = [.bool (decide ((s.size : Int)≤60)&&(s.data.toList.drop i).all chB)]) (cY (.str s) (.int .i64 s.size) (.int .i64 i)):=by
  have hsz : s.size=s.data.toList.length:=by rw [Array.length_toList];rfl
  intro j
  induction j with
  | zero=>
    intro i h1 h2
    have : i=s.data.toList.length:=by omega
    rw [eT]
    refine aS (aC (fun h=>by omega) (fun _=>rF (nB (aA ?_))))
    rw [this,List.drop_length]
    simp
  | succ j ih=>
    intro i h1 h2
    have hi : i<s.data.toList.length:=by omega
    rw [eT,qO hi]
    refine aS (aC (fun _=>?_) (fun h=>by omega))
    refine tD hi (aS (aC (fun h=>aA (by rw [aFT h];simp)) (fun h3=>?_)))
    refine tD hi (oK (aC (fun h=>aA (by rw [aFU h];simp)) (fun h4=>?_)))
    refine tD hi (aE (aC (fun h=>aA (by rw [aFV h];simp)) (fun h5=>?_)))
    refine bC (by omega) ((ih (i+1) (by omega) (by omega)).mono ?_)
    rintro r rfl
    have : chB s.data.toList[i]=true:=by unfold chB;rw [decide_eq_false h3,decide_eq_false h4,decide_eq_false h5];rfl
    rw [this,Bool.true_and]
theorem rG {s : ByteArray} (hs : s.size≤1000000) : Ok (fun r=>r = [.bool (eL s)]) (eS (.str s)):=by
  rw [lR]
  refine rF ((lU hs _ 0 rfl (by omega)).mono ?_)
  rintro r rfl
  rw [List.drop_zero]
  rfl
theorem aAn {ts : List ByteArray} {fs : List dL} {f : dL} {x : bI} (ht : ts.length≤1000000) (hf : fs.length≤1000000) (hlc : 0≤f.lc∧f.lc≤12) (hc : f.code.length≤1000) :
    Ok (fun r=>r = [.bool (bF ts.length fs.length f.lc f.code.length x.o x.a)]) (iN (.agg [.lst (ts.map PV.str),.lst (fs.map dL.pv)]) f.pv x.pv):=by
  rw [nE]
  refine aG rfl (aB rfl (aB rfl (aG rfl (aB rfl (aB rfl (aB rfl (aG rfl (aB rfl (aB rfl ?_)))))))))
  refine aE (aC (fun h=>aAm (aA (by simp [hd,bF,h]))) (fun h1=>?_))
  refine aE (aC (fun h=>bU (aA (by simp [hd,bF,h]))) (fun h2=>?_))
  refine aE (aC (fun h=>aI (bV (by omega) (aA (by simp [hd,bF,h])))) (fun h3=>?_))
  refine aE (aC (fun h=>aI (bV (by omega) (aA (by simp [hd,bF,h])))) (fun h5=>?_))
  refine aE (aC (fun h=>aI (bV (by omega) (aA (by simp [hd,bF,h])))) (fun h24=>?_))
  refine aE (aC (fun h=>bV (by omega) (aA (by simp [hd,bF,h]))) (fun h6=>?_))
  refine aE (aC (fun h=>bV (by omega) (aA (by simp [hd,bF,h]))) (fun h7=>?_))
  refine aE (aC (fun h=>aI (bV (by omega) (aA (by simp [hd,bF,h])))) (fun h17=>?_))
  refine aE (aC (fun h=>aI (bV (by omega) (aA (by simp [hd,bF,h])))) (fun h18=>?_))
  refine aE (aC (fun h=>aI (bV (by omega) (aA (by simp [hd,bF,h])))) (fun h19=>?_))
  refine aE (aC (fun h=>bU (aA (by simp [hd,bF,h]))) (fun h20=>?_))
  refine aE (aC (fun h=>bV (by omega) (aA (by simp [hd,bF,h]))) (fun h21=>?_))
  refine aE (aC (fun h=>bV (by omega) (aA (by simp [hd,bF,h]))) (fun h22=>?_))
  refine aE (aC (fun h=>bU (aA (by simp [hd,bF,h]))) (fun h23=>?_))
  refine bU (bN (fun hb=>aE (aA (by simp [hd,bF,hb,h1,h2,h3,h5,h24,h6,h7,h17,h18,h19,h20,h21,h22,h23]))) (fun hb=>aA (by simp [hd,bF,hb,h1,h2,h3,h5,h24,h6,h7,h17,h18,h19,h20,h21,h22,h23])))
section
variable {ts : List ByteArray} {fs : List dL} (ht : ts.length ≤ 1000000) (hf : fs.length ≤ 1000000)
include ht hf
end
section
variable {P : R → Prop} {k : PV → Option R} {kr : R → Option R}
theorem vV {f : Nat} {caps : List PV} {xs : List bI} (hx : xs.length≤1000000000) (p : bI→Bool) (hp : ∀ x∈xs,Ok (fun r=>r = [.bool (p x)]) (pcallO f ([x.pv]++caps))) : ∀ (j i : Nat),xs.length - i=j→i≤xs.length→
    Ok (fun r=>∃ n : Int,r = [.int .i64 n]∧(0≤n↔(xs.drop i).any p=true)) (aM (.lst (xs.map bI.pv)) (.fn f caps) (.int .i64 xs.length) (.int .i64 i)):=by
  intro j
  induction j with
  | zero=>
    intro i h1 h2
    have : i=xs.length:=by omega
    rw [bD]
    refine aS (aC (fun h=>by omega) (fun _=>aA ⟨-1,rfl,?_⟩))
    rw [this,List.drop_length]
    simp
  | succ j ih=>
    intro i h1 h2
    have hi : i<xs.length:=by omega
    rw [bD]
    refine aS (aC (fun _=>?_) (fun h=>by omega))
    refine cD hi (fun _=>rfl) (jA rfl (hp _ (List.getElem_mem _)) (fun r hr=>?_))
    subst hr
    rw [List.drop_eq_getElem_cons hi,List.any_cons]
    refine bN (fun h=>aA ⟨i,rfl,?_⟩) (fun h=>?_)
    · rw [h];simp
    · refine bC (by omega) ((ih (i+1) (by omega) (by omega)).mono ?_)
      rintro r ⟨n,hr,hn⟩
      exact ⟨n,hr,by rw [h,Bool.false_or];exact hn⟩
theorem vW {f : Nat} {caps : List PV} {xs : List bI} (hx : xs.length≤1000000000) (p : bI→Bool) (hp : ∀ x∈xs,Ok (fun r=>r = [.bool (p x)]) (pcallO f ([x.pv]++caps))) (h : Ok P (kr [.bool (xs.any p)])) :
    Ok P (bd (aQ (.lst (xs.map bI.pv)) (.fn f caps)) kr):=by
  refine aH (Q:=fun r=>r = [.bool (xs.any p)]) ?_ (fun r hr=>by rw [hr];exact h)
  rw [bZ]
  refine aH (Q:=fun r=>∃ n : Int,r = [.int .i64 n]∧(0≤n↔xs.any p=true)) ?_ ?_
  · rw [cN]
    refine aI ?_
    exact vV hx p hp _ 0 rfl (by omega)
  · rintro r ⟨n,rfl,hn⟩
    refine qF (aA ?_)
    have : decide (0≤n)=xs.any p:=by
      by_cases h : 0≤n
      · rw [decide_eq_true h,hn.1 h]
      · rw [decide_eq_false h]
        cases h2 : xs.any p with
        | false=>rfl
        | true=>exact absurd (hn.2 h2) h
    rw [this]
theorem vX {f : Nat} {caps : List PV} {xs : List ByteArray} (hx : xs.length≤1000000000) (p : ByteArray→Bool) (hp : ∀ x∈xs,Ok (fun r=>r = [.bool (p x)]) (pcallO f ([.str x]++caps))) : ∀ (j i : Nat),xs.length - i=j→i≤xs.length→
    Ok (fun r=>∃ n : Int,r = [.int .i64 n]∧(0≤n↔(xs.drop i).any p=true)) (aO (.lst (xs.map PV.str)) (.fn f caps) (.int .i64 xs.length) (.int .i64 i)):=by
  intro j
  induction j with
  | zero=>
    intro i h1 h2
    have : i=xs.length:=by omega
    rw [bH]
    refine aS (aC (fun h=>by omega) (fun _=>aA ⟨-1,rfl,?_⟩))
    rw [this,List.drop_length]
    simp
  | succ j ih=>
    intro i h1 h2
    have hi : i<xs.length:=by omega
    rw [bH]
    refine aS (aC (fun _=>?_) (fun h=>by omega))
    refine cD hi (fun _=>rfl) (jA rfl (hp _ (List.getElem_mem _)) (fun r hr=>?_))
    subst hr
    rw [List.drop_eq_getElem_cons hi,List.any_cons]
    refine bN (fun h=>aA ⟨i,rfl,?_⟩) (fun h=>?_)
    · rw [h];simp
    · refine bC (by omega) ((ih (i+1) (by omega) (by omega)).mono ?_)
      rintro r ⟨n,hr,hn⟩
      exact ⟨n,hr,by rw [h,Bool.false_or];exact hn⟩
theorem vY {f : Nat} {caps : List PV} {xs : List ByteArray} (hx : xs.length≤1000000000) (p : ByteArray→Bool) (hp : ∀ x∈xs,Ok (fun r=>r = [.bool (p x)]) (pcallO f ([.str x]++caps))) (h : Ok P (kr [.bool (xs.any p)])) :
    Ok P (bd (aW (.lst (xs.map PV.str)) (.fn f caps)) kr):=by
  refine aH (Q:=fun r=>r = [.bool (xs.any p)]) ?_ (fun r hr=>by rw [hr];exact h)
  rw [cP]
  refine aH (Q:=fun r=>∃ n : Int,r = [.int .i64 n]∧(0≤n↔xs.any p=true)) ?_ ?_
  · rw [cV]
    refine aI ?_
    exact vX hx p hp _ 0 rfl (by omega)
  · rintro r ⟨n,rfl,hn⟩
    refine qF (aA ?_)
    have : decide (0≤n)=xs.any p:=by
      by_cases h : 0≤n
      · rw [decide_eq_true h,hn.1 h]
      · rw [decide_eq_false h]
        cases h2 : xs.any p with
        | false=>rfl
        | true=>exact absurd (hn.2 h2) h
    rw [this]
end
theorem oT {α : Type} (p : α→Bool) : ∀ (xs : List α),xs.any (fun x=>!p x) = !xs.all p
  | []=>rfl
  | x::r=>by rw [List.any_cons,List.all_cons,oT p r,Bool.not_and]
section
variable {ts : List ByteArray} {fs : List dL} (ht : ts.length ≤ 1000000) (hf : fs.length ≤ 1000000)
include ht hf
theorem oU : ∀ (j i : Nat),fs.length - i=j→i≤fs.length→
    Ok (fun r=>r = [.bool ((fs.drop i).all (kE ts.length fs.length))]) (cM (.lst (fs.map dL.pv)) (.int .i64 fs.length) (.int .i64 i) (.lst (ts.map PV.str)) (.lst (fs.map dL.pv))):=by
  intro j
  induction j with
  | zero=>
    intro i h1 h2
    have : i=fs.length:=by omega
    rw [dY]
    refine aS (aC (fun h=>by omega) (fun _=>aA ?_))
    rw [this,List.drop_length];rfl
  | succ j ih=>
    intro i h1 h2
    have hi : i<fs.length:=by omega
    rw [dY,qO hi]
    refine aS (aC (fun _=>?_) (fun h=>by omega))
    refine cD hi (fun _=>rfl) (aG rfl (aB rfl (aB rfl (aB rfl ?_))))
    refine bU (eA (bN (fun h=>aA ?_) (fun h1'=>?_)))
    · have : eK fs[i].p 0 6=false:=by simpa using h
      simp [kE,this]
    refine bU (eA (bN (fun h=>aA ?_) (fun h2'=>?_)))
    · have : eK fs[i].lc fs[i].p 12=false:=by simpa using h
      simp [kE,this]
    refine aI (bU (eA (bN (fun h=>aA ?_) (fun h3'=>?_))))
    · have : eK (fs[i].code.length : Int) 1 120=false:=by simpa using h
      simp [kE,this]
    have g1 : eK fs[i].p 0 6=true:=by simpa using h1'
    have g2 : eK fs[i].lc fs[i].p 12=true:=by simpa using h2'
    have g3 : eK (fs[i].code.length : Int) 1 120=true:=by simpa using h3'
    have q1:=g1
    have q2:=g2
    have q3:=g3
    simp only [eK,Bool.and_eq_true,decide_eq_true_eq] at q1 q2 q3
    refine vW (by omega) (fun x=>!bF ts.length fs.length fs[i].lc fs[i].code.length x.o x.a) (fun x _=>?_) ?_
    · show Ok _ (fS _ _ _)
      rw [iQ]
      refine aG rfl (aB rfl (aB rfl (fC rfl (fC rfl (fC rfl (fC rfl (fC rfl ?_)))))))
      refine aH (aAn (f:=fs[i]) (x:=x) ht hf (by omega) (by omega)) (fun r hr=>?_)
      subst hr
      exact eA (aA rfl)
    · rw [oT (fun x : bI=>bF ts.length fs.length fs[i].lc fs[i].code.length x.o x.a)]
      refine cA rfl (bN (fun h=>aA ?_) (fun h=>?_))
      · have : fs[i].code.all (fun x=>bF ts.length fs.length fs[i].lc fs[i].code.length x.o x.a)=false:=by simpa using h
        simp only [kE,this,Bool.and_false,Bool.false_and]
      · have g4 : fs[i].code.all (fun x=>bF ts.length fs.length fs[i].lc fs[i].code.length x.o x.a)=true:=by
          rw [Bool.not_eq_false'] at h
          exact h
        refine bC (by omega) ((ih (i+1) (by omega) (by omega)).mono ?_)
        rintro r rfl
        simp only [kE,g1,g2,g3,g4,Bool.true_and]
end
theorem jY {m : dD} (h : m.sized) : Ok (fun r=>r = [.bool m.okB]) (bY m.pv):=by
  obtain ⟨ht,hf,hs,_⟩:=h
  rw [jP]
  refine aG rfl (aB rfl (aB rfl (aI (bU (eA (bN (fun h=>aA ?_) (fun h1=>?_)))))))
  · have : eK (m.funcs.length : Int) 1 12=false:=by simpa using h
    simp [dD.okB,this]
  refine aI (oK (aC (fun h=>aA ?_) (fun h2=>?_)))
  · have : ¬ ((m.texts.length : Int)≤20):=by omega
    simp only [dD.okB,decide_eq_false this,Bool.false_and,Bool.and_false]
  have g1 : eK (m.funcs.length : Int) 1 12=true:=by simpa using h1
  have g2 : (m.texts.length : Int)≤20:=by omega
  refine vY (by omega) (fun s=>!eL s) (fun x hx=>?_) ?_
  · show Ok _ (fR _)
    rw [iP]
    refine aH (rG (hs x hx)) (fun r hr=>?_)
    subst hr
    exact eA (aA rfl)
  · rw [oT eL]
    refine bN (fun h=>aA ?_) (fun h=>?_)
    · have : m.texts.all eL=false:=by rw [Bool.not_eq_true'] at h;exact h
      simp only [dD.okB,this,Bool.and_false,Bool.false_and]
    · have g3 : m.texts.all eL=true:=by rw [Bool.not_eq_false'] at h;exact h
      refine aI ((oU ht hf _ 0 rfl (by omega)).mono ?_)
      rintro r rfl
      rw [List.drop_zero]
      simp only [dD.okB,g1,decide_eq_true g2,g3,Bool.true_and]
theorem oV {n : Nat} {F : Nat→Option R} {P : Nat→R→Prop} (he : Ok (P n) (F n)) (hs : ∀ i,i<n→Ok (P (i+1)) (F (i+1))→Ok (P i) (F i)) : ∀ i,i≤n→Ok (P i) (F i):=by
  have key : ∀ j i,n - i=j→i≤n→Ok (P i) (F i):=by
    intro j
    induction j with
    | zero=>intro i h1 h2;have : i=n:=by omega
            subst this;exact he
    | succ j ih=>intro i h1 h2;exact hs i (by omega) (ih (i+1) (by omega) (by omega))
  exact fun i hi=>key _ i rfl hi
theorem aEf {σ : Type} {n : Nat} {F : Nat→σ→Option R} {P : R→Prop} (I : Nat→σ→Prop) (he : ∀ s,I n s→Ok P (F n s)) (hs : ∀ i s,i<n→I i s→(∀ s',I (i+1) s'→Ok P (F (i+1) s'))→Ok P (F i s)) : ∀ i s,i≤n→I i s→Ok P (F i s):=by
  have key : ∀ j i s,n - i=j→i≤n→I i s→Ok P (F i s):=by
    intro j
    induction j with
    | zero=>intro i s h1 h2 hI;have : i=n:=by omega
            subst this;exact he s hI
    | succ j ih=>intro i s h1 h2 hI;exact hs i s (by omega) hI (fun s' hI'=>ih (i+1) s' (by omega) (by omega) hI')
  exact fun i s hi hI=>key _ i s rfl hi hI
theorem aDg {α : Type} (n : Nat) (p : Nat→Option α) : (List.range' n (n - n)).findSome? p=none:=by rw [Nat.sub_self];rfl
theorem aBu {α : Type} {i n : Nat} (hi : i<n) (p : Nat→Option α) : (List.range' i (n - i)).findSome? p=(p i).or ((List.range' (i+1) (n - (i+1))).findSome? p):=by
  have : n - i=(n - (i+1))+1:=by omega
  rw [this,List.range'_succ,List.findSome?_cons]
  cases p i<;>rfl
def gM (l : List Int) : PV:=.lst (l.map (PV.int .i64))
section
variable {P : R → Prop} {k : PV → Option R} {l : List Int}
theorem gN (h : Ok P (k (.int .i64 l.length))) : Ok P (bd (PV.len (gM l)) k):=aI h
theorem iR {i : Nat} {kk : IntKind} (hi : i<l.length) (h : Ok P (k (.int .i64 l[i]))) : Ok P (bd (PV.at_ 1 false (gM l) (.int kk (i : Int))) k):=cD hi (fun _=>rfl) h
theorem kF {i : Int} {kk : IntKind} (h0 : 0≤i) (hi : i<l.length) (h : Ok P (k (gM l))) : Ok P (bd (PV.inb (gM l) (.int kk i)) k):=nD h0 (by rw [List.length_map];exact hi) h
theorem xK {i : Nat} {x : Int} {kk : IntKind} (hi : i<l.length) (h : Ok P (k (gM (l.set i x)))) : Ok P (bd (PV.setAt 1 false (gM l) (.int kk (i : Int)) (.int .i64 x)) k):=by
  refine aDa (by omega) (by rw [List.length_map];omega) rfl ?_
  rw [Int.toNat_natCast,← List.map_set]
  exact h
theorem xL {ys : List Int} {e : Nat} (hb : (l.length+ys.length)*e≤140737488355328) (h : Ok P (k (gM (l++ys)))) : Ok P (bd (PV.cat 1 e false (gM l) (.lst (ys.map (PV.int .i64)))) k):=by
  refine iZ (by simpa using hb) (fun x hx=>?_) ?_
  · obtain ⟨a,_,rfl⟩:=List.mem_map.1 hx;rfl
  · rw [← List.map_append];exact h
theorem xM {i : Int} {kk : IntKind} (h0 : 0≤i) (h1 : i<l.length) (h : ∀ x,l[i.toNat]? = some x→Ok P (k (.int .i64 x))) : Ok P (bd (PV.at_ 1 false (gM l) (.int kk i)) k):=by
  refine aC9 h0 (by rw [List.length_map];exact h1) (fun x hx=>?_) (fun x _ hx=>?_)
  · obtain ⟨a,_,rfl⟩:=List.mem_map.1 hx;rfl
  · rw [List.getElem?_map] at hx
    cases hl : l[i.toNat]? with
    | none=>rw [hl] at hx;cases hx
    | some y=>rw [hl] at hx;cases hx;exact h y hl
end
def eU (fs : List dL) (i : Int) : Int:=(fs[i.toNat]?.map dL.p).getD 0
def aX (fs : List dL) (x : bI) : Int × Int:=
  if (1≤x.o∧x.o≤6)∨x.o=20 then (0,1)
  else if x.o=7∨x.o=9∨x.o=18∨x.o=19∨x.o=25∨x.o=26 then (1,0)
  else if x.o=8 then (1,2)
  else if x.o=10 then (2,2)
  else if 11≤x.o∧x.o≤15 then (2,1)
  else if x.o=16∨x.o=21 then (1,1)
  else if x.o=22 then (2,0)
  else if x.o=23∧0≤x.a∧x.a≤6 then (x.a+1,1)
  else if x.o=24∧0≤x.a∧x.a<fs.length then (eU fs x.a,1)
  else (0,0)
def aEJ (fs : List dL) (x : bI) : R:=[.tup [.int .i64 (aX fs x).1,.int .i64 (aX fs x).2]]
theorem uL {fs : List dL} {x : bI} {a b : Int} (h : aX fs x=(a,b)) : [PV.tup [.int .i64 a,.int .i64 b]]=aEJ fs x:=by
  unfold aEJ;rw [h]
theorem bE {n lo hi : Int} : eK n lo hi=true↔lo≤n∧n≤hi:=by simp [eK]
theorem aGx {n lo hi : Int} : eK n lo hi=false↔¬ (lo≤n∧n≤hi):=by rw [← bE];simp
theorem aAo {P : R→Prop} {n lo hi : Int} {x y : Option R} (h1 : lo≤n∧n≤hi→Ok P x) (h2 : ¬ (lo≤n∧n≤hi)→Ok P y) : Ok P (PV.ite (hd [.bool (eK n lo hi)]) x y):=
  bN (fun h=>h1 (bE.1 h)) (fun h=>h2 (aGx.1 h))
section
variable {fs : List dL} {x : bI} {T : PV} (hf : fs.length ≤ 1000000)
include hf
theorem aGZ {P : R→Prop} {k : PV→Option R} {i : Int} (h0 : 0≤i) (h1 : i<fs.length) (h : ∀ lc code,Ok P (k (.agg [.int .i64 (eU fs i),lc,code]))) : Ok P (bd (PV.at_ 3 true (.lst (fs.map dL.pv)) (.int .i64 i)) k):=by
  obtain ⟨n,rfl⟩:=Int.eq_ofNat_of_zero_le h0
  have hn : n<fs.length:=by omega
  refine cD hn (fun _=>rfl) ?_
  have : eU fs (n : Int)=fs[n].p:=by simp [eU,List.getElem?_eq_getElem hn]
  rw [← show PV.agg [.int .i64 (eU fs (n : Int)),.int .i64 fs[n].lc,.lst (fs[n].code.map bI.pv)]=fs[n].pv by rw [this];rfl]
  exact h _ _
set_option maxRecDepth 100000 in
set_option maxHeartbeats 4000000 in
theorem aBv : Ok (fun r=>r=aEJ fs x) (mN (.agg [T,.lst (fs.map dL.pv)]) x.pv):=by
  have c24 : ¬ (x.o=23∧0≤x.a∧x.a≤6)→¬ ((1≤x.o∧x.o≤16)∨(18≤x.o∧x.o≤22))→¬ (x.o=25∨x.o=26)→Ok (fun r=>r=aEJ fs x) (iL T (.lst (fs.map dL.pv)) (.int .i64 x.o) (.int .i64 x.a)):=by
    intro h1 h2 h3
    rw [sX]
    refine aE (aC (fun _=>?_) (fun _=>?_))
    · refine aI (bV (by omega) (aAo (fun _=>?_) (fun _=>?_)))
      · rw [sY]
        refine aGZ hf (by omega) (by omega) (fun _ _=>aB rfl ?_)
        exact aA (uL (by
          unfold aX
          repeat (first | rfl | rw [if_pos (by omega)] | rw [if_neg (by omega)])))
      · exact aA (uL (by
          unfold aX
          repeat (first | rfl | rw [if_pos (by omega)] | rw [if_neg (by omega)])))
    · exact aA (uL (by
        unfold aX
        repeat (first | rfl | rw [if_pos (by omega)] | rw [if_neg (by omega)])))
  rw [aAi]
  refine aG rfl (aB rfl (aB rfl (aG rfl (aB rfl (aB rfl ?_)))))
  repeat' (first
    | exact c24 (by omega) (by omega) (by omega)
    | refine aE (aC (fun _=>?_) (fun _=>?_))
    | refine bU (aAo (fun _=>?_) (fun _=>?_))
    | refine bC (by omega) ?_
    | exact aA (uL (by
        unfold aX
        repeat (first | rfl | rw [if_pos (by omega)] | rw [if_neg (by omega)]))))
end
def fV (x : bI) (pc : Int) : List Int:=(if x.o≠17∧x.o≠25 then [pc+1] else [])++(if x.o=17∨x.o=18∨x.o=19 then [x.a] else [])
theorem aGy {P : R→Prop} {k : PV→Option R} {a : Int} (h : Ok P (k (gM [a]))) : Ok P (bd (PV.cat 1 8 false (.lst []) (.lst [.int .i64 a])) k):=
  xL (l:=[]) (ys:=[a]) (by simp) h
theorem aGz {P : R→Prop} {k : PV→Option R} {a b : Int} (h : Ok P (k (gM [a,b]))) : Ok P (bd (PV.cat 1 8 false (.lst []) (.lst [.int .i64 a,.int .i64 b])) k):=
  xL (l:=[]) (ys:=[a,b]) (by simp) h
theorem aBw {x : bI} {pc : Int} (hp : 0≤pc∧pc≤1000000000) : Ok (fun r=>r = [gM (fV x pc)]) (kU x.pv (.int .i64 pc)):=by
  rw [xV]
  refine aG rfl (aB rfl (aB rfl ?_))
  repeat' (first
    | refine aGy ?_
    | refine aGz ?_
    | refine bC (by omega) ?_
    | refine aE (aC (fun _=>?_) (fun _=>?_))
    | exact aA (congrArg (fun l=>[gM l]) (by unfold fV;repeat (first | rfl | rw [if_pos (by omega)] | rw [if_neg (by omega)])))
    | exact aA (congrArg (fun l=>[gM l]) (a₁:=[]) (by unfold fV;repeat (first | rfl | rw [if_pos (by omega)] | rw [if_neg (by omega)]))))
open Go Go.IntWalk
structure cW where
  k : Int
  n : Int
  s : ByteArray
def cW.pv (v : cW) : PV:=.agg [.int .i64 v.k,.int .i64 v.n,.str v.s]
def fI : cW:=⟨0,0,bs []⟩
def aA5 (n : Int) : cW:=⟨1,n,bs []⟩
def mR (b : Bool) : cW:=⟨2,if b then 1 else 0,bs []⟩
def aAp (s : ByteArray) : cW:=⟨3,0,s⟩
def aFW (n : Int) : cW:=⟨4,n,bs []⟩
def aFX (n : Int) : cW:=⟨5,n,bs []⟩
def cB (n : Int) : Bool:=eK n (-1000000000) 1000000000
def jE (a b : ByteArray) : Bool:=a.toList==b.toList
theorem aEg (a : ByteArray) : jE a a=true:=by simp [jE]
def I64 (n : Int) : Prop:=-9223372036854775808≤n∧n≤9223372036854775807
section
variable {P : R → Prop} {k : PV → Option R} {kr : R → Option R} {a b : ByteArray}
theorem mS (h : Ok P (k (.bool (jE a b)))) : Ok P (bd (PV.bin .eql (.str a) (.str b)) k):=cH _ (by simp only [PV.bin,PV.strBin];rfl) h
theorem aGA (h : Ok P (k (.bool (PV.bytesLt a.toList b.toList)))) : Ok P (bd (PV.bin .lss (.str a) (.str b)) k):=cH _ (by simp only [PV.bin,PV.strBin]) h
theorem yI (hb : a.size+b.size≤4611686018427387904) (h : Ok P (k (.str (a++b)))) : Ok P (bd (PV.bin .add (.str a) (.str b)) k):=cH _ (by simp only [PV.bin,PV.strBin];rw [if_pos (by omega)]) h
end
def bM (nf recs : Int) (v : cW) : Bool:=
  if v.k≠3∧jE v.s (bs [])=false then false
  else if v.k=0 then decide (v.n=0)
  else if v.k=1 then cB v.n
  else if v.k=2 then eK v.n 0 1
  else if v.k=3 then decide (v.n=0)&&eL v.s
  else if v.k=4 then decide (0≤v.n)&&decide (v.n<recs)
  else if v.k=5 then eK v.n 0 (nf - 1)
  else false
def aCf (o a b : Int) : Int:=if o=12 then a - b else if o=13 then a*b else a+b
def aCg (o : Int) (a b : cW) : cW × Int:=
  if a.k≠1 then (fI,1) else if b.k≠1 then (fI,1) else if cB a.n=false then (fI,2) else if cB b.n=false then (fI,2)
  else if cB (aCf o a.n b.n)=false then (fI,2) else (aA5 (aCf o a.n b.n),0)
def aBx (a b : cW) : cW:=mR (decide (a.k=b.k)&&(decide (a.n=b.n)&&jE a.s b.s))
def xN (o : Int) (a b : cW) : cW × Int:=
  if o=11 then (if a.k=3∧b.k=3 then (if (60 : Int)<a.s.size+b.s.size then (fI,3) else (aAp (a.s++b.s),0)) else aCg 11 a b)
  else if o=12 then aCg 12 a b
  else if o=13 then aCg 13 a b
  else if o=14 then (if a.k=3∧b.k=3 then (mR (PV.bytesLt a.s.toList b.s.toList),0) else if a.k=1∧b.k=1 then (mR (decide (a.n<b.n)),0) else (fI,1))
  else (aBx a b,0)
def opR (p : cW × Int) : R:=[.tup [p.1.pv,.int .i64 p.2]]
theorem aG0 {a b : Int} (ha : cB a=true) (hb : cB b=true) : -1000000000000000000≤a*b∧a*b≤1000000000000000000:=by
  have ha:=bE.1 ha
  have hb:=bE.1 hb
  have h : (a*b).natAbs≤1000000000*1000000000:=by
    rw [Int.natAbs_mul]
    exact Nat.mul_le_mul (by omega) (by omega)
  omega
theorem aG1 {P : R→Prop} {k : R→Option R} {o : Option R} {p : cW × Int} (h : Ok (fun r=>r=opR p) o) (hk : Ok P (k [.tup [.agg [.int .i64 p.1.k,.int .i64 p.1.n,.str p.1.s],.int .i64 p.2]])) : Ok P (bd o k):=
  aH h (fun r hr=>by subst hr;exact hk)
def aCh (v : cW) : cW × Int:=if v.k≠2 then (fI,1) else (mR (!decide (v.n=1)),0)
def dig (n : Int) : ByteArray:=⟨#[UInt8.ofNat (48+n).toNat]⟩
def aA6 : Nat→Int→ByteArray
  | 0,n=>dig n
  | j+1,n=>if n<10 then dig n else aA6 j (n / 10)++dig (n % 10)
def jZ (n : Int) : ByteArray:=
  if n<0 then (if n < -9 then bs [45]++aA6 18 (-(n.tdiv 10))++aA6 18 (-(n.tmod 10)) else bs [45]++aA6 18 (-n)) else aA6 18 n
theorem aAq (n : Int) : (dig n).size=1:=rfl
theorem nS : ∀ (j : Nat) (n : Int),(aA6 j n).size≤j+1
  | 0,n=>by simp [aA6,aAq]
  | j+1,n=>by
    unfold aA6
    split
    · rw [aAq];omega
    · rw [ByteArray.size_append,aAq]
      have:=nS j (n / 10)
      omega
theorem aFY {n : Int} (h : n<0) : n.tdiv 10 = -((-n) / 10)∧n.tmod 10 = -((-n) % 10):=by
  have e : n = -(-n):=by omega
  constructor
  · rw [e,Int.neg_tdiv,Int.tdiv_eq_ediv_of_nonneg (by omega)]
    simp
  · rw [e,Int.neg_tmod,Int.tmod_eq_emod_of_nonneg (by omega)]
    simp
theorem uM (n : Int) : (jZ n).size≤40:=by
  have h45 : (bs [45]).size=1:=rfl
  unfold jZ
  split
  · split
    · rw [ByteArray.size_append,ByteArray.size_append,h45]
      have h1:=nS 18 (-(n.tdiv 10))
      have h2:=nS 18 (-(n.tmod 10))
      omega
    · rw [ByteArray.size_append,h45]
      have h1:=nS 18 (-n)
      omega
  · have h1:=nS 18 n
    omega
def jI (fs : List dL) (x : bI) (h : Int) : Int:=h - (aX fs x).1+(aX fs x).2
def can (fs : List dL) (x : bI) (h : Int) : Bool:=decide ((aX fs x).1≤h)&&decide (jI fs x h≤16)
abbrev Hs:=List Int × Bool
def pK (l : Int) (s : Hs) (t : Int) : Hs:=if t<s.1.length∧s.1[t.toNat]?.getD 0<0 then (s.1.set t.toNat l,true) else s
def uN (fs : List dL) (code : List bI) (s : Hs) (pc : Nat) : Hs:=
  match code[pc]? with
  | some x=>if can fs x (s.1[pc]?.getD 0) then (fV x pc).foldl (pK (jI fs x (s.1[pc]?.getD 0))) s else s
  | none=>s
def qP (fs : List dL) (code : List bI) (s : List Int) : Hs:=(List.range' 0 code.length).foldl (uN fs code) (s,false)
def aA7 (fs : List dL) (code : List bI) : Nat→List Int→List Int
  | 0,s=>s
  | n+1,s=>if (qP fs code s).2 then aA7 fs code n (qP fs code s).1 else (qP fs code s).1
def aCi (n : Nat) : List Int:=(List.replicate n (-1)).set 0 0
def oW (fs : List dL) (code : List bI) : List Int:=aA7 fs code (code.length+1) (aCi code.length)
structure Fit (fs : List dL) (code : List bI) : Prop where
  n1 : 1≤code.length
  n2 : code.length≤120
  nf : fs.length≤12
  u : ∀ x∈code,0≤(aX fs x).1∧(aX fs x).1≤7∧0≤(aX fs x).2∧(aX fs x).2≤2
  j : ∀ x∈code,(x.o=17∨x.o=18∨x.o=19)→0≤x.a∧x.a<code.length
def sB (n : Nat) (s : List Int) : Prop:=s.length=n∧∀ v∈s,-1≤v∧v≤16
theorem sB.at {n : Nat} {s : List Int} (h : sB n s) (i : Nat) : -1≤s[i]?.getD 0∧s[i]?.getD 0≤16:=by
  cases hx : s[i]? with
  | none=>simp
  | some v=>exact h.2 v (List.mem_of_getElem? hx)
theorem sB.put {n : Nat} {s : Hs} (h : sB n s.1) {l : Int} (hl : -1≤l∧l≤16) (t : Int) : sB n (pK l s t).1:=by
  unfold pK
  split
  · refine ⟨by simp only [List.length_set];exact h.1,fun v hv=>?_⟩
    rcases List.mem_or_eq_of_mem_set hv with h1 | h1
    · exact h.2 v h1
    · omega
  · exact h
theorem sB.puts {n : Nat} {l : Int} (hl : -1≤l∧l≤16) : ∀ (ts : List Int) (s : Hs),sB n s.1→sB n (ts.foldl (pK l) s).1
  | [],_,h=>h
  | t::r,s,h=>sB.puts hl r _ (h.put hl t)
theorem aDh {fs : List dL} {x : bI} {h : Int} (hu : 0≤(aX fs x).1∧(aX fs x).1≤7∧0≤(aX fs x).2∧(aX fs x).2≤2) (hc : can fs x h=true) : 0≤jI fs x h∧jI fs x h≤16:=by
  simp only [can,Bool.and_eq_true,decide_eq_true_eq] at hc
  unfold jI at *
  omega
theorem sB.one {fs : List dL} {code : List bI} (F : Fit fs code) {n : Nat} {s : Hs} (h : sB n s.1) (pc : Nat) : sB n (uN fs code s pc).1:=by
  unfold uN
  split
  · rename_i x hx
    split
    · rename_i hc
      have:=aDh (F.u x (List.mem_of_getElem? hx)) hc
      exact sB.puts (by omega) _ _ h
    · exact h
  · exact h
theorem sB.ones {fs : List dL} {code : List bI} (F : Fit fs code) {n : Nat} : ∀ (l : List Nat) (s : Hs),sB n s.1→sB n (l.foldl (uN fs code) s).1
  | [],_,h=>h
  | t::r,s,h=>sB.ones F r _ (h.one F t)
theorem sB.pass {fs : List dL} {code : List bI} (F : Fit fs code) {n : Nat} {s : List Int} (h : sB n s) : sB n (qP fs code s).1:=sB.ones F _ _ h
theorem sB.start {n : Nat} : sB n (aCi n):=by
  refine ⟨by simp [aCi],fun v hv=>?_⟩
  rcases List.mem_or_eq_of_mem_set hv with h1 | h1
  · have:=List.eq_of_mem_replicate h1;omega
  · omega
def nn (s : List Int) : Nat:=s.countP (· < 0)
def Dec (s s' : Hs) : Prop:=s'=s∨(s'.2=true∧nn s'.1<nn s.1)
theorem Dec.trans {a b c : Hs} (h : Dec a b) (k : Dec b c) : Dec a c:=by
  rcases h with rfl | h
  · exact k
  · rcases k with rfl | k
    · exact .inr h
    · exact .inr ⟨k.1,by omega⟩
theorem aFZ : ∀ (s : List Int) (i : Nat) (l : Int),0≤l→s[i]?.getD 0<0→nn (s.set i l)<nn s
  | [],i,l,_,h=>by simp at h
  | x::r,0,l,hl,h=>by
    simp only [List.getElem?_cons_zero,Option.getD_some] at h
    simp only [nn,List.set_cons_zero,List.countP_cons]
    rw [if_neg (by simp;omega),if_pos (by simpa using h)]
    omega
  | x::r,i+1,l,hl,h=>by
    simp only [List.getElem?_cons_succ] at h
    have:=aFZ r i l hl h
    simp only [nn,List.set_cons_succ,List.countP_cons] at *
    omega
theorem Dec.put {l : Int} (hl : 0≤l) (s : Hs) (t : Int) : Dec s (pK l s t):=by
  unfold pK
  split
  · rename_i h
    exact .inr ⟨rfl,aFZ _ _ _ hl h.2⟩
  · exact .inl rfl
theorem Dec.puts {l : Int} (hl : 0≤l) : ∀ (ts : List Int) (s : Hs),Dec s (ts.foldl (pK l) s)
  | [],_=>.inl rfl
  | t::r,s=>(Dec.put hl s t).trans (Dec.puts hl r _)
theorem Dec.one {fs : List dL} {code : List bI} (F : Fit fs code) (s : Hs) (pc : Nat) : Dec s (uN fs code s pc):=by
  unfold uN
  split
  · rename_i x hx
    split
    · rename_i hc
      exact Dec.puts (aDh (F.u x (List.mem_of_getElem? hx)) hc).1 _ _
    · exact .inl rfl
  · exact .inl rfl
theorem Dec.ones {fs : List dL} {code : List bI} (F : Fit fs code) : ∀ (l : List Nat) (s : Hs),Dec s (l.foldl (uN fs code) s)
  | [],_=>.inl rfl
  | t::r,s=>(Dec.one F s t).trans (Dec.ones F r _)
theorem Dec.pass {fs : List dL} {code : List bI} (F : Fit fs code) (s : List Int) : Dec (s,false) (qP fs code s):=Dec.ones F _ _
theorem aF0 {l : Int} {s : Hs} {t : Int} (h : s.1[0]? = some 0) : (pK l s t).1[0]? = some 0:=by
  unfold pK
  split
  · rename_i hc
    rw [List.getElem?_set]
    split
    · rename_i h0
      rw [h0] at hc
      rw [h] at hc
      simp at hc
    · exact h
  · exact h
theorem aBy {l : Int} : ∀ (ts : List Int) (s : Hs),s.1[0]? = some 0→(ts.foldl (pK l) s).1[0]? = some 0
  | [],_,h=>h
  | t::r,s,h=>aBy r _ (aF0 h)
theorem aF1 {fs : List dL} {code : List bI} {s : Hs} (pc : Nat) (h : s.1[0]? = some 0) : (uN fs code s pc).1[0]? = some 0:=by
  unfold uN
  split
  · split
    · exact aBy _ _ h
    · exact h
  · exact h
theorem vZ {fs : List dL} {code : List bI} : ∀ (l : List Nat) (s : Hs),s.1[0]? = some 0→(l.foldl (uN fs code) s).1[0]? = some 0
  | [],_,h=>h
  | t::r,s,h=>vZ r _ (aF1 t h)
theorem aDi {fs : List dL} {code : List bI} : ∀ (n : Nat) (s : List Int),s[0]? = some 0→(aA7 fs code n s)[0]? = some 0
  | 0,_,h=>h
  | n+1,s,h=>by
    unfold aA7
    split
    · exact aDi n _ (vZ _ _ h)
    · exact vZ _ _ h
theorem aEK {fs : List dL} {code : List bI} (F : Fit fs code) {m : Nat} : ∀ (n : Nat) (s : List Int),sB m s→sB m (aA7 fs code n s)
  | 0,_,h=>h
  | n+1,s,h=>by
    unfold aA7
    split
    · exact aEK F n _ (h.pass F)
    · exact h.pass F
theorem aAr {fs : List dL} {code : List bI} (F : Fit fs code) : sB code.length (oW fs code):=aEK F _ _ sB.start
theorem aDj {fs : List dL} {code : List bI} (F : Fit fs code) : (oW fs code)[0]? = some 0:=by
  refine aDi _ _ ?_
  have:=F.n1
  rw [aCi,List.getElem?_set_self (by rw [List.length_replicate];omega)]
theorem aEL {s : List Int} {i : Nat} (h : i<s.length) : s[i]=s[i]?.getD 0:=by rw [List.getElem?_eq_getElem h];rfl
theorem aAs {fs : List dL} {code : List bI} (F : Fit fs code) {x : bI} (hx : x∈code) {pc : Nat} (hp : pc<code.length) : ∀ t∈fV x pc,0≤t∧t≤code.length:=by
  intro t ht
  unfold fV at ht
  rcases List.mem_append.1 ht with h | h
  · split at h
    · simp only [List.mem_singleton] at h;omega
    · cases h
  · split at h
    · rename_i hj
      simp only [List.mem_singleton] at h
      have:=F.j x hx hj
      omega
    · cases h
theorem aGB {l : Int} {s : Hs} {t : Int} (h1 : t<s.1.length) (h2 : s.1[t.toNat]?.getD 0<0) : pK l s t=(s.1.set t.toNat l,true):=if_pos ⟨h1,h2⟩
theorem aF2 {l : Int} {s : Hs} {t : Int} (h : ¬ (t<s.1.length∧s.1[t.toNat]?.getD 0<0)) : pK l s t=s:=if_neg h
section
variable {fs : List dL} {code : List bI} {T : PV} (F : Fit fs code)
include F
end
section
variable {fs : List dL} {code : List bI} {T : PV} (F : Fit fs code)
include F
end
section
variable {P : R → Prop} {k : PV → Option R}
theorem rH {m n : Nat} {kk : IntKind} (h : n≤m) : PV.bound m (.int kk (n : Int))=some n:=by
  simp only [PV.bound]
  rw [if_pos (by omega),Int.toNat_natCast]
theorem aDk {xs ys : List PV} {lo hi : Nat} {k1 k2 : IntKind} (h1 : lo≤hi) (h2 : hi≤xs.length) (h3 : xs.length≤1000000000) (h : Ok P (k (.int .i64 (min (hi - lo) ys.length : Nat)))) :
    Ok P (bd (PV.ncopy (.lst xs) (.int k1 (lo : Int)) (.int k2 (hi : Int)) (.lst ys)) k):=
  cH _ (by
    simp only [PV.ncopy]
    rw [rH (by omega),rH (by omega)]
    simp only [PV.elems]
    rw [if_pos ⟨h1,h2⟩]) h
theorem aBz {s : Nat} {g : Bool} {xs ys : List PV} {lo hi : Nat} {k1 k2 : IntKind} (h1 : lo≤hi) (h2 : hi≤xs.length) (h3 : xs.length≤1000000000) (he : ∀ y∈ys,y.isEl s g=true)
    (h : Ok P (k (.lst (xs.take lo++ys.take (hi - lo)++xs.drop (lo+min (hi - lo) ys.length))))) :
    Ok P (bd (PV.copyIn s g (.lst xs) (.int k1 (lo : Int)) (.int k2 (hi : Int)) (.lst ys)) k):=
  cH _ (by
    simp only [PV.copyIn]
    rw [rH (by omega),rH (by omega)]
    simp only [PV.elems]
    rw [if_pos ⟨h1,h2,List.all_eq_true.2 he⟩]) h
theorem aDl {e n : Nat} {z : PV} {kk : IntKind} (h1 : n*e≤140737488355328) (h2 : n≤1000000000) (h : Ok P (k (.lst (List.replicate n z)))) : Ok P (bd (PV.zeros e z (.int kk (n : Int))) k):=
  cH _ (by
    simp only [PV.zeros]
    rw [if_pos ⟨by omega,by rw [Int.toNat_natCast];exact h1,by omega⟩,Int.toNat_natCast]) h
theorem uO {l : List Int} : ∀ x∈l.map (PV.int .i64),x.isEl 1 false=true:=by
  intro x hx
  obtain ⟨a,_,rfl⟩:=List.mem_map.1 hx
  rfl
end
theorem aDm {n : Nat} (hn : n≤1000) : ∀ (j a : Nat),n - a≤j→1≤a→a≤n→
    Ok (fun r=>r = [gM (List.replicate n (-1))]) (dJ (.int .i64 a) (gM (List.replicate a (-1)++List.replicate (n - a) 0))):=by
  intro j
  induction j with
  | zero=>
    intro a h1 h2 h3
    have : a=n:=by omega
    subst this
    rw [gA]
    refine gN (aS (aC (fun h=>?_) (fun _=>aA ?_)))
    · simp at h
    · simp
  | succ j ih=>
    intro a h1 h2 h3
    rw [gA]
    have hl : (List.replicate a (-1 : Int)++List.replicate (n - a) 0).length=n:=by simp;omega
    have hlm : ((List.replicate a (-1 : Int)++List.replicate (n - a) 0).map (PV.int .i64)).length=n:=by rw [List.length_map,hl]
    have ht : (List.replicate a (-1 : Int)++List.replicate (n - a) 0).take a=List.replicate a (-1):=by
      rw [List.take_left' (by simp)]
    refine gN (aS (aC (fun h=>?_) (fun h=>aA ?_)))
    · rw [hl] at h
      refine gN ?_
      rw [hl]
      refine vO (by omega) (by omega) (by omega) uO ?_
      refine vO (by omega) (by omega) (by omega) uO ?_
      refine vO (by omega) (by omega) (by omega) uO ?_
      simp only [Int.toNat_natCast,Int.toNat_zero,List.drop_zero,← List.map_take]
      rw [ht]
      refine aDk (by omega) (by omega) (by omega) (aBz (by omega) (by omega) (by omega) uO ?_)
      rw [← List.map_take,ht,← List.map_take,← List.map_drop,← List.map_append,← List.map_append,List.length_map,List.length_replicate]
      have e : List.replicate a (-1 : Int)++(List.replicate a (-1)).take (n - a)++(List.replicate a (-1)++List.replicate (n - a) 0).drop (a+min (n - a) a)=List.replicate (a+min (n - a) a) (-1)++List.replicate (n - (a+min (n - a) a)) 0:=by
        rw [List.take_replicate,List.replicate_append_replicate,List.drop_append,List.length_replicate,List.drop_eq_nil_of_le (by simp),List.nil_append,List.drop_replicate]
        congr 2
        omega
      rw [e]
      exact bC (by omega) (ih (a+min (n - a) a) (by omega) (by omega) (by omega))
    · have : a=n:=by rw [hl] at h;omega
      subst this
      simp
theorem aCj {P : R→Prop} {k : PV→Option R} {a : Int} (h1 : 0≤a∧a≤1000000) (h : Ok P (k (.int .u64 a))) : Ok P (bd (PV.bin .and (.int .u64 a) (.int .u64 4294967295)) k):=
  cH _ (by
    obtain ⟨n,rfl⟩:=Int.eq_ofNat_of_zero_le h1.1
    rw [gV (by simp) (by simp)]
    simp only [PV.intBin]
    have hb : IntKind.u64.bits=64:=rfl
    have e : (BitVec.ofInt 64 (n : Int)&&& BitVec.ofInt 64 4294967295).toNat=n:=by
      rw [BitVec.toNat_and,BitVec.ofInt_natCast,BitVec.toNat_ofNat]
      have : (BitVec.ofInt 64 4294967295).toNat=2 ^ 32 - 1:=by decide
      rw [this,Nat.and_two_pow_sub_one_eq_mod,Nat.mod_eq_of_lt (by omega),Nat.mod_eq_of_lt (by omega)]
    rw [hb,e,u64_in _ (by omega)]) h
theorem qQ {P : R→Prop} {k : PV→Option R} {a : Int} (h1 : 0≤a∧a≤1000000) (h : Ok P (k (.int .u64 0))) : Ok P (bd (PV.bin .shr (.int .u64 a) (.int .u64 32)) k):=
  cH _ (by
    simp only [PV.bin]
    rw [if_neg (by omega)]
    have : a.fdiv (2 ^ min (Int.toNat 32) IntKind.u64.bits)=0:=by
      have e : (2 : Int) ^ min (Int.toNat 32) IntKind.u64.bits=4294967296:=by decide
      rw [e,Int.fdiv_eq_ediv_of_nonneg _ (by omega)]
      omega
    rw [this]) h
theorem qR {P : R→Prop} {k : PV→Option R} {a b : Int} (h1 : 0≤a*b∧a*b≤1000000) (h : Ok P (k (.int .u64 (a*b)))) : Ok P (bd (PV.bin .mul (.int .u64 a) (.int .u64 b)) k):=
  cH _ (by rw [gV (by simp) (by simp)];simp only [PV.intBin];rw [u64_in _ (by omega)]) h
theorem uP {P : R→Prop} {k : PV→Option R} {a b : Int} (h1 : 0≤a+b∧a+b≤1000000) (h : Ok P (k (.int .u64 (a+b)))) : Ok P (bd (PV.bin .add (.int .u64 a) (.int .u64 b)) k):=
  cH _ (by rw [gV (by simp) (by simp)];simp only [PV.intBin];rw [u64_in _ (by omega)]) h
theorem aF3 {P : R→Prop} {k : PV→Option R} {a : Int} {kk : IntKind} (h1 : 0≤a∧a≤1000000) (h : Ok P (k (.int .u64 a))) : Ok P (bd (PV.conv .u64 (.int kk a)) k):=cH _ (by simp only [PV.conv];rw [u64_in _ (by omega)]) h
theorem aFk {n : Nat} (h1 : 1≤n) (hn : n≤1000) : Ok (fun r=>r = [gM (List.replicate n (-1))]) (eJ (.lst [.int .i64 (-1)]) (.int .i64 n)):=by
  rw [nF]
  refine aS (aC (fun h=>by omega) (fun _=>?_))
  rw [kX]
  refine lN (aF3 (by simp) (aF3 (by omega) ?_))
  refine aH (Q:=fun r=>r = [.tup [.int .u64 0,.int .u64 n]]) ?_ (fun r hr=>?_)
  · rw [vS,sZ]
    simp only [List.length_cons,List.length_nil]
    refine aH (Q:=fun r=>r = [.tup [.int .u64 0,.int .u64 n]]) ?_ (fun r hr=>?_)
    · refine aCj (by omega) (qQ (by omega) (aCj (by omega) (qQ (by omega) ?_)))
      refine qR (by omega) (qR (by omega) (qQ (by omega) (uP (by omega) ?_)))
      refine aCj (by omega) (qQ (by omega) (qR (by omega) (uP (by omega) ?_)))
      refine qR (by omega) (uP (by omega) (qQ (by omega) (uP (by omega) (qR (by omega) (aA ?_)))))
      simp
    · subst hr
      exact cF rfl (cF rfl (aA rfl))
  subst hr
  refine cF rfl (cF rfl (oK (aC (fun h=>by omega) (fun _=>oK (aC (fun h=>by omega) (fun _=>?_))))))
  rw [kY]
  refine aEc (by omega) (aDl (by omega) (by omega) (nB (aC (fun _=>?_) (fun h=>by omega))))
  refine aDl (by omega) (by omega) (lN ?_)
  rw [List.length_replicate]
  refine aDk (lo:=0) (by omega) (by simp) (by simp;omega) (aBz (lo:=0) (by omega) (by simp) (by simp;omega) (uO (l:=[-1])) ?_)
  have:=aDm hn n 1 (by omega) (by omega) h1
  have e : (min (n - 0) [PV.int .i64 (-1)].length : Nat)=1:=by simp;omega
  rw [e]
  have e2 : (List.replicate n (PV.int .i64 0)).take 0++[PV.int .i64 (-1)].take (n - 0)++(List.replicate n (PV.int .i64 0)).drop (0+1)=(List.replicate 1 (-1 : Int)++List.replicate (n - 1) 0).map (PV.int .i64):=by
    rw [List.take_zero,List.nil_append,List.take_of_length_le (by simp;omega),List.drop_replicate]
    simp
  rw [e2]
  exact this
section
variable {fs : List dL} {code : List bI} {T : PV} (F : Fit fs code)
include F
theorem aBA {x : bI} (hx : x∈code) {h : Int} (hh : -1≤h∧h≤16) : Ok (fun r=>r = [.tup [.int .i64 (jI fs x h),.bool (can fs x h)]]) (mM (.agg [T,.lst (fs.map dL.pv)]) x.pv (.int .i64 h)):=by
  have hu:=F.u x hx
  have hnf:=F.nf
  rw [aAh]
  refine aG rfl (aB rfl (aB rfl (aG rfl (aB rfl (aB rfl ?_)))))
  refine aH (aBv (x:=x) (T:=T) (by omega)) (fun r hr=>?_)
  subst hr
  refine cF rfl (cF rfl (nC (by omega) (bC (by omega) (nB (aC (fun h1=>?_) (fun h1=>aA ?_))))))
  · refine nB (aA ?_)
    unfold can jI
    rw [decide_eq_true h1];rfl
  · unfold can jI
    rw [decide_eq_false h1];rfl
theorem aFl {P : R→Prop} {pc : Nat} (hpc : pc<code.length) {left : Int} {b : Bool} {ts : List Int} (hts : ∀ t∈ts,0≤t∧t≤code.length) (hn : ts.length≤10) {s : Hs} (hs : s.1.length=code.length)
    (h : Ok P (eG (.lst (code.map bI.pv)) (.bool (if b then ts.foldl (pK left) s else s).2) (.lst (code.map bI.pv)) (.int .i64 code.length) (.int .i64 ((pc : Int)+1)) T (.lst (fs.map dL.pv)) (gM (if b then ts.foldl (pK left) s else s).1))) :
    Ok P (dB (.lst (code.map bI.pv)) (.bool s.2) (.int .i64 left) (.bool b) (.lst (code.map bI.pv)) (.int .i64 code.length) (.int .i64 pc) (gM ts) (.int .i64 ts.length) (.int .i64 0) T (.lst (fs.map dL.pv)) (gM s.1)):=by
  have hn2:=F.n2
  refine aEf (n:=ts.length) (F:=fun i (q : Hs)=>dB (.lst (code.map bI.pv)) (.bool q.2) (.int .i64 left) (.bool b) (.lst (code.map bI.pv)) (.int .i64 code.length) (.int .i64 pc) (gM ts) (.int .i64 ts.length) (.int .i64 i) T (.lst (fs.map dL.pv)) (gM q.1))
    (fun i q=>q.1.length=code.length∧(if b then (ts.drop i).foldl (pK left) q else q)=(if b then ts.foldl (pK left) s else s)) ?_ ?_ 0 s (by omega) ⟨hs,by rw [List.drop_zero]⟩
  · rintro q ⟨hq,he⟩
    rw [List.drop_length] at he
    have he : q=(if b then ts.foldl (pK left) s else s):=by rw [← he];split<;>rfl
    subst he
    rw [lS]
    exact aS (aC (fun h=>by omega) (fun _=>bC (by omega) h))
  · rintro i q hi ⟨hq,he⟩ ih
    have ht:=hts ts[i] (List.getElem_mem _)
    rw [List.drop_eq_getElem_cons hi,List.foldl_cons] at he
    rw [lS]
    refine aS (aC (fun _=>?_) (fun h=>by omega))
    refine iR hi (bN (fun hb=>?_) (fun hb=>?_))
    · subst hb
      simp only [if_true] at he ih
      refine aI (aS (aC (fun h1=>?_) (fun h1=>?_)))
      · refine kF (by omega) (by omega) (xM (by omega) (by omega) (fun v hv=>?_))
        refine aS (aC (fun h2=>?_) (fun h2=>?_))
        · rw [sW]
          refine kF (by omega) (by omega) ?_
          obtain ⟨t,et⟩:=Int.eq_ofNat_of_zero_le ht.1
          rw [et]
          refine xK (by omega) (bC (by omega) ?_)
          refine ih (q.1.set t left,true) ⟨by simpa using hq,?_⟩
          rw [aGB (by omega) (by rw [hv];exact h2),et] at he
          exact he
        · refine bC (by omega) (ih q ⟨hq,?_⟩)
          rw [aF2 (by rw [hv];simp only [Option.getD_some];omega)] at he
          exact he
      · refine bC (by omega) (ih q ⟨hq,?_⟩)
        rw [aF2 (by omega)] at he
        exact he
    · subst hb
      exact bC (by omega) (ih q ⟨hq,he⟩)
theorem aGC {x : bI} (hx : x∈code) {h : Int} (hh : h<0) : can fs x h=false:=by
  have hu:=F.u x hx
  simp only [can]
  rw [decide_eq_false (by omega)];rfl
theorem aAt {P : R→Prop} {s : List Int} (hs : sB code.length s)
    (h : Ok P (gG (.lst (code.map bI.pv)) (.bool (qP fs code s).2) T (.lst (fs.map dL.pv)) (gM (qP fs code s).1))) :
    Ok P (eG (.lst (code.map bI.pv)) (.bool false) (.lst (code.map bI.pv)) (.int .i64 code.length) (.int .i64 0) T (.lst (fs.map dL.pv)) (gM s)):=by
  have hn2:=F.n2
  have hnf:=F.nf
  refine aEf (n:=code.length) (F:=fun i (q : Hs)=>eG (.lst (code.map bI.pv)) (.bool q.2) (.lst (code.map bI.pv)) (.int .i64 code.length) (.int .i64 i) T (.lst (fs.map dL.pv)) (gM q.1))
    (fun i q=>sB code.length q.1∧(List.range' i (code.length - i)).foldl (uN fs code) q=qP fs code s) ?_ ?_ 0 (s,false) (by omega) ⟨hs,rfl⟩
  · rintro q ⟨hq,he⟩
    rw [Nat.sub_self] at he
    have he : q=qP fs code s:=he
    subst he
    rw [mQ]
    exact aS (aC (fun h=>by omega) (fun _=>h))
  · rintro i q hi ⟨hq,he⟩ ih
    have e1 : code.length - i=(code.length - (i+1))+1:=by omega
    rw [e1,List.range'_succ,List.foldl_cons] at he
    have hx : code[i]? = some code[i]:=List.getElem?_eq_getElem hi
    have hm : code[i]∈code:=List.getElem_mem _
    have hil : i<q.1.length:=by rw [hq.1];exact hi
    have hv:=hq.at i
    have e2 : q.1[i]=q.1[i]?.getD 0:=aEL hil
    have hone:=hq.one F i
    have hgo:=ih (uN fs code q i) ⟨hone,he⟩
    have eo : uN fs code q i=if can fs code[i] (q.1[i]?.getD 0) then (fV code[i] i).foldl (pK (jI fs code[i] (q.1[i]?.getD 0))) q else q:=by
      conv=>lhs;unfold uN
      rw [hx]
    generalize hw : q.1[i]?.getD 0=w at *
    rw [mQ]
    refine aS (aC (fun _=>?_) (fun h=>by omega))
    refine cD hi (fun _=>rfl) (aG rfl (aB rfl (aB rfl ?_)))
    refine kF (by omega) (by omega) (iR hil ?_)
    rw [e2]
    refine aS (aC (fun h1=>?_) (fun h1=>?_))
    · rw [aGC F hm h1,if_neg (by simp)] at eo
      rw [eo] at hgo
      exact bC (by omega) hgo
    refine kF (by omega) (by omega) (iR hil ?_)
    rw [e2]
    refine aH (aBA (T:=T) F hm hv) (fun r hr=>?_)
    subst hr
    refine cF rfl (cF rfl (aH (aBw (x:=code[i]) (by omega)) (fun r hr=>?_)))
    subst hr
    refine gN ?_
    refine aFl F hi (aAs F hm hi) (by unfold fV;repeat' split<;>simp) hq.1 ?_
    rw [← eo]
    exact hgo
theorem aFm : ∀ (j : Nat) (s : List Int),nn s≤j→sB code.length s→Ok (fun r=>r = [gM (aA7 fs code (j+1) s)]) (gG (.lst (code.map bI.pv)) (.bool true) T (.lst (fs.map dL.pv)) (gM s)):=by
  intro j
  induction j with
  | zero=>
    intro s hs hg
    rw [fZ]
    refine aR (aI (aAt F hg ?_))
    rcases Dec.pass F s with h | ⟨h,h2⟩
    · unfold aA7
      rw [h,fZ]
      exact bG (aA rfl)
    · have h3 : nn (qP fs code s).1<nn s:=h2
      omega
  | succ j ih=>
    intro s hs hg
    rw [fZ]
    refine aR (aI (aAt F hg ?_))
    rcases Dec.pass F s with h | ⟨h,h2⟩
    · unfold aA7
      rw [h,fZ]
      exact bG (aA rfl)
    · rw [aA7,h,if_pos rfl]
      exact ih _ (by have h3 : nn (qP fs code s).1<nn s:=h2;omega) (hg.pass F)
theorem aFn (l : List Int) : PV.flatO (.own 1 8 false []) (gM l)=true:=by
  clear F
  show PV.flatEs false [] (l.map (PV.int .i64))=true
  induction l with
  | nil=>simp [PV.flatEs]
  | cons x r ih=>simp [PV.flatEs,PV.flatE,PV.flat,ih]
theorem aAu {f : Nat} (hf : f<fs.length) (hc : fs[f].code=code) : Ok (fun r=>r = [gM (oW fs code)]) (qJ (.agg [T,.lst (fs.map dL.pv)]) (.int .i64 f)):=by
  have hn2:=F.n2
  have hn1:=F.n1
  rw [aAg]
  refine aG rfl (aB rfl (aB rfl (cD hf (fun _=>rfl) (aB (y:=.lst (code.map bI.pv)) (by rw [← hc];rfl) (aI ?_)))))
  refine aH (aFk hn1 (by omega)) (fun r hr=>?_)
  subst hr
  refine eZ (aFn F _) (kF (by omega) (by rw [List.length_replicate];omega) (xK (i:=0) (by rw [List.length_replicate];omega) ?_))
  exact aFm F code.length _ (by have:=(sB.start (n:=code.length)).1;unfold nn;exact Nat.le_trans List.countP_le_length (by omega)) sB.start
end
theorem dD.okB_fit {m : dD} (h : m.okB=true) : 1≤m.funcs.length∧m.funcs.length≤12∧∀ f∈m.funcs,Fit m.funcs f.code∧0≤f.p∧f.p≤6∧f.p≤f.lc∧f.lc≤12:=by
  simp only [dD.okB,Bool.and_eq_true,bE,decide_eq_true_eq,List.all_eq_true,kE] at h
  obtain ⟨⟨h1,h2⟩,_,_,h3⟩:=h
  have hp : ∀ i : Int,0≤eU m.funcs i∧eU m.funcs i≤6:=by
    intro i
    unfold eU
    cases hx : m.funcs[i.toNat]? with
    | none=>simp
    | some f=>exact (h3 f (List.mem_of_getElem? hx)).1
  refine ⟨by omega,by omega,fun f hf=>?_⟩
  obtain ⟨p1,p2,p3,p4⟩:=h3 f hf
  refine ⟨⟨by omega,by omega,by omega,fun x hx=>?_,fun x hx hj=>?_⟩,p1.1,p1.2,p2.1,p2.2⟩
  · have:=hp x.a
    unfold aX
    repeat' split
    all_goals (simp only;omega)
  · have:=p4 x hx
    unfold bF at this
    rcases hj with hj | hj | hj<;>simp [hj,eK] at this<;>omega
structure dR where
  f : Int
  pc : Int
  loc : List cW
  stk : List cW
def aJ (l : List cW) : PV:=.lst (l.map cW.pv)
def dR.pv (f : dR) : PV:=.agg [.int .i64 f.f,.int .i64 f.pc,aJ f.loc,aJ f.stk]
def dS (r : List cW) : PV:=.agg [aJ r]
theorem aCk {l : List cW} : ∀ x∈l.map cW.pv,x.isEl 3 true=true:=by
  intro x hx
  obtain ⟨a,_,rfl⟩:=List.mem_map.1 hx
  rfl
section
variable {P : R → Prop} {k : PV → Option R}
theorem aAv {A cs : List PV} {s : Nat} {i : Int} (hi : i=A.length) (hs : cs.length=s) (h : Ok P (k (.agg cs))) : Ok P (bd (PV.at_ s true (.lst (A++[.agg cs])) (.int .i64 i)) k):=
  cH _ (by
    subst hi
    simp only [PV.at_]
    rw [if_pos (by omega),Int.toNat_natCast,List.getElem?_append_right (Nat.le_refl _),Nat.sub_self]
    simp only [List.getElem?_cons_zero]
    rw [if_pos (by simp [PV.isEl,hs])]) h
theorem eV {A cs : List PV} {s off : Nat} {i : Int} {v : PV} (hi : i=A.length) (hs : cs.length=s) (ho : off<s) (hv : v.isEl 1 false=true) (h : Ok P (k (.lst (A++[.agg (cs.set off v)])))) :
    Ok P (bd (PV.setCell s (.lst (A++[.agg cs])) (.int .i64 i) off v) k):=by
  subst hi
  refine lO (by omega) (cs:=cs) (by rw [Int.toNat_natCast,List.getElem?_append_right (Nat.le_refl _),Nat.sub_self];rfl) hs ho hv ?_
  rw [Int.toNat_natCast,List.set_append_right _ _ (Nat.le_refl _),Nat.sub_self]
  exact h
theorem tE {l : List cW} {i : Int} (h0 : 0≤i) (h1 : i<l.length) (h : ∀ v,l[i.toNat]? = some v→Ok P (k v.pv)) : Ok P (bd (PV.at_ 3 true (aJ l) (.int .i64 i)) k):=by
  refine aC9 h0 (by rw [List.length_map];exact h1) aCk (fun x _ hx=>?_)
  rw [List.getElem?_map] at hx
  cases hl : l[i.toNat]? with
  | none=>rw [hl] at hx;cases hx
  | some v=>rw [hl] at hx;cases hx;exact h v hl
theorem eW {l : List cW} (h : Ok P (k (.int .i64 l.length))) : Ok P (bd (PV.len (aJ l)) k):=aI h
theorem mT {l : List cW} {i : Int} (h0 : 0≤i) (h1 : i<l.length) (h : Ok P (k (aJ l))) : Ok P (bd (PV.inb (aJ l) (.int .i64 i)) k):=nD h0 (by rw [List.length_map];exact h1) h
theorem fJ {l : List cW} {m n : Int} (h0 : 0≤m) (h1 : m≤n) (h2 : n≤l.length) (h : Ok P (k (aJ ((l.take n.toNat).drop m.toNat)))) : Ok P (bd (PV.cut 3 true (aJ l) (.int .i64 m) (.int .i64 n)) k):=by
  refine vO h0 h1 (by rw [List.length_map];exact h2) aCk ?_
  rw [← List.map_take,← List.map_drop]
  exact h
theorem gO {l m : List cW} (hb : l.length+m.length≤1000000000) (h : Ok P (k (aJ (l++m)))) : Ok P (bd (PV.cat 3 32 true (aJ l) (.lst (m.map cW.pv))) k):=by
  refine iZ (by simp only [List.length_map];omega) aCk ?_
  rw [← List.map_append]
  exact h
theorem xO {l : List cW} {i : Int} {v : cW} (h0 : 0≤i) (h1 : i<l.length) (h : Ok P (k (aJ (l.set i.toNat v)))) : Ok P (bd (PV.setAt 3 true (aJ l) (.int .i64 i) v.pv) k):=by
  refine aDa h0 (by rw [List.length_map];exact h1) rfl ?_
  rw [← List.map_set]
  exact h
theorem aEM {n : Int} (h0 : 0≤n) (h1 : n≤1000000000) (h : Ok P (k (aJ (List.replicate n.toNat fI)))) : Ok P (bd (PV.zeros 32 (.agg [.int .i64 0,.int .i64 0,.str (bs [])]) (.int .i64 n)) k):=by
  obtain ⟨m,rfl⟩:=Int.eq_ofNat_of_zero_le h0
  refine cH _ ?_ h
  simp only [PV.zeros]
  rw [if_pos ⟨by omega,by omega,by omega⟩,Int.toNat_natCast,aJ,List.map_replicate]
  rfl
end
section
variable {P : R → Prop} {k : R → Option R} {a0 a1 a2 a3 a4 a5 a6 a7 a8 a9 H O : PV} {A : List PV}
end
inductive aDn where
  | trap (c : Int)
  | next (fr : dR) (hp : List (List cW)) (made : Int) (out : List ByteArray)
  | call (fr : dR) (g : dR)
  | ret (v : cW)
def uQ (v : cW) (hp : List (List cW)) : ByteArray:=
  if v.k=0 then bs [110,105,108] else if v.k=1 then jZ v.n else if v.k=2 then (if v.n=1 then bs [116,114,117,101] else bs [102,97,108,115,101]) else if v.k=3 then v.s
  else if v.k=5 then bs [102,117,110]++jZ v.n
  else if v.k=4 then bs [123]++jZ ((hp[v.n.toNat]?.getD []).length)++bs [125] else bs []
def wA (fs : List dL) (i : Int) : Int:=(fs[i.toNat]?.map dL.lc).getD 0
def pL (fs : List dL) (g : Int) (args : List cW) : dR:=⟨g,0,args++List.replicate ((wA fs g).toNat - args.length) fI,[]⟩
def eH (m : dD) (fr : dR) (took : List cW) (depth : Nat) (hp : List (List cW)) (made : Int) (out : List ByteArray) (x : bI) : aDn:=
  let a:=took.headD fI
  let b:=took.tail.headD fI
  let go : List cW→aDn:=fun l=>.next ⟨fr.f,fr.pc,fr.loc,fr.stk++l⟩ hp made out
  let rec_ : List cW:=hp[a.n.toNat]?.getD []
  if x.o=1 then go [aA5 x.a]
  else if x.o=2 then go [mR (decide (x.a=1))]
  else if x.o=3 then go [aAp (m.texts[x.a.toNat]?.getD (bs []))]
  else if x.o=4 then go [fI]
  else if x.o=5 then go [aFX x.a]
  else if x.o=6 then go [fr.loc[x.a.toNat]?.getD fI]
  else if x.o=7 then .next ⟨fr.f,fr.pc,fr.loc.set x.a.toNat a,fr.stk⟩ hp made out
  else if x.o=8 then go [a,a]
  else if x.o=9 then go []
  else if x.o=10 then go [b,a]
  else if x.o≤15 then (if (xN x.o a b).2≠0 then .trap (xN x.o a b).2 else go [(xN x.o a b).1])
  else if x.o=16 then (if (aCh a).2≠0 then .trap (aCh a).2 else go [(aCh a).1])
  else if x.o=17 then .next ⟨fr.f,x.a,fr.loc,fr.stk⟩ hp made out
  else if x.o≤19 then (if a.k≠2 then .trap 1 else if (decide (a.n=1)==decide (x.o=18))=true then .next ⟨fr.f,x.a,fr.loc,fr.stk⟩ hp made out else go [])
  else if x.o=20 then (if made=120 then .trap 7 else .next ⟨fr.f,fr.pc,fr.loc,fr.stk++[aFW hp.length]⟩ (hp++[List.replicate x.a.toNat fI]) (made+1) out)
  else if x.o=21 then (if a.k≠4 then .trap 1 else if rec_.length≤x.a then .trap 4 else go [rec_[x.a.toNat]?.getD fI])
  else if x.o=22 then (if a.k≠4 then .trap 1 else if rec_.length≤x.a then .trap 4 else .next fr (hp.set a.n.toNat (rec_.set x.a.toNat b)) made out)
  else if x.o=23 then (if a.k≠5 then .trap 1 else if eU m.funcs a.n≠x.a then .trap 5 else if depth=24 then .trap 6 else .call fr (pL m.funcs a.n took.tail))
  else if x.o=24 then (if depth=24 then .trap 6 else .call fr (pL m.funcs x.a took))
  else if x.o=25 then .ret a
  else if out.length=200 then .trap 8 else .next fr hp made (out++[uQ a hp])
section
variable {a2 a3 a4 a5 a6 a7 a8 H O T : PV} {A : List PV} {fs : List dL}
end
section
variable {P : R → Prop} {k : R → Option R}
theorem kZ {a b : cW} {q : Int} (h : Ok P (k [.bool (decide (a.k=q)&&decide (b.k=q))])) : Ok P (bd (lF a.pv b.pv (.int .i64 q)) k):=by
  refine aH (Q:=fun r=>r = [.bool (decide (a.k=q)&&decide (b.k=q))]) ?_ (fun r hr=>by rw [hr];exact h)
  rw [aCd]
  refine aG rfl (aB rfl (aB rfl (aB rfl (aG rfl (aB rfl (aB rfl (aB rfl (aE ?_))))))))
  refine aC (fun h1=>aE (aA ?_)) (fun h1=>aA ?_)
  · rw [decide_eq_true h1];rfl
  · rw [decide_eq_false h1];rfl
theorem kA {n : Int} (h : Ok P (k [.bool (cB n)])) : Ok P (bd (dV (.int .i64 n)) k):=by
  refine aH (Q:=fun r=>r = [.bool (cB n)]) ?_ (fun r hr=>by rw [hr];exact h)
  rw [jX]
  exact bU (aA rfl)
theorem sC {n : Int} (h : Ok P (k [(aA5 n).pv])) : Ok P (bd (oO (.int .i64 n)) k):=by
  refine aH (Q:=fun r=>r = [(aA5 n).pv]) ?_ (fun r hr=>by rw [hr];exact h)
  rw [aAZ]
  exact fB rfl (aA rfl)
theorem gP {c : Bool} (h : Ok P (k [(mR c).pv])) : Ok P (bd (gI (.bool c)) k):=by
  refine aH (Q:=fun r=>r = [(mR c).pv]) ?_ (fun r hr=>by rw [hr];exact h)
  rw [aAj]
  cases c
  · exact bG (aA rfl)
  · exact aR (aA rfl)
def aF4 (f : PV) (g : Int→Int→Int) : Prop:=∀ {a b : Int} {P : R→Prop} {k : R→Option R},cB a=true→cB b=true→Ok P (k [.int .i64 (g a b)])→Ok P (bd (PV.apply pcallO f [.int .i64 a,.int .i64 b]) k)
theorem aCl {a : Int} (h : cB a=true) : -1000000000≤a∧a≤1000000000:=bE.1 h
theorem kM {a b : cW} {o : Int} {f : PV} (hf : aF4 f (aCf o)) (h : Ok P (k (opR (aCg o a b)))) : Ok P (bd (jC a.pv b.pv f) k):=by
  refine aH (Q:=fun r=>r=opR (aCg o a b)) ?_ (fun r hr=>by rw [hr];exact h)
  rw [yA]
  unfold aCg
  refine aG rfl (aB rfl (aB rfl (aB rfl (aG rfl (aB rfl (aB rfl (aB rfl (kZ (eA ?_)))))))))
  by_cases h1 : a.k=1∧b.k=1
  · rw [decide_eq_true h1.1,decide_eq_true h1.2,if_neg (by omega),if_neg (by omega)]
    refine bG (kA (eA ?_))
    cases h2 : cB a.n with
    | false=>exact aR (aA (by simp [opR,cW.pv,fI]))
    | true=>
      refine bG (kA (eA ?_))
      cases h3 : cB b.n with
      | false=>exact aR (aA (by simp [opR,cW.pv,fI]))
      | true=>
        refine bG (hf h2 h3 (kA (eA ?_)))
        cases h4 : cB (aCf o a.n b.n) with
        | false=>exact aR (aA (by simp [opR,cW.pv,fI,h4]))
        | true=>
          refine bG (hf h2 h3 (sC ?_))
          exact aG rfl (aB rfl (aB rfl (aB rfl (aA (by simp [opR,cW.pv,aA5,h4])))))
  · have h5 : (decide (a.k=1)&&decide (b.k=1))=false:=by
      cases h : (decide (a.k=1)&&decide (b.k=1))
      · rfl
      · simp only [Bool.and_eq_true,decide_eq_true_eq] at h;exact absurd h h1
    rw [h5]
    refine aR (aA ?_)
    by_cases h6 : a.k=1
    · rw [if_neg (by omega),if_pos (fun h7=>h1 ⟨h6,h7⟩)];rfl
    · rw [if_pos h6];rfl
theorem aCm {f : Nat} {o : Int} {g : PV→PV→Option R} (hg : ∀ x y,pcallO f [x,y]=g x y) (h : ∀ {a b : Int},cB a=true→cB b=true→Ok (fun r=>r = [.int .i64 (aCf o a b)]) (g (.int .i64 a) (.int .i64 b))) : aF4 (.fn f []) (aCf o):=
  fun ha hb hk=>jA (f:=f) (hg _ _) (h ha hb) (fun r hr=>by rw [hr];exact hk)
theorem aF5 {s : ByteArray} (h : Ok P (k [.bool false])) : Ok P (bd (gY (.str s)) k):=by
  refine aH (Q:=fun r=>r = [.bool false]) ?_ (fun r hr=>by rw [hr];exact h)
  rw [rO]
  exact aFh (aA rfl)
theorem aEi {s t : ByteArray} (h : Ok P (k [.bool (PV.bytesLt s.toList t.toList)])) : Ok P (bd (kJ (.str s) (.str t)) k):=by
  refine aH (Q:=fun r=>r = [.bool (PV.bytesLt s.toList t.toList)]) ?_ (fun r hr=>by rw [hr];exact h)
  rw [tC]
  exact aF5 (bG (aGA (aA rfl)))
theorem aG2 {f : Nat} (hg : ∀ x y,pcallO f [x,y]=oP x y) : aF4 (.fn f []) (aCf 11):=aCm (g:=oP) hg (fun ha hb=>by
  have:=aCl ha;have:=aCl hb
  rw [yB]
  exact bC (by omega) (aA rfl))
theorem aG3 {f : Nat} (hg : ∀ x y,pcallO f [x,y]=oQ x y) : aF4 (.fn f []) (aCf 12):=aCm (g:=oQ) hg (fun ha hb=>by
  have:=aCl ha;have:=aCl hb
  rw [yC]
  exact nC (by omega) (aA rfl))
theorem aG4 {f : Nat} (hg : ∀ x y,pcallO f [x,y]=oR x y) : aF4 (.fn f []) (aCf 13):=aCm (g:=oR) hg (fun ha hb=>by
  have:=aG0 ha hb
  rw [yD]
  exact aCa (by omega) (aA rfl))
theorem aF6 {a b : cW} (hs : a.s.size≤1000000∧b.s.size≤1000000) : Ok (fun r=>r=opR (xN 11 a b)) (sT a.pv b.pv):=by
  rw [aA1]
  refine aG rfl (aB rfl (aB rfl (aB rfl (aG rfl (aB rfl (aB rfl (aB rfl (kZ ?_))))))))
  have e : xN 11 a b=(if a.k=3∧b.k=3 then (if (60 : Int)<a.s.size+b.s.size then (fI,3) else (aAp (a.s++b.s),0)) else aCg 11 a b):=rfl
  rw [e]
  by_cases h1 : a.k=3∧b.k=3
  · rw [if_pos h1,decide_eq_true h1.1,decide_eq_true h1.2]
    refine aR (rF (rF (bC (by omega) (oK (aC (fun h2=>aA ?_) (fun h2=>yI (by omega) (fB rfl (aA ?_))))))))
    · rw [if_pos h2];rfl
    · rw [if_neg h2];rfl
  · have h5 : (decide (a.k=3)&&decide (b.k=3))=false:=by
      cases h : (decide (a.k=3)&&decide (b.k=3))
      · rfl
      · simp only [Bool.and_eq_true,decide_eq_true_eq] at h;exact absurd h h1
    rw [if_neg h1,h5]
    refine bG (kM (aG2 (fun _ _=>rfl)) (cF rfl (cF rfl (aG rfl (aB rfl (aB rfl (aB rfl (aA rfl))))))))
theorem aF7 {a b : cW} : Ok (fun r=>r=opR (xN 12 a b)) (sU a.pv b.pv):=by
  rw [aA2]
  exact aG rfl (aB rfl (aB rfl (aB rfl (aG rfl (aB rfl (aB rfl (aB rfl (kM (aG3 (fun _ _=>rfl)) (cF rfl (cF rfl (aG rfl (aB rfl (aB rfl (aB rfl (aA rfl)))))))))))))))
theorem aF8 {a b : cW} : Ok (fun r=>r=opR (xN 13 a b)) (sV a.pv b.pv):=by
  rw [aA3]
  exact aG rfl (aB rfl (aB rfl (aB rfl (aG rfl (aB rfl (aB rfl (aB rfl (kM (aG4 (fun _ _=>rfl)) (cF rfl (cF rfl (aG rfl (aB rfl (aB rfl (aB rfl (aA rfl)))))))))))))))
theorem aF9 {p q : Prop} [Decidable p] [Decidable q] (h : ¬ (p∧q)) : (decide p&&decide q)=false:=by
  cases h' : (decide p&&decide q)
  · rfl
  · simp only [Bool.and_eq_true,decide_eq_true_eq] at h';exact absurd h' h
theorem aFo {a b : cW} : Ok (fun r=>r=opR (xN 14 a b)) (qL a.pv b.pv):=by
  rw [aAl]
  have e : xN 14 a b=(if a.k=3∧b.k=3 then (mR (PV.bytesLt a.s.toList b.s.toList),0) else if a.k=1∧b.k=1 then (mR (decide (a.n<b.n)),0) else (fI,1)):=rfl
  rw [e]
  refine aG rfl (aB rfl (aB rfl (aB rfl (aG rfl (aB rfl (aB rfl (aB rfl (kZ ?_))))))))
  by_cases h1 : a.k=1∧b.k=1
  · rw [if_neg (by omega),if_pos h1,decide_eq_true h1.1,decide_eq_true h1.2]
    exact aR (aS (gP (aG rfl (aB rfl (aB rfl (aB rfl (aA rfl)))))))
  · rw [aF9 h1]
    refine bG (kZ ?_)
    by_cases h2 : a.k=3∧b.k=3
    · rw [if_pos h2,decide_eq_true h2.1,decide_eq_true h2.2]
      exact aR (aEi (gP (aG rfl (aB rfl (aB rfl (aB rfl (aA rfl)))))))
    · rw [if_neg h2,if_neg h1,aF9 h2]
      exact bG (aA rfl)
theorem aEN {a b : cW} {k : PV→Option R} (h : Ok P (k (.bool (decide (a.k=b.k)&&(decide (a.n=b.n)&&jE a.s b.s))))) : Ok P (bd (PV.ceq [1,1,2] .eql (.agg [.int .i64 a.k,.int .i64 a.n,.str a.s]) (.agg [.int .i64 b.k,.int .i64 b.n,.str b.s])) k):=
  cH _ (by simp [PV.ceq,PV.eqCells,PV.eqScalar,PV.eqOr,jE];rfl) h
theorem aFp {a b : cW} : Ok (fun r=>r = [(aBx a b).pv]) (qK a.pv b.pv):=by
  rw [aAk]
  exact aG rfl (aB rfl (aB rfl (aB rfl (aG rfl (aB rfl (aB rfl (aB rfl (aEN (gP (aG rfl (aB rfl (aB rfl (aB rfl (aA rfl))))))))))))))
theorem aGa {v : cW} : Ok (fun r=>r=opR (aCh v)) (sS v.pv):=by
  rw [aA0]
  unfold aCh
  refine aG rfl (aB rfl (aB rfl (aB rfl (dU (bJ (fun h=>aA ?_) (fun h=>dU (gP (aG rfl (aB rfl (aB rfl (aB rfl (aA ?_))))))))))))
  · rw [if_pos h];rfl
  · rw [if_neg (by omega)];rfl
end
def uR (v : cW) : List dR→List dR
  | []=>[]
  | [f]=>[⟨f.f,f.pc,f.loc,f.stk++[v]⟩]
  | f::g::r=>f::uR v (g::r)
theorem tF (v : cW) : ∀ (l : List dR) (f : dR),uR v (l++[f])=l++[⟨f.f,f.pc,f.loc,f.stk++[v]⟩]
  | [],_=>rfl
  | [a],f=>rfl
  | a::b::l,f=>by
    show a::uR v (b::l++[f])=_
    rw [tF v (b::l) f]
    rfl
def DoR (a0 a1 made a3 a4 a5 a6 a7 a8 H O : PV) (fs0 : List dR) : aDn→R→Prop
  | .trap c,r=>c≠0∧gd r 9 = .int .i64 c
  | .next fr hp made' out,r=>r = [a0,a1,.int .i64 made',a3,a4,a5,a6,a7,a8,.int .i64 0,.lst (fs0.map dR.pv++[fr.pv]),.lst (hp.map dS),.lst (out.map PV.str)]
  | .call fr g,r=>r = [a0,a1,made,a3,a4,a5,a6,a7,a8,.int .i64 0,.lst (fs0.map dR.pv++[fr.pv]++[g.pv]),H,O]
  | .ret v,r=>r=if fs0 = [] then [a0,a1,made,.int .i64 1,a4,.int .i64 v.k,.int .i64 v.n,.str v.s,a8,.int .i64 0,.lst [],H,O]
      else [a0,a1,made,a3,a4,a5,a6,a7,a8,.int .i64 0,.lst ((uR v fs0).map dR.pv),H,O]
structure aGT (m : dD) (fs0 : List dR) (fr : dR) (took : List cW) (hp : List (List cW)) (made : Int) (out : List ByteArray) : Prop where
  nf : m.funcs.length≤12
  nt : m.texts.length≤20
  par : ∀ f∈m.funcs,0≤f.p∧f.p≤6∧f.p≤f.lc∧f.lc≤12
  n0 : fs0.length≤23
  stks : ∀ f∈fs0,f.stk.length≤16
  nl : fr.loc.length≤12
  ns : fr.stk.length+took.length≤16
  recs : ∀ r∈hp,r.length≤6
  nh : hp.length≤120
  nm : 0≤made∧made≤120
  no : out.length≤200
  aJ : ∀ v∈took,bM m.funcs.length hp.length v=true
theorem aEj {nf recs : Int} {v : cW} (h : bM nf recs v=true) : v.s.size≤60:=by
  by_cases h3 : v.k=3
  · unfold bM at h
    rw [if_neg (fun e=>e.1 h3),if_neg (by omega),if_neg (by omega),if_neg (by omega),if_pos h3] at h
    simp only [Bool.and_eq_true,eL,decide_eq_true_eq] at h
    omega
  · unfold bM at h
    split at h
    · cases h
    · rename_i hn
      have he : jE v.s (bs [])=true:=by
        cases hs : jE v.s (bs []) with
        | true=>rfl
        | false=>exact absurd ⟨h3,hs⟩ hn
      have e0 : (bs []).toList = []:=by rw [Lib.toList_data];rfl
      unfold jE at he
      rw [e0] at he
      have hl : v.s.toList = []:=by simpa using he
      have hsz : v.s.size=v.s.toList.length:=by
        rw [Lib.toList_data,Array.length_toList]
        rfl
      rw [hsz,hl]
      simp
theorem rI {nf recs : Int} {v : cW} (h : bM nf recs v=true) (hk : v.k=4) : 0≤v.n∧v.n<recs:=by
  unfold bM at h
  by_cases hc : v.k≠3∧jE v.s (bs [])=false
  · rw [if_pos hc] at h;cases h
  · rw [if_neg hc,if_neg (by omega),if_neg (by omega),if_neg (by omega),if_neg (by omega),if_pos hk] at h
    simp only [Bool.and_eq_true,decide_eq_true_eq] at h
    exact h
theorem aBB {nf recs : Int} {v : cW} (h : bM nf recs v=true) (hk : v.k=5) : 0≤v.n∧v.n<nf:=by
  unfold bM at h
  by_cases hc : v.k≠3∧jE v.s (bs [])=false
  · rw [if_pos hc] at h;cases h
  · rw [if_neg hc,if_neg (by omega),if_neg (by omega),if_neg (by omega),if_neg (by omega),if_neg (by omega),if_pos hk] at h
    have:=bE.1 h
    omega
theorem wC {nt nf lc nc : Int} {x : bI} (h : bF nt nf lc nc x.o x.a=true) : (1≤x.o∧x.o≤26)∧(x.o=3→0≤x.a∧x.a<nt)∧((x.o=6∨x.o=7)→0≤x.a∧x.a<lc)∧(x.o=20→0≤x.a∧x.a≤6)∧
    ((x.o=21∨x.o=22)→0≤x.a∧x.a≤5)∧(x.o=23→0≤x.a∧x.a≤6)∧((x.o=5∨x.o=24)→0≤x.a∧x.a<nf)∧((x.o=17∨x.o=18∨x.o=19)→0≤x.a∧x.a<nc)∧(x.o=1→cB x.a=true):=by
  unfold bF at h
  by_cases h1 : x.o=1
  · rw [if_pos h1] at h
    have h:=bE.1 h
    exact ⟨by omega,fun _=>by omega,fun _=>by omega,fun _=>by omega,fun _=>by omega,fun _=>by omega,fun _=>by omega,fun _=>by omega,fun _=>by first | (unfold cB;exact bE.2 (by omega)) | (exfalso;omega)⟩
  rw [if_neg h1] at h
  by_cases h2 : x.o=2
  · rw [if_pos h2] at h
    have h:=bE.1 h
    exact ⟨by omega,fun _=>by omega,fun _=>by omega,fun _=>by omega,fun _=>by omega,fun _=>by omega,fun _=>by omega,fun _=>by omega,fun _=>by first | (unfold cB;exact bE.2 (by omega)) | (exfalso;omega)⟩
  rw [if_neg h2] at h
  by_cases h3 : x.o=3
  · rw [if_pos h3] at h
    have h:=bE.1 h
    exact ⟨by omega,fun _=>by omega,fun _=>by omega,fun _=>by omega,fun _=>by omega,fun _=>by omega,fun _=>by omega,fun _=>by omega,fun _=>by first | (unfold cB;exact bE.2 (by omega)) | (exfalso;omega)⟩
  rw [if_neg h3] at h
  by_cases h5 : x.o=5
  · rw [if_pos h5] at h
    have h:=bE.1 h
    exact ⟨by omega,fun _=>by omega,fun _=>by omega,fun _=>by omega,fun _=>by omega,fun _=>by omega,fun _=>by omega,fun _=>by omega,fun _=>by first | (unfold cB;exact bE.2 (by omega)) | (exfalso;omega)⟩
  rw [if_neg h5] at h
  by_cases h24 : x.o=24
  · rw [if_pos h24] at h
    have h:=bE.1 h
    exact ⟨by omega,fun _=>by omega,fun _=>by omega,fun _=>by omega,fun _=>by omega,fun _=>by omega,fun _=>by omega,fun _=>by omega,fun _=>by first | (unfold cB;exact bE.2 (by omega)) | (exfalso;omega)⟩
  rw [if_neg h24] at h
  by_cases h6 : x.o=6
  · rw [if_pos h6] at h
    have h:=bE.1 h
    exact ⟨by omega,fun _=>by omega,fun _=>by omega,fun _=>by omega,fun _=>by omega,fun _=>by omega,fun _=>by omega,fun _=>by omega,fun _=>by first | (unfold cB;exact bE.2 (by omega)) | (exfalso;omega)⟩
  rw [if_neg h6] at h
  by_cases h7 : x.o=7
  · rw [if_pos h7] at h
    have h:=bE.1 h
    exact ⟨by omega,fun _=>by omega,fun _=>by omega,fun _=>by omega,fun _=>by omega,fun _=>by omega,fun _=>by omega,fun _=>by omega,fun _=>by first | (unfold cB;exact bE.2 (by omega)) | (exfalso;omega)⟩
  rw [if_neg h7] at h
  by_cases h17 : x.o=17
  · rw [if_pos h17] at h
    have h:=bE.1 h
    exact ⟨by omega,fun _=>by omega,fun _=>by omega,fun _=>by omega,fun _=>by omega,fun _=>by omega,fun _=>by omega,fun _=>by omega,fun _=>by first | (unfold cB;exact bE.2 (by omega)) | (exfalso;omega)⟩
  rw [if_neg h17] at h
  by_cases h18 : x.o=18
  · rw [if_pos h18] at h
    have h:=bE.1 h
    exact ⟨by omega,fun _=>by omega,fun _=>by omega,fun _=>by omega,fun _=>by omega,fun _=>by omega,fun _=>by omega,fun _=>by omega,fun _=>by first | (unfold cB;exact bE.2 (by omega)) | (exfalso;omega)⟩
  rw [if_neg h18] at h
  by_cases h19 : x.o=19
  · rw [if_pos h19] at h
    have h:=bE.1 h
    exact ⟨by omega,fun _=>by omega,fun _=>by omega,fun _=>by omega,fun _=>by omega,fun _=>by omega,fun _=>by omega,fun _=>by omega,fun _=>by first | (unfold cB;exact bE.2 (by omega)) | (exfalso;omega)⟩
  rw [if_neg h19] at h
  by_cases h20 : x.o=20
  · rw [if_pos h20] at h
    have h:=bE.1 h
    exact ⟨by omega,fun _=>by omega,fun _=>by omega,fun _=>by omega,fun _=>by omega,fun _=>by omega,fun _=>by omega,fun _=>by omega,fun _=>by first | (unfold cB;exact bE.2 (by omega)) | (exfalso;omega)⟩
  rw [if_neg h20] at h
  by_cases h21 : x.o=21
  · rw [if_pos h21] at h
    have h:=bE.1 h
    exact ⟨by omega,fun _=>by omega,fun _=>by omega,fun _=>by omega,fun _=>by omega,fun _=>by omega,fun _=>by omega,fun _=>by omega,fun _=>by first | (unfold cB;exact bE.2 (by omega)) | (exfalso;omega)⟩
  rw [if_neg h21] at h
  by_cases h22 : x.o=22
  · rw [if_pos h22] at h
    have h:=bE.1 h
    exact ⟨by omega,fun _=>by omega,fun _=>by omega,fun _=>by omega,fun _=>by omega,fun _=>by omega,fun _=>by omega,fun _=>by omega,fun _=>by first | (unfold cB;exact bE.2 (by omega)) | (exfalso;omega)⟩
  rw [if_neg h22] at h
  by_cases h23 : x.o=23
  · rw [if_pos h23] at h
    have h:=bE.1 h
    exact ⟨by omega,fun _=>by omega,fun _=>by omega,fun _=>by omega,fun _=>by omega,fun _=>by omega,fun _=>by omega,fun _=>by omega,fun _=>by first | (unfold cB;exact bE.2 (by omega)) | (exfalso;omega)⟩
  rw [if_neg h23] at h
  simp only [Bool.and_eq_true,decide_eq_true_eq,bE] at h
  exact ⟨by omega,fun _=>by omega,fun _=>by omega,fun _=>by omega,fun _=>by omega,fun _=>by omega,fun _=>by omega,fun _=>by omega,fun _=>by first | (unfold cB;exact bE.2 (by omega)) | (exfalso;omega)⟩
section
variable {P : R → Prop} {k : PV → Option R} {hp : List (List cW)}
theorem hH {i : Int} (h0 : 0≤i) (h1 : i<hp.length) (h : Ok P (k (dS (hp[i.toNat]?.getD [])))) : Ok P (bd (PV.at_ 1 true (.lst (hp.map dS)) (.int .i64 i)) k):=by
  obtain ⟨n,rfl⟩:=Int.eq_ofNat_of_zero_le h0
  have hn : n<hp.length:=by omega
  rw [Int.toNat_natCast,List.getElem?_eq_getElem hn] at h
  exact cD hn (fun _=>rfl) h
theorem aAw {i : Int} (h0 : 0≤i) (h1 : i<hp.length) (h : Ok P (k (.lst (hp.map dS)))) : Ok P (bd (PV.inb (.lst (hp.map dS)) (.int .i64 i)) k):=nD h0 (by rw [List.length_map];exact h1) h
theorem aEk {i : Int} {r : List cW} (h0 : 0≤i) (h1 : i<hp.length) (h : Ok P (k (.lst ((hp.set i.toNat r).map dS)))) : Ok P (bd (PV.setCell 1 (.lst (hp.map dS)) (.int .i64 i) 0 (aJ r)) k):=by
  obtain ⟨n,rfl⟩:=Int.eq_ofNat_of_zero_le h0
  have hn : n<hp.length:=by omega
  refine lO (cs:=[aJ hp[n]]) (by omega) (by rw [Int.toNat_natCast,List.getElem?_map,List.getElem?_eq_getElem hn];rfl) rfl (by omega) rfl ?_
  rw [List.map_set] at h
  exact h
end
theorem tG {α : Type} {l : List α} (h : l.length=2) : ∃ a b,l = [a,b]:=by
  match l,h with
  | [a,b],_=>exact ⟨a,b,rfl⟩
theorem aFq {l : List dR} : ∀ x∈l.map dR.pv,x.isEl 4 true=true:=by
  intro x hx
  obtain ⟨a,_,rfl⟩:=List.mem_map.1 hx
  rfl
theorem aG5 {a b : ByteArray} (h : a.data.toList=b.data.toList) : a=b:=by
  cases a;cases b;congr 1;exact Array.toList_inj.1 h
theorem rJ (a b : ByteArray) : (a++b).data.toList=a.data.toList++b.data.toList:=by
  rw [ByteArray.data_append,Array.toList_append]
theorem nT : ∀ (j : Nat) (n : Nat),n<10 ^ (j+1)→(aA6 j (n : Int)).data.toList=Lib.decDigits n
  | 0,n,h=>by
    rw [Lib.decDigits_one (by omega)]
    show [UInt8.ofNat (48+(n : Int)).toNat]=_
    rw [show (48+(n : Int)).toNat=48+n by omega]
  | j+1,n,h=>by
    unfold aA6
    by_cases h1 : (n : Int)<10
    · rw [if_pos h1,Lib.decDigits_one (by omega)]
      show [UInt8.ofNat (48+(n : Int)).toNat]=_
      rw [show (48+(n : Int)).toNat=48+n by omega]
    · rw [if_neg h1,rJ,show ((n : Int) / 10)=((n / 10 : Nat) : Int) by omega,nT j (n / 10) (by have : 10 ^ (j+1+1)=10 ^ (j+1)*10:=Nat.pow_succ ..;omega)]
      conv=>rhs;rw [Lib.decDigits,dif_neg (by omega)]
      show _++[UInt8.ofNat (48+(n : Int) % 10).toNat]=_
      rw [show (48+(n : Int) % 10).toNat=48+n % 10 by omega]
theorem aDo {n : Int} (hn : -1000000000≤n∧n≤1000000000) : (⟨(Lib.itoa n).toArray⟩ : ByteArray)=jZ n:=by
  refine aG5 ?_
  show Lib.itoa n=(jZ n).data.toList
  unfold Lib.itoa jZ
  by_cases h0 : n<0
  · rw [if_pos h0,if_pos h0]
    obtain ⟨q,rfl⟩ : ∃ q : Nat,n = -(q : Int):=⟨n.natAbs,by omega⟩
    rw [show (-(q : Int)).natAbs=q by omega]
    by_cases h9 : -(q : Int) < -9
    · obtain ⟨e1,e2⟩:=aFY h0
      rw [if_pos h9,e1,e2,Int.neg_neg,Int.neg_neg,Int.neg_neg,rJ,rJ,show (q : Int) / 10=((q / 10 : Nat) : Int) by omega,show (q : Int) % 10=((q % 10 : Nat) : Int) by omega,
        nT 18 (q / 10) (by omega),nT 18 (q % 10) (by omega),Lib.decDigits_one (show q % 10<10 by omega)]
      conv=>lhs;rw [Lib.decDigits,dif_neg (by omega)]
      rfl
    · rw [if_neg h9,Int.neg_neg,rJ,nT 18 q (by omega)]
      rfl
  · rw [if_neg h0,if_neg h0]
    obtain ⟨q,rfl⟩:=Int.eq_ofNat_of_zero_le (show 0≤n by omega)
    rw [Int.toNat_natCast,nT 18 q (by omega)]
section
variable {P : R → Prop} {k : R → Option R}
theorem aCn {n : Int} (hn : -1000000000≤n∧n≤1000000000) (h : Ok P (k [.str (jZ n)])) : Ok P (bd (strconv_Itoa (.int .i64 n)) k):=by
  refine aH (Q:=fun r=>r = [.str (jZ n)]) ?_ (fun r hr=>by rw [hr];exact h)
  rw [xZ]
  unfold nG
  simp only
  rw [if_pos (by omega)]
  exact aA (by rw [aDo hn])
theorem aEl {b : Bool} (h : Ok P (k [.str (if b then bs [116,114,117,101] else bs [102,97,108,115,101])])) : Ok P (bd (iO (.bool b)) k):=by
  refine aH (Q:=fun r=>r = [.str (if b then bs [116,114,117,101] else bs [102,97,108,115,101])]) ?_ (fun r hr=>by rw [hr];exact h)
  rw [pJ]
  refine aH (Q:=fun r=>r = [.str (if b then bs [116,114,117,101] else bs [102,97,108,115,101])]) ?_ (fun r hr=>by rw [hr];exact aA rfl)
  rw [jR]
  cases b
  · exact bG (aA rfl)
  · exact aR (aA rfl)
theorem aGD {s : ByteArray} (hs : s.size≤1000000) (h : Ok P (k [.bool (eL s)])) : Ok P (bd (eS (.str s)) k):=aH (rG hs) (fun r hr=>by rw [hr];exact h)
theorem aEm {v : cW} {nf recs : Int} (hs : v.s.size≤1000000) (hn : -1000000000≤nf∧nf≤1000000000) (hr : -1000000000≤recs∧recs≤1000000000) : Ok (fun r=>r = [.bool (bM nf recs v)]) (oM v.pv (.int .i64 nf) (.int .i64 recs)):=by
  rw [xW]
  refine aG rfl (aB rfl (aB rfl (aB rfl ?_)))
  refine aE (aC (fun h0=>?_) (fun h0=>?_))
  rotate_left
  refine aE (aC (fun h1=>kA ?_) (fun h1=>?_))
  rotate_left
  refine aE (aC (fun h2=>bU ?_) (fun h2=>?_))
  rotate_left
  refine aE (aC (fun h3=>aE ?_) (fun h3=>?_))
  rotate_left
  refine aE (aC (fun h4=>bV hr ?_) (fun h4=>?_))
  rotate_left
  refine aE (aC (fun h5=>bV hn ?_) (fun h5=>aA ?_))
  rotate_right 5
  · refine aEN (a:=v) (b:=⟨0,0,bs []⟩) (aA ?_)
    unfold bM
    cases hse : jE v.s (bs []) with
    | false=>rw [if_pos ⟨by omega,rfl⟩];simp [hse]
    | true=>rw [if_neg (by simp),if_pos h0];simp [h0,hse]
  all_goals unfold bM
  · cases hse : jE v.s (bs []) with
    | false=>
      rw [if_pos ⟨by omega,rfl⟩]
      cases cB v.n
      · exact bG (aA rfl)
      · exact aR (mS (aA (by rw [hse])))
    | true=>
      rw [if_neg (by simp),if_neg h0,if_pos h1]
      cases cB v.n
      · exact bG (aA rfl)
      · exact aR (mS (aA (by rw [hse])))
  · cases hse : jE v.s (bs []) with
    | false=>
      rw [if_pos ⟨by omega,rfl⟩]
      cases eK v.n 0 1
      · exact bG (aA rfl)
      · exact aR (mS (aA (by rw [hse])))
    | true=>
      rw [if_neg (by simp),if_neg h0,if_neg h1,if_pos h2]
      cases eK v.n 0 1
      · exact bG (aA rfl)
      · exact aR (mS (aA (by rw [hse])))
  · rw [if_neg (fun h=>h.1 h3),if_neg h0,if_neg h1,if_neg h2,if_pos h3]
    refine aC (fun h6=>aGD hs (aA ?_)) (fun h6=>aA ?_)
    · rw [decide_eq_true h6];rfl
    · rw [decide_eq_false h6];rfl
  · have e : eK v.n 0 (recs - 1)=(decide (0≤v.n)&&decide (v.n<recs)):=by
      unfold eK
      congr 1
      exact decide_eq_decide.2 (by omega)
    rw [e]
    cases hse : jE v.s (bs []) with
    | false=>
      rw [if_pos ⟨by omega,rfl⟩]
      cases (decide (0≤v.n)&&decide (v.n<recs))
      · exact bG (aA rfl)
      · exact aR (mS (aA (by rw [hse])))
    | true=>
      rw [if_neg (by simp),if_neg h0,if_neg h1,if_neg h2,if_neg h3,if_pos h4]
      cases (decide (0≤v.n)&&decide (v.n<recs))
      · exact bG (aA rfl)
      · exact aR (mS (aA (by rw [hse])))
  · cases hse : jE v.s (bs []) with
    | false=>
      rw [if_pos ⟨by omega,rfl⟩]
      cases eK v.n 0 (nf - 1)
      · exact bG (aA rfl)
      · exact aR (mS (aA (by rw [hse])))
    | true=>
      rw [if_neg (by simp),if_neg h0,if_neg h1,if_neg h2,if_neg h3,if_neg h4,if_pos h5]
      cases eK v.n 0 (nf - 1)
      · exact bG (aA rfl)
      · exact aR (mS (aA (by rw [hse])))
  · by_cases hse : jE v.s (bs [])=false
    · rw [if_pos ⟨by omega,hse⟩]
    · rw [if_neg (fun h=>hse h.2),if_neg h0,if_neg h1,if_neg h2,if_neg h3,if_neg h4,if_neg h5]
theorem aCo {v : cW} {hp : List (List cW)} {nf : Int} (hnf : nf≤1000) (hh : hp.length≤1000) (hr : ∀ r∈hp,r.length≤1000) (hv : bM nf hp.length v=true) :
    Ok (fun r=>r = [.str (uQ v hp)]) (lQ v.pv (.lst (hp.map dS))):=by
  have hn : -1000000000≤v.n∧v.n≤1000000000∧(v.k=4→0≤v.n∧v.n<hp.length)∧0≤v.k∧v.k≤5:=by
    unfold bM at hv
    repeat' split at hv
    all_goals first
      | (cases hv;done)
      | (simp only [cB,bE,Bool.and_eq_true,decide_eq_true_eq] at hv;omega)
  rw [uJ]
  unfold uQ
  have hdig:=uM v.n
  refine aG rfl (aB rfl (aB rfl (aB rfl ?_)))
  refine aE (aC (fun h0=>aA ?_) (fun h0=>?_))
  · rw [if_pos h0]
  refine aE (aC (fun h1=>aCn (by omega) (aA ?_)) (fun h1=>?_))
  · rw [if_neg h0,if_pos h1];rfl
  refine aE (aC (fun h2=>aE (aEl (aA ?_))) (fun h2=>?_))
  · rw [if_neg h0,if_neg h1,if_pos h2]
    by_cases h : v.n=1
    · rw [decide_eq_true h,if_pos h,if_pos rfl];rfl
    · rw [decide_eq_false h,if_neg h,if_neg (by simp)];rfl
  refine aE (aC (fun h3=>aA ?_) (fun h3=>?_))
  · rw [if_neg h0,if_neg h1,if_neg h2,if_pos h3]
  refine aE (aC (fun h5=>aCn (by omega) (yI ?_ (aA ?_))) (fun h5=>?_))
  · have : (bs [102,117,110]).size=3:=rfl
    omega
  · rw [if_neg h0,if_neg h1,if_neg h2,if_neg h3,if_pos h5]
  refine aE (aC (fun h4=>aI (bV (by omega) ?_)) (fun h4=>aA ?_))
  · have h6:=hn.2.2.1 h4
    rw [bE.2 (by omega),if_neg h0,if_neg h1,if_neg h2,if_neg h3,if_neg h5,if_pos h4]
    have hlen : (hp[v.n.toNat]?.getD []).length≤1000:=by
      cases hg : hp[v.n.toNat]? with
      | none=>simp
      | some r=>exact hr r (List.mem_of_getElem? hg)
    have hd:=uM (hp[v.n.toNat]?.getD []).length
    have e1 : (bs [123]).size=1:=rfl
    have e2 : (bs [125]).size=1:=rfl
    refine aR (hH h6.1 h6.2 (aB rfl (aI (aCn (by omega) (yI ?_ (yI ?_ (aA rfl)))))))
    · omega
    · rw [ByteArray.size_append]
      omega
  · rw [if_neg h0,if_neg h1,if_neg h2,if_neg h3,if_neg h5,if_neg h4]
end
structure qS where
  fr : List dR
  hp : List (List cW)
  made : Int
  out : List ByteArray
  st : Int
  tr : Int
  val : cW
  steps : Int
def qS.pv (v : qS) : PV:=.agg [.lst (v.fr.map dR.pv),.lst (v.hp.map dS),.int .i64 v.made,.lst (v.out.map PV.str),.int .i64 v.st,.int .i64 v.tr,.int .i64 v.val.k,.int .i64 v.val.n,.str v.val.s,.int .i64 v.steps]
def iU (v : qS) : R:=[.int .i64 v.made,.int .i64 v.st,.int .i64 v.tr,.int .i64 v.val.k,.int .i64 v.val.n,.str v.val.s,.int .i64 v.steps,.lst (v.fr.map dR.pv),.lst (v.hp.map dS),.lst (v.out.map PV.str)]
structure Sz (v : qS) : Prop where
  f : v.fr.length≤1000
  h : v.hp.length≤1000
  o : v.out.length≤1000
  fl : ∀ f∈v.fr,f.loc.length≤1000∧f.stk.length≤1000
  hl : ∀ r∈v.hp,r.length≤1000
theorem wD (l : List cW) : PV.flatEs true [] (l.map cW.pv)=true:=by
  induction l with
  | nil=>simp [PV.flatEs]
  | cons x r ih=>simp [PV.flatEs,PV.flatE,PV.flatCs,PV.flat,cW.pv,ih]
theorem eI (l : List cW) : PV.flatO (.own 3 32 true []) (aJ l)=true:=wD l
theorem qT (l : List dR) : PV.flatO (.own 4 64 true [.leaf,.leaf,(.own 3 32 true []),(.own 3 32 true [])]) (.lst (l.map dR.pv))=true:=by
  show PV.flatEs true _ (l.map dR.pv)=true
  induction l with
  | nil=>simp [PV.flatEs]
  | cons x r ih=>
    simp only [List.map_cons,PV.flatEs,Bool.and_eq_true]
    refine ⟨?_,ih⟩
    simp [dR.pv,PV.flatE,PV.flatCs,PV.flat,aJ,wD]
theorem wE (l : List (List cW)) : PV.flatO (.own 1 24 true [(.own 3 32 true [])]) (.lst (l.map dS))=true:=by
  show PV.flatEs true _ (l.map dS)=true
  induction l with
  | nil=>simp [PV.flatEs]
  | cons x r ih=>
    simp only [List.map_cons,PV.flatEs,Bool.and_eq_true]
    refine ⟨?_,ih⟩
    simp [dS,PV.flatE,PV.flatCs,aJ,wD]
theorem wF (l : List ByteArray) : PV.flatO (.own 1 16 false []) (.lst (l.map PV.str))=true:=by
  show PV.flatEs false [] (l.map PV.str)=true
  induction l with
  | nil=>simp [PV.flatEs]
  | cons x r ih=>simp [PV.flatEs,PV.flatE,PV.flat,ih]
theorem aGE {l : List ByteArray} : ∀ x∈l.map PV.str,x.isEl 1 false=true:=by
  intro x hx
  obtain ⟨a,_,rfl⟩:=List.mem_map.1 hx
  rfl
theorem nU {P : R→Prop} {v : qS} {o : Option R} (h : Ok P o) :
    Ok P (PV.guardFlat (gd (iU v) 0) (PV.guardFlat (gd (iU v) 1) (PV.guardFlat (gd (iU v) 2) (PV.guardFlat (gd (iU v) 3) (PV.guardFlat (gd (iU v) 4) (PV.guardFlat (gd (iU v) 5) (PV.guardFlat (gd (iU v) 6)
      (PV.guardOwn (.own 4 64 true [.leaf,.leaf,(.own 3 32 true []),(.own 3 32 true [])]) (gd (iU v) 7) (PV.guardOwn (.own 1 24 true [(.own 3 32 true [])]) (gd (iU v) 8) (PV.guardOwn (.own 1 16 false []) (gd (iU v) 9) o)))))))))):=
  cA rfl (cA rfl (cA rfl (cA rfl (cA rfl (cA rfl (cA rfl (eZ (qT _) (eZ (wE _) (eZ (wF _) h)))))))))
def gQ (fs : List dL) (i : Int) : List bI:=(fs[i.toNat]?.map dL.code).getD []
def gR (fs : List dL) (f : dR) : bI:=(gQ fs f.f)[f.pc.toNat]?.getD ⟨0,0⟩
def aAx (_m : dD) (v : qS) (fs0 : List dR) : aDn→qS
  | .trap c=>⟨v.fr,v.hp,v.made,v.out,2,c,v.val,v.steps+1⟩
  | .next fr hp made out=>⟨fs0++[fr],hp,made,out,v.st,v.tr,v.val,v.steps+1⟩
  | .call fr g=>⟨fs0++[fr,g],v.hp,v.made,v.out,v.st,v.tr,v.val,v.steps+1⟩
  | .ret a=>if fs0 = [] then ⟨[],v.hp,v.made,v.out,1,v.tr,a,v.steps+1⟩ else ⟨uR a fs0,v.hp,v.made,v.out,v.st,v.tr,v.val,v.steps+1⟩
def aAy (m : dD) (v : qS) (fs0 : List dR) (f : dR) : aDn:=
  let x:=gR m.funcs f
  let b:=f.stk.length - (aX m.funcs x).1.toNat
  eH m ⟨f.f,f.pc+1,f.loc,f.stk.take b⟩ (f.stk.drop b) (fs0.length+1) v.hp v.made v.out x
def lV (m : dD) (v : qS) : qS:=
  if v.st≠0 then v else if v.steps=50000 then v
  else match v.fr.getLast? with
  | none=>v
  | some f=>aAx m v v.fr.dropLast (aAy m v v.fr.dropLast f)
theorem aBC {m : dD} {v : qS} {fs0 : List dR} {f : dR} (h1 : v.st=0) (h2 : v.steps≠50000) (h3 : v.fr=fs0++[f]) : lV m v=aAx m v fs0 (aAy m v fs0 f):=by
  unfold lV
  rw [if_neg (by omega),if_neg h2,h3]
  simp
structure aGU (m : dD) (v : qS) (fs0 : List dR) (f : dR) : Prop where
  fr : v.fr=fs0++[f]
  fi : 0≤f.f∧f.f<m.funcs.length
  pc : 0≤f.pc∧f.pc<(gQ m.funcs f.f).length
  nc : (gQ m.funcs f.f).length≤120
  ins : bF m.texts.length m.funcs.length f.loc.length (gQ m.funcs f.f).length (gR m.funcs f).o (gR m.funcs f).a=true
  us : 0≤(aX m.funcs (gR m.funcs f)).1∧(aX m.funcs (gR m.funcs f)).1≤f.stk.length
  small : ∀ b,aGT m fs0 ⟨f.f,f.pc+1,f.loc,f.stk.take b⟩ (f.stk.drop b) v.hp v.made v.out
section
variable {P : R → Prop} {k : R → Option R}
theorem oX {l : List cW} (hl : l.length≤1000000) (h : Ok P (k [aJ l])) : Ok P (bd (aU (aJ l)) k):=by
  refine aH (Q:=fun r=>r = [aJ l]) ?_ (fun r hr=>by rw [hr];exact h)
  rw [gZ]
  refine aDb (aEI (fun e=>aA ?_) ?_)
  · have : l = []:=List.map_eq_nil_iff.1 e
    subst this;rfl
  · exact gO (l:=[]) (m:=l) (by simp;omega) (aA (by simp))
theorem aEn {l : List ByteArray} (hl : l.length≤1000000) (h : Ok P (k [.lst (l.map PV.str)])) : Ok P (bd (cZ (.lst (l.map PV.str))) k):=by
  refine aH (Q:=fun r=>r = [.lst (l.map PV.str)]) ?_ (fun r hr=>by rw [hr];exact h)
  rw [kD]
  refine aDb (aEI (fun e=>aA ?_) ?_)
  · have : l = []:=List.map_eq_nil_iff.1 e
    subst this;rfl
  · exact aEG (by simp;omega) aGE (aA rfl)
theorem aEO {n : Int} (h0 : 0≤n) (h1 : n≤1000000000) (h : Ok P (k [aJ (List.replicate n.toNat fI)])) : Ok P (bd (nQ (.int .i64 n)) k):=by
  refine aH (Q:=fun r=>r = [aJ (List.replicate n.toNat fI)]) ?_ (fun r hr=>by rw [hr];exact h)
  rw [aCe]
  refine aEM h0 h1 (nB ?_)
  rw [decide_eq_true (Int.le_refl n)]
  exact aR (aEM h0 h1 (aA rfl))
theorem aGF {n : Int} (h0 : 0≤n) (h1 : n≤1000000) (h : Ok P (k [.lst []])) : Ok P (bd (bX (.int .i64 n)) k):=by
  refine aH (Q:=fun r=>r = [.lst []]) ?_ (fun r hr=>by rw [hr];exact h)
  rw [hU]
  unfold hX
  simp only
  rw [if_pos (by omega)]
  exact aA rfl
theorem aGG {a b : List cW} (ha : a.length≤1000) (hb : b.length≤1000) (h : Ok P (k [aJ (a++b)])) : Ok P (bd (bP (.lst [aJ a,aJ b])) k):=by
  refine aH (Q:=fun r=>r = [aJ (a++b)]) ?_ (fun r hr=>by rw [hr];exact h)
  have at0 : ∀ {P : R→Prop} {k : PV→Option R},Ok P (k (aJ a))→Ok P (bd (PV.at_ 1 false (.lst [aJ a,aJ b]) (.int .i64 0)) k):=fun h=>aCc (by omega) rfl rfl h
  have at1 : ∀ {P : R→Prop} {k : PV→Option R},Ok P (k (aJ b))→Ok P (bd (PV.at_ 1 false (.lst [aJ a,aJ b]) (.int .i64 1)) k):=fun h=>aCc (by omega) rfl rfl h
  rw [gL]
  refine lN ?_
  show Ok _ (aV _ (.int .i64 0) _ (.int .i64 2) (.int .i64 0))
  rw [bT]
  refine aS (aR (at0 (eW (bC (by omega) (aS (aC (fun h=>by omega) (fun _=>bC (by omega) ?_)))))))
  show Ok _ (aV _ _ _ (.int .i64 2) (.int .i64 1))
  rw [bT]
  refine aS (aR (at1 (eW (bC (by omega) (aS (aC (fun h=>by omega) (fun _=>bC (by omega) ?_)))))))
  show Ok _ (aV _ _ _ (.int .i64 2) (.int .i64 2))
  rw [bT]
  refine aS (bG (aGF (by omega) (by omega) (lN ?_)))
  show Ok _ (aT _ (.int .i64 2) (.int .i64 0) (aJ []))
  rw [bR]
  refine aS (aR (at0 (gO (by simp;omega) (bC (by omega) ?_))))
  show Ok _ (aT _ (.int .i64 2) (.int .i64 1) _)
  rw [bR]
  refine aS (aR (at1 (gO (by simp;omega) (bC (by omega) ?_))))
  show Ok _ (aT _ (.int .i64 2) (.int .i64 2) _)
  rw [bR]
  refine aS (bG (aA ?_))
  simp
theorem aCp {fs : List dL} {i : Int} {k : PV→Option R} (h0 : 0≤i) (h1 : i<fs.length) (h : ∀ f : dL,fs[i.toNat]? = some f→Ok P (k f.pv)) : Ok P (bd (PV.at_ 3 true (.lst (fs.map dL.pv)) (.int .i64 i)) k):=by
  obtain ⟨n,rfl⟩:=Int.eq_ofNat_of_zero_le h0
  refine cD (by omega) (fun _=>rfl) (h _ ?_)
  rw [Int.toNat_natCast,List.getElem?_eq_getElem (by omega)]
theorem aAz {T : PV} {fs : List dL} {g : Int} {args : List cW} (h0 : 0≤g) (h1 : g<fs.length) (hl : (args.length : Int)≤wA fs g) (hl2 : wA fs g≤12) (h : Ok P (k [.int .i64 g,.int .i64 0,aJ (pL fs g args).loc,aJ []])) :
    Ok P (bd (jB (.agg [T,.lst (fs.map dL.pv)]) (.int .i64 g) (aJ args)) k):=by
  refine aH (Q:=fun r=>r = [.int .i64 g,.int .i64 0,aJ (pL fs g args).loc,aJ []]) ?_ (fun r hr=>by rw [hr];exact h)
  rw [xY]
  refine aG rfl (aB rfl (aB rfl (aCp h0 h1 (fun f hf=>?_))))
  have e : wA fs g=f.lc:=by unfold wA;rw [hf];rfl
  rw [e] at hl hl2
  refine aB rfl (eW (nC (by omega) (aEO (by omega) (by omega) (eZ (eI _) ?_))))
  refine aEG (by simp) (fun x hx=>?_) (aGG (by omega) (by simp;omega) (eZ (eI _) (fB rfl (aA ?_))))
  · simp at hx
    rcases hx with rfl | rfl<;>rfl
  · unfold pL
    rw [e]
    simp only
    rw [show (f.lc - (args.length : Int)).toNat=f.lc.toNat - args.length by omega]
    rfl
theorem aDp {hp : List (List cW)} (h : hp.length≤1000) (hl : ∀ r∈hp,r.length≤1000) : Ok (fun r=>r = [.lst (hp.map dS)]) (jW (.lst (hp.map dS))):=by
  rw [vT]
  have e : (hp.map dS).length=hp.length:=List.length_map ..
  refine lN ?_
  rw [e]
  refine (oV (n:=hp.length) (F:=fun i=>gX (.lst (hp.map dS)) (.int .i64 hp.length) (.int .i64 i) (.lst ((hp.take i).map dS))) (P:=fun _ r=>r = [.lst (hp.map dS)]) ?_ (fun i hi ih=>?_) 0 (Nat.zero_le _))
  · rw [kQ]
    refine aS ?_
    rw [decide_eq_false (by omega)]
    refine bG (aA ?_)
    rw [List.take_length]
  · rw [kQ]
    refine aS ?_
    rw [decide_eq_true (by omega)]
    refine aR (cD hi (fun _=>rfl) (aG rfl (aB rfl (oX (by have:=hl _ (List.getElem_mem hi);omega) (eZ (eI _) ?_)))))
    refine iZ (by simp;omega) (fun x hx=>by simp at hx;subst hx;rfl) (bC (by omega) ?_)
    have e : (hp.take (i+1)).map dS=(hp.take i).map dS++[PV.agg [aJ hp[i]]]:=by
      rw [List.take_add_one,List.getElem?_eq_getElem hi,List.map_append];rfl
    rw [e] at ih
    exact ih
theorem aA8 {fr : List dR} (h : fr.length≤1000) (hl : ∀ f∈fr,f.loc.length≤1000∧f.stk.length≤1000) : Ok (fun r=>r = [.lst (fr.map dR.pv)]) (iM (.lst (fr.map dR.pv))):=by
  rw [tA]
  have e : (fr.map dR.pv).length=fr.length:=List.length_map ..
  refine lN ?_
  rw [e]
  refine (oV (n:=fr.length) (F:=fun i=>fO (.lst (fr.map dR.pv)) (.int .i64 fr.length) (.int .i64 i) (.lst ((fr.take i).map dR.pv))) (P:=fun _ r=>r = [.lst (fr.map dR.pv)]) ?_ (fun i hi ih=>?_) 0 (Nat.zero_le _))
  · rw [jH]
    refine aS ?_
    rw [decide_eq_false (by omega)]
    refine bG (aA ?_)
    rw [List.take_length]
  · rw [jH]
    refine aS ?_
    rw [decide_eq_true (by omega)]
    have hb:=hl _ (List.getElem_mem hi)
    refine aR (cD hi (fun _=>rfl) (aG rfl (aB rfl (aB rfl (aB rfl (aB rfl (oX (by omega) (eZ (eI _) (oX (by omega) (eZ (eI _) ?_))))))))))
    refine iZ (by simp;omega) (fun x hx=>by simp at hx;subst hx;rfl) (bC (by omega) ?_)
    have e : (fr.take (i+1)).map dR.pv=(fr.take i).map dR.pv++[fr[i].pv]:=by
      rw [List.take_add_one,List.getElem?_eq_getElem hi,List.map_append];rfl
    rw [e] at ih
    exact ih
theorem aDq {v : qS} (z : Sz v) (h : Ok P (k (iU v))) : Ok P (bd (iG v.pv) k):=by
  refine aH (Q:=fun r=>r=iU v) ?_ (fun r hr=>by rw [hr];exact h)
  rw [vR]
  refine aG rfl (aB rfl (aB rfl (aB rfl (aB rfl (aB rfl (aB rfl (aB rfl (aB rfl (aB rfl (aB rfl ?_))))))))))
  refine aH (aA8 z.f z.fl) (fun r hr=>?_)
  rw [hr]
  refine eZ (qT _) (aH (aDp z.h z.hl) (fun r hr=>?_))
  rw [hr]
  refine eZ (wE _) (aEn (by have:=z.o;omega) (eZ (wF _) (aA rfl)))
end
def DoI (made a3 a4 a5 a6 a7 a8 F H O : PV) (fs0 : List dR) : aDn→R→Prop
  | .trap c,r=>c≠0∧r = [.int .i64 c,made,a3,a4,a5,a6,a7,a8,F,H,O]
  | .next fr hp made' out,r=>r = [.int .i64 0,.int .i64 made',a3,a4,a5,a6,a7,a8,.lst (fs0.map dR.pv++[fr.pv]),.lst (hp.map dS),.lst (out.map PV.str)]
  | .call fr g,r=>r = [.int .i64 0,made,a3,a4,a5,a6,a7,a8,.lst (fs0.map dR.pv++[fr.pv]++[g.pv]),H,O]
  | .ret v,r=>r=if fs0 = [] then [.int .i64 0,made,.int .i64 1,a4,.int .i64 v.k,.int .i64 v.n,.str v.s,a8,.lst [],H,O]
      else [.int .i64 0,made,a3,a4,a5,a6,a7,a8,.lst ((uR v fs0).map dR.pv),H,O]
section
variable {P : R → Prop} {k : R → Option R} {A : List PV}
theorem fH {A : List PV} {f pc : Int} {loc s : List cW} {i : Int} {j : Nat} {y : PV} {k : PV→Option R} (hi : i=A.length) (hy : [PV.int .i64 f,.int .i64 pc,aJ loc,aJ s][j]? = some y) (h : Ok P (k y)) :
    Ok P (bd (PV.at_ 4 true (.lst (A++[dR.pv ⟨f,pc,loc,s⟩])) (.int .i64 i)) fun x=>bd (PV.cell x j) k):=aAv hi rfl (aB hy h)
theorem oY {A : List PV} {f : dR} {i : Int} {k : PV→Option R} (hi : i=A.length) (h : ∀ x,Ok P (k x)) : Ok P (bd (PV.at_ 4 true (.lst (A++[f.pv])) (.int .i64 i)) k):=aAv hi rfl (h _)
theorem dW {f pc next base i : Int} {loc s t laid : List cW} {k : PV→Option R} (hi : i=A.length) (hb : base=s.length) (hs : s.length≤1000) (hl : laid.length≤1000) (h : Ok P (k (.lst (A++[dR.pv ⟨f,next,loc,s++laid⟩])))) :
    Ok P (bd (PV.at_ 4 true (.lst (A++[dR.pv ⟨f,pc,loc,s++t⟩])) (.int .i64 i)) fun _=>
      bd (PV.at_ 4 true (.lst (A++[dR.pv ⟨f,pc,loc,s++t⟩])) (.int .i64 i)) fun v1=>
      bd (PV.cell v1 3) fun v2=>
      bd (PV.cut 3 true v2 (.int .i64 0) (.int .i64 base)) fun _=>
      bd (PV.at_ 4 true (.lst (A++[dR.pv ⟨f,pc,loc,s++t⟩])) (.int .i64 i)) fun v4=>
      bd (PV.cell v4 3) fun v5=>
      bd (PV.cut 3 true v5 (.int .i64 0) (.int .i64 base)) fun v6=>
      bd (PV.at_ 4 true (.lst (A++[dR.pv ⟨f,pc,loc,s++t⟩])) (.int .i64 i)) fun v7=>
      bd (PV.cell v7 3) fun _=>
      bd (PV.setCell 4 (.lst (A++[dR.pv ⟨f,pc,loc,s++t⟩])) (.int .i64 i) 3 .hole) fun v9=>
      bd (PV.cat 3 32 true v6 (aJ laid)) fun v10=>
      bd (PV.setCell 4 v9 (.int .i64 i) 3 v10) fun v11=>
      bd (PV.one (.int .i64 next)) fun v12=>
      bd (PV.setCell 4 v11 (.int .i64 i) 1 v12) k):=by
  subst hb
  refine oY hi (fun _=>fH hi rfl (fJ (by omega) (by omega) (by simp;omega) (fH hi rfl (fJ (by omega) (by omega) (by simp;omega) (fH hi rfl ?_)))))
  have e : (((s++t).take (s.length : Int).toNat).drop (0 : Int).toNat)=s:=by simp
  rw [e]
  exact eV hi rfl (by omega) rfl (gO (by omega) (eV hi rfl (by omega) rfl (fB rfl (eV hi rfl (by omega) rfl h))))
theorem aEP {l : List cW} {i : Nat} {v : cW} {k : PV→Option R} (hv : l[i]? = some v) (h : Ok P (k v.pv)) : Ok P (bd (PV.inb (aJ l) (.int .i64 (i : Int))) fun _=>bd (PV.at_ 3 true (aJ l) (.int .i64 (i : Int))) k):=by
  have hi:=(List.getElem?_eq_some_iff.1 hv).1
  refine mT (by omega) (by omega) (tE (by omega) (by omega) (fun w hw=>?_))
  rw [Int.toNat_natCast,hv] at hw
  cases hw
  exact h
theorem oZ {l : List cW} {k : PV→Option R} (hl : l.length≤1000) (h : Ok P (k (aJ l))) : Ok P (bd (PV.cat 3 32 true (.lst []) (.lst (l.map cW.pv))) fun v=>bd (PV.cat 3 32 true (.lst []) v) k):=
  gO (l:=[]) (m:=l) (by simp;omega) (gO (l:=[]) (m:=l) (by simp;omega) (by simpa using h))
theorem rK {f : Nat} {x y : PV} {g : PV→PV→Option R} {Q : R→Prop} (hg : pcallO f [x,y]=g x y) (h : Ok Q (g x y)) (hk : ∀ r,Q r→Ok P (k r)) : Ok P (bd (PV.apply pcallO (.fn f []) [x,y]) k):=jA hg h hk
theorem aDr {v : cW} {x : Int} {hp : List (List cW)} {c0 c1 c2 c3 c4 c5 c6 F O : PV} (hx : 0≤x∧x≤1000) (hh : hp.length≤1000) (hr : ∀ r∈hp,r.length≤1000) (hv : v.k=4→0≤v.n∧v.n<hp.length)
    (h1 : v.k≠4→Ok P (k [.nil,.nil,.int .i64 1,c0,c1,c2,c3,c4,c5,c6,F,.lst (hp.map dS),O]))
    (h2 : v.k=4→(hp[v.n.toNat]?.getD []).length≤x→Ok P (k [.nil,.nil,.int .i64 4,c0,c1,c2,c3,c4,c5,c6,F,.lst (hp.map dS),O]))
    (h3 : v.k=4→x<(hp[v.n.toNat]?.getD []).length→Ok P (k [.int .i64 v.n,.int .i64 x,.int .i64 0,c0,c1,c2,c3,c4,c5,c6,F,.lst (hp.map dS),O])) :
    Ok P (bd (iJ v.pv (.int .i64 x) c0 c1 c2 c3 c4 c5 c6 F (.lst (hp.map dS)) O) k):=by
  refine aH (Q:=fun r=>(v.k≠4∧r = [.nil,.nil,.int .i64 1,c0,c1,c2,c3,c4,c5,c6,F,.lst (hp.map dS),O])∨(v.k=4∧(hp[v.n.toNat]?.getD []).length≤x∧r = [.nil,.nil,.int .i64 4,c0,c1,c2,c3,c4,c5,c6,F,.lst (hp.map dS),O])∨
    (v.k=4∧x<(hp[v.n.toNat]?.getD []).length∧r = [.int .i64 v.n,.int .i64 x,.int .i64 0,c0,c1,c2,c3,c4,c5,c6,F,.lst (hp.map dS),O])) ?_ ?_
  rotate_left
  · rintro r (⟨g1,rfl⟩ | ⟨g1,g2,rfl⟩ | ⟨g1,g2,rfl⟩)
    · exact h1 g1
    · exact h2 g1 g2
    · exact h3 g1 g2
  rw [vU]
  refine aG rfl (aB rfl (aB rfl (aB rfl (dU (bJ (fun g=>aA (.inl ⟨g,rfl⟩)) (fun g=>?_))))))
  obtain ⟨g1,g2⟩:=hv g
  have hlen : (hp[v.n.toNat]?.getD []).length≤1000:=by
    cases hg : hp[v.n.toNat]? with
    | none=>simp
    | some r=>exact hr r (List.mem_of_getElem? hg)
  refine aAw g1 g2 (hH g1 g2 (hH g1 g2 (aB rfl (eW (qF (aC (fun q=>aA (.inr (.inl ⟨g,q,rfl⟩))) (fun q=>?_)))))))
  exact aAw g1 g2 (hH g1 g2 (hH g1 g2 (aB rfl (mT (by omega) (by omega) (aA (.inr (.inr ⟨g,by omega,rfl⟩)))))))
theorem aFr {v : cW} {fs0 : List dR} {f : dR} {c0 c1 c2 c3 c4 c5 c6 H O : PV} (hn : fs0.length≤1000) (hs : ∀ g∈fs0,g.stk.length≤1000)
    (h : Ok P (k (if fs0 = [] then [c0,.int .i64 1,c2,.int .i64 v.k,.int .i64 v.n,.str v.s,c6,.lst [],H,O] else [c0,c1,c2,c3,c4,c5,c6,.lst ((uR v fs0).map dR.pv),H,O]))) :
    Ok P (bd (jD v.pv c0 c1 c2 c3 c4 c5 c6 (.lst (fs0.map dR.pv++[f.pv])) H O) k):=by
  refine aH (Q:=fun r=>r=(if fs0 = [] then [c0,.int .i64 1,c2,.int .i64 v.k,.int .i64 v.n,.str v.s,c6,.lst [],H,O] else [c0,c1,c2,c3,c4,c5,c6,.lst ((uR v fs0).map dR.pv),H,O])) ?_ (fun r hr=>by rw [hr];exact h)
  rw [uK]
  have e : ((fs0.map dR.pv++[f.pv]).length : Int) - 1=fs0.length:=by simp
  have el : ∀ x∈fs0.map dR.pv++[f.pv],x.isEl 4 true=true:=by
    intro x hx
    rcases List.mem_append.1 hx with hx | hx
    · exact aFq x hx
    · simp at hx;subst hx;rfl
  have et : (((fs0.map dR.pv++[f.pv]).take ((fs0.length : Int)).toNat).drop ((0 : Int)).toNat)=fs0.map dR.pv:=by simp
  refine aG rfl (aB rfl (aB rfl (aB rfl (lN (nC (by simp;omega) ?_)))))
  rw [e]
  refine vO (by omega) (by omega) (by simp;omega) el (vO (by omega) (by omega) (by simp;omega) el ?_)
  rw [et]
  refine aE (aC (fun h0=>aA ?_) (fun h0=>?_))
  · have : fs0 = []:=List.eq_nil_of_length_eq_zero (by omega)
    subst this
    rfl
  · obtain ⟨gs,g,rfl⟩ : ∃ gs g,fs0=gs++[g]:=by
      rcases List.eq_nil_or_concat fs0 with rfl | ⟨gs,g,rfl⟩
      · simp at h0
      · exact ⟨gs,g,by simp⟩
    have e2 : ((gs++[g]).length : Int) - 1=gs.length:=by simp
    have em : (gs++[g]).map dR.pv=gs.map dR.pv++[g.pv]:=by simp
    refine nC (by omega) ?_
    rw [e2,em]
    have hi : (gs.length : Int)=(gs.map dR.pv).length:=by simp
    have hg:=hs g (by simp)
    obtain ⟨gf,gp,gl,gk⟩:=g
    have hg : gk.length≤1000:=hg
    refine nD (by omega) (by simp;omega) (oY hi (fun _=>fH hi rfl (fH hi rfl ?_)))
    refine eV hi rfl (by omega) rfl (gO (m:=[v]) (by simp;omega) (eV hi rfl (by omega) rfl (aA ?_)))
    rw [if_neg (by simp),tF]
    simp
    rfl
end
theorem cQ {P : R→Prop} {l : List cW} {v : cW} {k : PV→Option R} (hv : l[0]? = some v) (h : Ok P (k v.pv)) : Ok P (bd (PV.inb (aJ l) (.int .i64 0)) fun _=>bd (PV.at_ 3 true (aJ l) (.int .i64 0)) k):=aEP (i:=0) hv h
theorem lW {P : R→Prop} {l : List cW} {v : cW} {k : PV→Option R} (hv : l[1]? = some v) (h : Ok P (k v.pv)) : Ok P (bd (PV.inb (aJ l) (.int .i64 1)) fun _=>bd (PV.at_ 3 true (aJ l) (.int .i64 1)) k):=aEP (i:=1) hv h
theorem yJ {o : Int} {a b : cW} (ho : 11≤o∧o≤14) (hs : a.s.size≤1000000∧b.s.size≤1000000) : Ok (fun r=>∀ {P : R→Prop} {k : R→Option R},Ok P (k (opR (xN o a b)))→Ok P (bd (PV.apply pcallO (hd r) [a.pv,b.pv]) k)) (eM (.int .i64 o)):=by
  rw [tB]
  refine nC (by omega) ?_
  have : o=11∨o=12∨o=13∨o=14:=by omega
  rcases this with rfl | rfl | rfl | rfl
  · exact aEH (by decide) rfl rfl (aA (fun h=>rK (g:=sT) rfl (aF6 hs) (fun r hr=>by rw [hr];exact h)))
  · exact aEH (by decide) rfl rfl (aA (fun h=>rK (g:=sU) rfl aF7 (fun r hr=>by rw [hr];exact h)))
  · exact aEH (by decide) rfl rfl (aA (fun h=>rK (g:=sV) rfl aF8 (fun r hr=>by rw [hr];exact h)))
  · exact aEH (by decide) rfl rfl (aA (fun h=>rK (g:=qL) rfl aFo (fun r hr=>by rw [hr];exact h)))
theorem aGb {m : dD} {A : List PV} {made a3 a4 a5 a6 a7 a8 T H O : PV} {f pc base g next i : Int} {loc s t args : List cW} (hi : i=A.length) (hb : base=s.length) (hs : s.length≤1000) (hA : A.length≤23) (hg : 0≤g∧g<m.funcs.length) (hargs : (args.length : Int)=eU m.funcs g)
    (par : ∀ f∈m.funcs,0≤f.p∧f.p≤6∧f.p≤f.lc∧f.lc≤12) :
    Ok (fun r=>(A.length=23∧r = [.int .i64 6,made,a3,a4,a5,a6,a7,a8,.lst (A++[dR.pv ⟨f,pc,loc,s++t⟩]),H,O])∨(A.length≠23∧r = [.int .i64 0,made,a3,a4,a5,a6,a7,a8,.lst (A++[dR.pv ⟨f,next,loc,s⟩]++[(pL m.funcs g args).pv]),H,O]))
      (fE (.int .i64 i) (.int .i64 base) (.int .i64 next) (.int .i64 g) made a3 a4 a5 a6 a7 a8 T (.lst (m.funcs.map dL.pv)) (.lst (A++[dR.pv ⟨f,pc,loc,s++t⟩])) H O (aJ args)):=by
  subst hb
  rw [uI]
  refine lN (aE (aC (fun h=>aA (.inl ⟨by simp at h;omega,rfl⟩)) (fun h=>?_)))
  refine oY hi (fun _=>fH hi rfl (fJ (by omega) (by omega) (by simp;omega) (fH hi rfl (fJ (by omega) (by omega) (by simp;omega) (fH hi rfl ?_)))))
  have e : (((s++t).take (s.length : Int).toNat).drop (0 : Int).toNat)=s:=by simp
  rw [e]
  refine eV hi rfl (by omega) rfl (eV hi rfl (by omega) rfl (fB rfl (eV hi rfl (by omega) rfl ?_)))
  obtain ⟨q,rfl⟩:=Int.eq_ofNat_of_zero_le hg.1
  have hq : q<m.funcs.length:=by omega
  have hf:=par _ (List.getElem_mem hq)
  have hlc : wA m.funcs q=m.funcs[q].lc:=by unfold wA;rw [Int.toNat_natCast,List.getElem?_eq_getElem hq];rfl
  have hpa : eU m.funcs q=m.funcs[q].p:=by unfold eU;rw [Int.toNat_natCast,List.getElem?_eq_getElem hq];rfl
  refine aAz (by omega) (by omega) (by rw [hlc];omega) (by rw [hlc];omega) (cA rfl (cA rfl (eZ (eI _) (eZ (eI []) ?_))))
  refine iZ (by simp;omega) (fun x hx=>by simp at hx;subst hx;rfl) (aA (.inr ⟨?_,rfl⟩))
  intro h0
  exact h (by simp;omega)
set_option maxHeartbeats 8000000 in
theorem aGH {m : dD} {fs0 : List dR} {took : List cW} {hp : List (List cW)} {made ff fpc : Int} {floc fstk : List cW} {out : List ByteArray} {x : bI} {nc : Int} {a3 a4 a5 a6 a7 a8 : PV}
    (S : aGT m fs0 ⟨ff,fpc+1,floc,fstk⟩ took hp made out) (hx : bF m.texts.length m.funcs.length floc.length nc x.o x.a=true) (hu : (took.length : Int)=(aX m.funcs x).1)
    (hff : 0≤ff∧ff<m.funcs.length) (hpc : 0≤fpc∧fpc≤1000) (hcode : (gQ m.funcs ff)[fpc.toNat]? = some x) :
    Ok (DoI (.int .i64 made) a3 a4 a5 a6 a7 a8 (.lst (fs0.map dR.pv++[dR.pv ⟨ff,fpc,floc,fstk++took⟩])) (.lst (hp.map dS)) (.lst (out.map PV.str)) fs0 (eH m ⟨ff,fpc+1,floc,fstk⟩ took (fs0.length+1) hp made out x))
      (oN (.lst (m.texts.map PV.str)) (.lst (m.funcs.map dL.pv)) (.int .i64 made) a3 a4 a5 a6 a7 a8
        (.lst (fs0.map dR.pv++[dR.pv ⟨ff,fpc,floc,fstk++took⟩])) (.lst (hp.map dS)) (.lst (out.map PV.str))):=by
  obtain ⟨q26,q3,q67,q20,q2122,q23,q524,qj,q1⟩:=wC hx
  obtain ⟨nf,nt,par,n0,stks,nl,ns,recs,nh,nm,no,vals0⟩:=S
  simp only at *
  have hsz : ∀ v∈took,v.s.size≤1000000:=fun v hv=>by have:=aEj (vals0 v hv);omega
  have hrec : ∀ r∈hp,r.length≤1000:=fun r hr=>by have:=recs r hr;omega
  rw [aAY]
  have hA : (fs0.map dR.pv).length=fs0.length:=List.length_map ..
  have hi : (fs0.length : Int)=(fs0.map dR.pv).length:=by rw [hA]
  have e : ((fs0.map dR.pv++[dR.pv ⟨ff,fpc,floc,fstk++took⟩]).length : Int) - 1=fs0.length:=by simp
  refine lN (nC (by simp;omega) ?_)
  rw [e]
  refine nD (by omega) (by simp;omega) (fH hi rfl (aCp hff.1 hff.2 (fun fn hfn=>aB rfl (fH hi rfl ?_))))
  have hcd : (fn.code.map bI.pv)[fpc.toNat]? = some x.pv:=by
    have : gQ m.funcs ff=fn.code:=by unfold gQ;rw [hfn];rfl
    rw [List.getElem?_map,← this,hcode];rfl
  refine aCc (by omega) hcd rfl (aG rfl (aB rfl (aB rfl (aH (aBv (by omega)) (fun r hr=>?_)))))
  rw [hr]
  refine cF rfl (cF rfl (oY hi (fun _=>fH hi rfl (eW (nC (by simp;omega) ?_)))))
  have e2 : ((fstk++took).length : Int) - (aX m.funcs x).1=fstk.length:=by rw [← hu];simp
  rw [e2]
  refine oY hi (fun _=>fH hi rfl (eW (fJ (by omega) (by simp;omega) (by omega) (fH hi rfl (fJ (by omega) (by simp;omega) (by omega) ?_)))))
  have e3 : (((fstk++took).take ((fstk++took).length : Int).toNat).drop (fstk.length : Int).toNat)=took:=by rw [Int.toNat_natCast,Int.toNat_natCast,List.take_length,List.drop_left]
  rw [e3]
  refine oX (by omega) (eZ (eI _) (fH hi rfl (bC (by omega) ?_)))
  have hfs : fstk.length≤1000:=by omega
  refine aE (aC (fun ho=>?_) (fun n1=>?_))
  · have e0 : aX m.funcs x=(0,1):=by unfold aX;repeat (first | rfl | rw [if_pos (by omega)] | rw [if_neg (by omega)])
    rw [e0] at hu
    obtain rfl:=List.eq_nil_of_length_eq_zero (show took.length=0 by omega)
    have e : eH m ⟨ff,fpc+1,floc,fstk⟩ [] (fs0.length+1) hp made out x = .next ⟨ff,fpc+1,floc,fstk++[aA5 x.a]⟩ hp made out:=by simp only [eH,List.headD,List.tail];(repeat (first | rfl | refine (if_pos (by omega)).trans ?_ | refine (if_neg (by omega)).trans ?_))
    exact sC (oZ (l:=[aA5 x.a]) (by simp) (dW (laid:=[aA5 x.a]) hi rfl hfs (by simp) (aA (by rw [e];rfl))))
  refine aE (aC (fun ho=>?_) (fun n2=>?_))
  · have e0 : aX m.funcs x=(0,1):=by unfold aX;repeat (first | rfl | rw [if_pos (by omega)] | rw [if_neg (by omega)])
    rw [e0] at hu
    obtain rfl:=List.eq_nil_of_length_eq_zero (show took.length=0 by omega)
    have e : eH m ⟨ff,fpc+1,floc,fstk⟩ [] (fs0.length+1) hp made out x = .next ⟨ff,fpc+1,floc,fstk++[mR (decide (x.a=1))]⟩ hp made out:=by simp only [eH,List.headD,List.tail];(repeat (first | rfl | refine (if_pos (by omega)).trans ?_ | refine (if_neg (by omega)).trans ?_))
    exact aE (gP (oZ (l:=[mR (decide (x.a=1))]) (by simp) (dW (laid:=[mR (decide (x.a=1))]) hi rfl hfs (by simp) (aA (by rw [e];rfl)))))
  refine aE (aC (fun ho=>?_) (fun n3=>?_))
  · have e0 : aX m.funcs x=(0,1):=by unfold aX;repeat (first | rfl | rw [if_pos (by omega)] | rw [if_neg (by omega)])
    rw [e0] at hu
    obtain rfl:=List.eq_nil_of_length_eq_zero (show took.length=0 by omega)
    obtain ⟨xa,hxa⟩:=Int.eq_ofNat_of_zero_le (q3 ho).1
    have hlt : xa<m.texts.length:=by have:=q3 ho;omega
    have e : eH m ⟨ff,fpc+1,floc,fstk⟩ [] (fs0.length+1) hp made out x = .next ⟨ff,fpc+1,floc,fstk++[aAp m.texts[xa]]⟩ hp made out:=by
      have et : m.texts[x.a.toNat]?.getD (bs [])=m.texts[xa]:=by rw [hxa,Int.toNat_natCast,List.getElem?_eq_getElem hlt];rfl
      simp only [eH,List.headD,List.tail,et];(repeat (first | rfl | refine (if_pos (by omega)).trans ?_ | refine (if_neg (by omega)).trans ?_))
    rw [hxa]
    refine cD hlt (fun _=>rfl) (fB rfl (dW (laid:=[aAp m.texts[xa]]) hi rfl hfs (by simp) (aA (by rw [e];rfl))))
  refine aE (aC (fun ho=>?_) (fun n4=>?_))
  · have e0 : aX m.funcs x=(0,1):=by unfold aX;repeat (first | rfl | rw [if_pos (by omega)] | rw [if_neg (by omega)])
    rw [e0] at hu
    obtain rfl:=List.eq_nil_of_length_eq_zero (show took.length=0 by omega)
    have e : eH m ⟨ff,fpc+1,floc,fstk⟩ [] (fs0.length+1) hp made out x = .next ⟨ff,fpc+1,floc,fstk++[fI]⟩ hp made out:=by simp only [eH,List.headD,List.tail];(repeat (first | rfl | refine (if_pos (by omega)).trans ?_ | refine (if_neg (by omega)).trans ?_))
    exact dW (laid:=[fI]) hi rfl hfs (by simp) (aA (by rw [e];rfl))
  refine aE (aC (fun ho=>?_) (fun n5=>?_))
  · have e0 : aX m.funcs x=(0,1):=by unfold aX;repeat (first | rfl | rw [if_pos (by omega)] | rw [if_neg (by omega)])
    rw [e0] at hu
    obtain rfl:=List.eq_nil_of_length_eq_zero (show took.length=0 by omega)
    have e : eH m ⟨ff,fpc+1,floc,fstk⟩ [] (fs0.length+1) hp made out x = .next ⟨ff,fpc+1,floc,fstk++[aFX x.a]⟩ hp made out:=by simp only [eH,List.headD,List.tail];(repeat (first | rfl | refine (if_pos (by omega)).trans ?_ | refine (if_neg (by omega)).trans ?_))
    exact fB rfl (dW (laid:=[aFX x.a]) hi rfl hfs (by simp) (aA (by rw [e];rfl)))
  refine aE (aC (fun ho=>?_) (fun n6=>?_))
  · have e0 : aX m.funcs x=(0,1):=by unfold aX;repeat (first | rfl | rw [if_pos (by omega)] | rw [if_neg (by omega)])
    rw [e0] at hu
    obtain rfl:=List.eq_nil_of_length_eq_zero (show took.length=0 by omega)
    have hq:=q67 (.inl ho)
    obtain ⟨v,hv⟩ : ∃ v,floc[x.a.toNat]? = some v:=⟨_,List.getElem?_eq_getElem (show x.a.toNat<floc.length by omega)⟩
    have e : eH m ⟨ff,fpc+1,floc,fstk⟩ [] (fs0.length+1) hp made out x = .next ⟨ff,fpc+1,floc,fstk++[v]⟩ hp made out:=by
      have et : floc[x.a.toNat]?.getD fI=v:=by rw [hv];rfl
      simp only [eH,List.headD,List.tail,et];(repeat (first | rfl | refine (if_pos (by omega)).trans ?_ | refine (if_neg (by omega)).trans ?_))
    refine oY hi (fun _=>fH hi rfl (mT (by omega) (by omega) (fH hi rfl (tE (by omega) (by omega) (fun v' hv'=>?_)))))
    rw [hv] at hv';cases hv'
    exact oZ (l:=[v]) (by simp) (dW (laid:=[v]) hi rfl hfs (by simp) (aA (by rw [e];rfl)))
  refine aE (aC (fun ho=>?_) (fun n7=>?_))
  · have e0 : aX m.funcs x=(1,0):=by unfold aX;repeat (first | rfl | rw [if_pos (by omega)] | rw [if_neg (by omega)])
    rw [e0] at hu
    obtain ⟨a,rfl⟩:=List.length_eq_one_iff.1 (show took.length=1 by omega)
    have hq:=q67 (.inr ho)
    have e : eH m ⟨ff,fpc+1,floc,fstk⟩ [a] (fs0.length+1) hp made out x = .next ⟨ff,fpc+1,floc.set x.a.toNat a,fstk⟩ hp made out:=by simp only [eH,List.headD,List.tail];(repeat (first | rfl | refine (if_pos (by omega)).trans ?_ | refine (if_neg (by omega)).trans ?_))
    refine oY hi (fun _=>cQ rfl (fH hi rfl (mT (by omega) (by omega) (fH hi rfl (fH hi rfl (xO (by omega) (by omega) (fH hi rfl (eV hi rfl (by omega) rfl ?_))))))))
    exact dW (loc:=floc.set x.a.toNat a) (laid:=[]) hi rfl hfs (by simp) (aA (by rw [e];simp [DoI]))
  refine aE (aC (fun ho=>?_) (fun n8=>?_))
  · have e0 : aX m.funcs x=(1,2):=by unfold aX;repeat (first | rfl | rw [if_pos (by omega)] | rw [if_neg (by omega)])
    rw [e0] at hu
    obtain ⟨a,rfl⟩:=List.length_eq_one_iff.1 (show took.length=1 by omega)
    have e : eH m ⟨ff,fpc+1,floc,fstk⟩ [a] (fs0.length+1) hp made out x = .next ⟨ff,fpc+1,floc,fstk++[a,a]⟩ hp made out:=by simp only [eH,List.headD,List.tail];(repeat (first | rfl | refine (if_pos (by omega)).trans ?_ | refine (if_neg (by omega)).trans ?_))
    exact cQ rfl (cQ rfl (oZ (l:=[a,a]) (by simp) (dW (laid:=[a,a]) hi rfl hfs (by simp) (aA (by rw [e];rfl)))))
  refine aE (aC (fun ho=>?_) (fun n10=>?_))
  · have e0 : aX m.funcs x=(2,2):=by unfold aX;repeat (first | rfl | rw [if_pos (by omega)] | rw [if_neg (by omega)])
    rw [e0] at hu
    obtain ⟨a,b,rfl⟩:=tG (show took.length=2 by omega)
    have e : eH m ⟨ff,fpc+1,floc,fstk⟩ [a,b] (fs0.length+1) hp made out x = .next ⟨ff,fpc+1,floc,fstk++[b,a]⟩ hp made out:=by simp only [eH,List.headD,List.tail];(repeat (first | rfl | refine (if_pos (by omega)).trans ?_ | refine (if_neg (by omega)).trans ?_))
    exact lW rfl (cQ rfl (oZ (l:=[b,a]) (by simp) (dW (laid:=[b,a]) hi rfl hfs (by simp) (aA (by rw [e];rfl)))))
  refine aE (aC (fun ho=>?_) (fun n11=>?_))
  · have e0 : aX m.funcs x=(2,1):=by unfold aX;repeat (first | rfl | rw [if_pos (by omega)] | rw [if_neg (by omega)])
    rw [e0] at hu
    obtain ⟨a,b,rfl⟩:=tG (show took.length=2 by omega)
    have hab:=hsz a (by simp);have hbb:=hsz b (by simp)
    refine aH (yJ (a:=a) (b:=b) (by omega) ⟨hab,hbb⟩) (fun r hr=>cQ rfl (lW rfl (hr (cF rfl (cF rfl (aG rfl (aB rfl (aB rfl (aB rfl (dU (bJ (fun ht=>aA ?_) (fun ht=>?_))))))))))))
    · have e : eH m ⟨ff,fpc+1,floc,fstk⟩ [a,b] (fs0.length+1) hp made out x = .trap (xN x.o a b).2:=by simp only [eH,List.headD,List.tail];(repeat (first | rfl | refine (if_pos (by omega)).trans ?_ | refine (if_neg (by omega)).trans ?_))
      rw [e];exact ⟨ht,rfl⟩
    · have e : eH m ⟨ff,fpc+1,floc,fstk⟩ [a,b] (fs0.length+1) hp made out x = .next ⟨ff,fpc+1,floc,fstk++[(xN x.o a b).1]⟩ hp made out:=by simp only [eH,List.headD,List.tail];(repeat (first | rfl | refine (if_pos (by omega)).trans ?_ | refine (if_neg (by omega)).trans ?_))
      exact dW (laid:=[(xN x.o a b).1]) hi rfl hfs (by simp) (aA (by rw [e];rfl))
  refine aE (aC (fun ho=>?_) (fun n12=>?_))
  · have e0 : aX m.funcs x=(2,1):=by unfold aX;repeat (first | rfl | rw [if_pos (by omega)] | rw [if_neg (by omega)])
    rw [e0] at hu
    obtain ⟨a,b,rfl⟩:=tG (show took.length=2 by omega)
    have hab:=hsz a (by simp);have hbb:=hsz b (by simp)
    refine aH (yJ (a:=a) (b:=b) (by omega) ⟨hab,hbb⟩) (fun r hr=>cQ rfl (lW rfl (hr (cF rfl (cF rfl (aG rfl (aB rfl (aB rfl (aB rfl (dU (bJ (fun ht=>aA ?_) (fun ht=>?_))))))))))))
    · have e : eH m ⟨ff,fpc+1,floc,fstk⟩ [a,b] (fs0.length+1) hp made out x = .trap (xN x.o a b).2:=by simp only [eH,List.headD,List.tail];(repeat (first | rfl | refine (if_pos (by omega)).trans ?_ | refine (if_neg (by omega)).trans ?_))
      rw [e];exact ⟨ht,rfl⟩
    · have e : eH m ⟨ff,fpc+1,floc,fstk⟩ [a,b] (fs0.length+1) hp made out x = .next ⟨ff,fpc+1,floc,fstk++[(xN x.o a b).1]⟩ hp made out:=by simp only [eH,List.headD,List.tail];(repeat (first | rfl | refine (if_pos (by omega)).trans ?_ | refine (if_neg (by omega)).trans ?_))
      exact dW (laid:=[(xN x.o a b).1]) hi rfl hfs (by simp) (aA (by rw [e];rfl))
  refine aE (aC (fun ho=>?_) (fun n13=>?_))
  · have e0 : aX m.funcs x=(2,1):=by unfold aX;repeat (first | rfl | rw [if_pos (by omega)] | rw [if_neg (by omega)])
    rw [e0] at hu
    obtain ⟨a,b,rfl⟩:=tG (show took.length=2 by omega)
    have hab:=hsz a (by simp);have hbb:=hsz b (by simp)
    refine aH (yJ (a:=a) (b:=b) (by omega) ⟨hab,hbb⟩) (fun r hr=>cQ rfl (lW rfl (hr (cF rfl (cF rfl (aG rfl (aB rfl (aB rfl (aB rfl (dU (bJ (fun ht=>aA ?_) (fun ht=>?_))))))))))))
    · have e : eH m ⟨ff,fpc+1,floc,fstk⟩ [a,b] (fs0.length+1) hp made out x = .trap (xN x.o a b).2:=by simp only [eH,List.headD,List.tail];(repeat (first | rfl | refine (if_pos (by omega)).trans ?_ | refine (if_neg (by omega)).trans ?_))
      rw [e];exact ⟨ht,rfl⟩
    · have e : eH m ⟨ff,fpc+1,floc,fstk⟩ [a,b] (fs0.length+1) hp made out x = .next ⟨ff,fpc+1,floc,fstk++[(xN x.o a b).1]⟩ hp made out:=by simp only [eH,List.headD,List.tail];(repeat (first | rfl | refine (if_pos (by omega)).trans ?_ | refine (if_neg (by omega)).trans ?_))
      exact dW (laid:=[(xN x.o a b).1]) hi rfl hfs (by simp) (aA (by rw [e];rfl))
  refine aE (aC (fun ho=>?_) (fun n14=>?_))
  · have e0 : aX m.funcs x=(2,1):=by unfold aX;repeat (first | rfl | rw [if_pos (by omega)] | rw [if_neg (by omega)])
    rw [e0] at hu
    obtain ⟨a,b,rfl⟩:=tG (show took.length=2 by omega)
    have hab:=hsz a (by simp);have hbb:=hsz b (by simp)
    refine aH (yJ (a:=a) (b:=b) (by omega) ⟨hab,hbb⟩) (fun r hr=>cQ rfl (lW rfl (hr (cF rfl (cF rfl (aG rfl (aB rfl (aB rfl (aB rfl (dU (bJ (fun ht=>aA ?_) (fun ht=>?_))))))))))))
    · have e : eH m ⟨ff,fpc+1,floc,fstk⟩ [a,b] (fs0.length+1) hp made out x = .trap (xN x.o a b).2:=by simp only [eH,List.headD,List.tail];(repeat (first | rfl | refine (if_pos (by omega)).trans ?_ | refine (if_neg (by omega)).trans ?_))
      rw [e];exact ⟨ht,rfl⟩
    · have e : eH m ⟨ff,fpc+1,floc,fstk⟩ [a,b] (fs0.length+1) hp made out x = .next ⟨ff,fpc+1,floc,fstk++[(xN x.o a b).1]⟩ hp made out:=by simp only [eH,List.headD,List.tail];(repeat (first | rfl | refine (if_pos (by omega)).trans ?_ | refine (if_neg (by omega)).trans ?_))
      exact dW (laid:=[(xN x.o a b).1]) hi rfl hfs (by simp) (aA (by rw [e];rfl))
  refine aE (aC (fun ho=>?_) (fun n15=>?_))
  · have e0 : aX m.funcs x=(2,1):=by unfold aX;repeat (first | rfl | rw [if_pos (by omega)] | rw [if_neg (by omega)])
    rw [e0] at hu
    obtain ⟨a,b,rfl⟩:=tG (show took.length=2 by omega)
    have e4 : (xN x.o a b)=(aBx a b,0):=by unfold xN;repeat (first | rfl | rw [if_pos (by omega)] | rw [if_neg (by omega)])
    have e : eH m ⟨ff,fpc+1,floc,fstk⟩ [a,b] (fs0.length+1) hp made out x = .next ⟨ff,fpc+1,floc,fstk++[aBx a b]⟩ hp made out:=by simp only [eH,List.headD,List.tail,e4];(repeat (first | rfl | exact if_neg (fun h=>h rfl) | refine (if_pos (by omega)).trans ?_ | refine (if_neg (by omega)).trans ?_))
    exact cQ rfl (lW rfl (aH aFp (fun r hr=>by rw [hr];exact oZ (l:=[aBx a b]) (by simp) (dW (laid:=[aBx a b]) hi rfl hfs (by simp) (aA (by rw [e];rfl))))))
  refine aE (aC (fun ho=>?_) (fun n16=>?_))
  · have e0 : aX m.funcs x=(1,1):=by unfold aX;repeat (first | rfl | rw [if_pos (by omega)] | rw [if_neg (by omega)])
    rw [e0] at hu
    obtain ⟨a,rfl⟩:=List.length_eq_one_iff.1 (show took.length=1 by omega)
    refine cQ rfl (aG1 aGa (cF rfl (cF rfl (aG rfl (aB rfl (aB rfl (aB rfl (dU (bJ (fun ht=>aA ?_) (fun ht=>?_))))))))))
    · have e : eH m ⟨ff,fpc+1,floc,fstk⟩ [a] (fs0.length+1) hp made out x = .trap (aCh a).2:=by simp only [eH,List.headD,List.tail];(repeat (first | rfl | refine (if_pos (by omega)).trans ?_ | refine (if_neg (by omega)).trans ?_))
      rw [e];exact ⟨ht,rfl⟩
    · have e : eH m ⟨ff,fpc+1,floc,fstk⟩ [a] (fs0.length+1) hp made out x = .next ⟨ff,fpc+1,floc,fstk++[(aCh a).1]⟩ hp made out:=by simp only [eH,List.headD,List.tail];(repeat (first | rfl | refine (if_pos (by omega)).trans ?_ | refine (if_neg (by omega)).trans ?_))
      exact dW (laid:=[(aCh a).1]) hi rfl hfs (by simp) (aA (by rw [e];rfl))
  refine aE (aC (fun ho=>?_) (fun n17=>?_))
  · have e0 : aX m.funcs x=(0,0):=by unfold aX;repeat (first | rfl | rw [if_pos (by omega)] | rw [if_neg (by omega)])
    rw [e0] at hu
    obtain rfl:=List.eq_nil_of_length_eq_zero (show took.length=0 by omega)
    have e : eH m ⟨ff,fpc+1,floc,fstk⟩ [] (fs0.length+1) hp made out x = .next ⟨ff,x.a,floc,fstk⟩ hp made out:=by simp only [eH,List.headD,List.tail];(repeat (first | rfl | refine (if_pos (by omega)).trans ?_ | refine (if_neg (by omega)).trans ?_))
    exact dW (next:=x.a) (laid:=[]) hi rfl hfs (by simp) (aA (by rw [e];simp [DoI]))
  refine aE (aC (fun ho=>?_) (fun n18=>?_))
  · have e0 : aX m.funcs x=(1,0):=by unfold aX;repeat (first | rfl | rw [if_pos (by omega)] | rw [if_neg (by omega)])
    rw [e0] at hu
    obtain ⟨a,rfl⟩:=List.length_eq_one_iff.1 (show took.length=1 by omega)
    have hd : decide (x.o=18)=true:=by simp [ho]
    refine cQ rfl (aB rfl (dU (bJ (fun h1=>aA ?_) (fun h1=>?_))))
    · have e : eH m ⟨ff,fpc+1,floc,fstk⟩ [a] (fs0.length+1) hp made out x = .trap 1:=by simp only [eH,List.headD,List.tail];(repeat (first | rfl | refine (if_pos (by omega)).trans ?_ | refine (if_neg (by omega)).trans ?_))
      rw [e];exact ⟨by omega,rfl⟩
    refine cQ rfl (aB rfl (aE (aE (eF (bN (fun h2=>?_) (fun h2=>?_))))))
    · have e : eH m ⟨ff,fpc+1,floc,fstk⟩ [a] (fs0.length+1) hp made out x = .next ⟨ff,x.a,floc,fstk⟩ hp made out:=by simp only [eH,List.headD,List.tail];(repeat (first | rfl | refine (if_pos (by omega)).trans ?_ | refine (if_neg (by omega)).trans ?_ | refine (if_pos h2).trans ?_))
      exact dW (next:=x.a) (laid:=[]) hi rfl hfs (by simp) (aA (by rw [e];simp [DoI]))
    · have e : eH m ⟨ff,fpc+1,floc,fstk⟩ [a] (fs0.length+1) hp made out x = .next ⟨ff,fpc+1,floc,fstk++[]⟩ hp made out:=by simp only [eH,List.headD,List.tail];(repeat (first | rfl | refine (if_pos (by omega)).trans ?_ | refine (if_neg (by omega)).trans ?_ | exact if_neg (fun h=>Bool.noConfusion (h2.symm.trans h))))
      exact dW (laid:=[]) hi rfl hfs (by simp) (aA (by rw [e];rfl))
  refine aE (aC (fun ho=>?_) (fun n19=>?_))
  · have e0 : aX m.funcs x=(1,0):=by unfold aX;repeat (first | rfl | rw [if_pos (by omega)] | rw [if_neg (by omega)])
    rw [e0] at hu
    obtain ⟨a,rfl⟩:=List.length_eq_one_iff.1 (show took.length=1 by omega)
    have hd : decide (x.o=18)=false:=by simp [ho]
    refine cQ rfl (aB rfl (dU (bJ (fun h1=>aA ?_) (fun h1=>?_))))
    · have e : eH m ⟨ff,fpc+1,floc,fstk⟩ [a] (fs0.length+1) hp made out x = .trap 1:=by simp only [eH,List.headD,List.tail];(repeat (first | rfl | refine (if_pos (by omega)).trans ?_ | refine (if_neg (by omega)).trans ?_))
      rw [e];exact ⟨by omega,rfl⟩
    refine cQ rfl (aB rfl (aE (aE (eF (bN (fun h2=>?_) (fun h2=>?_))))))
    · have e : eH m ⟨ff,fpc+1,floc,fstk⟩ [a] (fs0.length+1) hp made out x = .next ⟨ff,x.a,floc,fstk⟩ hp made out:=by simp only [eH,List.headD,List.tail];(repeat (first | rfl | refine (if_pos (by omega)).trans ?_ | refine (if_neg (by omega)).trans ?_ | refine (if_pos h2).trans ?_))
      exact dW (next:=x.a) (laid:=[]) hi rfl hfs (by simp) (aA (by rw [e];simp [DoI]))
    · have e : eH m ⟨ff,fpc+1,floc,fstk⟩ [a] (fs0.length+1) hp made out x = .next ⟨ff,fpc+1,floc,fstk++[]⟩ hp made out:=by simp only [eH,List.headD,List.tail];(repeat (first | rfl | refine (if_pos (by omega)).trans ?_ | refine (if_neg (by omega)).trans ?_ | exact if_neg (fun h=>Bool.noConfusion (h2.symm.trans h))))
      exact dW (laid:=[]) hi rfl hfs (by simp) (aA (by rw [e];rfl))
  refine aE (aC (fun ho=>?_) (fun n20=>?_))
  · have e0 : aX m.funcs x=(0,1):=by unfold aX;repeat (first | rfl | rw [if_pos (by omega)] | rw [if_neg (by omega)])
    rw [e0] at hu
    obtain rfl:=List.eq_nil_of_length_eq_zero (show took.length=0 by omega)
    have hq:=q20 ho
    refine aE (aC (fun h1=>aA ?_) (fun h1=>?_))
    · have e : eH m ⟨ff,fpc+1,floc,fstk⟩ [] (fs0.length+1) hp made out x = .trap 7:=by simp only [eH,List.headD,List.tail];(repeat (first | rfl | refine (if_pos (by omega)).trans ?_ | refine (if_neg (by omega)).trans ?_))
      rw [e];exact ⟨by omega,rfl⟩
    have e : eH m ⟨ff,fpc+1,floc,fstk⟩ [] (fs0.length+1) hp made out x = .next ⟨ff,fpc+1,floc,fstk++[aFW hp.length]⟩ (hp++[List.replicate x.a.toNat fI]) (made+1) out:=by simp only [eH,List.headD,List.tail];(repeat (first | rfl | refine (if_pos (by omega)).trans ?_ | refine (if_neg (by omega)).trans ?_))
    refine aI (fB rfl (aEO (by omega) (by omega) (eZ (eI _) (iZ (by simp;omega) (fun y hy=>by simp at hy;subst hy;rfl) (bC (by omega) (fB rfl ?_))))))
    exact dW (laid:=[aFW hp.length]) hi rfl hfs (by simp) (aA (by rw [e];simp [DoI];rfl))
  refine aE (aC (fun ho=>?_) (fun n21=>?_))
  · have e0 : aX m.funcs x=(1,1):=by unfold aX;repeat (first | rfl | rw [if_pos (by omega)] | rw [if_neg (by omega)])
    rw [e0] at hu
    obtain ⟨a,rfl⟩:=List.length_eq_one_iff.1 (show took.length=1 by omega)
    have hq:=q2122 (.inl ho)
    refine cQ rfl (aDr (by omega) (by omega) hrec (rI (vals0 a (by simp))) (fun h1=>?_) (fun h1 h2=>?_) (fun h1 h2=>?_))
    · have e : eH m ⟨ff,fpc+1,floc,fstk⟩ [a] (fs0.length+1) hp made out x = .trap 1:=by simp only [eH,List.headD,List.tail];(repeat (first | rfl | refine (if_pos (by omega)).trans ?_ | refine (if_neg (by omega)).trans ?_))
      refine dU (bJ (fun _=>aA ?_) (fun h=>absurd h (by decide)))
      rw [e];exact ⟨by omega,rfl⟩
    · have e : eH m ⟨ff,fpc+1,floc,fstk⟩ [a] (fs0.length+1) hp made out x = .trap 4:=by simp only [eH,List.headD,List.tail];(repeat (first | rfl | refine (if_pos (by omega)).trans ?_ | refine (if_neg (by omega)).trans ?_))
      refine dU (bJ (fun _=>aA ?_) (fun h=>absurd h (by decide)))
      rw [e];exact ⟨by omega,rfl⟩
    · have hr4:=rI (vals0 a (by simp)) h1
      obtain ⟨v,hv⟩ : ∃ v,(hp[a.n.toNat]?.getD [])[x.a.toNat]? = some v:=⟨_,List.getElem?_eq_getElem (show x.a.toNat<(hp[a.n.toNat]?.getD []).length by omega)⟩
      have et : (hp[a.n.toNat]?.getD [])[x.a.toNat]?.getD fI=v:=by rw [hv];rfl
      have e : eH m ⟨ff,fpc+1,floc,fstk⟩ [a] (fs0.length+1) hp made out x = .next ⟨ff,fpc+1,floc,fstk++[v]⟩ hp made out:=by simp only [eH,List.headD,List.tail,et];(repeat (first | rfl | refine (if_pos (by omega)).trans ?_ | refine (if_neg (by omega)).trans ?_))
      refine dU (bJ (fun h=>absurd rfl h) (fun _=>aDc (hH hr4.1 hr4.2 (aB rfl (tE (by omega) (by omega) (fun v' hv'=>?_))))))
      rw [hv] at hv';cases hv'
      exact oZ (l:=[v]) (by simp) (dW (laid:=[v]) hi rfl hfs (by simp) (aA (by rw [e];rfl)))
  refine aE (aC (fun ho=>?_) (fun n22=>?_))
  · have e0 : aX m.funcs x=(2,0):=by unfold aX;repeat (first | rfl | rw [if_pos (by omega)] | rw [if_neg (by omega)])
    rw [e0] at hu
    obtain ⟨a,b,rfl⟩:=tG (show took.length=2 by omega)
    have hq:=q2122 (.inr ho)
    refine cQ rfl (aDr (by omega) (by omega) hrec (rI (vals0 a (by simp))) (fun h1=>?_) (fun h1 h2=>?_) (fun h1 h2=>?_))
    · have e : eH m ⟨ff,fpc+1,floc,fstk⟩ [a,b] (fs0.length+1) hp made out x = .trap 1:=by simp only [eH,List.headD,List.tail];(repeat (first | rfl | refine (if_pos (by omega)).trans ?_ | refine (if_neg (by omega)).trans ?_))
      refine dU (bJ (fun _=>aA ?_) (fun h=>absurd h (by decide)))
      rw [e];exact ⟨by omega,rfl⟩
    · have e : eH m ⟨ff,fpc+1,floc,fstk⟩ [a,b] (fs0.length+1) hp made out x = .trap 4:=by simp only [eH,List.headD,List.tail];(repeat (first | rfl | refine (if_pos (by omega)).trans ?_ | refine (if_neg (by omega)).trans ?_))
      refine dU (bJ (fun _=>aA ?_) (fun h=>absurd h (by decide)))
      rw [e];exact ⟨by omega,rfl⟩
    · have hr4:=rI (vals0 a (by simp)) h1
      have e : eH m ⟨ff,fpc+1,floc,fstk⟩ [a,b] (fs0.length+1) hp made out x = .next ⟨ff,fpc+1,floc,fstk⟩ (hp.set a.n.toNat ((hp[a.n.toNat]?.getD []).set x.a.toNat b)) made out:=by simp only [eH,List.headD,List.tail];(repeat (first | rfl | refine (if_pos (by omega)).trans ?_ | refine (if_neg (by omega)).trans ?_))
      refine dU (bJ (fun h=>absurd rfl h) (fun _=>lW rfl (aDc (hH hr4.1 hr4.2 (aB rfl (hH hr4.1 hr4.2 (aB rfl (xO (by omega) (by omega) (hH hr4.1 hr4.2 (aB rfl (aEk hr4.1 hr4.2 ?_)))))))))))
      exact dW (laid:=[]) hi rfl hfs (by simp) (aA (by rw [e,List.append_nil];rfl))
  refine aE (aC (fun ho=>?_) (fun n23=>?_))
  · have e0 : aX m.funcs x=(x.a+1,1):=by unfold aX;repeat (first | rfl | rw [if_pos (by omega)] | rw [if_neg (by omega)])
    rw [e0] at hu
    have hq:=q23 ho
    obtain ⟨a,args,rfl⟩ : ∃ a args,took=a::args:=by
      cases took with
      | nil=>simp at hu;omega
      | cons a args=>exact ⟨a,args,rfl⟩
    simp only [List.length_cons] at hu
    have hk:=vals0 a (by simp)
    refine aE ?_
    rw [decide_eq_true ho]
    refine aR (cQ rfl (aB rfl (dU (bJ (fun h1=>aA ?_) (fun h1=>?_)))))
    · have e : eH m ⟨ff,fpc+1,floc,fstk⟩ (a::args) (fs0.length+1) hp made out x = .trap 1:=by simp only [eH,List.headD,List.tail];(repeat (first | rfl | refine (if_pos (by omega)).trans ?_ | refine (if_neg (by omega)).trans ?_))
      rw [e];exact ⟨by omega,rfl⟩
    have h5:=aBB hk h1
    obtain ⟨q,hqn⟩:=Int.eq_ofNat_of_zero_le h5.1
    have hql : q<m.funcs.length:=by omega
    have hpa : eU m.funcs a.n=m.funcs[q].p:=by unfold eU;rw [hqn,Int.toNat_natCast,List.getElem?_eq_getElem hql];rfl
    refine cQ rfl (aB rfl (aCp h5.1 h5.2 (fun fn2 hfn2=>aB rfl ?_)))
    have hp2 : fn2.p=eU m.funcs a.n:=by unfold eU;rw [hfn2];rfl
    rw [hp2]
    refine dU (bJ (fun h2=>aA ?_) (fun h2=>?_))
    · have e : eH m ⟨ff,fpc+1,floc,fstk⟩ (a::args) (fs0.length+1) hp made out x = .trap 5:=by simp only [eH,List.headD,List.tail];(repeat (first | rfl | refine (if_pos (by omega)).trans ?_ | refine (if_neg (by omega)).trans ?_))
      rw [e];exact ⟨by omega,rfl⟩
    refine cQ rfl (aB rfl (eW (fJ (by omega) (by simp;omega) (by omega) (fJ (by omega) (by simp;omega) (by omega) ?_))))
    have et : (((a::args).take ((a::args).length : Int).toNat).drop (1 : Int).toNat)=args:=by rw [Int.toNat_natCast,List.take_length];rfl
    rw [et]
    refine (aGb (t:=a::args) hi rfl hfs (by rw [hA];omega) h5 (by omega) par).mono (fun r hr=>?_)
    rcases hr with ⟨h6,rfl⟩ | ⟨h6,rfl⟩
    · have e : eH m ⟨ff,fpc+1,floc,fstk⟩ (a::args) (fs0.length+1) hp made out x = .trap 6:=by simp only [eH,List.headD,List.tail];(repeat (first | rfl | refine (if_pos (by omega)).trans ?_ | refine (if_neg (by omega)).trans ?_))
      rw [e];exact ⟨by omega,rfl⟩
    · have e : eH m ⟨ff,fpc+1,floc,fstk⟩ (a::args) (fs0.length+1) hp made out x = .call ⟨ff,fpc+1,floc,fstk⟩ (pL m.funcs a.n args):=by simp only [eH,List.headD,List.tail];(repeat (first | rfl | refine (if_pos (by omega)).trans ?_ | refine (if_neg (by omega)).trans ?_))
      rw [e];rfl
  refine aE (aC (fun ho=>?_) (fun n24=>?_))
  · have e0 : aX m.funcs x=(eU m.funcs x.a,1):=by unfold aX;repeat (first | rfl | rw [if_pos (by omega)] | rw [if_neg (by omega)])
    rw [e0] at hu
    have hq:=q524 (.inr ho)
    refine aE ?_
    rw [decide_eq_false n23]
    refine bG ((aGb (t:=took) hi rfl hfs (by rw [hA];omega) hq hu par).mono (fun r hr=>?_))
    rcases hr with ⟨h6,rfl⟩ | ⟨h6,rfl⟩
    · have e : eH m ⟨ff,fpc+1,floc,fstk⟩ took (fs0.length+1) hp made out x = .trap 6:=by simp only [eH];(repeat (first | rfl | refine (if_pos (by omega)).trans ?_ | refine (if_neg (by omega)).trans ?_))
      rw [e];exact ⟨by omega,rfl⟩
    · have e : eH m ⟨ff,fpc+1,floc,fstk⟩ took (fs0.length+1) hp made out x = .call ⟨ff,fpc+1,floc,fstk⟩ (pL m.funcs x.a took):=by simp only [eH];(repeat (first | rfl | refine (if_pos (by omega)).trans ?_ | refine (if_neg (by omega)).trans ?_))
      rw [e];rfl
  refine aE (aC (fun ho=>?_) (fun n25=>?_))
  · have e0 : aX m.funcs x=(1,0):=by unfold aX;repeat (first | rfl | rw [if_pos (by omega)] | rw [if_neg (by omega)])
    rw [e0] at hu
    obtain ⟨a,rfl⟩:=List.length_eq_one_iff.1 (show took.length=1 by omega)
    have e : eH m ⟨ff,fpc+1,floc,fstk⟩ [a] (fs0.length+1) hp made out x = .ret a:=by simp only [eH,List.headD,List.tail];(repeat (first | rfl | refine (if_pos (by omega)).trans ?_ | refine (if_neg (by omega)).trans ?_))
    refine cQ rfl (aFr (by omega) (fun g hg=>by have:=stks g hg;omega) (aA ?_))
    rw [e]
    show _=_
    by_cases h0 : fs0 = []
    · rw [if_pos h0,if_pos h0];rfl
    · rw [if_neg h0,if_neg h0];rfl
  refine aE (aC (fun ho=>?_) (fun n26=>?_))
  · have e0 : aX m.funcs x=(1,0):=by unfold aX;repeat (first | rfl | rw [if_pos (by omega)] | rw [if_neg (by omega)])
    rw [e0] at hu
    obtain ⟨a,rfl⟩:=List.length_eq_one_iff.1 (show took.length=1 by omega)
    refine aI (aE (aC (fun h1=>aA ?_) (fun h1=>?_)))
    · have e : eH m ⟨ff,fpc+1,floc,fstk⟩ [a] (fs0.length+1) hp made out x = .trap 8:=by simp only [eH,List.headD,List.tail];(repeat (first | rfl | refine (if_pos (by omega)).trans ?_ | refine (if_neg (by omega)).trans ?_))
      rw [e];exact ⟨by omega,rfl⟩
    have e : eH m ⟨ff,fpc+1,floc,fstk⟩ [a] (fs0.length+1) hp made out x = .next ⟨ff,fpc+1,floc,fstk⟩ hp made (out++[uQ a hp]):=by simp only [eH,List.headD,List.tail];(repeat (first | rfl | refine (if_pos (by omega)).trans ?_ | refine (if_neg (by omega)).trans ?_))
    refine cQ rfl (aH (aCo (nf:=m.funcs.length) (by omega) (by omega) hrec (vals0 a (by simp))) (fun r hr=>?_))
    rw [hr]
    refine cA rfl (iZ (by simp) (fun y hy=>by simp at hy;subst hy;rfl) (iZ (by simp;omega) (fun y hy=>by simp at hy;subst hy;rfl) ?_))
    exact dW (laid:=[]) hi rfl hfs (by simp) (aA (by rw [e];simp [DoI];rfl))
  have h9 : x.o=9:=by omega
  have e0 : aX m.funcs x=(1,0):=by unfold aX;repeat (first | rfl | rw [if_pos (by omega)] | rw [if_neg (by omega)])
  rw [e0] at hu
  obtain ⟨a,rfl⟩:=List.length_eq_one_iff.1 (show took.length=1 by omega)
  have e : eH m ⟨ff,fpc+1,floc,fstk⟩ [a] (fs0.length+1) hp made out x = .next ⟨ff,fpc+1,floc,fstk++[]⟩ hp made out:=by simp only [eH,List.headD,List.tail];(repeat (first | rfl | refine (if_pos (by omega)).trans ?_ | refine (if_neg (by omega)).trans ?_))
  exact dW (laid:=[]) hi rfl hfs (by simp) (aA (by rw [e];rfl))
def aA9 (fs : List dL) (code : List bI) (d : List Int) (pc : Nat) : Option Int:=
  match code[pc]? with
  | none=>none
  | some x=>
    if d[pc]?.getD 0<0 then none
    else if can fs x (d[pc]?.getD 0)=false then some 2
    else if (fV x pc).any (fun t=>decide ((code.length : Int)≤t))=true then some 3
    else if (fV x pc).any (fun t=>!decide (d[t.toNat]?.getD 0=jI fs x (d[pc]?.getD 0)))=true then some 4
    else none
def aAA (fs : List dL) (code : List bI) (f pc : Nat) : Option (Int × Nat × Nat):=(aA9 fs code (oW fs code) pc).map fun c=>(c,f,pc)
def aDs (fs : List dL) (f : Nat) : Option (Int × Nat × Nat):=match fs[f]? with
  | some x=>(List.range' 0 x.code.length).findSome? (aAA fs x.code f)
  | none=>none
def bad (fs : List dL) : Option (Int × Nat × Nat):=(List.range' 0 fs.length).findSome? (aDs fs)
def aGI : Option (Int × Nat × Nat)→PV
  | some (c,f,pc)=>.agg [.int .i64 c,.int .i64 f,.int .i64 pc]
  | none=>.agg [.int .i64 0,.int .i64 0,.int .i64 0]
def dD.verify (m : dD) : PV:=if m.okB then aGI (bad m.funcs) else .agg [.int .i64 1,.int .i64 0,.int .i64 0]
theorem aEQ {n : Nat} {F : Nat→Option R} {P : R→Prop} (I : Nat→Prop) (he : I n→Ok P (F n)) (hs : ∀ i,i<n→I i→(I (i+1)→Ok P (F (i+1)))→Ok P (F i)) (h0 : I 0) : Ok P (F 0):=
  aEf (σ:=Unit) (F:=fun i _=>F i) (fun i _=>I i) (fun _ h=>he h) (fun i _ hi hI ih=>hs i hi hI (fun h=>ih () h)) 0 () (by omega) h0
theorem aDt {α : Type} {xs : List α} {i : Nat} (hi : i<xs.length) (p : α→Bool) : (xs.drop i).any p=(p xs[i]||(xs.drop (i+1)).any p):=by
  rw [List.drop_eq_getElem_cons hi,List.any_cons]
section
variable {fs : List dL} {code : List bI} {T x3 x4 x5 : PV} (F : Fit fs code) {f : Nat} (hf : f < fs.length)
include F hf
theorem aGJ {ts : List Int} {n : Int} (h : ts.any (fun t=>decide (n≤t))=false) : ∀ t∈ts,t<n:=by
  clear F hf
  intro t ht
  rw [List.any_eq_false] at h
  have:=h t ht
  simp at this
  omega
end
theorem aDu {fs : List dL} {f : Nat} (hf : f<fs.length) : aDs fs f=(List.range' 0 fs[f].code.length).findSome? (aAA fs fs[f].code f):=by
  unfold aDs
  rw [List.getElem?_eq_getElem hf]
section
variable {P : R → Prop} {k : R → Option R}
theorem aFs {xs : List Int} (hx : xs.length≤1000000000) (y : Int) : Ok (fun r=>∃ n : Int,r = [.int .i64 n]∧(0≤n↔xs.any (fun x=>decide (y=x))=true)) (gH (gM xs) (.int .i64 y)):=by
  rw [nR]
  refine gN ?_
  refine aEQ (n:=xs.length) (F:=fun i=>dQ (gM xs) (.int .i64 y) (.int .i64 xs.length) (.int .i64 i)) (fun i=>(xs.drop i).any (fun x=>decide (y=x))=xs.any (fun x=>decide (y=x))) ?_ ?_ (by rw [List.drop_zero])
  · intro hI
    rw [List.drop_length] at hI
    rw [gK]
    refine aS (aC (fun h=>by omega) (fun _=>aA ⟨-1,rfl,?_⟩))
    rw [← hI];simp
  · intro i hi hI ih
    rw [aDt hi] at hI
    rw [gK]
    refine aS (aC (fun _=>?_) (fun h=>by omega))
    refine iR hi (aE (aC (fun h=>aA ⟨i,rfl,?_⟩) (fun h=>?_)))
    · rw [← hI,decide_eq_true h];simp
    · rw [decide_eq_false h] at hI
      exact bC (by omega) (ih hI)
theorem aFt {xs : List Int} (hx : xs.length≤1000000000) {y : Int} (h : Ok P (k [.bool (xs.any (fun x=>decide (y=x)))])) : Ok P (bd (fD (gM xs) (.int .i64 y)) k):=by
  refine aH (Q:=fun r=>r = [.bool (xs.any (fun x=>decide (y=x)))]) ?_ (fun r hr=>by rw [hr];exact h)
  rw [lT]
  refine aH (aFs hx y) ?_
  rintro r ⟨n,rfl,hn⟩
  refine qF (aA ?_)
  by_cases h0 : 0≤n
  · rw [decide_eq_true h0,hn.1 h0]
  · rw [decide_eq_false h0]
    cases h2 : xs.any (fun x=>decide (y=x)) with
    | false=>rfl
    | true=>exact absurd (hn.2 h2) h0
theorem aFu {f : Nat} {caps : List PV} {xs : List Int} (hx : xs.length≤1000000000) (p : Int→Bool) (hp : ∀ x∈xs,Ok (fun r=>r = [.bool (p x)]) (pcallO f ([.int .i64 x]++caps))) (h : Ok P (k [.bool (xs.any p)])) :
    Ok P (bd (eC (gM xs) (.fn f caps)) k):=by
  refine aH (Q:=fun r=>r = [.bool (xs.any p)]) ?_ (fun r hr=>by rw [hr];exact h)
  rw [jQ]
  refine aH (Q:=fun r=>∃ n : Int,r = [.int .i64 n]∧(0≤n↔xs.any p=true)) ?_ ?_
  · rw [kW]
    refine gN ?_
    refine aEQ (n:=xs.length) (F:=fun i=>cU (gM xs) (.fn f caps) (.int .i64 xs.length) (.int .i64 i)) (fun i=>(xs.drop i).any p=xs.any p) ?_ ?_ (by rw [List.drop_zero])
    · intro hI
      rw [List.drop_length] at hI
      rw [fG]
      refine aS (aC (fun h=>by omega) (fun _=>aA ⟨-1,rfl,?_⟩))
      rw [← hI];simp
    · intro i hi hI ih
      rw [aDt hi] at hI
      rw [fG]
      refine aS (aC (fun _=>?_) (fun h=>by omega))
      refine iR hi (jA rfl (hp _ (List.getElem_mem _)) (fun r hr=>?_))
      subst hr
      refine bN (fun h=>aA ⟨i,rfl,?_⟩) (fun h=>?_)
      · rw [← hI,h];simp
      · rw [h,Bool.false_or] at hI
        exact bC (by omega) (ih hI)
  · rintro r ⟨n,rfl,hn⟩
    refine qF (aA ?_)
    by_cases h0 : 0≤n
    · rw [decide_eq_true h0,hn.1 h0]
    · rw [decide_eq_false h0]
      cases h2 : xs.any p with
      | false=>rfl
      | true=>exact absurd (hn.2 h2) h0
end
theorem aGK {ts : List Int} {n : Int} (h : ∀ t∈ts,t≤n) : ts.any (fun x=>decide (n=x))=ts.any (fun t=>decide (n≤t)):=by
  induction ts with
  | nil=>rfl
  | cons t r ih=>
    rw [List.any_cons,List.any_cons,ih (fun x hx=>h x (List.mem_cons_of_mem _ hx))]
    have:=h t List.mem_cons_self
    congr 1
    by_cases h1 : n=t
    · rw [decide_eq_true h1,decide_eq_true (by omega)]
    · rw [decide_eq_false h1,decide_eq_false (by omega)]
section
variable {fs : List dL} {code : List bI} {T x3 x4 x5 : PV} (F : Fit fs code) {f : Nat} (hf : f < fs.length)
include F hf
theorem aEo {rest : Option (Int × Nat × Nat)} (hnext : Ok (fun r=>r = [aGI rest]) (gE (.int .i64 fs.length) (.int .i64 ((f : Int)+1)) T (.lst (fs.map dL.pv)) x3 x4 x5)) : ∀ pc,pc≤code.length→
    Ok (fun r=>r = [aGI (((List.range' pc (code.length - pc)).findSome? (aAA fs code f)).or rest)])
      (gF (.int .i64 f) (.int .i64 fs.length) (.int .i64 f) (.lst (code.map bI.pv)) (.int .i64 code.length) (.int .i64 pc) T (.lst (fs.map dL.pv)) x3 x4 x5 (gM (oW fs code))):=by
  have hn2:=F.n2
  have hnf:=F.nf
  have hg:=aAr F
  generalize hd : oW fs code=d at hg
  refine oV ?_ ?_
  · rw [mP,aDg]
    exact aS (aC (fun h=>by omega) (fun _=>bC (by omega) hnext))
  · intro pc hpc ih
    have hx : code[pc]? = some code[pc]:=List.getElem?_eq_getElem hpc
    have hm : code[pc]∈code:=List.getElem_mem _
    have hu:=F.u code[pc] hm
    have hil : pc<d.length:=by rw [hg.1];exact hpc
    have hv:=hg.at pc
    have e2 : d[pc]=d[pc]?.getD 0:=aEL hil
    rw [aBu hpc]
    have eb : aAA fs code f pc=(aA9 fs code d pc).map fun c=>(c,f,pc):=by unfold aAA;rw [hd]
    rw [eb]
    have ec : aA9 fs code d pc=if d[pc]?.getD 0<0 then none
      else if can fs code[pc] (d[pc]?.getD 0)=false then some 2
      else if (fV code[pc] pc).any (fun t=>decide ((code.length : Int)≤t))=true then some 3
      else if (fV code[pc] pc).any (fun t=>!decide (d[t.toNat]?.getD 0=jI fs code[pc] (d[pc]?.getD 0)))=true then some 4
      else none:=by
      conv=>lhs;unfold aA9
      rw [hx]
    generalize hw : d[pc]?.getD 0=w at *
    generalize aA9 fs code d pc=ch at *
    rw [mP]
    refine aS (aC (fun _=>?_) (fun h=>by omega))
    refine cD hpc (fun _=>rfl) (aG rfl (aB rfl (aB rfl (iR hil ?_))))
    rw [e2]
    refine aS (aC (fun h1=>?_) (fun h1=>?_))
    · rw [if_pos h1] at ec
      subst ec
      exact bC (by omega) ih
    rw [if_neg h1] at ec
    refine iR hil ?_
    rw [e2]
    refine aH (aBA (T:=T) F hm hv) (fun r hr=>?_)
    subst hr
    refine cF rfl (cF rfl (fB rfl (eA (bN (fun hc=>?_) (fun hc=>?_)))))
    · have hc : can fs code[pc] w=false:=by simpa using hc
      rw [if_pos hc] at ec
      subst ec
      exact fB rfl (fB rfl (aA rfl))
    have hc : can fs code[pc] w=true:=by simpa using hc
    rw [hc,if_neg (by simp)] at ec
    refine aH (aBw (x:=code[pc]) (by omega)) (fun r hr=>?_)
    subst hr
    have hnx:=aAs F hm hpc
    have hl10 : (fV code[pc] pc).length≤10:=by unfold fV;repeat' split<;>simp
    refine gN (aFt (by omega) ?_)
    rw [hg.1,aGK (fun t ht=>(hnx t ht).2)]
    refine bN (fun h=>?_) (fun h=>?_)
    · rw [if_pos h] at ec
      subst ec
      exact fB rfl (fB rfl (aA rfl))
    rw [if_neg (by rw [h];simp)] at ec
    refine aFu (by omega) (fun t=>!decide (d[t.toNat]?.getD 0=jI fs code[pc] w)) (fun t ht=>?_) ?_
    · have:=hnx t ht
      have:=aGJ F hf h t ht
      show Ok _ (rZ _ _ _)
      rw [vQ]
      refine fC rfl (xM (by omega) (by rw [hg.1];omega) (fun v hv=>fC rfl (dU (aA ?_))))
      rw [hv];rfl
    · refine cA rfl (bN (fun h=>?_) (fun h=>?_))
      · rw [if_pos h] at ec
        subst ec
        exact fB rfl (fB rfl (aA rfl))
      · rw [if_neg (by rw [h];simp)] at ec
        subst ec
        exact bC (by omega) ih
end
theorem aDv {m : dD} (h : m.sized) : Ok (fun r=>r = [m.verify]) (qI m.pv):=by
  rw [aAf]
  refine aG rfl (aB rfl (aB rfl (aH (jY h) (fun r hr=>?_))))
  subst hr
  unfold dD.verify
  refine eA (bN (fun hb=>aA ?_) (fun hb=>?_))
  · have : m.okB=false:=by simpa using hb
    rw [this];rfl
  have hb : m.okB=true:=by simpa using hb
  rw [hb,if_pos rfl]
  obtain ⟨h1,h2,h3⟩:=dD.okB_fit hb
  refine aI ?_
  have key:=oV (n:=m.funcs.length) (P:=fun f r=>r = [aGI ((List.range' f (m.funcs.length - f)).findSome? (aDs m.funcs))])
    (F:=fun f=>gE (.int .i64 m.funcs.length) (.int .i64 f) (.lst (m.texts.map PV.str)) (.lst (m.funcs.map dL.pv)) (.int .i64 0) (.int .i64 0) (.int .i64 0)) ?_ ?_ 0 (by omega)
  · exact key
  · rw [mO,aDg]
    exact aS (aC (fun h=>by omega) (fun _=>aA rfl))
  · intro f hf ih
    have F:=(h3 m.funcs[f] (List.getElem_mem _)).1
    rw [mO,aBu hf,aDu hf]
    refine aS (aC (fun _=>?_) (fun h=>by omega))
    refine aH (aAu F hf rfl) (fun r hr=>?_)
    subst hr
    refine fB rfl (cD hf (fun _=>rfl) (aB rfl (aI ?_)))
    exact aEo F hf ih 0 (by omega)
theorem aFv {fs : List dL} {code : List bI} {d : List Int} {pc : Nat} (hpc : pc<code.length) (h : aA9 fs code d pc=none) (h0 : ¬ d[pc]?.getD 0<0) :
    can fs code[pc] (d[pc]?.getD 0)=true∧∀ t∈fV code[pc] pc,t<code.length∧d[t.toNat]?.getD 0=jI fs code[pc] (d[pc]?.getD 0):=by
  unfold aA9 at h
  rw [List.getElem?_eq_getElem hpc] at h
  simp only at h
  rw [if_neg h0] at h
  split at h
  · cases h
  rename_i h1
  split at h
  · cases h
  rename_i h2
  split at h
  · cases h
  rename_i h3
  refine ⟨by simpa using h1,fun t ht=>?_⟩
  rw [Bool.not_eq_true,List.any_eq_false] at h2 h3
  have g2:=h2 t ht
  have g3:=h3 t ht
  simp at g2 g3
  exact ⟨by omega,g3⟩
theorem aGc {fs : List dL} (h : bad fs=none) {f : Nat} (hf : f<fs.length) {pc : Nat} (hpc : pc<fs[f].code.length) : aA9 fs fs[f].code (oW fs fs[f].code) pc=none:=by
  unfold bad at h
  rw [List.findSome?_eq_none_iff] at h
  have h1:=h f (by rw [List.mem_range'_1];omega)
  rw [aDu hf,List.findSome?_eq_none_iff] at h1
  have h2:=h1 pc (by rw [List.mem_range'_1];omega)
  simpa [aAA] using h2
structure kR (m : dD) : Prop where
  sz : m.sized
  ok : m.okB=true
  bad : bad m.funcs=none
def dAt (m : dD) (f pc : Int) : Int:=(oW m.funcs (gQ m.funcs f))[pc.toNat]?.getD 0
def pM (m : dD) (f pc : Int) : bI:=(gQ m.funcs f)[pc.toNat]?.getD ⟨0,0⟩
abbrev sD (m : dD) (n : Int) (v : cW) : Prop:=bM m.funcs.length n v=true
theorem qU : jE (bs []) (bs [])=true:=aEg _
theorem jF {nf n : Int} : bM nf n fI=true:=by simp [bM,fI,qU]
theorem aER {nf n x : Int} (h : cB x=true) : bM nf n (aA5 x)=true:=by simp [bM,aA5,qU,h]
theorem uS {nf n : Int} {b : Bool} : bM nf n (mR b)=true:=by cases b<;>simp [bM,mR,qU,eK]
theorem aDw {nf n : Int} {s : ByteArray} (h : eL s=true) : bM nf n (aAp s)=true:=by simp [bM,aAp,h]
theorem aGL {nf n i : Int} (h : 0≤i∧i<n) : bM nf n (aFW i)=true:=by simp [bM,aFW,qU,h]
theorem aGM {nf n i : Int} (h : 0≤i∧i<nf) : bM nf n (aFX i)=true:=by
  have : i≤nf - 1:=by omega
  simp [bM,aFX,qU,eK,h,this]
theorem lX {nf n n' : Int} (hn : n≤n') {v : cW} (h : bM nf n v=true) : bM nf n' v=true:=by
  unfold bM at *
  split at h
  · cases h
  rename_i h0
  rw [if_neg h0]
  split at h
  · rename_i h1;rw [if_pos h1];exact h
  rename_i h1
  rw [if_neg h1]
  split at h
  · rename_i h1;rw [if_pos h1];exact h
  rename_i h2
  rw [if_neg h2]
  split at h
  · rename_i h1;rw [if_pos h1];exact h
  rename_i h3
  rw [if_neg h3]
  split at h
  · rename_i h1;rw [if_pos h1];exact h
  rename_i h4
  rw [if_neg h4]
  split at h
  · rename_i h1
    rw [if_pos h1]
    simp only [Bool.and_eq_true,decide_eq_true_eq] at *
    omega
  rename_i h5
  rw [if_neg h5]
  exact h
theorem aGN {a b : ByteArray} (ha : eL a=true) (hb : eL b=true) (h : ¬ (60 : Int)<a.size+b.size) : eL (a++b)=true:=by
  simp only [eL,Bool.and_eq_true,decide_eq_true_eq,List.all_eq_true] at *
  refine ⟨by rw [ByteArray.size_append];omega,fun x hx=>?_⟩
  rw [ByteArray.data_append,Array.toList_append,List.mem_append] at hx
  rcases hx with hx | hx
  · exact ha.2 x hx
  · exact hb.2 x hx
theorem aBD {nf n : Int} {v : cW} (h : bM nf n v=true) (hk : v.k=3) : eL v.s=true:=by
  unfold bM at h
  rw [if_neg (fun e=>e.1 hk),if_neg (by omega),if_neg (by omega),if_neg (by omega),if_pos hk] at h
  simp only [Bool.and_eq_true] at h
  exact h.2
theorem aCq {nf n o : Int} {a b : cW} : bM nf n (aCg o a b).1=true:=by
  unfold aCg
  repeat' split
  all_goals first
    | exact jF
    | (rename_i h;exact aER (by simpa using h))
theorem aG7 {nf n o : Int} {a b : cW} (ha : bM nf n a=true) (hb : bM nf n b=true) : bM nf n (xN o a b).1=true:=by
  unfold xN
  split
  · split
    · rename_i h
      split
      · exact jF
      · rename_i h2
        exact aDw (aGN (aBD ha h.1) (aBD hb h.2) h2)
    · exact aCq
  split
  · exact aCq
  split
  · exact aCq
  split
  · repeat' split
    all_goals first
      | exact jF
      | exact uS
  · exact uS
theorem kR.fit {m : dD} (g : kR m) : 1≤m.funcs.length∧m.funcs.length≤12∧∀ f∈m.funcs,Fit m.funcs f.code∧0≤f.p∧f.p≤6∧f.p≤f.lc∧f.lc≤12:=dD.okB_fit g.ok
theorem kR.code {m : dD} (g : kR m) {f : Int} (h : 0≤f∧f<m.funcs.length) : ∃ i : Nat,∃ hi : i<m.funcs.length,f=i∧gQ m.funcs f=m.funcs[i].code∧Fit m.funcs m.funcs[i].code∧0≤m.funcs[i].p∧m.funcs[i].p≤6∧m.funcs[i].p≤m.funcs[i].lc∧m.funcs[i].lc≤12∧wA m.funcs f=m.funcs[i].lc∧eU m.funcs f=m.funcs[i].p∧
    ∀ x∈m.funcs[i].code,bF m.texts.length m.funcs.length m.funcs[i].lc m.funcs[i].code.length x.o x.a=true:=by
  obtain ⟨i,hi⟩:=Int.eq_ofNat_of_zero_le h.1
  have hl : i<m.funcs.length:=by omega
  have hm : m.funcs[i]∈m.funcs:=List.getElem_mem _
  obtain ⟨F,p1,p2,p3,p4⟩:=g.fit.2.2 _ hm
  refine ⟨i,hl,hi,by simp [gQ,hi,List.getElem?_eq_getElem hl],F,p1,p2,p3,p4,by simp [wA,hi,List.getElem?_eq_getElem hl],by simp [eU,hi,List.getElem?_eq_getElem hl],fun x hx=>?_⟩
  have h:=g.ok
  simp only [dD.okB,Bool.and_eq_true,bE,decide_eq_true_eq,List.all_eq_true,kE] at h
  exact (h.2.2.2 _ hm).2.2.2 x hx
theorem kR.at_ {m : dD} (g : kR m) {f pc : Int} (h : 0≤f∧f<m.funcs.length) (hp : 0≤pc∧pc<(gQ m.funcs f).length) (hd : 0≤dAt m f pc) :
    bF m.texts.length m.funcs.length (wA m.funcs f) (gQ m.funcs f).length (pM m f pc).o (pM m f pc).a=true∧
    (0≤(aX m.funcs (pM m f pc)).1∧(aX m.funcs (pM m f pc)).1≤dAt m f pc∧0≤(aX m.funcs (pM m f pc)).2∧(aX m.funcs (pM m f pc)).2≤2)∧dAt m f pc≤16∧jI m.funcs (pM m f pc) (dAt m f pc)≤16∧
    ∀ t∈fV (pM m f pc) pc,(0≤t∧t<(gQ m.funcs f).length)∧dAt m f t=jI m.funcs (pM m f pc) (dAt m f pc):=by
  obtain ⟨i,hi,rfl,hc,F,p1,p2,p3,p4,hlc,hpar,hins⟩:=g.code h
  obtain ⟨j,rfl⟩:=Int.eq_ofNat_of_zero_le hp.1
  have hj : j<m.funcs[i].code.length:=by rw [hc] at hp;omega
  have hx : pM m i j=m.funcs[i].code[j]:=by simp [pM,hc,List.getElem?_eq_getElem hj]
  have hm : m.funcs[i].code[j]∈m.funcs[i].code:=List.getElem_mem _
  have hu:=F.u _ hm
  have hdd : ∀ t : Int,dAt m i t=(oW m.funcs m.funcs[i].code)[t.toNat]?.getD 0:=fun t=>by rw [dAt,hc]
  have hb:=(aAr F).at j
  have hck:=aFv hj (aGc g.bad hi hj)
  have hnx:=aAs F hm hj
  rw [hx,hc,hlc]
  rw [hdd,Int.toNat_natCast] at hd ⊢
  obtain ⟨hcan,hall⟩:=hck (by omega)
  simp only [can,Bool.and_eq_true,decide_eq_true_eq] at hcan
  refine ⟨hins _ hm,⟨hu.1,hcan.1,hu.2.2⟩,hb.2,hcan.2,fun t ht=>?_⟩
  obtain ⟨q1,q2⟩:=hall t ht
  exact ⟨⟨(hnx t ht).1,q1⟩,by rw [hdd];exact q2⟩
structure FrI (m : dD) (n : Int) (f : dR) : Prop where
  fi : 0≤f.f∧f.f<m.funcs.length
  pc : 0≤f.pc∧f.pc<(gQ m.funcs f.f).length
  loc : (f.loc.length : Int)=wA m.funcs f.f
  d : 0≤dAt m f.f f.pc
  vl : ∀ v∈f.loc,sD m n v
  vs : ∀ v∈f.stk,sD m n v
structure aGP (m : dD) (n : Int) (f : dR) : Prop extends FrI m n f where
  h : (f.stk.length : Int)=dAt m f.f f.pc
structure aFw (m : dD) (n : Int) (f : dR) : Prop extends FrI m n f where
  low : 1≤f.pc∧0≤dAt m f.f (f.pc - 1)∧((pM m f.f (f.pc - 1)).o=23∨(pM m f.f (f.pc - 1)).o=24)
  h : (f.stk.length : Int)=dAt m f.f f.pc - 1
structure HpI (m : dD) (hp : List (List cW)) (made : Int) (out : List ByteArray) : Prop where
  made : hp.length≤made∧made≤120
  recs : ∀ r∈hp,r.length≤6∧∀ v∈r,sD m hp.length v
  out : out.length≤200
structure VmI (m : dD) (v : qS) : Prop where
  hp : HpI m v.hp v.made v.out
  steps : 0≤v.steps∧v.steps≤50000
  nfr : v.fr.length≤24
  run : v.st=0→v.fr≠[]
  top : ∀ fs0 f,v.fr=fs0++[f]→aGP m v.hp.length f∧∀ g∈fs0,aFw m v.hp.length g
theorem FrI.mono {m : dD} {n n' : Int} (hn : n≤n') {f : dR} (h : FrI m n f) : FrI m n' f:=
  ⟨h.fi,h.pc,h.loc,h.d,fun v hv=>lX hn (h.vl v hv),fun v hv=>lX hn (h.vs v hv)⟩
theorem aFw.mono {m : dD} {n n' : Int} (hn : n≤n') {f : dR} (h : aFw m n f) : aFw m n' f:=⟨h.toFrI.mono hn,h.low,h.h⟩
theorem FrI.small {m : dD} (g : kR m) {n : Int} {f : dR} (h : FrI m n f) : f.loc.length≤12:=by
  obtain ⟨i,hi,he,hc,F,p1,p2,p3,p4,hlc,hpar,hins⟩:=g.code h.fi
  have:=h.loc
  omega
theorem FrI.dle {m : dD} (g : kR m) {n : Int} {f : dR} (h : FrI m n f) : dAt m f.f f.pc≤16:=(g.at_ h.fi h.pc h.d).2.2.1
theorem VmI.sz {m : dD} (g : kR m) {v : qS} (h : VmI m v) : Sz v:=by
  have:=h.hp.made
  have:=h.hp.out
  have:=h.nfr
  refine ⟨by omega,by omega,by omega,fun f hf=>?_,fun r hr=>by have:=(h.hp.recs r hr).1;omega⟩
  rcases List.eq_nil_or_concat v.fr with h0 | ⟨fs0,f0,h0⟩
  · rw [h0] at hf;cases hf
  · obtain ⟨t,l⟩:=h.top fs0 f0 (by rw [h0];simp)
    rw [h0] at hf
    simp only [List.concat_eq_append,List.mem_append,List.mem_singleton] at hf
    rcases hf with hf | rfl
    · have:=(l f hf).toFrI.small g
      have:=(l f hf).toFrI.dle g
      have:=(l f hf).h
      omega
    · have:=t.toFrI.small g
      have:=t.toFrI.dle g
      have:=t.h
      omega
theorem VmI.goes {m : dD} (g : kR m) {v : qS} (h : VmI m v) (h0 : v.st=0) : ∃ fs0 f,aGU m v fs0 f:=by
  rcases List.eq_nil_or_concat v.fr with e | ⟨fs0,f,e⟩
  · exact absurd e (h.run h0)
  rw [List.concat_eq_append] at e
  refine ⟨fs0,f,?_⟩
  obtain ⟨t,l⟩:=h.top fs0 f e
  obtain ⟨i,hi,he,hc,F,p1,p2,p3,p4,hlc,hpar,hins⟩:=g.code t.fi
  obtain ⟨a1,a2,a3,a4,a5⟩:=g.at_ t.fi t.pc t.d
  have hx : gR m.funcs f=pM m f.f f.pc:=rfl
  have hh:=t.h
  have hm:=h.hp.made
  have hn:=h.nfr
  rw [e,List.length_append,List.length_singleton] at hn
  refine ⟨e,t.fi,t.pc,by rw [hc];exact F.n2,by rw [hx,t.loc];exact a1,by rw [hx,hh];exact ⟨a2.1,a2.2.1⟩,fun b=>?_⟩
  refine ⟨g.fit.2.1,?_,fun f hf=>?_,by omega,fun f hf=>?_,by have:=t.toFrI.small g;exact this,?_,fun r hr=>(h.hp.recs r hr).1,by omega,by omega,h.hp.out,fun v hv=>t.vs v (List.mem_of_mem_drop hv)⟩
  · have h:=g.ok
    simp only [dD.okB,Bool.and_eq_true,bE,decide_eq_true_eq] at h
    omega
  · have:=g.fit.2.2 f hf
    exact this.2
  · have:=(l f hf).toFrI.dle g
    have:=(l f hf).h
    omega
  · simp only [List.length_take,List.length_drop]
    omega
structure aES (m : dD) (v : qS) (f : dR) (x : bI) (fr : dR) (hp : List (List cW)) (made : Int) (out : List ByteArray) : Prop where
  ff : fr.f=f.f
  pc : fr.pc∈fV x f.pc
  loc : fr.loc.length=f.loc.length
  len : (fr.stk.length : Int)=jI m.funcs x f.stk.length
  vl : ∀ y∈fr.loc,sD m hp.length y
  vs : ∀ y∈fr.stk,sD m hp.length y
  n : v.hp.length≤hp.length
  hpI : HpI m hp made out
structure aGV (m : dD) (v : qS) (fs0 : List dR) (f : dR) (x : bI) (fr g : dR) : Prop where
  n : fs0.length+1<24
  o : x.o=23∨x.o=24
  frr : fr=⟨f.f,f.pc+1,f.loc,f.stk.take (f.stk.length - (aX m.funcs x).1.toNat)⟩
  gg : ∃ i args,g=pL m.funcs i args∧(0≤i∧i<m.funcs.length)∧(args.length : Int)=eU m.funcs i∧∀ y∈args,sD m v.hp.length y
def aHr (m : dD) (v : qS) (fs0 : List dR) (f : dR) (x : bI) : aDn→Prop
  | .trap _=>True
  | .next fr hp made out=>aES m v f x fr hp made out
  | .call fr g=>aGV m v fs0 f x fr g
  | .ret a=>sD m v.hp.length a
theorem aET {m : dD} {n : Int} {l : List cW} (h : ∀ y∈l,sD m n y) (i : Nat) : sD m n (l[i]?.getD fI):=by
  cases hx : l[i]? with
  | none=>exact jF
  | some y=>exact h y (List.mem_of_getElem? hx)
theorem aEp {m : dD} {v : qS} (h : HpI m v.hp v.made v.out) (i : Nat) : (v.hp[i]?.getD []).length≤6∧∀ y∈v.hp[i]?.getD [],sD m v.hp.length y:=by
  cases hx : v.hp[i]? with
  | none=>simp
  | some y=>exact h.recs y (List.mem_of_getElem? hx)
theorem aGd {m : dD} {n : Int} {l : List cW} (h : ∀ y∈l,sD m n y) {y : cW} (hy : sD m n y) (i : Nat) : ∀ z∈l.set i y,sD m n z:=by
  intro z hz
  rcases List.mem_or_eq_of_mem_set hz with h1 | rfl
  · exact h z h1
  · exact hy
theorem aCr {m : dD} {n : Int} {a b : List cW} (h : ∀ y∈a,sD m n y) (h' : ∀ y∈b,sD m n y) : ∀ y∈a++b,sD m n y:=by
  intro y hy
  rcases List.mem_append.1 hy with h1 | h1
  · exact h y h1
  · exact h' y h1
theorem aBE {x : bI} {pc : Int} (h : x.o≠17∧x.o≠25) : pc+1∈fV x pc:=by simp [fV,h]
theorem aAB {x : bI} {pc : Int} (h : x.o=17∨x.o=18∨x.o=19) : x.a∈fV x pc:=by unfold fV;rw [if_pos h];simp
section
variable {m : dD} {v : qS} {fs0 : List dR} {f : dR} {x : bI}
theorem aG8 (g : kR m) (h : VmI m v) (t : aGP m v.hp.length f) (hx : gR m.funcs f=x) (hn : fs0.length+1≤24) : aHr m v fs0 f x (aAy m v fs0 f):=by
  obtain ⟨a1,a2,a3,a4,a5⟩:=g.at_ t.fi t.pc t.d
  have hi : pM m f.f f.pc=x:=hx
  rw [hi] at a1 a2 a4 a5
  have hh:=t.h
  rw [← hh] at a2 a3 a4
  rw [← t.loc] at a1
  have ib:=wC a1
  show aHr m v fs0 f x (eH m ⟨f.f,f.pc+1,f.loc,f.stk.take (f.stk.length - (aX m.funcs (gR m.funcs f)).1.toNat)⟩ (f.stk.drop (f.stk.length - (aX m.funcs (gR m.funcs f)).1.toNat)) (fs0.length+1) v.hp v.made v.out (gR m.funcs f))
  rw [hx]
  generalize hb : f.stk.length - (aX m.funcs x).1.toNat=b
  have hlt : ((f.stk.take b).length : Int)=f.stk.length - (aX m.funcs x).1:=by rw [List.length_take];omega
  have hld : ((f.stk.drop b).length : Int)=(aX m.funcs x).1:=by rw [List.length_drop];omega
  have kt : ∀ y∈f.stk.take b,sD m v.hp.length y:=fun y hy=>t.vs y (List.mem_of_mem_take hy)
  have kd : ∀ y∈f.stk.drop b,sD m v.hp.length y:=fun y hy=>t.vs y (List.mem_of_mem_drop hy)
  have hlef : jI m.funcs x f.stk.length=f.stk.length - (aX m.funcs x).1+(aX m.funcs x).2:=rfl
  generalize htk : f.stk.take b=T at *
  generalize hdr : f.stk.drop b=D at *
  have ka : sD m v.hp.length (D.headD fI):=by
    cases D with
    | nil=>exact jF
    | cons y r=>exact kd y (by simp)
  have kb : sD m v.hp.length (D.tail.headD fI):=by
    cases D with
    | nil=>exact jF
    | cons y r=>cases r with
      | nil=>exact jF
      | cons z r=>exact kd z (by simp)
  have ktl : ∀ y∈D.tail,sD m v.hp.length y:=fun y hy=>kd y (List.mem_of_mem_tail hy)
  have go : ∀ (l : List cW) (pc : Int),pc∈fV x f.pc→(∀ y∈l,sD m v.hp.length y)→(l.length : Int)=(aX m.funcs x).2→aES m v f x ⟨f.f,pc,f.loc,T++l⟩ v.hp v.made v.out:=fun l pc hpc hl hn=>
    ⟨rfl,hpc,rfl,by rw [hlef,List.length_append];omega,t.vl,aCr kt hl,Nat.le_refl _,h.hp⟩
  have go0 : ∀ pc : Int,pc∈fV x f.pc→(aX m.funcs x).2=0→aES m v f x ⟨f.f,pc,f.loc,T⟩ v.hp v.made v.out:=fun pc hpc hn=>by
    have:=go [] pc hpc (by simp) (by simp [hn])
    simpa using this
  have one : ∀ y,sD m v.hp.length y→∀ z∈[y],sD m v.hp.length z:=fun y hy z hz=>by rw [List.mem_singleton] at hz;rw [hz];exact hy
  have two : ∀ y y',sD m v.hp.length y→sD m v.hp.length y'→∀ z∈[y,y'],sD m v.hp.length z:=fun y y' hy hy' z hz=>by
    simp only [List.mem_cons,List.not_mem_nil,or_false] at hz
    rcases hz with rfl | rfl
    · exact hy
    · exact hy'
  obtain ⟨⟨o1,o2⟩,i3,i67,i20,i21,i23,i5,ij,i1⟩:=ib
  have inc : x.o≠17→x.o≠25→f.pc+1∈fV x f.pc:=fun h1 h2=>aBE ⟨h1,h2⟩
  unfold eH
  simp only
  by_cases h1 : x.o=1
  · rw [if_pos h1]
    exact go _ _ (inc (by omega) (by omega)) (one _ (aER (i1 h1))) (by simp [aX,h1])
  rw [if_neg h1]
  by_cases h2 : x.o=2
  · rw [if_pos h2]
    exact go _ _ (inc (by omega) (by omega)) (one _ uS) (by simp [aX,h2])
  rw [if_neg h2]
  by_cases h3 : x.o=3
  · rw [if_pos h3]
    refine go _ _ (inc (by omega) (by omega)) (one _ (aDw ?_)) (by simp [aX,h3])
    have hok:=g.ok
    simp only [dD.okB,Bool.and_eq_true,bE,decide_eq_true_eq,List.all_eq_true] at hok
    have:=i3 h3
    rw [List.getElem?_eq_getElem (by omega)]
    exact hok.2.2.1 _ (List.getElem_mem _)
  rw [if_neg h3]
  by_cases h4 : x.o=4
  · rw [if_pos h4]
    exact go _ _ (inc (by omega) (by omega)) (one _ jF) (by simp [aX,h4])
  rw [if_neg h4]
  by_cases h5 : x.o=5
  · rw [if_pos h5]
    exact go _ _ (inc (by omega) (by omega)) (one _ (aGM (i5 (.inl h5)))) (by simp [aX,h5])
  rw [if_neg h5]
  by_cases h6 : x.o=6
  · rw [if_pos h6]
    exact go _ _ (inc (by omega) (by omega)) (one _ (aET t.vl _)) (by simp [aX,h6])
  rw [if_neg h6]
  by_cases h7 : x.o=7
  · rw [if_pos h7]
    exact ⟨rfl,inc (by omega) (by omega),by simp,by rw [hlef];simp only;rw [hlt];simp [aX,h7],aGd t.vl ka _,kt,Nat.le_refl _,h.hp⟩
  rw [if_neg h7]
  by_cases h8 : x.o=8
  · rw [if_pos h8]
    exact go _ _ (inc (by omega) (by omega)) (two _ _ ka ka) (by simp [aX,h8])
  rw [if_neg h8]
  by_cases h9 : x.o=9
  · rw [if_pos h9]
    exact go _ _ (inc (by omega) (by omega)) (by simp) (by simp [aX,h9])
  rw [if_neg h9]
  by_cases h10 : x.o=10
  · rw [if_pos h10]
    exact go _ _ (inc (by omega) (by omega)) (two _ _ kb ka) (by simp [aX,h10])
  rw [if_neg h10]
  by_cases h15 : x.o≤15
  · rw [if_pos h15]
    have hu : (aX m.funcs x).2=1:=by
      have : x.o=11∨x.o=12∨x.o=13∨x.o=14∨x.o=15:=by omega
      rcases this with h | h | h | h | h<;>simp [aX,h]
    split
    · trivial
    · exact go _ _ (inc (by omega) (by omega)) (one _ (aG7 ka kb)) (by rw [hu];rfl)
  rw [if_neg h15]
  by_cases h16 : x.o=16
  · rw [if_pos h16]
    split
    · trivial
    · refine go _ _ (inc (by omega) (by omega)) (one _ ?_) (by simp [aX,h16])
      unfold aCh
      split
      · exact jF
      · exact uS
  rw [if_neg h16]
  by_cases h17 : x.o=17
  · rw [if_pos h17]
    exact go0 _ (aAB (.inl h17)) (by simp [aX,h17])
  rw [if_neg h17]
  by_cases h19 : x.o≤19
  · rw [if_pos h19]
    have h89 : x.o=18∨x.o=19:=by omega
    have hu : (aX m.funcs x).2=0:=by rcases h89 with h | h<;>simp [aX,h]
    split
    · trivial
    split
    · exact go0 _ (aAB (.inr h89)) hu
    · exact go _ _ (inc (by omega) (by omega)) (by simp) (by rw [hu];rfl)
  rw [if_neg h19]
  by_cases h20 : x.o=20
  · rw [if_pos h20]
    split
    · trivial
    rename_i hm
    have hm0:=h.hp.made
    have hl : (v.hp++[List.replicate x.a.toNat fI]).length=v.hp.length+1:=by simp
    refine ⟨rfl,inc (by omega) (by omega),rfl,?_,fun y hy=>lX (by rw [hl];omega) (t.vl y hy),aCr (fun y hy=>lX (by rw [hl];omega) (kt y hy)) (fun y hy=>?_),by rw [hl];omega,⟨by rw [hl];omega,fun r hr=>?_,h.hp.out⟩⟩
    · rw [hlef];simp only [List.length_append,List.length_singleton]
      have hu : (aX m.funcs x).2=1:=by simp [aX,h20]
      omega
    · rw [List.mem_singleton] at hy
      rw [hy]
      exact aGL (by rw [hl];omega)
    · rcases List.mem_append.1 hr with hr | hr
      · exact ⟨(h.hp.recs r hr).1,fun y hy=>lX (by rw [hl];omega) ((h.hp.recs r hr).2 y hy)⟩
      · rw [List.mem_singleton] at hr
        rw [hr]
        have:=i20 h20
        refine ⟨by rw [List.length_replicate];omega,fun y hy=>?_⟩
        rw [List.eq_of_mem_replicate hy]
        exact jF
  rw [if_neg h20]
  by_cases h21 : x.o=21
  · rw [if_pos h21]
    split
    · trivial
    split
    · trivial
    exact go _ _ (inc (by omega) (by omega)) (one _ (aET (aEp h.hp _).2 _)) (by simp [aX,h21])
  rw [if_neg h21]
  by_cases h22 : x.o=22
  · rw [if_pos h22]
    split
    · trivial
    split
    · trivial
    have hl : ∀ r,(v.hp.set (D.headD fI).n.toNat r).length=v.hp.length:=fun r=>List.length_set
    refine ⟨rfl,inc (by omega) (by omega),rfl,by rw [hlef];simp only;rw [hlt];simp [aX,h22],fun y hy=>by rw [sD,hl];exact t.vl y hy,fun y hy=>by rw [sD,hl];exact kt y hy,by rw [hl];omega,⟨by rw [hl];exact h.hp.made,fun r hr=>?_,h.hp.out⟩⟩
    rw [hl]
    rcases List.mem_or_eq_of_mem_set hr with hr | hr
    · exact h.hp.recs r hr
    · rw [hr]
      exact ⟨by rw [List.length_set];exact (aEp h.hp _).1,aGd (aEp h.hp _).2 kb _⟩
  rw [if_neg h22]
  by_cases h23 : x.o=23
  · rw [if_pos h23]
    have hxa:=i23 h23
    have hu : aX m.funcs x=(x.a+1,1):=by
      have : 0≤x.a∧x.a≤6:=hxa
      simp [aX,h23,this]
    rw [hu] at hld hb
    simp only at hld hb
    split
    · trivial
    rename_i hk
    have hk : (D.headD fI).k=5:=by omega
    split
    · trivial
    rename_i hp
    have hp : eU m.funcs (D.headD fI).n=x.a:=by omega
    split
    · trivial
    rename_i hd
    refine ⟨?_,.inl h23,?_,_,_,rfl,aBB ka hk,by rw [List.length_tail,hp];omega,ktl⟩
    · omega
    · rw [← htk,← hb,hu]
  rw [if_neg h23]
  by_cases h24 : x.o=24
  · rw [if_pos h24]
    have hxa:=i5 (.inr h24)
    have hu : aX m.funcs x=(eU m.funcs x.a,1):=by
      have : 0≤x.a∧x.a<m.funcs.length:=hxa
      simp [aX,h24,this]
    rw [hu] at hld hb
    simp only at hld hb
    split
    · trivial
    rename_i hd
    refine ⟨?_,.inr h24,?_,_,_,rfl,hxa,hld,kd⟩
    · omega
    · rw [← htk,← hb,hu]
  rw [if_neg h24]
  by_cases h25 : x.o=25
  · rw [if_pos h25]
    exact ka
  rw [if_neg h25]
  have h26 : x.o=26:=by omega
  split
  · trivial
  rename_i ho
  have:=h.hp.out
  exact ⟨rfl,inc (by omega) (by omega),rfl,by rw [hlef];simp only;rw [hlt];simp [aX,h26],t.vl,kt,Nat.le_refl _,⟨h.hp.made,h.hp.recs,by simp;omega⟩⟩
end
theorem uT {α : Type} {a b : List α} {x y : α} (h : a++[x]=b++[y]) : a=b∧x=y:=by
  have:=List.append_inj' h rfl
  exact ⟨this.1,by simpa using this.2⟩
theorem aFw.top {m : dD} {n : Int} {f : dR} {a : cW} (h : aFw m n f) (ha : sD m n a) : aGP m n ⟨f.f,f.pc,f.loc,f.stk++[a]⟩:=
  ⟨⟨h.fi,h.pc,h.loc,h.d,h.vl,aCr h.vs (fun y hy=>by rw [List.mem_singleton] at hy;rw [hy];exact ha)⟩,by
    have:=h.h
    simp only [List.length_append,List.length_singleton]
    omega⟩
theorem aDx {m : dD} (g : kR m) {n i : Int} {args : List cW} (hi : 0≤i∧i<m.funcs.length) (hn : (args.length : Int)=eU m.funcs i) (ha : ∀ y∈args,sD m n y) : aGP m n (pL m.funcs i args):=by
  obtain ⟨k,hk,he,hc,F,p1,p2,p3,p4,hlc,hpar,hins⟩:=g.code hi
  have h0 : dAt m i 0=0:=by
    rw [dAt,hc,Int.toNat_zero,aDj F];rfl
  refine ⟨⟨hi,?_,?_,?_,?_,fun y hy=>by cases hy⟩,?_⟩
  · show (0 : Int)≤0∧0<((gQ m.funcs i).length : Int)
    have:=F.n1
    rw [hc];omega
  · show ((args++List.replicate ((wA m.funcs i).toNat - args.length) fI).length : Int)=wA m.funcs i
    rw [List.length_append,List.length_replicate]
    omega
  · show 0≤dAt m i 0
    omega
  · refine aCr ha (fun y hy=>?_)
    rw [List.eq_of_mem_replicate hy]
    exact jF
  · show ((0 : Nat) : Int)=dAt m i 0
    omega
theorem VmI.step {m : dD} (g : kR m) {v : qS} (h : VmI m v) : VmI m (lV m v):=by
  by_cases h0 : v.st≠0
  · have : lV m v=v:=by unfold lV;rw [if_pos h0]
    rw [this];exact h
  have h0 : v.st=0:=by omega
  by_cases h5 : v.steps=50000
  · have : lV m v=v:=by unfold lV;rw [if_neg (by omega),if_pos h5]
    rw [this];exact h
  obtain ⟨fs0,f,G⟩:=h.goes g h0
  obtain ⟨t,low⟩:=h.top fs0 f G.fr
  have hnf:=h.nfr
  rw [G.fr,List.length_append,List.length_singleton] at hnf
  have hst:=h.steps
  rw [aBC h0 h5 G.fr]
  have A:=aG8 (fs0:=fs0) g h t rfl hnf
  obtain ⟨a1,a2,a3,a4,a5⟩:=g.at_ t.fi t.pc t.d
  have hh:=t.h
  have hx : pM m f.f f.pc=gR m.funcs f:=rfl
  rw [hx] at a1 a2 a4 a5
  cases ha : aAy m v fs0 f with
  | trap c=>
    exact ⟨h.hp,by show 0≤v.steps+1∧v.steps+1≤50000;omega,h.nfr,fun h=>absurd h (by show (2 : Int)≠0;omega),h.top⟩
  | next fr hp made out=>
    rw [ha] at A
    have A : aES m v f (gR m.funcs f) fr hp made out:=A
    obtain ⟨b1,b2⟩:=a5 _ A.pc
    refine ⟨A.hpI,by show 0≤v.steps+1∧v.steps+1≤50000;omega,by show (fs0++[fr]).length≤24;rw [List.length_append,List.length_singleton];exact hnf,fun _=>by show fs0++[fr]≠[];simp,fun fs1 f1 he=>?_⟩
    obtain ⟨rfl,rfl⟩:=uT (show fs0++[fr]=fs1++[f1] from he)
    refine ⟨⟨⟨by rw [A.ff];exact t.fi,by rw [A.ff];exact b1,by rw [A.ff,A.loc];exact t.loc,by rw [A.ff,b2];have:=A.len;rw [hh] at this;omega,A.vl,A.vs⟩,by rw [A.len,A.ff,b2,hh]⟩,fun f hf=>(low f hf).mono (n':=(hp.length : Int)) (by have:=A.n;omega)⟩
  | call fr gg=>
    rw [ha] at A
    have A : aGV m v fs0 f (gR m.funcs f) fr gg:=A
    obtain ⟨i,args,rfl,hi,hn,hv⟩:=A.gg
    have hnx : f.pc+1∈fV (gR m.funcs f) f.pc:=aBE (by have:=A.o;omega)
    obtain ⟨b1,b2⟩:=a5 _ hnx
    have hu2 : (aX m.funcs (gR m.funcs f)).2=1:=by
      have ib:=wC a1
      rcases A.o with ho | ho
      · have:=ib.2.2.2.2.2.1 ho
        simp [aX,ho,this]
      · have:=ib.2.2.2.2.2.2.1 (.inr ho)
        simp [aX,ho,this]
    have hlef : jI m.funcs (gR m.funcs f) (dAt m f.f f.pc)=dAt m f.f f.pc - (aX m.funcs (gR m.funcs f)).1+(aX m.funcs (gR m.funcs f)).2:=rfl
    refine ⟨h.hp,by show 0≤v.steps+1∧v.steps+1≤50000;omega,by show (fs0++[fr,pL m.funcs i args]).length≤24;rw [List.length_append];have:=A.n;simp only [List.length_cons,List.length_nil];omega,fun _=>by show fs0++[fr,pL m.funcs i args]≠[];simp,fun fs1 f1 he=>?_⟩
    have he : fs0++[fr,pL m.funcs i args]=fs1++[f1]:=he
    rw [show fs0++[fr,pL m.funcs i args]=(fs0++[fr])++[pL m.funcs i args] by simp] at he
    obtain ⟨rfl,rfl⟩:=uT he
    refine ⟨aDx g hi hn hv,fun y hy=>?_⟩
    rcases List.mem_append.1 hy with hy | hy
    · exact low y hy
    · rw [List.mem_singleton] at hy
      rw [hy,A.frr]
      refine ⟨⟨t.fi,b1,t.loc,by show 0≤dAt m f.f (f.pc+1);rw [b2];omega,t.vl,fun y hy=>t.vs y (List.mem_of_mem_take hy)⟩,?_,?_⟩
      · show 1≤f.pc+1∧0≤dAt m f.f (f.pc+1 - 1)∧((pM m f.f (f.pc+1 - 1)).o=23∨(pM m f.f (f.pc+1 - 1)).o=24)
        rw [show f.pc+1 - 1=f.pc by omega]
        exact ⟨by have:=t.pc;omega,t.d,A.o⟩
      · show ((f.stk.take (f.stk.length - (aX m.funcs (gR m.funcs f)).1.toNat)).length : Int)=dAt m f.f (f.pc+1) - 1
        rw [b2,List.length_take]
        omega
  | ret a=>
    rw [ha] at A
    have A : sD m v.hp.length a:=A
    by_cases hf : fs0 = []
    · have e : aAx m v fs0 (.ret a)=⟨[],v.hp,v.made,v.out,1,v.tr,a,v.steps+1⟩:=if_pos hf
      rw [e]
      exact ⟨h.hp,by show 0≤v.steps+1∧v.steps+1≤50000;omega,by simp,fun h=>absurd h (by show (1 : Int)≠0;omega),fun fs1 f1 he=>by simp at he⟩
    · have e : aAx m v fs0 (.ret a)=⟨uR a fs0,v.hp,v.made,v.out,v.st,v.tr,v.val,v.steps+1⟩:=if_neg hf
      rw [e]
      rcases List.eq_nil_or_concat fs0 with e0 | ⟨fs1,f1,e1⟩
      · exact absurd e0 hf
      rw [List.concat_eq_append] at e1
      subst e1
      rw [tF]
      simp only [List.length_append,List.length_singleton] at hnf
      refine ⟨h.hp,by show 0≤v.steps+1∧v.steps+1≤50000;omega,by simp only [List.length_append,List.length_singleton];omega,fun _=>by simp,fun fs2 f2 he=>?_⟩
      obtain ⟨rfl,rfl⟩:=uT he
      exact ⟨(low f1 (by simp)).top A,fun y hy=>low y (by simp [hy])⟩
def aGe (x : PV) : Prop:=∃ o a : Int,x = .agg [.int .i64 o,.int .i64 a]∧(-9223372036854775808≤o∧o≤9223372036854775807)∧(-9223372036854775808≤a∧a≤9223372036854775807)
def Cd (cs : List PV) : Prop:=∀ x∈cs,aGe x
theorem Cd.el {cs : List PV} (h : Cd cs) : ∀ x∈cs,x.isEl 2 true=true:=by
  intro x hx
  obtain ⟨o,a,rfl,_⟩:=h x hx
  rfl
theorem Cd.nil : Cd []:=fun x hx=>by cases hx
theorem Cd.append {a b : List PV} (h : Cd a) (k : Cd b) : Cd (a++b):=fun x hx=>(List.mem_append.1 hx).elim (h x) (k x)
theorem Cd.one {o a : Int} (h : -9223372036854775808≤o∧o≤9223372036854775807) (k : -9223372036854775808≤a∧a≤9223372036854775807) : Cd [.agg [.int .i64 o,.int .i64 a]]:=by
  intro x hx
  simp only [List.mem_singleton] at hx
  exact ⟨o,a,hx,h,k⟩
section
variable {P : R → Prop} {k : R → Option R}
end
def aG9 : PV→Bool
  | .int .i64 n=>decide (-1000000000≤n)&&decide (n≤1000000000)
  | _=>false
def tH (x : PV) : Prop:=∃ p lc : Int,∃ cs : List PV,x = .agg [.int .i64 p,.int .i64 lc,.lst cs]∧(0≤p∧p≤2)∧(0≤lc∧lc≤100)∧Cd cs∧1≤(cs.length : Int)∧(cs.length : Int)≤100000000
structure Asm (l : List Int) (fs : List PV) (t lc : Int) : Prop where
  hl : Bts l
  hf : ∀ x∈fs,tH x
  hn : fs.length≤1000
  ht : 0≤t∧t≤1000
  hlc : 1≤lc∧lc≤1000
theorem tH.el {fs : List PV} (h : ∀ x∈fs,tH x) : ∀ x∈fs,x.isEl 3 true=true:=by
  intro x hx
  obtain ⟨p,lc,cs,rfl,_⟩:=h x hx
  rfl
def aHa (l : List Int) (fs : List PV) (t lc : Int) (mn : PV) (A B0 B : Int) (r : R) : Prop:=∃ a s : Int,∃ cs : List PV,r = [.lst fs,.int .i64 t,.int .i64 lc,mn,bW l,.int .i64 a,.int .i64 s,.lst cs]∧0≤a∧a≤A∧0≤s∧s<65521∧B0≤cs.length∧(cs.length : Int)≤B∧Cd cs
def aAC (l : List Int) (fs : List PV) (t lc : Int) (mn : PV) (c : Int) (f : PV→PV→PV→PV→PV→PV→PV→PV→Option R) : Prop:=
  ∀ (a s : Int) (cs : List PV),0≤a∧a+c≤1000000000∧0≤s∧s<65521→(cs.length : Int)+c≤1000000000→Cd cs→
    Ok (aHa l fs t lc mn (a+c) cs.length (cs.length+c)) (f (.lst fs) (.int .i64 t) (.int .i64 lc) mn (bW l) (.int .i64 a) (.int .i64 s) (.lst cs))
section
variable {P : R → Prop} {k : R → Option R} {l : List Int} {fs : List PV} {t lc : Int} {mn : PV}
theorem aAC.mono {c c' : Int} {f : PV→PV→PV→PV→PV→PV→PV→PV→Option R} (H : aAC l fs t lc mn c f) (hc : 0≤c∧c≤c') : aAC l fs t lc mn c' f:=by
  intro a s cs h0 hl hcs
  refine (H a s cs (by omega) (by omega) hcs).mono ?_
  rintro r ⟨a',s',cs',hr,h1,h2,h3,h4,h5,h6,h7⟩
  exact ⟨a',s',cs',hr,h1,by omega,h3,h4,h5,by omega,h7⟩
section
def Par (fs : List PV) (i p : Int) : Prop:=0≤i∧i<fs.length∧(0≤p∧p≤2)∧∃ q r : PV,fs[i.toNat]? = some (.agg [.int .i64 p,q,r])
end
end
section
variable {l : List Int} {fs : List PV} {t lc : Int} {mn : PV}
section
end
section
end
end
def nV (x : PV) : Prop:=∃ b : ByteArray,x = .str b∧b.size≤1000
theorem nV.el {ts : List PV} (h : ∀ x∈ts,nV x) : ∀ x∈ts,x.isEl 1 false=true:=by
  intro x hx
  obtain ⟨b,rfl,_⟩:=h x hx
  rfl
def aHb (l : List Int) (A : Int) (r : R) : Prop:=∃ a s : Int,∃ ts fs : List PV,r = [.agg [.lst ts,.lst fs],bW l,.int .i64 a,.int .i64 s]∧0≤a∧a≤A∧0≤s∧s<65521∧(∀ x∈ts,nV x)∧ts.length≤10∧(∀ x∈fs,tH x)∧1≤fs.length∧fs.length≤10
section
variable {l : List Int} (hl : Bts l) {ts : List PV} (hts : ∀ x ∈ ts, nV x) (htn : ts.length ≤ 10)
include hl hts htn
end
def qV (x : PV) : Prop:=∃ p lc : Int,∃ cs : List PV,x = .agg [.int .i64 p,.int .i64 lc,.lst cs]∧(-9223372036854775808≤p∧p≤9223372036854775807)∧(-9223372036854775808≤lc∧lc≤9223372036854775807)∧Cd cs∧(cs.length : Int)≤200000000
theorem qV.el {fs : List PV} (h : ∀ x∈fs,qV x) : ∀ x∈fs,x.isEl 3 true=true:=by
  intro x hx
  obtain ⟨p,lc,cs,rfl,_⟩:=h x hx
  rfl
def aHI (l : List Int) (A : Int) (r : R) : Prop:=∃ a s : Int,∃ ts fs : List PV,r = [.agg [.lst ts,.lst fs],bW l,.int .i64 a,.int .i64 s]∧0≤a∧a≤A∧0≤s∧s<65521∧(∀ x∈ts,nV x)∧ts.length≤100∧(∀ x∈fs,qV x)∧fs.length≤100∧1≤fs.length
theorem qV.set {fs : List PV} (hf : ∀ x∈fs,qV x) {i : Nat} {y : PV} (hy : qV y) : ∀ x∈fs.set i y,qV x:=by
  intro x hx
  rcases List.mem_or_eq_of_mem_set hx with h | h
  · exact hf x h
  · rw [h];exact hy
section
variable {l : List Int} (hl : Bts l) {ts : List PV} (ht : ∀ x ∈ ts, nV x) (htn : ts.length ≤ 20)
include hl ht htn
end
def aHs (x : PV) : Prop:=∃ ts fs : List PV,x = .agg [.lst ts,.lst fs]∧(∀ x∈ts,nV x)∧ts.length≤100∧(∀ x∈fs,qV x)∧fs.length≤100∧1≤fs.length
def Byt (l : List Int) : Prop:=∀ x∈l,0≤x∧x≤255
theorem aEq {l : List Int} (hb : Byt l) {P : R→Prop} {k : R→Option R} (h1 : Bts l→Ok P (k [.bool false])) (h2 : Ok P (k [.bool true])) : Ok P (bd (lP (bW l)) k):=by
  refine aH (Q:=fun r=>r = [.bool (decide ((1048576 : Int)<l.length))]) ?_ (fun r hr=>?_)
  · rw [qM]
    exact eR (oK (aA rfl))
  · subst hr
    by_cases h : (1048576 : Int)<l.length
    · rw [decide_eq_true h];exact h2
    · rw [decide_eq_false h];exact h1 ⟨hb,by omega⟩
def aAD (m : dD) : Bool:=m.okB&&(bad m.funcs).isNone
theorem aAE {m : dD} (hs : m.sized) (h : aAD m=true) : kR m:=by
  simp only [aAD,Bool.and_eq_true,Option.isNone_iff_eq_none] at h
  exact ⟨hs,h.1,h.2⟩
theorem aFx {fs : List dL} {code : List bI} {d : List Int} {pc : Nat} {c : Int} (h : aA9 fs code d pc=some c) : c≠0:=by
  unfold aA9 at h
  repeat' split at h
  all_goals first
    | (cases h;done)
    | (injection h with h;omega)
theorem aGf {fs : List dL} {c : Int} {f pc : Nat} (h : bad fs=some (c,f,pc)) : c≠0:=by
  unfold bad at h
  obtain ⟨i,_,h⟩:=List.exists_of_findSome?_eq_some h
  unfold aDs at h
  split at h
  · obtain ⟨j,_,h⟩:=List.exists_of_findSome?_eq_some h
    unfold aAA at h
    simp only [Option.map_eq_some_iff] at h
    obtain ⟨c',h1,h2⟩:=h
    injection h2 with h2 h3
    rw [← h2]
    exact aFx h1
  · cases h
section
variable {P : R → Prop} {k : R → Option R}
theorem aGg {m : dD} (hs : m.sized) (h : Ok P (k [.bool (aAD m)])) : Ok P (bd (qG m.pv) k):=by
  refine aH (Q:=fun r=>r = [.bool (aAD m)]) ?_ (fun r hr=>by rw [hr];exact h)
  rw [aAd]
  refine aG rfl (aB rfl (aB rfl (aH (aDv hs) (fun r hr=>?_))))
  subst hr
  show Ok _ (bd (PV.whole 3 m.verify) _)
  have eq : ∀ a b c : Int,(PV.ceq [1,1,1] .eql (.agg [.int .i64 a,.int .i64 b,.int .i64 c]) (.agg [.int .i64 0,.int .i64 0,.int .i64 0]))=some (.bool (decide (a=0)&&(decide (b=0)&&decide (c=0)))):=by
    intro a b c
    simp [PV.ceq,PV.eqCells,PV.eqScalar,PV.eqOr]
    rfl
  unfold dD.verify aAD
  cases ho : m.okB with
  | false=>exact aG (cs:=[.int .i64 1,.int .i64 0,.int .i64 0]) rfl (aB rfl (aB rfl (aB rfl (cH _ (eq _ _ _) (aA rfl)))))
  | true=>
    simp only [if_true,Bool.true_and]
    cases hb : bad m.funcs with
    | none=>exact aG (cs:=[.int .i64 0,.int .i64 0,.int .i64 0]) rfl (aB rfl (aB rfl (aB rfl (cH _ (eq _ _ _) (aA rfl)))))
    | some p=>
      obtain ⟨c,f,pc⟩:=p
      have:=aGf hb
      refine aG (cs:=[.int .i64 c,.int .i64 f,.int .i64 pc]) rfl (aB rfl (aB rfl (aB rfl (cH _ (eq _ _ _) (aA ?_)))))
      rw [decide_eq_false this];rfl
end
section
variable {P : R → Prop} {m : dD}
def vmZ : qS:=⟨[],[],0,[],0,0,fI,0⟩
end
def aFy (m : dD) : Nat→qS→qS
  | 0,v=>v
  | n+1,v=>aFy m n (lV m v)
def lY (m : dD) (args : List cW) : qS:=⟨[pL m.funcs 0 args],[],0,[],0,0,fI,0⟩
def kN (m : dD) (args : List cW) : Bool:=aAD m&&(decide ((args.length : Int)=eU m.funcs 0)&&args.all (bM m.funcs.length 0))
def aGh (m : dD) (args : List cW) (fuel : Int) : Bool:=kN m args&&eK fuel 0 50000
def nW (m : dD) (args : List cW) (fuel : Int) : qS:=if aGh m args fuel then aFy m fuel.toNat (lY m args) else vmZ
theorem aEr {m : dD} {v : qS} (h : v.st≠0) : lV m v=v:=by unfold lV;rw [if_pos h]
theorem aBF {m : dD} {v : qS} (h : v.st≠0) : ∀ n,aFy m n v=v
  | 0=>rfl
  | n+1=>by rw [aFy,aEr h,aBF h n]
theorem aEs {m : dD} {v : qS} {fs0 : List dR} (a : aDn) : (aAx m v fs0 a).steps=v.steps+1:=by
  cases a with
  | ret x=>simp only [aAx];split<;>rfl
  | _=>rfl
theorem aDy {m : dD} {v : qS} (hs : v.steps≤50000) : v.steps≤(lV m v).steps∧(lV m v).steps≤v.steps+1:=by
  unfold lV
  split
  · omega
  · split
    · omega
    · split
      · omega
      · rw [aEs];omega
section
variable {P : R → Prop} {k : R → Option R}
theorem aFz {m : dD} {args : List cW} (hs : m.sized) (h : kN m args=true) : kR m∧VmI m (lY m args):=by
  simp only [kN,Bool.and_eq_true,decide_eq_true_eq,List.all_eq_true] at h
  have g:=aAE hs h.1
  obtain ⟨f1,f2,ff⟩:=g.fit
  have h0 : (0 : Int)≤0∧(0 : Int)<m.funcs.length:=by omega
  refine ⟨g,⟨by simp [lY],by simp [lY],by simp [lY]⟩,by simp [lY],by simp [lY],by simp [lY],fun fs0 f hf=>?_⟩
  obtain ⟨rfl,rfl⟩:=uT (a:=[]) (show []++[pL m.funcs 0 args]=fs0++[f] from hf)
  exact ⟨aDx g h0 h.2.1 h.2.2,by simp⟩
end
section
variable {P : R → Prop} {k : R → Option R}
theorem aHc {cs : List PV} {k : PV→Option R} (h : Ok P (k (.bx cs))) : Ok P (bd (PV.isPtr (.bx cs)) k):=cH _ (by simp only [PV.isPtr]) h
theorem aDz {m : dD} {v : cW} (hf : m.funcs.length≤1000000) (hs : v.s.size≤1000000) : Ok (fun r=>r = [.bool (!bM m.funcs.length 0 v)]) (rY v.pv (.bx [.lst (m.texts.map PV.str),.lst (m.funcs.map dL.pv)])):=by
  rw [vP]
  refine aG rfl (aB rfl (aB rfl (aB rfl (aHc (fC rfl (aI (aH (aEm (v:=v) hs (by omega) (by omega)) (fun r hr=>?_))))))))
  rw [hr]
  exact eA (aA rfl)
theorem aAF {m : dD} {args : List cW} (hs : m.sized) (h0 : 0<m.funcs.length) (ha : ∀ v∈args,v.s.size≤1000) (hn : args.length≤1000) :
    Ok (fun r=>r = [.bool (decide ((args.length : Int)=eU m.funcs 0)&&args.all (bM m.funcs.length 0))]) (qH m.pv (aJ args)):=by
  rw [aAe]
  refine aG rfl (aB rfl (aB rfl (eW (aCp (by omega) (by omega) (fun f hf=>aB rfl (aE ?_))))))
  have hp : f.p=eU m.funcs 0:=by unfold eU;rw [hf];rfl
  rw [hp]
  refine aC (fun h=>?_) (fun h=>aA (by rw [decide_eq_false h];rfl))
  rw [decide_eq_true h,Bool.true_and]
  have hfl:=hs.2.1
  have loop : ∀ i,i≤args.length→Ok (fun r=>∃ j : Int,r = [.int .i64 j]∧(0≤j↔(args.drop i).all (bM m.funcs.length 0)=false))
      (bB (aJ args) (.fn 33 [(.bx [.lst (m.texts.map PV.str),.lst (m.funcs.map dL.pv)])]) (.int .i64 args.length) (.int .i64 i)):=by
    refine oV (n:=args.length) (F:=fun i=>bB (aJ args) (.fn 33 [(.bx [.lst (m.texts.map PV.str),.lst (m.funcs.map dL.pv)])]) (.int .i64 args.length) (.int .i64 i)) (P:=fun i r=>∃ j : Int,r = [.int .i64 j]∧(0≤j↔(args.drop i).all (bM m.funcs.length 0)=false)) ?_ (fun i hi ih=>?_)
    · rw [cS,List.drop_length]
      refine aS (aC (fun h=>by omega) (fun _=>aA ⟨_,rfl,by simp⟩))
    · rw [cS]
      have:=ha _ (List.getElem_mem hi)
      refine aS (aC (fun _=>?_) (fun h=>by omega))
      refine cD hi (fun _=>rfl) (jA rfl (aDz (v:=args[i]) hfl (by omega)) (fun r hr=>?_))
      rw [hr,List.drop_eq_getElem_cons hi,List.all_cons]
      cases hv : bM m.funcs.length 0 args[i] with
      | false=>exact aR (aA ⟨_,rfl,by simp⟩)
      | true=>
        refine bG (bC (by omega) ?_)
        rw [Bool.true_and]
        exact ih
  refine aH (Q:=fun r=>r = [.bool (!args.all (bM m.funcs.length 0))]) ?_ (fun r hr=>?_)
  · rw [fF]
    refine aH (Q:=fun r=>∃ j : Int,r = [.int .i64 j]∧(0≤j↔args.all (bM m.funcs.length 0)=false)) ?_ (fun r hr=>?_)
    · rw [fU]
      refine eW ?_
      have:=loop 0 (by omega)
      rw [List.drop_zero] at this
      exact this
    · obtain ⟨j,rfl,hj⟩:=hr
      refine qF (aA ?_)
      cases ha : args.all (bM m.funcs.length 0) with
      | false=>rw [decide_eq_true (hj.2 ha)];rfl
      | true=>rw [decide_eq_false (fun h=>by rw [hj.1 h] at ha;cases ha)];rfl
  · rw [hr]
    refine cA rfl (eA (aA (by rw [Bool.not_not])))
theorem aEt {m : dD} {args : List cW} (hs : m.sized) (ha : ∀ v∈args,v.s.size≤1000) (hn : args.length≤1000) :
    Ok (fun r=>r=if kN m args then [.int .i64 0,.int .i64 0,.int .i64 0,.int .i64 0,.int .i64 0,.str (bs []),.int .i64 0,.bool true,.lst [(pL m.funcs 0 args).pv],.lst [],.lst []]
      else [.int .i64 0,.int .i64 0,.int .i64 0,.int .i64 0,.int .i64 0,.str (bs []),.int .i64 0,.bool false,.lst [],.lst [],.lst []]) (oL m.pv (aJ args)):=by
  rw [aAX]
  refine aG rfl (aB rfl (aB rfl (aGg hs (eA ?_))))
  cases hg : aAD m with
  | false=>exact aR (aA (by rw [if_neg (by simp [kN,hg])]))
  | true=>
    have g:=aAE hs hg
    obtain ⟨f1,f2,ff⟩:=g.fit
    have h0 : (0 : Int)≤0∧(0 : Int)<m.funcs.length:=by omega
    obtain ⟨i0,hi0,he,hc,F,p1,p2,p3,p4,hlc,hpar,hins⟩:=g.code h0
    have e0 : kN m args=(decide ((args.length : Int)=eU m.funcs 0)&&args.all (bM m.funcs.length 0)):=by simp [kN,hg]
    refine bG (aH (aAF hs (by omega) ha hn) (fun r hr=>?_))
    rw [hr,← e0]
    refine eA ?_
    cases hb : kN m args with
    | false=>exact aR (aA rfl)
    | true=>
      have hlen : (args.length : Int)=eU m.funcs 0:=by
        rw [e0,Bool.and_eq_true,decide_eq_true_eq] at hb
        exact hb.1
      refine bG (aAz (T:=.lst (m.texts.map PV.str)) (fs:=m.funcs) (g:=0) (args:=args) (by omega) (by omega) (by omega) (by omega) (cA rfl (cA rfl (eZ (eI _) (eZ (eI []) (aA ?_))))))
      rfl
theorem aFA {m : dD} {v : qS} {fs0 : List dR} {f : dR} (G : aGU m v fs0 f) (h0 : v.st=0) (h5 : v.steps≠50000) (hst : 0≤v.steps∧v.steps≤50000) :
    Ok (fun r=>r=iU (lV m v)) (kV (.lst (m.texts.map PV.str)) (.lst (m.funcs.map dL.pv)) (.int .i64 v.made) (.int .i64 v.st) (.int .i64 v.tr) (.int .i64 v.val.k) (.int .i64 v.val.n) (.str v.val.s) (.int .i64 v.steps) (.lst (v.fr.map dR.pv)) (.lst (v.hp.map dS)) (.lst (v.out.map PV.str))):=by
  rw [aBC h0 h5 G.fr,xX]
  obtain ⟨gfr,gfi,gpc,gnc,gins,gus,gsm⟩:=G
  obtain ⟨pi,hpi⟩:=Int.eq_ofNat_of_zero_le gpc.1
  have hin : (gQ m.funcs f.f)[f.pc.toNat]? = some (gR m.funcs f):=by
    unfold gR
    rw [List.getElem?_eq_getElem (by omega)];rfl
  generalize hb : f.stk.length - (aX m.funcs (gR m.funcs f)).1.toNat=b
  have hsplit : f.stk.take b++f.stk.drop b=f.stk:=List.take_append_drop b f.stk
  have hdo:=aGH (a3:=.int .i64 v.st) (a4:=.int .i64 v.tr) (a5:=.int .i64 v.val.k) (a6:=.int .i64 v.val.n) (a7:=.str v.val.s) (a8:=.int .i64 (v.steps+1)) (gsm b) gins (by rw [List.length_drop];omega) gfi (by omega) hin
  have hnx : aAy m v fs0 f=eH m ⟨f.f,f.pc+1,f.loc,f.stk.take b⟩ (f.stk.drop b) (fs0.length+1) v.hp v.made v.out (gR m.funcs f):=by
    simp only [aAy]
    rw [hb]
  rw [← hnx,hsplit] at hdo
  have efr : v.fr.map dR.pv=fs0.map dR.pv++[f.pv]:=by rw [gfr,List.map_append];rfl
  rw [efr]
  refine bC (by omega) (fB rfl (aH hdo (fun r hr=>?_)))
  cases ha : aAy m v fs0 f with
  | trap c=>
    rw [ha] at hr
    obtain ⟨hc,hr⟩:=hr
    rw [hr]
    refine dU (bJ (fun _=>fB rfl (aA ?_)) (fun h=>absurd (by simpa using h) hc))
    simp only [iU,aAx,efr]
    rfl
  | next fr hp made out=>
    rw [ha] at hr
    have hr : r=_:=hr
    subst hr
    refine dU (bJ (fun h=>absurd rfl h) (fun _=>aA ?_))
    simp only [aAx,iU,List.map_append]
    rfl
  | call fr g=>
    rw [ha] at hr
    have hr : r=_:=hr
    subst hr
    refine dU (bJ (fun h=>absurd rfl h) (fun _=>aA ?_))
    simp only [aAx,iU,List.map_append,List.append_assoc]
    rfl
  | ret a=>
    rw [ha] at hr
    have hr : r=_:=hr
    by_cases hf : fs0 = []
    · rw [if_pos hf] at hr
      subst hr
      refine dU (bJ (fun h=>absurd rfl h) (fun _=>aA ?_))
      simp only [aAx,if_pos hf,iU]
      rfl
    · rw [if_neg hf] at hr
      subst hr
      refine dU (bJ (fun h=>absurd rfl h) (fun _=>aA ?_))
      simp only [aAx,if_neg hf,iU]
      rfl
end
def mF (code : List bI) : dD:=⟨[],[⟨0,0,code⟩]⟩
def aFB : dD:=mF [⟨24,0⟩,⟨25,0⟩]
def aGi : dD:=mF [⟨20,2⟩,⟨9,0⟩,⟨17,0⟩]
def aGj : dD:=mF [⟨4,0⟩,⟨26,0⟩,⟨17,0⟩]
set_option maxRecDepth 100000 in
theorem aHd : ((nW aFB [] 23).st,(nW aFB [] 23).fr.length)=(0,24):=by kernel_rfl
set_option maxRecDepth 100000 in
theorem aHe : ((nW aFB [] 24).st,(nW aFB [] 24).fr.length,(nW aFB [] 24).tr)=(2,24,6):=by kernel_rfl
set_option maxRecDepth 100000 in
theorem aHf : ((nW aGi [] 360).made,(nW aGi [] 360).tr)=(120,0):=by kernel_rfl
set_option maxRecDepth 100000 in
theorem aHg : ((nW aGi [] 361).made,(nW aGi [] 361).tr)=(120,7):=by kernel_rfl
set_option maxRecDepth 100000 in
theorem aHh : ((nW aGj [] 600).out.length,(nW aGj [] 600).tr)=(200,0):=by kernel_rfl
set_option maxRecDepth 100000 in
theorem aHi : ((nW aGj [] 602).out.length,(nW aGj [] 602).tr)=(200,8):=by kernel_rfl
section
variable {P : R → Prop} {k : R → Option R}
def lZ (v : qS) (b : Bool) : R:=[.int .i64 v.made,.int .i64 v.st,.int .i64 v.tr,.int .i64 v.val.k,.int .i64 v.val.n,.str v.val.s,.int .i64 v.steps,.bool b,.lst (v.fr.map dR.pv),.lst (v.hp.map dS),.lst (v.out.map PV.str)]
theorem aAG {v : qS} {b : Bool} {o : Option R} (H : Ok P o) :
    Ok P (PV.guardFlat (gd (lZ v b) 0) (PV.guardFlat (gd (lZ v b) 1) (PV.guardFlat (gd (lZ v b) 2) (PV.guardFlat (gd (lZ v b) 3) (PV.guardFlat (gd (lZ v b) 4) (PV.guardFlat (gd (lZ v b) 5) (PV.guardFlat (gd (lZ v b) 6) (PV.guardFlat (gd (lZ v b) 7)
      (PV.guardOwn (.own 4 64 true [.leaf,.leaf,(.own 3 32 true []),(.own 3 32 true [])]) (gd (lZ v b) 8) (PV.guardOwn (.own 1 24 true [(.own 3 32 true [])]) (gd (lZ v b) 9) (PV.guardOwn (.own 1 16 false []) (gd (lZ v b) 10) o))))))))))):=
  cA rfl (cA rfl (cA rfl (cA rfl (cA rfl (cA rfl (cA rfl (cA rfl (eZ (qT _) (eZ (wE _) (eZ (wF _) H))))))))))
theorem aAH {m : dD} (g : kR m) {n : Nat} (hn : n≤50000) {a0 a1 a2 a3 a4 a5 a6 b0 b1 b2 : PV} : ∀ (j i : Nat) (v : qS),i+j=n→VmI m v→v.steps≤i→
    Ok (fun r=>r=lZ (aFy m j v) true) (mL (.int .i64 n) (.int .i64 i) (.lst (m.texts.map PV.str)) (.lst (m.funcs.map dL.pv)) a0 a1 a2 a3 a4 a5 a6 (.int .i64 v.made) (.int .i64 v.st) (.int .i64 v.tr) (.int .i64 v.val.k) (.int .i64 v.val.n) (.str v.val.s) (.int .i64 v.steps) b0 b1 b2 (.lst (v.fr.map dR.pv)) (.lst (v.hp.map dS)) (.lst (v.out.map PV.str)))
  | 0,i,v,hi,I,hv=>by
    rw [qN]
    refine aS (aC (fun h=>by omega) (fun _=>?_))
    exact aDq (I.sz g) (nU (aA rfl))
  | j+1,i,v,hi,I,hv=>by
    rw [qN]
    refine aS (aC (fun _=>?_) (fun h=>by omega))
    refine dU (bJ (fun h0=>?_) (fun h0=>?_))
    · refine aDq (I.sz g) (nU (aA ?_))
      rw [aBF h0];rfl
    · have h0 : v.st=0:=by simpa using h0
      refine jA (o:=aAc _) rfl (by rw [aAW];exact aA (P:=fun r=>r = [.tup []]) rfl) (fun r hr=>?_)
      rw [hr]
      obtain ⟨fs0,f,G⟩:=I.goes g h0
      refine cA rfl (aH (aFA G h0 (by omega) I.steps) (fun r hr=>?_))
      rw [hr]
      refine bC (by omega) ?_
      have:=aDy (m:=m) I.steps.2
      exact aAH g hn j (i+1) (lV m v) (by omega) (I.step g) (by omega)
theorem aFC {m : dD} {args : List cW} {fuel : Int} (hs : m.sized) (ha : ∀ v∈args,v.s.size≤1000) (hn : args.length≤1000) :
    Ok (fun r=>r=iU (nW m args fuel)) (iE m.pv (aJ args) (.int .i64 fuel)):=by
  rw [aDe]
  refine aG rfl (aB rfl (aB rfl (aH (Q:=fun r=>∃ b,r=lZ (nW m args fuel) b) ?_ (fun r hr=>?_))))
  · rw [aDf]
    refine aG rfl (aB rfl (aB rfl (aH (aEt hs ha hn) (fun r hr=>?_))))
    have no : aGh m args fuel=false→Ok (fun r=>∃ b,r=lZ (nW m args fuel) b) (some [(.int .i64 0),(.int .i64 0),(.int .i64 0),(.int .i64 0),(.int .i64 0),(.str (bs [])),(.int .i64 0),(.bool false),(.lst []),(.lst []),(.lst [])]):=fun h=>aA (by unfold nW;rw [h];exact ⟨false,rfl⟩)
    have e : r=lZ (if kN m args then lY m args else vmZ) (kN m args):=by
      rw [hr];cases kN m args<;>rfl
    rw [e]
    refine aAG (eA ?_)
    cases hb : kN m args with
    | false=>exact aR (no (by simp [aGh,hb]))
    | true=>
      refine bG (bU (eA ?_))
      cases hf : eK fuel 0 50000 with
      | false=>exact aR (no (by simp [aGh,hf]))
      | true=>
        obtain ⟨g,I⟩:=aFz hs hb
        have hf':=hf
        simp only [eK,Bool.and_eq_true,decide_eq_true_eq] at hf'
        obtain ⟨n,rfl⟩:=Int.eq_ofNat_of_zero_le hf'.1
        have : nW m args n=aFy m n (lY m args):=by unfold nW aGh;rw [hb,hf];rfl
        rw [this]
        exact bG ((aAH g (by omega) n 0 (lY m args) (by omega) I (Int.le_refl _)).mono (fun r hr=>⟨_,hr⟩))
  · obtain ⟨b,rfl⟩:=hr
    exact aAG (aA rfl)
theorem aCs {m : dD} {fuel : Int} (hs : m.sized) (h : Ok P (k (iU (nW m [] fuel)))) : Ok P (bd (iE m.pv (.lst []) (.int .i64 fuel)) k):=
  aH (aFC (args:=[]) hs (fun v hv=>by cases hv) (by simp)) (fun r hr=>by rw [hr];exact h)
end
def pickB (l : List Int) (s i : Int) : Int:=(l[((s+i) % l.length).toNat]?).getD 0
def pickA (l : List Int) (s : Int) : Nat→Int
  | 0=>0
  | i+1=>31*pickA l s i+pickB l s i
def pickT (l : List Int) (s n : Int) : Int:=if l = [] then 0 else (pickA l s 3+s) % n
section
variable {l : List Int} {P : R → Prop}
theorem mA (hl : Bts l) (s i : Int) : 0≤pickB l s i∧pickB l s i≤255:=by
  unfold pickB
  cases h : l[((s+i) % l.length).toNat]? with
  | none=>simp
  | some x=>exact hl.1 x (List.mem_of_getElem? h)
theorem qW (hl : Bts l) {k : R→Option R} {s n : Int} (hs : 0≤s∧s≤1000) (hn : 2≤n∧n≤1000000) (h : Ok P (k [.int .i64 (pickT l s n)])) : Ok P (bd (gW (bW l) (.int .i64 s) (.int .i64 n)) k):=by
  refine aH (Q:=fun r=>r = [.int .i64 (pickT l s n)]) ?_ (fun r hr=>by rw [hr];exact h)
  have hlen:=hl.2
  rw [oS]
  refine eR (aE (aC (fun h0=>aA ?_) (fun h0=>aS (aC (fun h=>by omega) (fun _=>?_)))))
  · have : l = []:=List.length_eq_zero_iff.1 (by omega)
    unfold pickT;rw [if_pos this]
  have hne : ¬ l = []:=fun e=>h0 (by rw [e];rfl)
  have b0:=mA hl s 0
  have b1:=mA hl s 1
  have b2:=mA hl s 2
  have a1 : pickA l s 1=pickB l s 0:=by simp [pickA]
  have a2 : pickA l s 2=31*pickA l s 1+pickB l s 1:=rfl
  have a3 : pickA l s 3=31*pickA l s 2+pickB l s 2:=rfl
  have hz : 0≤pickA l s 0∧pickA l s 0≤0:=⟨Int.le_refl _,Int.le_refl _⟩
  refine oV (n:=3) (F:=fun i=>eB (bW l) (.int .i64 s) (.int .i64 n) (.int .i64 (pickA l s i)) (.int .i64 i)) (P:=fun _ r=>r = [.int .i64 (pickT l s n)]) ?_ (fun i hi ih=>?_) 0 (by omega)
  · rw [fT]
    refine aS (aC (fun h=>by omega) (fun _=>bC (by omega) (aCb (by omega) (by omega) (aA ?_))))
    unfold pickT;rw [if_neg hne]
  · rw [fT]
    have ha : 0≤pickA l s i∧pickA l s i≤10000:=by
      rcases (show i=0∨i=1∨i=2 by omega) with rfl | rfl | rfl<;>omega
    refine aS (aC (fun _=>aCa (by omega) (bC (by omega) (eR (aCb (by omega) (by omega) ?_)))) (fun h=>by omega))
    refine xJ (Int.emod_nonneg _ (by omega)) (Int.emod_lt_of_pos _ (by omega)) (fun x hx hxi=>?_)
    have e : pickB l s i=x:=by unfold pickB;rw [hxi];rfl
    have hx:=hl.1 x hx
    refine aEc (by omega) (bC (by omega) (bC (by omega) ?_))
    rw [← e]
    exact ih
theorem uU {s n : Int} (hn : 0<n) : 0≤pickT l s n∧pickT l s n<n:=by
  unfold pickT
  split
  · omega
  · exact ⟨Int.emod_nonneg _ (by omega),Int.emod_lt_of_pos _ hn⟩
end
section
variable {P : R → Prop} {k : R → Option R}
def fN : dL:=⟨0,0,[⟨4,0⟩,⟨25,0⟩]⟩
def fxs (n : Nat) : List UInt8:=List.replicate n 120
theorem aCt {m : dD} (hs : m.sized) (h : Ok P (k [.bool m.okB])) : Ok P (bd (bY m.pv) k):=aH (jY hs) (fun r hr=>by rw [hr];exact h)
theorem uV {m : dD} (h1 : m.texts.length≤1000) (h2 : m.funcs.length≤1000) (h3 : ∀ t∈m.texts,t.size≤1000) (h4 : ∀ f∈m.funcs,f.code.length≤1000) : m.sized:=
  ⟨by omega,by omega,fun t ht=>by have:=h3 t ht;omega,fun f hf=>by have:=h4 f hf;omega⟩
set_option maxRecDepth 100000 in
theorem aHt : (dD.mk [] (List.replicate 12 fN)).okB=true:=by kernel_rfl
set_option maxRecDepth 100000 in
theorem aHu : (dD.mk [] (List.replicate 13 fN)).okB=false:=by kernel_rfl
set_option maxRecDepth 100000 in
theorem aHv : (dD.mk [] [⟨0,12,[⟨4,0⟩,⟨25,0⟩]⟩]).okB=true:=by kernel_rfl
set_option maxRecDepth 100000 in
theorem aHw : (dD.mk [] [⟨0,13,[⟨4,0⟩,⟨25,0⟩]⟩]).okB=false:=by kernel_rfl
set_option maxRecDepth 100000 in
theorem aHx : (dD.mk [⟨(fxs 60).toArray⟩] [fN]).okB=true:=by kernel_rfl
set_option maxRecDepth 100000 in
theorem aHy : (dD.mk [⟨(fxs 61).toArray⟩] [fN]).okB=false:=by kernel_rfl
theorem aHz {d : Nat} (hd : d≤1) (hok : (dD.mk [] (List.replicate (12+d) fN)).okB=decide (d=0)) : ∀ i,i≤12+d→1≤i→Ok (fun r=>r = [.bool true]) (dI (.int .i64 (d : Int)) (.lst []) (.lst ((List.replicate i fN).map dL.pv))):=by
  have main : ∀ j i,i+j=12+d→1≤i→Ok (fun r=>r = [.bool true]) (dI (.int .i64 (d : Int)) (.lst []) (.lst ((List.replicate i fN).map dL.pv))):=by
    intro j
    induction j with
    | zero=>
      intro i hi h1
      have hi : i=12+d:=by omega
      subst hi
      rw [kP]
      refine aI (bC (by omega) (aS (aC (fun h=>by rw [List.length_replicate] at h;omega) (fun _=>?_))))
      refine aCt (m:=⟨[],List.replicate (12+d) fN⟩) (uV (by simp) (by simp;omega) (by simp) (fun f hf=>by rw [List.eq_of_mem_replicate hf];simp [fN])) (cA rfl (aE (eF (aA ?_))))
      rw [hok]
      have : decide ((d : Int)=0)=decide (d=0):=by by_cases h : d=0<;>simp [h]
      rw [this]
      cases decide (d=0)<;>rfl
    | succ j ih=>
      intro i hi h1
      rw [kP]
      have hl : 0<(List.replicate i fN).length:=by simp;omega
      refine aI (bC (by omega) (aS (aC (fun _=>?_) (fun h=>by rw [List.length_replicate] at h;omega))))
      refine nD (by omega) (by rw [List.length_map];omega) (cD (i:=0) hl (fun _=>rfl) ?_)
      rw [List.getElem_replicate]
      refine iZ (by simp) (fun x hx=>by simp only [List.nil_append,List.mem_singleton] at hx;subst hx;rfl) (iZ (by simp;omega) (fun x hx=>by simp only [List.nil_append,List.mem_singleton] at hx;subst hx;rfl) ?_)
      have e : (List.replicate i fN).map dL.pv++[fN.pv]=(List.replicate (i+1) fN).map dL.pv:=by
        rw [List.replicate_succ',List.map_append];rfl
      have:=ih (i+1) (by omega) (by omega)
      rw [← e] at this
      exact this
  exact fun i hi h1=>main (12+d - i) i (by omega) h1
theorem aHA {d : Nat} (hd : d≤1) (hok : (dD.mk [⟨(fxs (60+d)).toArray⟩] [fN]).okB=decide (d=0)) : ∀ j i,i+j=60+d→Ok (fun r=>r = [.bool true]) (dP (.int .i64 (d : Int)) (.lst []) (.lst [fN.pv]) (bW (List.replicate i 120))):=by
  intro j
  induction j with
  | zero=>
    intro i hi
    have hi : i=60+d:=by omega
    subst hi
    rw [kC]
    refine eR (bC (by omega) (aS (aC (fun h=>by rw [List.length_replicate] at h;omega) (fun _=>aFS ?_))))
    have e : ((List.replicate (60+d) (120 : Int)).map fun x=>UInt8.ofNat x.toNat)=fxs (60+d):=by
      rw [List.map_replicate];rfl
    rw [e]
    refine iZ (by simp) (fun x hx=>by simp only [List.mem_singleton] at hx;subst hx;rfl) ?_
    refine aCt (m:=⟨[⟨(fxs (60+d)).toArray⟩],[fN]⟩) (uV (by simp) (by simp) (fun t ht=>?_) (fun f hf=>by simp at hf;rw [hf];simp [fN])) ?_
    · simp at ht
      rw [ht]
      show ((fxs (60+d)).toArray).size≤1000
      simp [fxs];omega
    refine cA rfl (aE (eF (aA ?_)))
    rw [hok]
    have : decide ((d : Int)=0)=decide (d=0):=by by_cases h : d=0<;>simp [h]
    rw [this]
    cases decide (d=0)<;>rfl
  | succ j ih=>
    intro i hi
    rw [kC]
    refine eR (bC (by omega) (aS (aC (fun _=>?_) (fun h=>by rw [List.length_replicate] at h;omega))))
    refine iZ (by simp;omega) (fun x hx=>by simp only [List.mem_singleton] at hx;subst hx;rfl) ?_
    have e : (List.replicate i (120 : Int)).map (PV.int .u8)++[PV.int .u8 120]=(List.replicate (i+1) (120 : Int)).map (PV.int .u8):=by
      rw [List.replicate_succ',List.map_append];rfl
    have:=ih (i+1) (by omega)
    unfold bW at this
    rw [← e] at this
    exact this
theorem wG (c : List bI) (hc : c.length≤1000) : (mF c).sized:=uV (by simp [mF]) (by simp [mF]) (by simp [mF]) (fun f hf=>by simp [mF] at hf;rw [hf];exact hc)
theorem aFD {l : List Int} (h0 : ∀ x∈l,0≤x∧x≤255) (hp : pickT l 0 7≠1) : pcallO 3 [bW l]=some [.bool true]:=by
  refine Ok.eq ?_
  show Ok _ (iD (bW l))
  rw [jO]
  refine aEq h0 (fun hl=>bG ?_) (aR (aA rfl))
  refine qW hl (by omega) (by omega) (qW hl (by omega) (by omega) ?_)
  have q1:=uU (l:=l) (s:=1) (n:=2) (by omega)
  have q2:=uU (l:=l) (s:=0) (n:=7) (by omega)
  generalize pickT l 1 2=d0 at q1
  generalize pickT l 0 7=c at q2 hp
  obtain ⟨d,rfl⟩:=Int.eq_ofNat_of_zero_le q1.1
  have hd : d≤1:=by omega
  have hd2 : d=0∨d=1:=by omega
  refine aE (aC (fun _=>?_) (fun n0=>aE (aC (fun h=>absurd h hp) (fun n1=>aE (aC (fun _=>?_) (fun n2=>aE (aC (fun _=>?_) (fun n3=>aE (aC (fun _=>?_) (fun n4=>aE (aC (fun _=>?_) (fun n5=>?_))))))))))))
  · refine aHz hd ?_ 1 (by omega) (by omega)
    rcases hd2 with rfl | rfl
    · exact aHt
    · exact aHu
  · refine bC (by omega) (fB rfl (lO (by omega) rfl rfl (by omega) rfl ?_))
    refine aCt (m:=⟨[],[⟨0,12+d,[⟨4,0⟩,⟨25,0⟩]⟩]⟩) (uV (by simp) (by simp) (by simp) (fun f hf=>by simp at hf;rw [hf];simp)) (cA rfl (aE (eF (aA ?_))))
    rcases hd2 with rfl | rfl
    · rw [show ((12 : Int)+(0 : Nat))=12 from rfl,aHv];rfl
    · rw [show ((12 : Int)+(1 : Nat))=13 from rfl,aHw];rfl
  · refine aHA hd ?_ (60+d) 0 (by omega)
    rcases hd2 with rfl | rfl
    · exact aHx
    · exact aHy
  · refine bC (by omega) (aCs (m:=aFB) (wG _ (by simp)) (nU (aE (aE (eF ?_)))))
    rcases hd2 with rfl | rfl
    · obtain ⟨e1,e2⟩:=Prod.mk.inj aHd
      rw [show ((23 : Int)+(0 : Nat))=23 from rfl,e1]
      refine aR (aI (aE ?_))
      rw [e2]
      exact aR (aE (aR (aA rfl)))
    · obtain ⟨e1,e2⟩:=Prod.mk.inj aHe
      obtain ⟨e2,e3⟩:=Prod.mk.inj e2
      rw [show ((23 : Int)+(1 : Nat))=24 from rfl,e1]
      refine aR (aI (aE ?_))
      rw [e2]
      refine aR (aE (bG (aE (aA ?_))))
      rw [e3];rfl
  · refine bC (by omega) (aCs (m:=aGi) (wG _ (by simp)) (nU (aE ?_)))
    rcases hd2 with rfl | rfl
    · obtain ⟨e1,e2⟩:=Prod.mk.inj aHf
      rw [show ((360 : Int)+(0 : Nat))=360 from rfl,e1]
      refine aR (aE (aE (eF (aA ?_))))
      rw [e2];rfl
    · obtain ⟨e1,e2⟩:=Prod.mk.inj aHg
      rw [show ((360 : Int)+(1 : Nat))=361 from rfl,e1]
      refine aR (aE (aE (eF (aA ?_))))
      rw [e2];rfl
  · refine aCa (by omega) (bC (by omega) (aCs (m:=aGj) (wG _ (by simp)) (nU (aI (aE ?_)))))
    rcases hd2 with rfl | rfl
    · obtain ⟨e1,e2⟩:=Prod.mk.inj aHh
      rw [show ((600 : Int)+2*(0 : Nat))=600 from rfl,e1]
      refine aR (aE (aE (eF (aA ?_))))
      rw [e2];rfl
    · obtain ⟨e1,e2⟩:=Prod.mk.inj aHi
      rw [show ((600 : Int)+2*(1 : Nat))=602 from rfl,e1]
      refine aR (aE (aE (eF (aA ?_))))
      rw [e2];rfl
end
end Go.Proofs.YtjgleeamiclokaaDoor
namespace Go.Proofs.YtjgleeamiclokaaDoor.K
open Go
def T : Tab:=[
  some ⟨.other,1,0,true⟩,
  some ⟨.func,1,8,true⟩,
  some ⟨(.int .i64),1,8,true⟩,
  some ⟨(.int .i64),1,8,true⟩,
  some ⟨.bool,1,1,true⟩,
  some ⟨(.int .u8),1,1,true⟩,
  some ⟨(.int .u8),1,1,true⟩,
  some ⟨(.struct [(0,2),(1,3),(2,4),(3,6)]),4,24,true⟩,
  some ⟨(.struct [(0,2),(1,3),(2,4),(3,6)]),4,24,true⟩,
  some ⟨.str,1,16,true⟩,
  some ⟨.str,1,16,true⟩,
  some ⟨.str,1,16,true⟩,
  some ⟨(.int .u64),1,8,true⟩,
  some ⟨(.struct [(0,9),(1,12)]),2,24,false⟩,
  some ⟨(.struct [(0,9),(1,12)]),2,24,false⟩,
  some ⟨.ptr,1,8,true⟩,
  some ⟨.ptr,1,8,true⟩,
  some ⟨.ptr,1,8,true⟩,
  some ⟨(.struct [(0,17)]),1,8,false⟩,
  some ⟨(.struct [(0,17)]),1,8,false⟩,
  some ⟨.other,1,16,true⟩,
  some ⟨(.int .i32),1,4,true⟩,
  some ⟨(.slice 5),1,24,true⟩,
  some ⟨.func,1,8,true⟩,
  some ⟨.func,1,8,true⟩,
  some ⟨(.struct [(0,3),(1,3)]),2,16,true⟩,
  some ⟨(.struct [(0,3),(1,3)]),2,16,true⟩,
  some ⟨(.slice 26),1,24,true⟩,
  some ⟨(.struct [(0,3),(1,3),(2,27)]),3,40,true⟩,
  some ⟨(.struct [(0,3),(1,3),(2,27)]),3,40,true⟩,
  some ⟨(.slice 29),1,24,true⟩,
  some ⟨(.slice 9),1,24,true⟩,
  some ⟨(.struct [(0,31),(1,30)]),2,48,true⟩,
  some ⟨(.struct [(0,31),(1,30)]),2,48,true⟩,
  some ⟨.func,1,8,true⟩,
  some ⟨(.slice 62),1,24,true⟩,
  some ⟨(.slice 88),1,24,true⟩,
  some ⟨(.struct [(0,3),(1,3),(2,9)]),3,32,true⟩,
  some ⟨(.struct [(0,3),(1,3),(2,9)]),3,32,true⟩,
  some ⟨(.struct [(0,35),(1,36),(2,3),(3,31),(4,3),(5,3),(6,38),(9,3)]),10,136,true⟩,
  some ⟨(.struct [(0,35),(1,36),(2,3),(3,31),(4,3),(5,3),(6,38),(9,3)]),10,136,true⟩,
  some ⟨.func,1,8,true⟩,
  some ⟨(.slice 38),1,24,true⟩,
  some ⟨.func,1,8,true⟩,
  some ⟨.func,1,8,true⟩,
  some ⟨.func,1,8,true⟩,
  some ⟨.func,1,8,true⟩,
  some ⟨.func,1,8,true⟩,
  some ⟨.func,1,8,true⟩,
  some ⟨.other,1,0,true⟩,
  some ⟨.func,1,8,true⟩,
  some ⟨.ptr,1,8,true⟩,
  some ⟨.func,1,8,true⟩,
  some ⟨.func,1,8,true⟩,
  some ⟨.func,1,8,true⟩,
  some ⟨.func,1,8,true⟩,
  some ⟨.func,1,8,true⟩,
  some ⟨.func,1,8,true⟩,
  some ⟨.func,1,8,true⟩,
  some ⟨.func,1,8,true⟩,
  some ⟨.func,1,8,true⟩,
  some ⟨(.struct [(0,3),(1,3),(2,42),(3,42)]),4,64,true⟩,
  some ⟨(.struct [(0,3),(1,3),(2,42),(3,42)]),4,64,true⟩,
  some ⟨.func,1,8,true⟩,
  some ⟨.func,1,8,true⟩,
  some ⟨.func,1,8,true⟩,
  some ⟨.func,1,8,true⟩,
  some ⟨.func,1,8,true⟩,
  some ⟨(.struct [(0,3),(1,3),(2,3)]),3,24,true⟩,
  some ⟨(.struct [(0,3),(1,3),(2,3)]),3,24,true⟩,
  some ⟨.func,1,8,true⟩,
  some ⟨.func,1,8,true⟩,
  some ⟨.func,1,8,true⟩,
  some ⟨.func,1,8,true⟩,
  some ⟨.func,1,8,true⟩,
  some ⟨.func,1,8,true⟩,
  some ⟨.ptr,1,8,true⟩,
  some ⟨.other,1,0,true⟩,
  some ⟨.func,1,8,true⟩,
  some ⟨.func,1,8,true⟩,
  some ⟨.func,1,8,true⟩,
  some ⟨.func,1,8,true⟩,
  some ⟨.other,1,0,true⟩,
  some ⟨.func,1,8,true⟩,
  some ⟨.func,1,8,true⟩,
  some ⟨.func,1,8,true⟩,
  some ⟨.func,1,8,true⟩,
  some ⟨(.struct [(0,42)]),1,24,true⟩,
  some ⟨(.struct [(0,42)]),1,24,true⟩,
  some ⟨.ptr,1,8,true⟩,
  some ⟨.other,1,0,true⟩,
  some ⟨.func,1,8,true⟩,
  some ⟨.func,1,8,true⟩,
  some ⟨.func,1,8,true⟩,
  some ⟨(.slice 3),1,24,true⟩,
  some ⟨.func,1,8,true⟩,
  some ⟨.other,1,0,true⟩,
  some ⟨.func,1,8,true⟩,
  some ⟨.func,1,8,true⟩,
  some ⟨.func,1,8,true⟩,
  some ⟨.func,1,8,true⟩,
  some ⟨.func,1,8,true⟩,
  some ⟨(.slice 42),1,24,true⟩,
  some ⟨.func,1,8,true⟩,
  some ⟨(.array 4 83),4,32,true⟩,
  some ⟨.func,1,8,true⟩,
  some ⟨.func,1,8,true⟩,
  some ⟨.func,1,8,true⟩,
  some ⟨.func,1,8,true⟩,
  some ⟨.func,1,8,true⟩,
  some ⟨.func,1,8,true⟩,
  some ⟨.func,1,8,true⟩,
  some ⟨.func,1,8,true⟩,
  some ⟨.func,1,8,true⟩,
  some ⟨(.int .u64),1,8,true⟩,
  some ⟨.other,1,0,true⟩,
  some ⟨.func,1,8,true⟩,
  some ⟨.func,1,8,true⟩,
  some ⟨(.int .u32),1,4,true⟩,
  some ⟨.other,1,0,true⟩,
  some ⟨.func,1,8,true⟩,
  some ⟨(.int .u64),1,8,true⟩,
  some ⟨.other,1,0,true⟩,
  some ⟨.func,1,8,true⟩,
  some ⟨(.array 24 5),24,24,true⟩,
  some ⟨.func,1,8,true⟩,
  some ⟨.func,1,8,true⟩,
  some ⟨.other,1,0,true⟩,
  some ⟨.func,1,8,true⟩,
  some ⟨.func,1,8,true⟩,
  some ⟨.func,1,8,true⟩,
  some ⟨(.array 20 121),20,160,true⟩,
  some ⟨(.array 65 5),65,65,true⟩,
  some ⟨.func,1,8,true⟩,
  some ⟨.func,1,8,true⟩,
  some ⟨(.array 32 5),32,32,true⟩,
  some ⟨(.array 64 5),64,64,true⟩,
  some ⟨.func,1,8,true⟩,
  some ⟨(.struct [(0,17),(1,17),(2,17),(3,9)]),4,40,false⟩,
  some ⟨(.struct [(0,17),(1,17),(2,17),(3,9)]),4,40,false⟩,
  some ⟨(.array 0 16),0,0,true⟩,
  some ⟨(.struct [(0,140)]),0,0,false⟩,
  some ⟨(.struct [(0,140)]),0,0,false⟩,
  some ⟨.func,1,8,true⟩,
  some ⟨(.int .u8),1,1,true⟩,
  some ⟨(.int .u8),1,1,true⟩,
  some ⟨.func,1,8,true⟩,
  some ⟨.ptr,1,8,true⟩,
  some ⟨(.int .i32),1,4,true⟩,
  some ⟨(.int .i32),1,4,true⟩,
  some ⟨(.struct [(0,12),(1,12),(2,118),(3,144),(4,5),(5,5),(6,145),(7,146),(8,147),(9,148),(10,149)]),11,48,false⟩,
  some ⟨(.struct [(0,12),(1,12),(2,118),(3,144),(4,5),(5,5),(6,145),(7,146),(8,147),(9,148),(10,149)]),11,48,false⟩,
  some ⟨.other,1,8,true⟩]
set_option maxRecDepth 100000 in
theorem aCv : tabOf Tryd.prog=T:=by kernel_rfl
def aDC : List (Nat × List (Nat × List Nat)):=[
  (3,[(7,[3,4]),(11,[3,4]),(19,[3,4,5])]),
  (5,[(5,[0,1,2,7,8])]),
  (6,[(4,[1,22,23,24])]),
  (11,[(2,[0,5,6])]),
  (15,[(5,[3,4,8,10,26,27])]),
  (17,[(2,[0,1,7,8])]),
  (18,[(2,[0,1,7,8])]),
  (27,[(74,[0,3,5,9,10,12,21])]),
  (28,[(3,[3,7,8,9])]),
  (29,[(3,[3,7,8,9])]),
  (31,[(4,[1,2,16,17]),(8,[1,2,3,4,16,17,28,29,30])]),
  (35,[(3,[0,3,9,10,11]),(11,[6,25,26,27])]),
  (37,[(24,[2,3]),(25,[2,3])]),
  (47,[(5,[2,5,6,7]),(8,[2,5,6,7,27,28,29]),(13,[2,5,6,7,10,11,27,28,29,51,52,53]),(16,[2,5,6,10,11,13,27,28,29,51,52,53])]),
  (53,[(2,[0,1,7,8])]),
  (54,[(3,[0,1])]),
  (61,[(3,[0,1]),(6,[0,6]),(8,[7,8])]),
  (62,[(2,[0,1,7,8])]),
  (63,[(2,[0,1,7,8])]),
  (74,[(8,[0,5,6])]),
  (79,[(1,[0,1,4]),(20,[0,4,12]),(25,[0,4,12])]),
  (80,[(3,[0,1,2,3,4,10,11]),(7,[0,1,2,3,4,10,11,12,13]),(25,[0,3,4,10,11,12,13]),(11,[0,1,3,4,10,11,12,13,14,15,16]),(18,[0,1,3,4,10,11,12,13,17]),(28,[0,4,10,11,12,13])]),
  (82,[(4,[0,2]),(7,[0,2]),(10,[0,2])])]
end Go.Proofs.YtjgleeamiclokaaDoor.K
namespace Go.Proofs.YtjgleeamiclokaaDoor.K
open Go
def tI : List (Nat × Tmpl):=[
  (61,⟨true,false,.ref 0 [],[],[some ⟨(.own 1 8 false []),(.int .i64 0)⟩],false⟩),
  (38,⟨true,false,.ref 0 [],[],[some ⟨(.own 3 32 true []),(.int .i64 0)⟩],false⟩),
  (30,⟨true,false,.ref 0 [],[],[some ⟨(.own 1 16 false []),(.int .i64 0)⟩],false⟩),
  (35,⟨true,false,.ref 0 [],[],[some ⟨(.own 3 32 true []),(.int .i64 0)⟩],false⟩),
  (54,⟨false,false,.ref 0 [],[],[some ⟨(.own 3 32 true []),(.int .i64 0)⟩],true⟩),
  (36,⟨true,false,.ref 0 [],[],[some ⟨(.own 3 32 true []),(.int .i64 0)⟩],false⟩),
  (26,⟨true,false,.agg [.p (.int .i64 0),.p (.int .i64 1),.ref 0 [],.ref 1 []],[],[some ⟨(.own 3 32 true []),(.int .i64 2)⟩,some ⟨(.own 3 32 true []),(.int .i64 3)⟩],false⟩),
  (28,⟨true,false,.ref 0 [],[],[some ⟨(.own 4 64 true [.leaf,.leaf,(.own 3 32 true []),(.own 3 32 true [])]),(.int .i64 0)⟩],false⟩),
  (29,⟨true,false,.ref 0 [],[],[some ⟨(.own 1 24 true [(.own 3 32 true [])]),(.int .i64 0)⟩],false⟩),
  (23,⟨true,false,.agg [.ref 0 [],.ref 1 [],.p (.int .i64 0),.ref 2 [],.p (.int .i64 1),.p (.int .i64 2),.p (.int .i64 3),.p (.int .i64 4),.p (.int .i64 5),.p (.int .i64 6)],[],[some ⟨(.own 4 64 true [.leaf,.leaf,(.own 3 32 true []),(.own 3 32 true [])]),(.int .i64 7)⟩,some ⟨(.own 1 24 true [(.own 3 32 true [])]),(.int .i64 8)⟩,some ⟨(.own 1 16 false []),(.int .i64 9)⟩],false⟩),
  (22,⟨false,false,.tup [],[some [.ref 0 [],.ref 1 [],.p (.int .i64 0),.ref 2 [],.p (.int .i64 1),.p (.int .i64 2),.p (.int .i64 3),.p (.int .i64 4),.p (.int .i64 5),.p (.int .i64 6)]],[some ⟨(.own 4 64 true [.leaf,.leaf,(.own 3 32 true []),(.own 3 32 true [])]),(.int .i64 7)⟩,some ⟨(.own 1 24 true [(.own 3 32 true [])]),(.int .i64 8)⟩,some ⟨(.own 1 16 false []),(.int .i64 9)⟩],false⟩),
  (27,⟨false,false,.p (.int .i64 0),[some [.ref 0 [],.ref 1 [],.p (.int .i64 1),.ref 2 [],.p (.int .i64 2),.p (.int .i64 3),.p (.int .i64 4),.p (.int .i64 5),.p (.int .i64 6),.p (.int .i64 7)]],[some ⟨(.own 4 64 true [.leaf,.leaf,(.own 3 32 true []),(.own 3 32 true [])]),(.int .i64 8)⟩,some ⟨(.own 1 24 true [(.own 3 32 true [])]),(.int .i64 9)⟩,some ⟨(.own 1 16 false []),(.int .i64 10)⟩],false⟩),
  (44,⟨false,true,.tup [.gptr 1 [((.int .i64 0),0)] (.int .i64 1) 0,.p (.int .i64 2)],[some [.ref 0 [],.ref 1 [],.p (.int .i64 3),.ref 2 [],.p (.int .i64 4),.p (.int .i64 5),.p (.int .i64 6),.p (.int .i64 7),.p (.int .i64 8),.p (.int .i64 9)]],[some ⟨(.own 4 64 true [.leaf,.leaf,(.own 3 32 true []),(.own 3 32 true [])]),(.int .i64 10)⟩,some ⟨(.own 1 24 true [(.own 3 32 true [])]),(.int .i64 11)⟩,some ⟨(.own 1 16 false []),(.int .i64 12)⟩],false⟩),
  (45,⟨false,false,.tup [],[some [.ref 0 [],.ref 1 [],.p (.int .i64 0),.ref 2 [],.p (.int .i64 1),.p (.int .i64 2),.p (.int .i64 3),.p (.int .i64 4),.p (.int .i64 5),.p (.int .i64 6)]],[some ⟨(.own 4 64 true [.leaf,.leaf,(.own 3 32 true []),(.own 3 32 true [])]),(.int .i64 7)⟩,some ⟨(.own 1 24 true [(.own 3 32 true [])]),(.int .i64 8)⟩,some ⟨(.own 1 16 false []),(.int .i64 9)⟩],false⟩),
  (21,⟨true,false,.tup [.agg [.ref 0 [],.ref 1 [],.p (.int .i64 0),.ref 2 [],.p (.int .i64 1),.p (.int .i64 2),.p (.int .i64 3),.p (.int .i64 4),.p (.int .i64 5),.p (.int .i64 6)],.p (.int .i64 7)],[],[some ⟨(.own 4 64 true [.leaf,.leaf,(.own 3 32 true []),(.own 3 32 true [])]),(.int .i64 8)⟩,some ⟨(.own 1 24 true [(.own 3 32 true [])]),(.int .i64 9)⟩,some ⟨(.own 1 16 false []),(.int .i64 10)⟩],false⟩)]
def aDD : List (Nat × List (Nat × List OTy)):=[(3,[(29,[.leaf,.leaf,.own 2 16 true []])]),(26,[(62,[.leaf,.leaf,.own 3 32 true [],.own 3 32 true []]),(88,[.own 3 32 true []])]),(28,[(62,[.leaf,.leaf,.own 3 32 true [],.own 3 32 true []]),(88,[.own 3 32 true []])]),(29,[(62,[.leaf,.leaf,.own 3 32 true [],.own 3 32 true []]),(88,[.own 3 32 true []])]),(23,[(62,[.leaf,.leaf,.own 3 32 true [],.own 3 32 true []]),(88,[.own 3 32 true []])]),(22,[(62,[.leaf,.leaf,.own 3 32 true [],.own 3 32 true []]),(88,[.own 3 32 true []])]),(27,[(62,[.leaf,.leaf,.own 3 32 true [],.own 3 32 true []]),(88,[.own 3 32 true []])]),(44,[(62,[.leaf,.leaf,.own 3 32 true [],.own 3 32 true []]),(88,[.own 3 32 true []])]),(45,[(62,[.leaf,.leaf,.own 3 32 true [],.own 3 32 true []]),(88,[.own 3 32 true []])]),(21,[(62,[.leaf,.leaf,.own 3 32 true [],.own 3 32 true []]),(88,[.own 3 32 true []])]),(15,[(62,[.leaf,.leaf,.own 3 32 true [],.own 3 32 true []]),(88,[.own 3 32 true []])])]
def aDE : List (Nat × List (Nat × List (Nat × Option Nat))):=[]
def nX : List (Nat × (List PV→Option (List PV))):=[(59,nG)]
def lG : List (Nat × (List DV→St→Option (List PV))):=[(54,hX 32)]
def aBG : List Nat:=[1,2,3,4,5,6,7,8,9,10,11,12,13,14,15,16,17,18,19,21,22,23,24,25,26,27,28,29,30,31,32,33,34,35,36,37,38,39,40,41,42,43,44,45,46,47,48,50,51,52,53,54,55,56,57,58,59,60,61,62,63,64,65,66,67,68,69,70,71,72,73,74,75,76,78,79,80,81,83,84,85,86,87,88,89,91,92,93,94,95,97,98,99,100,101,102,103,104,105,106,107,108,109,110,111,112,113,114,116,117,118,120,121,123,124,125,126,128,129,130,131,132,133,134,135,136,137,138,139,143,144,145,146,147,148,149,150,151]
def aGW (t : Nat) : Bool:=mem t aBG
set_option maxRecDepth 100000 in
theorem aFE : (aBG.map fun t=>(Tryd.prog.info? t).bind (·.zero))=aBG.map fun t=>some (zeroVal T t):=by kernel_rfl
def aZ : Hints:={ cut:=fun f r=>(lk f aDC).bind (lk r),mode:=fun f=>lk f tI,frz:=fun f r=>((lk f aDE).bind (lk r)).getD [],own:=fun f u=>((lk f aDD).bind (lk u)).getD [],prim:=fun f=>lk f nX,primS:=fun f=>lk f lG,glob:=fun _=>none,zok:=aGW}
end Go.Proofs.YtjgleeamiclokaaDoor.K
namespace Go.Proofs.YtjgleeamiclokaaDoor.K
open Go
noncomputable def fM (f nb nl : Nat) (out : Option Tmpl) (todo : List Item) (e : Env) (s : St) : Option R:=kT Tryd.prog T aZ f nb nl out todo e s
noncomputable def pcallO (f : Nat) (args : List PV) : Option R:=aEF Tryd.prog T aZ f args
noncomputable def cL (f : Nat) (args : List DV) (s : St) : Option R:=aFM Tryd.prog T aZ f args s
noncomputable def orc (f nb nl : Nat) (out : Option Tmpl) : Orc:=orcOf Tryd.prog aZ (kT Tryd.prog T aZ) f nb nl out
theorem cG (f nb nl : Nat) (out : Option Tmpl) (todo : List Item) (e : Env) (s : St) (r : Option R) (h : eval (cxOf Tryd.prog T aZ f nb nl out) (orc f nb nl out) evalFuel true todo e s=r) : fM f nb nl out todo e s=r:=aB7 f nb nl out todo e s r h
theorem aL (f : Nat) (args : List PV) (r : Option R) (h : (match aZ.prim f with | some p=>p args | none=>eval (cxOf Tryd.prog T aZ f 0 0 none) (orc f 0 0 none) evalFuel true (startOf Tryd.prog f) (argEnv 0 (args.map .p)) ⟨[],[],0,0,0⟩)=r) : pcallO f args=r:=by
  cases hp : aZ.prim f with
  | none=>rw [hp] at h;exact aC8 f hp args r h
  | some p=>rw [hp] at h;rw [← h];show (match aZ.prim f with | some h=>h args | none=>_)=_;rw [hp]
set_option maxRecDepth 100000 in
theorem uF : (Tryd.prog.funcs.toList.all fun f=>match f.body with | some c=>codeOk f.ntmps c&&(f.name != "runtime.NumGoroutine") | none=>true)=true:=by kernel_rfl
theorem aB8 : Tryd.prog.follows .mixedOrders=true:=by kernel_rfl
theorem aFO : (tI.all fun p=>p.2.wf)=true:=by kernel_rfl
end Go.Proofs.YtjgleeamiclokaaDoor.K
