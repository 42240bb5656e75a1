/-
  Texts of the proof, part 6: a value-level evaluator and its soundness, what the functions compute, laws about it.
  Conditions: none.
-/
import Derived.Test.YtjgleeamiclokaaGreatDoorE
import Derived.Calls
import Derived.KernelRfl
import Derived.Orders
import Derived.Test.YtjgleeamiclokaaGreatDoorProg
import Derived.Lib.AppendIntMem
import Derived.Lib.ItoaNum
import Derived.Laws.IdiomCopy
import Derived.Laws.Cells
import Derived.Below
import Derived.Laws.StructEq
import Derived.Laws.BytesString
import Derived.Laws.NewFold
import Derived.Laws.Tables
import Derived.Great.FillDense
import Derived.Shelf.Spec.SlicesGrow
import Derived.Shelf.Strconv.Itoa3
import Derived.Shelf.SlGeneric
import Derived.Ground.NamesProg
import Derived.Ground.Names8Prog
import Derived.IntWalk
import Derived.WalkKit
import Derived.ProofKit
import Derived.OpenShut
import Derived.ShutString
import Derived.ChangeOld
import Derived.Lib.Strings
set_option linter.all false
namespace Go.Proofs.YtjgleeamiclokaaGreatDoor
open Go Go.IntWalk
attribute [local irreducible] bd PV.ite PV.guardFlat PV.guardOwn PV.whole PV.one PV.cell PV.sub PV.at_ PV.len PV.slen PV.chr PV.beq PV.peq PV.ceq PV.bin PV.neg PV.not PV.conv PV.cut PV.scut PV.cat PV.setAt PV.setCell PV.ncopy PV.copyIn PV.zeros PV.toStr PV.toBytes PV.deref PV.isPtr PV.comp PV.inb PV.off PV.imin PV.imax PV.sel PV.apply PV.isLst PV.isInt PV.ix PV.nilT
structure cO where
  k : Int
  n : Int
  s : ByteArray
def cO.pv (v : cO) : PV:=.agg [.int .i64 v.k,.int .i64 v.n,.str v.s]
def cX : cO:=⟨0,0,bs []⟩
def qO (n : Int) : cO:=⟨1,n,bs []⟩
def lB (b : Bool) : cO:=⟨2,if b then 1 else 0,bs []⟩
def wS (s : ByteArray) : cO:=⟨3,0,s⟩
def aK9 (n : Int) : cO:=⟨4,n,bs []⟩
def aHo (n : Int) : cO:=⟨5,n,bs []⟩
def cC (n : Int) : Bool:=kM n (-1000000000) 1000000000
def kK (a b : ByteArray) : Bool:=a.toList==b.toList
theorem aFd (a : ByteArray) : kK a a=true:=by simp [kK]
def I64 (n : Int) : Prop:=-9223372036854775808≤n∧n≤9223372036854775807
section
variable {P : R → Prop} {k : PV → Option R} {kr : R → Option R} {a b : ByteArray}
theorem aMH (h : Ok P (k (.bool (!kK a b)))) : Ok P (bd (PV.bin .neq (.str a) (.str b)) k):=cV _ (by simp only [PV.bin,PV.strBin];rfl) h
theorem qP (h : Ok P (k (.bool (kK a b)))) : Ok P (bd (PV.bin .eql (.str a) (.str b)) k):=cV _ (by simp only [PV.bin,PV.strBin];rfl) h
theorem aKn (h : Ok P (k (.bool (PV.bytesLt a.toList b.toList)))) : Ok P (bd (PV.bin .lss (.str a) (.str b)) k):=cV _ (by simp only [PV.bin,PV.strBin]) h
theorem mR (hb : a.size+b.size≤4611686018427387904) (h : Ok P (k (.str (a++b)))) : Ok P (bd (PV.bin .add (.str a) (.str b)) k):=cV _ (by simp only [PV.bin,PV.strBin];rw [if_pos (by omega)]) h
theorem aB6 {n : Int} (h : Ok P (kr [.bool (cC n)])) : Ok P (bd (gF (.int .i64 n)) kr):=by
  refine aH (Q:=fun r=>r = [.bool (cC n)]) ?_ (fun r hr=>by rw [hr];exact h)
  rw [aEY]
  exact fJ (aB rfl)
theorem uK {n : Int} (h : Ok P (kr [(qO n).pv])) : Ok P (bd (eP (.int .i64 n)) kr):=by
  refine aH (Q:=fun r=>r = [(qO n).pv]) ?_ (fun r hr=>by rw [hr];exact h)
  rw [aE4]
  exact aU rfl (aB rfl)
theorem nD {c : Bool} (h : Ok P (kr [(lB c).pv])) : Ok P (bd (fF (.bool c)) kr):=by
  refine aH (Q:=fun r=>r = [(lB c).pv]) ?_ (fun r hr=>by rw [hr];exact h)
  rw [aDM]
  exact bB (fun h=>aB (by rw [h];rfl)) (fun h=>aB (by rw [h];rfl))
end
def bM (nf recs : Int) (v : cO) : Bool:=
  if v.k≠3∧kK v.s (bs [])=false then false
  else if v.k=0 then decide (v.n=0)
  else if v.k=1 then cC v.n
  else if v.k=2 then kM v.n 0 1
  else if v.k=3 then decide (v.n=0)&&dT v.s
  else if v.k=4 then decide (0≤v.n)&&decide (v.n<recs)
  else if v.k=5 then kM v.n 0 (nf - 1)
  else false
theorem aJG {fs : List cY} {T : PV} {v : cO} {recs : Int} (hf : fs.length≤1000000) (hs : v.s.size≤1000000) : Ok (fun r=>r = [.bool (bM fs.length recs v)]) (aAT (.agg [T,.lst (fs.map cY.pv)]) v.pv (.int .i64 recs)):=by
  rw [aFL]
  refine aD rfl (aA rfl (aA rfl (aD rfl (aA rfl (aA rfl (aA rfl ?_))))))
  refine bE (aK (fun h3=>?_) (fun h3=>?_))
  · refine aMH (bB (fun h=>aB ?_) (fun h=>?_))
    · have h : kK v.s (bs [])=false:=by simpa using h
      unfold bM
      rw [if_pos ⟨h3,h⟩]
    have h : kK v.s (bs [])=true:=by simpa using h
    repeat' (first
      | refine aF (aC (fun heq=>?_) (fun heq=>?_))
      | refine dS (aC (fun hge=>?_) (fun hge=>?_))
      | exact aB6 (aB (by unfold bM;rw [if_neg (by rw [h];simp)];repeat (first | rfl | rw [if_pos (by assumption)] | rw [if_neg (by assumption)])))
      | exact fJ (aB (by unfold bM;rw [if_neg (by rw [h];simp)];repeat (first | rfl | rw [if_pos (by assumption)] | rw [if_neg (by assumption)])))
      | exact aG (bG (by omega) (fJ (aB (by unfold bM;rw [if_neg (by rw [h];simp)];repeat (first | rfl | rw [if_pos (by assumption)] | rw [if_neg (by assumption)])))))
      | (exfalso;omega)
      | exact aF (aB (by unfold bM;rw [if_neg (by rw [h];simp)];repeat (first | rfl | rw [if_pos (by assumption)] | rw [if_neg (by assumption)])))
      | exact aJ (aB (by unfold bM;rw [if_neg (by rw [h];simp)];repeat (first | rfl | rw [decide_eq_true hge,Bool.true_and] | rw [if_pos (by assumption)] | rw [if_neg (by assumption)])))
      | exact aB (by unfold bM;rw [if_neg (by rw [h];simp)];repeat (first | rfl | rw [decide_eq_false hge,Bool.false_and] | rw [if_pos (by assumption)] | rw [if_neg (by assumption)])))
  · have hk : ¬ (v.k≠3∧kK v.s (bs [])=false):=fun h=>h.1 h3
    repeat' (first
      | refine aF (aC (fun heq=>?_) (fun heq=>?_))
      | (exfalso;omega)
      | exact aKl hs (aB (by unfold bM;rw [if_neg hk];repeat (first | rfl | rw [if_pos (by assumption)] | rw [if_neg (by omega)] | rw [decide_eq_true heq,Bool.true_and])))
      | exact aB (by unfold bM;rw [if_neg hk];repeat (first | rfl | rw [if_pos (by assumption)] | rw [if_neg (by omega)] | rw [decide_eq_false heq,Bool.false_and])))
def vT (o a b : Int) : Int:=if o=12 then a - b else if o=13 then a*b else a+b
def xC (o : Int) (a b : cO) : cO × Int:=
  if a.k≠1 then (cX,1) else if b.k≠1 then (cX,1) else if cC a.n=false then (cX,2) else if cC b.n=false then (cX,2)
  else if cC (vT o a.n b.n)=false then (cX,2) else (qO (vT o a.n b.n),0)
def aAy (a b : cO) : cO:=lB (decide (a.k=b.k)&&(decide (a.n=b.n)&&kK a.s b.s))
def nG (o : Int) (a b : cO) : cO × Int:=
  if o=11 then (if a.k=3∧b.k=3 then (if (60 : Int)<a.s.size+b.s.size then (cX,3) else (wS (a.s++b.s),0)) else xC 11 a b)
  else if o=12 then xC 12 a b
  else if o=13 then xC 13 a b
  else if o=14 then (if a.k=3∧b.k=3 then (lB (PV.bytesLt a.s.toList b.s.toList),0) else if a.k=1∧b.k=1 then (lB (decide (a.n<b.n)),0) else (cX,1))
  else (aAy a b,0)
def opR (p : cO × Int) : R:=[.tup [p.1.pv,.int .i64 p.2]]
theorem aLW {a b : Int} (ha : cC a=true) (hb : cC b=true) : -1000000000000000000≤a*b∧a*b≤1000000000000000000:=by
  have ha:=bK.1 ha
  have hb:=bK.1 hb
  have h : (a*b).natAbs≤1000000000*1000000000:=by
    rw [Int.natAbs_mul]
    exact Nat.mul_le_mul (by omega) (by omega)
  omega
theorem aJH {o a b : Int} (ho : o=11∨o=12∨o=13) : Ok (fun r=>r=(if cC a=false then [.tup [.int .i64 0,.int .i64 2]] else if cC b=false then [.tup [.int .i64 0,.int .i64 2]]
    else if cC (vT o a b)=false then [.tup [.int .i64 0,.int .i64 2]] else [.tup [.int .i64 (vT o a b),.int .i64 0]])) (tO (.int .i64 o) (.int .i64 a) (.int .i64 b)):=by
  rw [aCM]
  refine aB6 (bJ (bB (fun h=>aB ?_) (fun h1=>?_)))
  · rw [if_pos (by simpa using h)]
  have h1 : cC a=true:=by simpa using h1
  rw [if_neg (by rw [h1];simp)]
  refine aB6 (bJ (bB (fun h=>aB ?_) (fun h2=>?_)))
  · rw [if_pos (by simpa using h)]
  have h2 : cC b=true:=by simpa using h2
  rw [if_neg (by rw [h2];simp)]
  have ga:=bK.1 h1
  have gb:=bK.1 h2
  have gm:=aLW h1 h2
  have fin : ∀ n : Int,n=vT o a b→Ok (fun r=>r=(if cC (vT o a b)=false then [.tup [.int .i64 0,.int .i64 2]] else [.tup [.int .i64 (vT o a b),.int .i64 0]]))
      (bd (gF (.int .i64 n)) fun r=>bd (PV.not (hd r)) fun v=>PV.ite v (some [.tup [.int .i64 0,.int .i64 2]]) (some [.tup [.int .i64 n,.int .i64 0]])):=by
    intro n hn
    subst hn
    refine aB6 (bJ (bB (fun h=>aB ?_) (fun h=>aB ?_)))
    · rw [if_pos (by simpa using h)]
    · rw [if_neg (by simpa using h)]
  refine aO (by omega) (aF (aC (fun h=>bG (by omega) ?_) (fun h12=>aF (aC (fun h=>hH (by omega) ?_) (fun h13=>?_)))))
  · exact fin _ (by unfold vT;rw [if_pos h])
  · exact fin _ (by unfold vT;rw [if_neg h12,if_pos h])
  · exact fin _ (by unfold vT;rw [if_neg h12,if_neg h13])
theorem vU {o : Int} {a b : cO} (ho : o=11∨o=12∨o=13) : Ok (fun r=>r=opR (xC o a b)) (hY (.int .i64 o) a.pv b.pv):=by
  rw [aBi]
  refine aD rfl (aA rfl (aA rfl (aA rfl (aD rfl (aA rfl (aA rfl (aA rfl ?_)))))))
  refine bE (aK (fun h=>aB ?_) (fun h1=>bE (aK (fun h=>aB ?_) (fun h2=>?_))))
  · unfold xC;rw [if_pos h];rfl
  · unfold xC;rw [if_neg (by simpa using h1),if_pos h];rfl
  refine aH (aJH ho) (fun r hr=>?_)
  have e : xC o a b=if cC a.n=false then (cX,2) else if cC b.n=false then (cX,2) else if cC (vT o a.n b.n)=false then (cX,2) else (qO (vT o a.n b.n),0):=by
    unfold xC;rw [if_neg (by simpa using h1),if_neg (by simpa using h2)]
  rw [e]
  have trap : ∀ {x : R},x = [.tup [.int .i64 0,.int .i64 2]]→r=x→Ok (fun r=>r=opR (cX,2)) (bd (PV.comp (hd r) 0) fun v2185=>bd (PV.comp (hd r) 1) fun v2186=>bd (PV.bin .neq v2186 (.int .i64 0)) fun v2187=>PV.ite v2187 (some [(.tup [(.agg [(.int .i64 0),(.int .i64 0),(.str (bs []))]),v2186])]) (bd (eP v2185) fun r2188=>bd (PV.whole 3 (hd r2188)) fun v2189=>bd (PV.cell v2189 0) fun v2190=>bd (PV.cell v2189 1) fun v2191=>bd (PV.cell v2189 2) fun v2192=>some [(.tup [(.agg [v2190,v2191,v2192]),(.int .i64 0)])])):=by
    intro x hx hr
    subst hx;subst hr
    exact aQ rfl (aQ rfl (bE (aK (fun _=>aB rfl) (fun h=>by omega))))
  split at hr
  · rename_i h;rw [if_pos h];exact trap rfl hr
  rename_i h3
  rw [if_neg h3]
  split at hr
  · rename_i h;rw [if_pos h];exact trap rfl hr
  rename_i h4
  rw [if_neg h4]
  split at hr
  · rename_i h;rw [if_pos h];exact trap rfl hr
  rename_i h5
  rw [if_neg h5]
  subst hr
  refine aQ rfl (aQ rfl (bE (aK (fun h=>absurd rfl h) (fun _=>?_))))
  exact uK (aD rfl (aA rfl (aA rfl (aA rfl (aB rfl)))))
theorem mW {P : R→Prop} {k : R→Option R} {o : Option R} {p : cO × Int} (h : Ok (fun r=>r=opR p) o) (hk : Ok P (k [.tup [.agg [.int .i64 p.1.k,.int .i64 p.1.n,.str p.1.s],.int .i64 p.2]])) : Ok P (bd o k):=
  aH h (fun r hr=>by subst hr;exact hk)
set_option maxRecDepth 100000 in
theorem aB7 {o : Int} {a b : cO} (ho : 11≤o∧o≤15) (hs : a.s.size≤1000000∧b.s.size≤1000000) : Ok (fun r=>r=opR (nG o a b)) (mT (.int .i64 o) a.pv b.pv):=by
  have less3 : ¬ (a.k=3∧b.k=3)→Ok (fun r=>r=opR (if a.k=1∧b.k=1 then (lB (decide (a.n<b.n)),0) else (cX,1))) (nO (.int .i64 a.k) (.int .i64 a.n) (.str a.s) (.int .i64 b.k) (.int .i64 b.n) (.str b.s) (.int .i64 0) (.int .i64 0) (.str (bs []))):=by
    intro _
    rw [aBZ]
    refine aF (aC (fun h1=>aF (aC (fun h2=>?_) (fun h2=>aB ?_))) (fun h1=>aB ?_))
    · rw [aB0,if_pos ⟨h1,h2⟩]
      exact aJ (nD (aD rfl (aA rfl (aA rfl (aA rfl (aB rfl))))))
    · rw [if_neg (fun h=>h2 h.2)];rfl
    · rw [if_neg (fun h=>h1 h.1)];rfl
  have less : Ok (fun r=>r=opR (nG 14 a b)) (yF a.pv b.pv):=by
    rw [aE5]
    refine aD rfl (aA rfl (aA rfl (aA rfl (aD rfl (aA rfl (aA rfl (aA rfl ?_)))))))
    have e : nG 14 a b=(if a.k=3∧b.k=3 then (lB (PV.bytesLt a.s.toList b.s.toList),0) else if a.k=1∧b.k=1 then (lB (decide (a.n<b.n)),0) else (cX,1)):=rfl
    rw [e]
    refine aF (aC (fun h1=>aF (aC (fun h2=>?_) (fun h2=>?_))) (fun h1=>?_))
    · rw [aBY,if_pos ⟨h1,h2⟩]
      exact aKn (nD (aD rfl (aA rfl (aA rfl (aA rfl (aB rfl))))))
    · rw [if_neg (fun h=>h2 h.2)];exact less3 (fun h=>h2 h.2)
    · rw [if_neg (fun h=>h1 h.1)];exact less3 (fun h=>h1 h.1)
  have add : Ok (fun r=>r=opR (nG 11 a b)) (aAY a.pv b.pv):=by
    rw [aFR]
    refine aD rfl (aA rfl (aA rfl (aA rfl (aD rfl (aA rfl (aA rfl (aA rfl ?_)))))))
    have e : nG 11 a b=(if a.k=3∧b.k=3 then (if (60 : Int)<a.s.size+b.s.size then (cX,3) else (wS (a.s++b.s),0)) else xC 11 a b):=rfl
    rw [e]
    have hn:=vU (o:=11) (a:=a) (b:=b) (by omega)
    refine aF (aC (fun h1=>aF (aC (fun h2=>?_) (fun h2=>?_))) (fun h1=>?_))
    · rw [aCL,if_pos ⟨h1,h2⟩]
      refine dI (dI (bG (by omega) (cP (aC (fun h=>aB ?_) (fun h=>?_)))))
      · rw [if_pos (by omega)];rfl
      · rw [if_neg (by omega)]
        exact mR (by omega) (aU rfl (aB rfl))
    · rw [if_neg (fun h=>h2 h.2)]
      exact mW hn (aQ rfl (aQ rfl (aD rfl (aA rfl (aA rfl (aA rfl (aB rfl)))))))
    · rw [if_neg (fun h=>h1 h.1)]
      exact mW hn (aQ rfl (aQ rfl (aD rfl (aA rfl (aA rfl (aA rfl (aB rfl)))))))
  rw [aFP]
  refine aD rfl (aA rfl (aA rfl (aA rfl (aD rfl (aA rfl (aA rfl (aA rfl ?_)))))))
  refine aF (aC (fun h=>?_) (fun h11=>aF (aC (fun h=>?_) (fun h12=>aF (aC (fun h=>?_) (fun h13=>aF (aC (fun h=>?_) (fun h14=>?_))))))))
  · subst h
    exact mW add (aQ rfl (aQ rfl (aD rfl (aA rfl (aA rfl (aA rfl (aB rfl)))))))
  · subst h
    have : Ok (fun r=>r=opR (nG 12 a b)) (aAZ a.pv b.pv):=by
      rw [aFS]
      refine aD rfl (aA rfl (aA rfl (aA rfl (aD rfl (aA rfl (aA rfl (aA rfl ?_)))))))
      exact mW (vU (o:=12) (by omega)) (aQ rfl (aQ rfl (aD rfl (aA rfl (aA rfl (aA rfl (aB rfl)))))))
    exact mW this (aQ rfl (aQ rfl (aD rfl (aA rfl (aA rfl (aA rfl (aB rfl)))))))
  · subst h
    have : Ok (fun r=>r=opR (nG 13 a b)) (aA0 a.pv b.pv):=by
      rw [aFT]
      refine aD rfl (aA rfl (aA rfl (aA rfl (aD rfl (aA rfl (aA rfl (aA rfl ?_)))))))
      exact mW (vU (o:=13) (by omega)) (aQ rfl (aQ rfl (aD rfl (aA rfl (aA rfl (aA rfl (aB rfl)))))))
    exact mW this (aQ rfl (aQ rfl (aD rfl (aA rfl (aA rfl (aA rfl (aB rfl)))))))
  · subst h
    exact mW less (aQ rfl (aQ rfl (aD rfl (aA rfl (aA rfl (aA rfl (aB rfl)))))))
  · have h15 : o=15:=by omega
    subst h15
    have same : Ok (fun r=>r = [(aAy a b).pv]) (yI a.pv b.pv):=by
      rw [aE6]
      refine aD rfl (aA rfl (aA rfl (aA rfl (aD rfl (aA rfl (aA rfl (aA rfl ?_)))))))
      refine aF (aC (fun h1=>aF (aC (fun h2=>qP ?_) (fun h2=>?_))) (fun h1=>?_))
      · refine nD (aD rfl (aA rfl (aA rfl (aA rfl (aB ?_)))))
        unfold aAy;rw [decide_eq_true h1,decide_eq_true h2];rfl
      · refine nD (aD rfl (aA rfl (aA rfl (aA rfl (aB ?_)))))
        unfold aAy;rw [decide_eq_true h1,decide_eq_false h2];rfl
      · refine nD (aD rfl (aA rfl (aA rfl (aA rfl (aB ?_)))))
        unfold aAy;rw [decide_eq_false h1];rfl
    refine aH same (fun r hr=>?_)
    subst hr
    exact aD rfl (aA rfl (aA rfl (aA rfl (aB rfl))))
def uL (v : cO) : cO × Int:=if v.k≠2 then (cX,1) else (lB (!decide (v.n=1)),0)
theorem aLX {v : cO} : Ok (fun r=>r=opR (uL v)) (aAX v.pv):=by
  rw [aFQ]
  refine aD rfl (aA rfl (aA rfl (aA rfl ?_)))
  refine bE (aK (fun h=>aB ?_) (fun h=>?_))
  · unfold uL;rw [if_pos h];rfl
  · refine bE (nD (aD rfl (aA rfl (aA rfl (aA rfl (aB ?_))))))
    unfold uL;rw [if_neg (by simpa using h)];rfl
def dig (n : Int) : ByteArray:=⟨#[UInt8.ofNat (48+n).toNat]⟩
def vV : Nat→Int→ByteArray
  | 0,n=>dig n
  | j+1,n=>if n<10 then dig n else vV j (n / 10)++dig (n % 10)
def gX (n : Int) : ByteArray:=
  if n<0 then (if n < -9 then bs [45]++vV 18 (-(n.tdiv 10))++vV 18 (-(n.tmod 10)) else bs [45]++vV 18 (-n)) else vV 18 n
theorem aB8 (n : Int) : (dig n).size=1:=rfl
theorem fP : ∀ (j : Nat) (n : Int),(vV j n).size≤j+1
  | 0,n=>by simp [vV,aB8]
  | j+1,n=>by
    unfold vV
    split
    · rw [aB8];omega
    · rw [ByteArray.size_append,aB8]
      have:=fP j (n / 10)
      omega
theorem zO : ∀ (j : Nat) (n : Int),0≤n→n<10 ^ (j+1)→n≤9223372036854775807→j≤100→Ok (fun r=>r = [.str (vV j n)]) (dY (.int .i64 n)):=by
  have one : ∀ {P : R→Prop} {k : PV→Option R} {n : Int},0≤n→n<10→Ok P (k (.str (dig n)))→Ok P (bd (PV.bin .add (.int .i64 48) (.int .i64 n)) fun v=>bd (PV.conv .u8 v) fun v=>bd (PV.cat 1 1 false (.lst []) (.lst [v])) fun v=>bd (PV.toStr v) k):=by
    intro P k n h1 h2 h
    refine aO (by omega) (aNG (by omega) ?_)
    refine jI (by simp) (fun x hx=>by simp only [List.mem_singleton] at hx;subst hx;rfl) ?_
    exact aLR (l:=[48+n]) h
  intro j
  induction j with
  | zero=>
    intro n h1 h2 _ _
    rw [nT]
    refine aJ (aC (fun h=>by omega) (fun _=>aJ (aC (fun h=>?_) (fun h=>by omega))))
    exact one h1 h (aB rfl)
  | succ j ih=>
    intro n h1 h2 hj hjj
    rw [nT]
    have hp2 : (10 : Int) ^ (j+1+1)=10 ^ (j+1)*10:=Int.pow_succ _ _
    refine aJ (aC (fun h=>by omega) (fun _=>aJ (aC (fun h=>?_) (fun h=>?_))))
    · refine one h1 h (aB ?_)
      unfold vV;rw [if_pos h]
    · refine iU h1 (by omega) hj ?_
      refine aH (ih (n / 10) (by omega) (by omega) (by omega) (by omega)) (fun r hr=>?_)
      subst hr
      refine gM h1 (by omega) (one (by omega) (by omega) ?_)
      have:=fP j (n / 10)
      refine mR (by rw [aB8];omega) (aB ?_)
      show _ = [PV.str (vV (j+1) n)]
      rw [show vV (j+1) n=vV j (n / 10)++dig (n % 10) by conv=>lhs;unfold vV
                                                         rw [if_neg h]]
theorem aMI {P : R→Prop} {k : PV→Option R} {a b : Int} (hb : b≠0) (hr : I64 (a.tdiv b)) (h : Ok P (k (.int .i64 (a.tdiv b)))) : Ok P (bd (PV.bin .quo (.int .i64 a) (.int .i64 b)) k):=
  cV _ (by rw [iO (by simp) (by simp)];simp only [PV.intBin];rw [if_neg hb,i64_in _ hr]) h
theorem aMJ {P : R→Prop} {k : PV→Option R} {a b : Int} (hb : b≠0) (h : Ok P (k (.int .i64 (a.tmod b)))) : Ok P (bd (PV.bin .rem (.int .i64 a) (.int .i64 b)) k):=
  cV _ (by rw [iO (by simp) (by simp)];simp only [PV.intBin];rw [if_neg hb]) h
theorem aIz {n : Int} (h : n<0) : n.tdiv 10 = -((-n) / 10)∧n.tmod 10 = -((-n) % 10):=by
  have e : n = -(-n):=by omega
  constructor
  · rw [e,Int.neg_tdiv,Int.tdiv_eq_ediv_of_nonneg (by omega)]
    simp
  · rw [e,Int.neg_tmod,Int.tmod_eq_emod_of_nonneg (by omega)]
    simp
theorem qQ (n : Int) : (gX n).size≤40:=by
  have h45 : (bs [45]).size=1:=rfl
  unfold gX
  split
  · split
    · rw [ByteArray.size_append,ByteArray.size_append,h45]
      have h1:=fP 18 (-(n.tdiv 10))
      have h2:=fP 18 (-(n.tmod 10))
      omega
    · rw [ByteArray.size_append,h45]
      have h1:=fP 18 (-n)
      omega
  · have h1:=fP 18 n
    omega
theorem yR {n : Int} (hn : -9223372036854775807≤n∧n≤9223372036854775807) : Ok (fun r=>r = [.str (gX n)]) (dY (.int .i64 n)):=by
  have big : ∀ {x : Int},x≤9223372036854775807→x<10 ^ (18+1):=fun h=>by
    have : (10 : Int) ^ (18+1)=10000000000000000000:=by decide
    omega
  have h45 : (bs [45]).size=1:=rfl
  by_cases h : n<0
  · obtain ⟨e1,e2⟩:=aIz h
    rw [nT]
    refine aJ (aC (fun _=>?_) (fun h'=>absurd h h'))
    refine aJ (aC (fun h9=>?_) (fun h9=>?_))
    · refine aMI (by omega) (by unfold I64;omega) (hJ (by omega) ?_)
      have z1 : 0 - n.tdiv 10 = -(n.tdiv 10):=by omega
      have z2 : 0 - n.tmod 10 = -(n.tmod 10):=by omega
      rw [z1]
      have s1:=fP 18 (-(n.tdiv 10))
      have s2:=fP 18 (-(n.tmod 10))
      refine aH (zO 18 (-(n.tdiv 10)) (by omega) (big (by omega)) (by omega) (by omega)) (fun r hr=>?_)
      subst hr
      refine mR (by omega) (aMJ (by omega) (hJ (by omega) ?_))
      rw [z2]
      refine aH (zO 18 (-(n.tmod 10)) (by omega) (big (by omega)) (by omega) (by omega)) (fun r hr=>?_)
      subst hr
      refine mR (by rw [ByteArray.size_append];omega) (aB ?_)
      unfold gX
      rw [if_pos h,if_pos h9]
    · refine hJ (by omega) ?_
      have z1 : 0 - n = -n:=by omega
      rw [z1]
      have s1:=fP 18 (-n)
      refine aH (zO 18 (-n) (by omega) (big (by omega)) (by omega) (by omega)) (fun r hr=>?_)
      subst hr
      refine mR (by omega) (aB ?_)
      unfold gX
      rw [if_pos h,if_neg h9]
  · refine (zO 18 n (by omega) (big hn.2) hn.2 (by omega)).mono ?_
    rintro r rfl
    unfold gX
    rw [if_neg h]
open Go
def gY (fs : List cY) (x : bZ) (h : Int) : Int:=h - (bA fs x).1+(bA fs x).2
def can (fs : List cY) (x : bZ) (h : Int) : Bool:=decide ((bA fs x).1≤h)&&decide (gY fs x h≤16)
abbrev Hs:=List Int × Bool
def qR (l : Int) (s : Hs) (t : Int) : Hs:=if t<s.1.length∧s.1[t.toNat]?.getD 0<0 then (s.1.set t.toNat l,true) else s
def xD (fs : List cY) (code : List bZ) (s : Hs) (pc : Nat) : Hs:=
  match code[pc]? with
  | some x=>if can fs x (s.1[pc]?.getD 0) then (fO x pc).foldl (qR (gY fs x (s.1[pc]?.getD 0))) s else s
  | none=>s
def pO (fs : List cY) (code : List bZ) (s : List Int) : Hs:=(List.range' 0 code.length).foldl (xD fs code) (s,false)
def aCa (fs : List cY) (code : List bZ) : Nat→List Int→List Int
  | 0,s=>s
  | n+1,s=>if (pO fs code s).2 then aCa fs code n (pO fs code s).1 else (pO fs code s).1
def aHp (n : Nat) : List Int:=(List.replicate n (-1)).set 0 0
def jO (fs : List cY) (code : List bZ) : List Int:=aCa fs code (code.length+1) (aHp code.length)
structure Fit (fs : List cY) (code : List bZ) : Prop where
  n1 : 1≤code.length
  n2 : code.length≤120
  nf : fs.length≤12
  u : ∀ x∈code,0≤(bA fs x).1∧(bA fs x).1≤7∧0≤(bA fs x).2∧(bA fs x).2≤2
  j : ∀ x∈code,(x.o=17∨x.o=18∨x.o=19)→0≤x.a∧x.a<code.length
def xE (n : Nat) (s : List Int) : Prop:=s.length=n∧∀ v∈s,-1≤v∧v≤16
theorem xE.at {n : Nat} {s : List Int} (h : xE n s) (i : Nat) : -1≤s[i]?.getD 0∧s[i]?.getD 0≤16:=by
  cases hx : s[i]? with
  | none=>simp
  | some v=>exact h.2 v (List.mem_of_getElem? hx)
theorem xE.put {n : Nat} {s : Hs} (h : xE n s.1) {l : Int} (hl : -1≤l∧l≤16) (t : Int) : xE n (qR l s t).1:=by
  unfold qR
  split
  · refine ⟨by simp only [List.length_set];exact h.1,fun v hv=>?_⟩
    rcases List.mem_or_eq_of_mem_set hv with h1 | h1
    · exact h.2 v h1
    · omega
  · exact h
theorem xE.puts {n : Nat} {l : Int} (hl : -1≤l∧l≤16) : ∀ (ts : List Int) (s : Hs),xE n s.1→xE n (ts.foldl (qR l) s).1
  | [],_,h=>h
  | t::r,s,h=>xE.puts hl r _ (h.put hl t)
theorem aIA {fs : List cY} {x : bZ} {h : Int} (hu : 0≤(bA fs x).1∧(bA fs x).1≤7∧0≤(bA fs x).2∧(bA fs x).2≤2) (hc : can fs x h=true) : 0≤gY fs x h∧gY fs x h≤16:=by
  simp only [can,Bool.and_eq_true,decide_eq_true_eq] at hc
  unfold gY at *
  omega
theorem xE.one {fs : List cY} {code : List bZ} (F : Fit fs code) {n : Nat} {s : Hs} (h : xE n s.1) (pc : Nat) : xE n (xD fs code s pc).1:=by
  unfold xD
  split
  · rename_i x hx
    split
    · rename_i hc
      have:=aIA (F.u x (List.mem_of_getElem? hx)) hc
      exact xE.puts (by omega) _ _ h
    · exact h
  · exact h
theorem xE.ones {fs : List cY} {code : List bZ} (F : Fit fs code) {n : Nat} : ∀ (l : List Nat) (s : Hs),xE n s.1→xE n (l.foldl (xD fs code) s).1
  | [],_,h=>h
  | t::r,s,h=>xE.ones F r _ (h.one F t)
theorem xE.pass {fs : List cY} {code : List bZ} (F : Fit fs code) {n : Nat} {s : List Int} (h : xE n s) : xE n (pO fs code s).1:=xE.ones F _ _ h
theorem xE.start {n : Nat} : xE n (aHp n):=by
  refine ⟨by simp [aHp],fun v hv=>?_⟩
  rcases List.mem_or_eq_of_mem_set hv with h1 | h1
  · have:=List.eq_of_mem_replicate h1;omega
  · omega
def nn (s : List Int) : Nat:=s.countP (· < 0)
def Dec (s s' : Hs) : Prop:=s'=s∨(s'.2=true∧nn s'.1<nn s.1)
theorem Dec.trans {a b c : Hs} (h : Dec a b) (k : Dec b c) : Dec a c:=by
  rcases h with rfl | h
  · exact k
  · rcases k with rfl | k
    · exact .inr h
    · exact .inr ⟨k.1,by omega⟩
theorem aLY : ∀ (s : List Int) (i : Nat) (l : Int),0≤l→s[i]?.getD 0<0→nn (s.set i l)<nn s
  | [],i,l,_,h=>by simp at h
  | x::r,0,l,hl,h=>by
    simp only [List.getElem?_cons_zero,Option.getD_some] at h
    simp only [nn,List.set_cons_zero,List.countP_cons]
    rw [if_neg (by simp;omega),if_pos (by simpa using h)]
    omega
  | x::r,i+1,l,hl,h=>by
    simp only [List.getElem?_cons_succ] at h
    have:=aLY r i l hl h
    simp only [nn,List.set_cons_succ,List.countP_cons] at *
    omega
theorem Dec.put {l : Int} (hl : 0≤l) (s : Hs) (t : Int) : Dec s (qR l s t):=by
  unfold qR
  split
  · rename_i h
    exact .inr ⟨rfl,aLY _ _ _ hl h.2⟩
  · exact .inl rfl
theorem Dec.puts {l : Int} (hl : 0≤l) : ∀ (ts : List Int) (s : Hs),Dec s (ts.foldl (qR l) s)
  | [],_=>.inl rfl
  | t::r,s=>(Dec.put hl s t).trans (Dec.puts hl r _)
theorem Dec.one {fs : List cY} {code : List bZ} (F : Fit fs code) (s : Hs) (pc : Nat) : Dec s (xD fs code s pc):=by
  unfold xD
  split
  · rename_i x hx
    split
    · rename_i hc
      exact Dec.puts (aIA (F.u x (List.mem_of_getElem? hx)) hc).1 _ _
    · exact .inl rfl
  · exact .inl rfl
theorem Dec.ones {fs : List cY} {code : List bZ} (F : Fit fs code) : ∀ (l : List Nat) (s : Hs),Dec s (l.foldl (xD fs code) s)
  | [],_=>.inl rfl
  | t::r,s=>(Dec.one F s t).trans (Dec.ones F r _)
theorem Dec.pass {fs : List cY} {code : List bZ} (F : Fit fs code) (s : List Int) : Dec (s,false) (pO fs code s):=Dec.ones F _ _
theorem aLZ {l : Int} {s : Hs} {t : Int} (h : s.1[0]? = some 0) : (qR l s t).1[0]? = some 0:=by
  unfold qR
  split
  · rename_i hc
    rw [List.getElem?_set]
    split
    · rename_i h0
      rw [h0] at hc
      rw [h] at hc
      simp at hc
    · exact h
  · exact h
theorem aGy {l : Int} : ∀ (ts : List Int) (s : Hs),s.1[0]? = some 0→(ts.foldl (qR l) s).1[0]? = some 0
  | [],_,h=>h
  | t::r,s,h=>aGy r _ (aLZ h)
theorem aL0 {fs : List cY} {code : List bZ} {s : Hs} (pc : Nat) (h : s.1[0]? = some 0) : (xD fs code s pc).1[0]? = some 0:=by
  unfold xD
  split
  · split
    · exact aGy _ _ h
    · exact h
  · exact h
theorem aCU {fs : List cY} {code : List bZ} : ∀ (l : List Nat) (s : Hs),s.1[0]? = some 0→(l.foldl (xD fs code) s).1[0]? = some 0
  | [],_,h=>h
  | t::r,s,h=>aCU r _ (aL0 t h)
theorem aIB {fs : List cY} {code : List bZ} : ∀ (n : Nat) (s : List Int),s[0]? = some 0→(aCa fs code n s)[0]? = some 0
  | 0,_,h=>h
  | n+1,s,h=>by
    unfold aCa
    split
    · exact aIB n _ (aCU _ _ h)
    · exact aCU _ _ h
theorem aKo {fs : List cY} {code : List bZ} (F : Fit fs code) {m : Nat} : ∀ (n : Nat) (s : List Int),xE m s→xE m (aCa fs code n s)
  | 0,_,h=>h
  | n+1,s,h=>by
    unfold aCa
    split
    · exact aKo F n _ (h.pass F)
    · exact h.pass F
theorem vW {fs : List cY} {code : List bZ} (F : Fit fs code) : xE code.length (jO fs code):=aKo F _ _ xE.start
theorem aIC {fs : List cY} {code : List bZ} (F : Fit fs code) : (jO fs code)[0]? = some 0:=by
  refine aIB _ _ ?_
  have:=F.n1
  rw [aHp,List.getElem?_set_self (by rw [List.length_replicate];omega)]
theorem aD1 {s : List Int} {i : Nat} (h : i<s.length) : s[i]=s[i]?.getD 0:=by rw [List.getElem?_eq_getElem h];rfl
theorem yS {fs : List cY} {code : List bZ} (F : Fit fs code) {x : bZ} (hx : x∈code) {pc : Nat} (hp : pc<code.length) : ∀ t∈fO x pc,0≤t∧t≤code.length:=by
  intro t ht
  unfold fO at ht
  rcases List.mem_append.1 ht with h | h
  · split at h
    · simp only [List.mem_singleton] at h;omega
    · cases h
  · split at h
    · rename_i hj
      simp only [List.mem_singleton] at h
      have:=F.j x hx hj
      omega
    · cases h
theorem aKp {l : Int} {s : Hs} {t : Int} (h1 : t<s.1.length) (h2 : s.1[t.toNat]?.getD 0<0) : qR l s t=(s.1.set t.toNat l,true):=if_pos ⟨h1,h2⟩
theorem aHq {l : Int} {s : Hs} {t : Int} (h : ¬ (t<s.1.length∧s.1[t.toNat]?.getD 0<0)) : qR l s t=s:=if_neg h
section
variable {fs : List cY} {code : List bZ} {T : PV} (F : Fit fs code)
include F
theorem aLa {P : R→Prop} {pc : Nat} (hpc : pc<code.length) {left : Int} {ts : List Int} (hts : ∀ t∈ts,0≤t∧t≤code.length) (hn : ts.length≤10) {s : Hs} (hs : s.1.length=code.length)
    (h : Ok P (dJ (.lst (code.map bZ.pv)) (.bool (ts.foldl (qR left) s).2) (.int .i64 ((pc : Int)+1)) T (.lst (fs.map cY.pv)) (dG (ts.foldl (qR left) s).1))) :
    Ok P (eB (.lst (code.map bZ.pv)) (.bool s.2) (.int .i64 pc) (.int .i64 left) (dG ts) (.int .i64 0) T (.lst (fs.map cY.pv)) (dG s.1)):=by
  have hn2:=F.n2
  refine aCT (n:=ts.length) (F:=fun i (q : Hs)=>eB (.lst (code.map bZ.pv)) (.bool q.2) (.int .i64 pc) (.int .i64 left) (dG ts) (.int .i64 i) T (.lst (fs.map cY.pv)) (dG q.1))
    (fun i q=>q.1.length=code.length∧(ts.drop i).foldl (qR left) q=ts.foldl (qR left) s) ?_ ?_ 0 s (by omega) ⟨hs,by rw [List.drop_zero]⟩
  · rintro q ⟨hq,he⟩
    rw [List.drop_length] at he
    have he : q=ts.foldl (qR left) s:=he
    subst he
    rw [oB]
    exact eE (aJ (aC (fun h=>by omega) (fun _=>aO (by omega) h)))
  · rintro i q hi ⟨hq,he⟩ ih
    have ht:=hts ts[i] (List.getElem_mem _)
    rw [List.drop_eq_getElem_cons hi,List.foldl_cons] at he
    have ih:=fun s'=>ih s'
    rw [oB]
    refine eE (aJ (aC (fun _=>?_) (fun h=>by omega)))
    refine dK hi (aG (aJ (aC (fun h1=>?_) (fun h1=>?_))))
    · refine dK hi (gH (by omega) (by omega) (pN (by omega) (by omega) (fun v hv=>?_)))
      refine aJ (aC (fun h2=>?_) (fun h2=>?_))
      · rw [wV]
        refine dK hi (gH (by omega) (by omega) ?_)
        obtain ⟨t,et⟩:=Int.eq_ofNat_of_zero_le ht.1
        rw [et]
        refine tD (by omega) (aO (by omega) ?_)
        refine ih (q.1.set t left,true) ⟨by simpa using hq,?_⟩
        rw [aKp (by omega) (by rw [hv];exact h2),et] at he
        exact he
      · refine aO (by omega) (ih q ⟨hq,?_⟩)
        rw [aHq (by rw [hv];simp only [Option.getD_some];omega)] at he
        exact he
    · refine aO (by omega) (ih q ⟨hq,?_⟩)
      rw [aHq (by omega)] at he
      exact he
theorem aFe {P : R→Prop} {s : List Int} (hs : xE code.length s)
    (h : Ok P (iD (.lst (code.map bZ.pv)) (.bool (pO fs code s).2) T (.lst (fs.map cY.pv)) (dG (pO fs code s).1))) :
    Ok P (dJ (.lst (code.map bZ.pv)) (.bool false) (.int .i64 0) T (.lst (fs.map cY.pv)) (dG s)):=by
  have hn2:=F.n2
  have hnf:=F.nf
  refine aCT (n:=code.length) (F:=fun i (q : Hs)=>dJ (.lst (code.map bZ.pv)) (.bool q.2) (.int .i64 i) T (.lst (fs.map cY.pv)) (dG q.1))
    (fun i q=>xE code.length q.1∧(List.range' i (code.length - i)).foldl (xD fs code) q=pO fs code s) ?_ ?_ 0 (s,false) (by omega) ⟨hs,rfl⟩
  · rintro q ⟨hq,he⟩
    rw [Nat.sub_self] at he
    have he : q=pO fs code s:=he
    subst he
    rw [oA]
    exact aG (aJ (aC (fun h=>by omega) (fun _=>h)))
  · rintro i q hi ⟨hq,he⟩ ih
    have e1 : code.length - i=(code.length - (i+1))+1:=by omega
    rw [e1,List.range'_succ,List.foldl_cons] at he
    have hx : code[i]? = some code[i]:=List.getElem?_eq_getElem hi
    have hu:=F.u code[i] (List.getElem_mem _)
    have hil : i<q.1.length:=by rw [hq.1];exact hi
    have hv:=hq.at i
    have e2 : q.1[i]=q.1[i]?.getD 0:=aD1 hil
    have hone:=hq.one F i
    have hgo:=ih (xD fs code q i) ⟨hone,he⟩
    have eo : xD fs code q i=if can fs code[i] (q.1[i]?.getD 0) then (fO code[i] i).foldl (qR (gY fs code[i] (q.1[i]?.getD 0))) q else q:=by
      conv=>lhs;unfold xD
      rw [hx]
    generalize hw : q.1[i]?.getD 0=w at *
    rw [oA]
    refine aG (aJ (aC (fun _=>?_) (fun h=>by omega)))
    refine aV hi (fun _=>rfl) (aH (aGu (T:=T) (by omega)) (fun r hr=>?_))
    subst hr
    refine aQ rfl (aQ rfl ?_)
    refine gH (by omega) (by omega) (dK hil (bG (by omega) (aO (by omega) (gH (by omega) (by omega) (dK hil ?_)))))
    rw [e2]
    refine aJ (aC (fun h1=>?_) (fun h1=>?_))
    · have hc : can fs code[i] w=false:=by simp only [can];rw [decide_eq_false (by omega)];rfl
      rw [hc,if_neg (by simp)] at eo
      rw [eo] at hgo
      exact aO (by omega) hgo
    refine cP (aC (fun h2=>?_) (fun h2=>?_))
    · have hc : can fs code[i] w=false:=by simp only [can];rw [decide_eq_false (p:=gY fs code[i] w≤16) (by unfold gY;omega),Bool.and_false]
      rw [hc,if_neg (by simp)] at eo
      rw [eo] at hgo
      exact aO (by omega) hgo
    · have hc : can fs code[i] w=true:=by simp only [can];rw [decide_eq_true (by omega),decide_eq_true (p:=gY fs code[i] w≤16) (by unfold gY;omega)];rfl
      rw [hc,if_pos rfl] at eo
      rw [eo] at hgo
      refine aV hi (fun _=>rfl) (aH (aGw (by omega)) (fun r hr=>?_))
      subst hr
      exact aLa F hi (yS F (List.getElem_mem _) hi) (by unfold fO;repeat' split<;>simp) hq.1 hgo
theorem aLb : ∀ (j : Nat) (s : List Int),nn s≤j→xE code.length s→Ok (fun r=>r = [dG (aCa fs code (j+1) s)]) (iD (.lst (code.map bZ.pv)) (.bool true) T (.lst (fs.map cY.pv)) (dG s)):=by
  intro j
  induction j with
  | zero=>
    intro s hs hg
    rw [iI]
    refine aX (aFe F hg ?_)
    rcases Dec.pass F s with h | ⟨h,h2⟩
    · unfold aCa
      rw [h,iI]
      exact aW (aB rfl)
    · have h3 : nn (pO fs code s).1<nn s:=h2
      omega
  | succ j ih=>
    intro s hs hg
    rw [iI]
    refine aX (aFe F hg ?_)
    rcases Dec.pass F s with h | ⟨h,h2⟩
    · unfold aCa
      rw [h,iI]
      exact aW (aB rfl)
    · rw [aCa,h,if_pos rfl]
      exact ih _ (by have h3 : nn (pO fs code s).1<nn s:=h2;omega) (hg.pass F)
end
section
variable {fs : List cY} {code : List bZ} {T : PV} (F : Fit fs code)
include F
theorem aID {f : Nat} (hf : f<fs.length) (hc : fs[f].code=code) : Ok (fun r=>r = [dG (jO fs code)]) (rK (.agg [T,.lst (fs.map cY.pv)]) (.int .i64 f)):=by
  have hn2:=F.n2
  have hn1:=F.n1
  rw [aBV]
  refine aD rfl (aA rfl (aA rfl (aV hf (fun _=>rfl) (aA (y:=.lst (code.map bZ.pv)) (by rw [← hc];rfl) ?_))))
  have key:=eH (n:=code.length) (P:=fun _ r=>r = [dG (jO fs code)])
    (F:=fun i=>kF (.lst (code.map bZ.pv)) (.int .i64 i) T (.lst (fs.map cY.pv)) (dG (List.replicate i (-1)))) ?_ ?_ 0 (by omega)
  · exact key
  · rw [pG]
    refine aG (aJ (aC (fun h=>by omega) (fun _=>?_)))
    refine gH (by omega) (by rw [List.length_replicate];omega) (tD (i:=0) (by rw [List.length_replicate];omega) ?_)
    exact aLb F code.length _ (by have:=(xE.start (n:=code.length)).1;unfold nn;exact Nat.le_trans List.countP_le_length (by omega)) xE.start
  · intro i hi ih
    rw [pG]
    refine aG (aJ (aC (fun h=>?_) (fun h=>by omega)))
    refine pM (ys:=[-1]) (by rw [List.length_replicate];simp only [List.length_cons,List.length_nil];omega) (aO (by omega) ?_)
    rw [← List.replicate_succ']
    exact ih
end
section
variable {P : R → Prop} {k : PV → Option R}
theorem zP {m n : Nat} {kk : IntKind} (h : n≤m) : PV.bound m (.int kk (n : Int))=some n:=by
  simp only [PV.bound]
  rw [if_pos (by omega),Int.toNat_natCast]
theorem aIE {xs ys : List PV} {lo hi : Nat} {k1 k2 : IntKind} (h1 : lo≤hi) (h2 : hi≤xs.length) (h3 : xs.length≤1000000000) (h : Ok P (k (.int .i64 (min (hi - lo) ys.length : Nat)))) :
    Ok P (bd (PV.ncopy (.lst xs) (.int k1 (lo : Int)) (.int k2 (hi : Int)) (.lst ys)) k):=
  cV _ (by
    simp only [PV.ncopy]
    rw [zP (by omega),zP (by omega)]
    simp only [PV.elems]
    rw [if_pos ⟨h1,h2⟩]) h
theorem aGz {s : Nat} {g : Bool} {xs ys : List PV} {lo hi : Nat} {k1 k2 : IntKind} (h1 : lo≤hi) (h2 : hi≤xs.length) (h3 : xs.length≤1000000000) (he : ∀ y∈ys,y.isEl s g=true)
    (h : Ok P (k (.lst (xs.take lo++ys.take (hi - lo)++xs.drop (lo+min (hi - lo) ys.length))))) :
    Ok P (bd (PV.copyIn s g (.lst xs) (.int k1 (lo : Int)) (.int k2 (hi : Int)) (.lst ys)) k):=
  cV _ (by
    simp only [PV.copyIn]
    rw [zP (by omega),zP (by omega)]
    simp only [PV.elems]
    rw [if_pos ⟨h1,h2,List.all_eq_true.2 he⟩]) h
theorem aIF {e n : Nat} {z : PV} {kk : IntKind} (h1 : n*e≤140737488355328) (h2 : n≤1000000000) (h : Ok P (k (.lst (List.replicate n z)))) : Ok P (bd (PV.zeros e z (.int kk (n : Int))) k):=
  cV _ (by
    simp only [PV.zeros]
    rw [if_pos ⟨by omega,by rw [Int.toNat_natCast];exact h1,by omega⟩,Int.toNat_natCast]) h
theorem aCb {l : List Int} : ∀ x∈l.map (PV.int .i64),x.isEl 1 false=true:=by
  intro x hx
  obtain ⟨a,_,rfl⟩:=List.mem_map.1 hx
  rfl
end
theorem aIG {n : Nat} (hn : n≤1000) : ∀ (j a : Nat),n - a≤j→1≤a→a≤n→
    Ok (fun r=>r = [dG (List.replicate n (-1))]) (fG (.int .i64 a) (dG (List.replicate a (-1)++List.replicate (n - a) 0))):=by
  intro j
  induction j with
  | zero=>
    intro a h1 h2 h3
    have : a=n:=by omega
    subst this
    rw [kJ]
    refine eE (aJ (aC (fun h=>?_) (fun _=>aB ?_)))
    · simp at h
    · simp
  | succ j ih=>
    intro a h1 h2 h3
    rw [kJ]
    have hl : (List.replicate a (-1 : Int)++List.replicate (n - a) 0).length=n:=by simp;omega
    have hlm : ((List.replicate a (-1 : Int)++List.replicate (n - a) 0).map (PV.int .i64)).length=n:=by rw [List.length_map,hl]
    have ht : (List.replicate a (-1 : Int)++List.replicate (n - a) 0).take a=List.replicate a (-1):=by
      rw [List.take_left' (by simp)]
    refine eE (aJ (aC (fun h=>?_) (fun h=>aB ?_)))
    · rw [hl] at h
      refine eE ?_
      rw [hl]
      refine vE (by omega) (by omega) (by omega) aCb ?_
      refine vE (by omega) (by omega) (by omega) aCb ?_
      refine vE (by omega) (by omega) (by omega) aCb ?_
      simp only [Int.toNat_natCast,Int.toNat_zero,List.drop_zero,← List.map_take]
      rw [ht]
      refine aIE (by omega) (by omega) (by omega) (aGz (by omega) (by omega) (by omega) aCb ?_)
      rw [← List.map_take,ht,← List.map_take,← List.map_drop,← List.map_append,← List.map_append,List.length_map,List.length_replicate]
      have e : List.replicate a (-1 : Int)++(List.replicate a (-1)).take (n - a)++(List.replicate a (-1)++List.replicate (n - a) 0).drop (a+min (n - a) a)=List.replicate (a+min (n - a) a) (-1)++List.replicate (n - (a+min (n - a) a)) 0:=by
        rw [List.take_replicate,List.replicate_append_replicate,List.drop_append,List.length_replicate,List.drop_eq_nil_of_le (by simp),List.nil_append,List.drop_replicate]
        congr 2
        omega
      rw [e]
      exact aO (by omega) (ih (a+min (n - a) a) (by omega) (by omega) (by omega))
    · have : a=n:=by rw [hl] at h;omega
      subst this
      simp
theorem aHr {P : R→Prop} {k : PV→Option R} {a : Int} (h1 : 0≤a∧a≤1000000) (h : Ok P (k (.int .u64 a))) : Ok P (bd (PV.bin .and (.int .u64 a) (.int .u64 4294967295)) k):=
  cV _ (by
    obtain ⟨n,rfl⟩:=Int.eq_ofNat_of_zero_le h1.1
    rw [iO (by simp) (by simp)]
    simp only [PV.intBin]
    have hb : IntKind.u64.bits=64:=rfl
    have e : (BitVec.ofInt 64 (n : Int)&&& BitVec.ofInt 64 4294967295).toNat=n:=by
      rw [BitVec.toNat_and,BitVec.ofInt_natCast,BitVec.toNat_ofNat]
      have : (BitVec.ofInt 64 4294967295).toNat=2 ^ 32 - 1:=by decide
      rw [this,Nat.and_two_pow_sub_one_eq_mod,Nat.mod_eq_of_lt (by omega),Nat.mod_eq_of_lt (by omega)]
    rw [hb,e,u64_in _ (by omega)]) h
theorem yT {P : R→Prop} {k : PV→Option R} {a : Int} (h1 : 0≤a∧a≤1000000) (h : Ok P (k (.int .u64 0))) : Ok P (bd (PV.bin .shr (.int .u64 a) (.int .u64 32)) k):=
  cV _ (by
    simp only [PV.bin]
    rw [if_neg (by omega)]
    have : a.fdiv (2 ^ min (Int.toNat 32) IntKind.u64.bits)=0:=by
      have e : (2 : Int) ^ min (Int.toNat 32) IntKind.u64.bits=4294967296:=by decide
      rw [e,Int.fdiv_eq_ediv_of_nonneg _ (by omega)]
      omega
    rw [this]) h
theorem yU {P : R→Prop} {k : PV→Option R} {a b : Int} (h1 : 0≤a*b∧a*b≤1000000) (h : Ok P (k (.int .u64 (a*b)))) : Ok P (bd (PV.bin .mul (.int .u64 a) (.int .u64 b)) k):=
  cV _ (by rw [iO (by simp) (by simp)];simp only [PV.intBin];rw [u64_in _ (by omega)]) h
theorem aCc {P : R→Prop} {k : PV→Option R} {a b : Int} (h1 : 0≤a+b∧a+b≤1000000) (h : Ok P (k (.int .u64 (a+b)))) : Ok P (bd (PV.bin .add (.int .u64 a) (.int .u64 b)) k):=
  cV _ (by rw [iO (by simp) (by simp)];simp only [PV.intBin];rw [u64_in _ (by omega)]) h
theorem aL1 {P : R→Prop} {k : PV→Option R} {a : Int} {kk : IntKind} (h1 : 0≤a∧a≤1000000) (h : Ok P (k (.int .u64 a))) : Ok P (bd (PV.conv .u64 (.int kk a)) k):=cV _ (by simp only [PV.conv];rw [u64_in _ (by omega)]) h
theorem aLc {n : Nat} (h1 : 1≤n) (hn : n≤1000) : Ok (fun r=>r = [dG (List.replicate n (-1))]) (kA (.lst [.int .i64 (-1)]) (.int .i64 n)):=by
  rw [tR]
  refine aJ (aC (fun h=>by omega) (fun _=>?_))
  rw [qM]
  refine cL (aL1 (by simp) (aL1 (by omega) ?_))
  refine aH (Q:=fun r=>r = [.tup [.int .u64 0,.int .u64 n]]) ?_ (fun r hr=>?_)
  · rw [aCN,aBj]
    simp only [List.length_cons,List.length_nil]
    refine aH (Q:=fun r=>r = [.tup [.int .u64 0,.int .u64 n]]) ?_ (fun r hr=>?_)
    · refine aHr (by omega) (yT (by omega) (aHr (by omega) (yT (by omega) ?_)))
      refine yU (by omega) (yU (by omega) (yT (by omega) (aCc (by omega) ?_)))
      refine aHr (by omega) (yT (by omega) (yU (by omega) (aCc (by omega) ?_)))
      refine yU (by omega) (aCc (by omega) (yT (by omega) (aCc (by omega) (yU (by omega) (aB ?_)))))
      simp
    · subst hr
      exact aQ rfl (aQ rfl (aB rfl))
  subst hr
  refine aQ rfl (aQ rfl (cP (aC (fun h=>by omega) (fun _=>cP (aC (fun h=>by omega) (fun _=>?_))))))
  rw [qN]
  refine hU (by omega) (aIF (by omega) (by omega) (dX (aC (fun _=>?_) (fun h=>by omega))))
  refine aIF (by omega) (by omega) (cL ?_)
  rw [List.length_replicate]
  refine aIE (lo:=0) (by omega) (by simp) (by simp;omega) (aGz (lo:=0) (by omega) (by simp) (by simp;omega) (aCb (l:=[-1])) ?_)
  have:=aIG hn n 1 (by omega) (by omega) h1
  have e : (min (n - 0) [PV.int .i64 (-1)].length : Nat)=1:=by simp;omega
  rw [e]
  have e2 : (List.replicate n (PV.int .i64 0)).take 0++[PV.int .i64 (-1)].take (n - 0)++(List.replicate n (PV.int .i64 0)).drop (0+1)=(List.replicate 1 (-1 : Int)++List.replicate (n - 1) 0).map (PV.int .i64):=by
    rw [List.take_zero,List.nil_append,List.take_of_length_le (by simp;omega),List.drop_replicate]
    simp
  rw [e2]
  exact this
section
variable {fs : List cY} {code : List bZ} {T : PV} (F : Fit fs code)
include F
theorem aGA {x : bZ} (hx : x∈code) {h : Int} (hh : -1≤h∧h≤16) : Ok (fun r=>r = [.tup [.int .i64 (gY fs x h),.bool (can fs x h)]]) (sQ (.agg [T,.lst (fs.map cY.pv)]) x.pv (.int .i64 h)):=by
  have hu:=F.u x hx
  have hnf:=F.nf
  rw [aEV]
  refine aD rfl (aA rfl (aA rfl (aD rfl (aA rfl (aA rfl ?_)))))
  refine aH (aGv (x:=x) (T:=T) (by omega)) (fun r hr=>?_)
  subst hr
  refine aQ rfl (aQ rfl (bG (by omega) (aO (by omega) (dX (aC (fun h1=>?_) (fun h1=>aB ?_))))))
  · refine dX (aB ?_)
    unfold can gY
    rw [decide_eq_true h1];rfl
  · unfold can gY
    rw [decide_eq_false h1];rfl
theorem aLd {P : R→Prop} {pc : Nat} (hpc : pc<code.length) {left : Int} {b : Bool} {ts : List Int} (hts : ∀ t∈ts,0≤t∧t≤code.length) (hn : ts.length≤10) {s : Hs} (hs : s.1.length=code.length)
    (h : Ok P (gN (.lst (code.map bZ.pv)) (.bool (if b then ts.foldl (qR left) s else s).2) (.lst (code.map bZ.pv)) (.int .i64 code.length) (.int .i64 ((pc : Int)+1)) T (.lst (fs.map cY.pv)) (dG (if b then ts.foldl (qR left) s else s).1))) :
    Ok P (eN (.lst (code.map bZ.pv)) (.bool s.2) (.int .i64 left) (.bool b) (.lst (code.map bZ.pv)) (.int .i64 code.length) (.int .i64 pc) (dG ts) (.int .i64 ts.length) (.int .i64 0) T (.lst (fs.map cY.pv)) (dG s.1)):=by
  have hn2:=F.n2
  refine aCT (n:=ts.length) (F:=fun i (q : Hs)=>eN (.lst (code.map bZ.pv)) (.bool q.2) (.int .i64 left) (.bool b) (.lst (code.map bZ.pv)) (.int .i64 code.length) (.int .i64 pc) (dG ts) (.int .i64 ts.length) (.int .i64 i) T (.lst (fs.map cY.pv)) (dG q.1))
    (fun i q=>q.1.length=code.length∧(if b then (ts.drop i).foldl (qR left) q else q)=(if b then ts.foldl (qR left) s else s)) ?_ ?_ 0 s (by omega) ⟨hs,by rw [List.drop_zero]⟩
  · rintro q ⟨hq,he⟩
    rw [List.drop_length] at he
    have he : q=(if b then ts.foldl (qR left) s else s):=by rw [← he];split<;>rfl
    subst he
    rw [rT]
    exact aJ (aC (fun h=>by omega) (fun _=>aO (by omega) h))
  · rintro i q hi ⟨hq,he⟩ ih
    have ht:=hts ts[i] (List.getElem_mem _)
    rw [List.drop_eq_getElem_cons hi,List.foldl_cons] at he
    rw [rT]
    refine aJ (aC (fun _=>?_) (fun h=>by omega))
    refine dK hi (bB (fun hb=>?_) (fun hb=>?_))
    · subst hb
      simp only [if_true] at he ih
      refine aG (aJ (aC (fun h1=>?_) (fun h1=>?_)))
      · refine gH (by omega) (by omega) (pN (by omega) (by omega) (fun v hv=>?_))
        refine aJ (aC (fun h2=>?_) (fun h2=>?_))
        · rw [aBa]
          refine gH (by omega) (by omega) ?_
          obtain ⟨t,et⟩:=Int.eq_ofNat_of_zero_le ht.1
          rw [et]
          refine tD (by omega) (aO (by omega) ?_)
          refine ih (q.1.set t left,true) ⟨by simpa using hq,?_⟩
          rw [aKp (by omega) (by rw [hv];exact h2),et] at he
          exact he
        · refine aO (by omega) (ih q ⟨hq,?_⟩)
          rw [aHq (by rw [hv];simp only [Option.getD_some];omega)] at he
          exact he
      · refine aO (by omega) (ih q ⟨hq,?_⟩)
        rw [aHq (by omega)] at he
        exact he
    · subst hb
      exact aO (by omega) (ih q ⟨hq,he⟩)
theorem aMK {x : bZ} (hx : x∈code) {h : Int} (hh : h<0) : can fs x h=false:=by
  have hu:=F.u x hx
  simp only [can]
  rw [decide_eq_false (by omega)];rfl
theorem aFf {P : R→Prop} {s : List Int} (hs : xE code.length s)
    (h : Ok P (kV (.lst (code.map bZ.pv)) (.bool (pO fs code s).2) T (.lst (fs.map cY.pv)) (dG (pO fs code s).1))) :
    Ok P (gN (.lst (code.map bZ.pv)) (.bool false) (.lst (code.map bZ.pv)) (.int .i64 code.length) (.int .i64 0) T (.lst (fs.map cY.pv)) (dG s)):=by
  have hn2:=F.n2
  have hnf:=F.nf
  refine aCT (n:=code.length) (F:=fun i (q : Hs)=>gN (.lst (code.map bZ.pv)) (.bool q.2) (.lst (code.map bZ.pv)) (.int .i64 code.length) (.int .i64 i) T (.lst (fs.map cY.pv)) (dG q.1))
    (fun i q=>xE code.length q.1∧(List.range' i (code.length - i)).foldl (xD fs code) q=pO fs code s) ?_ ?_ 0 (s,false) (by omega) ⟨hs,rfl⟩
  · rintro q ⟨hq,he⟩
    rw [Nat.sub_self] at he
    have he : q=pO fs code s:=he
    subst he
    rw [tB]
    exact aJ (aC (fun h=>by omega) (fun _=>h))
  · rintro i q hi ⟨hq,he⟩ ih
    have e1 : code.length - i=(code.length - (i+1))+1:=by omega
    rw [e1,List.range'_succ,List.foldl_cons] at he
    have hx : code[i]? = some code[i]:=List.getElem?_eq_getElem hi
    have hm : code[i]∈code:=List.getElem_mem _
    have hil : i<q.1.length:=by rw [hq.1];exact hi
    have hv:=hq.at i
    have e2 : q.1[i]=q.1[i]?.getD 0:=aD1 hil
    have hone:=hq.one F i
    have hgo:=ih (xD fs code q i) ⟨hone,he⟩
    have eo : xD fs code q i=if can fs code[i] (q.1[i]?.getD 0) then (fO code[i] i).foldl (qR (gY fs code[i] (q.1[i]?.getD 0))) q else q:=by
      conv=>lhs;unfold xD
      rw [hx]
    generalize hw : q.1[i]?.getD 0=w at *
    rw [tB]
    refine aJ (aC (fun _=>?_) (fun h=>by omega))
    refine aV hi (fun _=>rfl) (aD rfl (aA rfl (aA rfl ?_)))
    refine gH (by omega) (by omega) (dK hil ?_)
    rw [e2]
    refine aJ (aC (fun h1=>?_) (fun h1=>?_))
    · rw [aMK F hm h1,if_neg (by simp)] at eo
      rw [eo] at hgo
      exact aO (by omega) hgo
    refine gH (by omega) (by omega) (dK hil ?_)
    rw [e2]
    refine aH (aGA (T:=T) F hm hv) (fun r hr=>?_)
    subst hr
    refine aQ rfl (aQ rfl (aH (aGx (x:=code[i]) (by omega)) (fun r hr=>?_)))
    subst hr
    refine eE ?_
    refine aLd F hi (yS F hm hi) (by unfold fO;repeat' split<;>simp) hq.1 ?_
    rw [← eo]
    exact hgo
theorem aLe : ∀ (j : Nat) (s : List Int),nn s≤j→xE code.length s→Ok (fun r=>r = [dG (aCa fs code (j+1) s)]) (kV (.lst (code.map bZ.pv)) (.bool true) T (.lst (fs.map cY.pv)) (dG s)):=by
  intro j
  induction j with
  | zero=>
    intro s hs hg
    rw [kI]
    refine aX (aG (aFf F hg ?_))
    rcases Dec.pass F s with h | ⟨h,h2⟩
    · unfold aCa
      rw [h,kI]
      exact aW (aB rfl)
    · have h3 : nn (pO fs code s).1<nn s:=h2
      omega
  | succ j ih=>
    intro s hs hg
    rw [kI]
    refine aX (aG (aFf F hg ?_))
    rcases Dec.pass F s with h | ⟨h,h2⟩
    · unfold aCa
      rw [h,kI]
      exact aW (aB rfl)
    · rw [aCa,h,if_pos rfl]
      exact ih _ (by have h3 : nn (pO fs code s).1<nn s:=h2;omega) (hg.pass F)
theorem aLf (l : List Int) : PV.flatO (.own 1 8 false []) (dG l)=true:=by
  clear F
  show PV.flatEs false [] (l.map (PV.int .i64))=true
  induction l with
  | nil=>simp [PV.flatEs]
  | cons x r ih=>simp [PV.flatEs,PV.flatE,PV.flat,ih]
theorem yV {f : Nat} (hf : f<fs.length) (hc : fs[f].code=code) : Ok (fun r=>r = [dG (jO fs code)]) (sP (.agg [T,.lst (fs.map cY.pv)]) (.int .i64 f)):=by
  have hn2:=F.n2
  have hn1:=F.n1
  rw [aEU]
  refine aD rfl (aA rfl (aA rfl (aV hf (fun _=>rfl) (aA (y:=.lst (code.map bZ.pv)) (by rw [← hc];rfl) (aG ?_)))))
  refine aH (aLc hn1 (by omega)) (fun r hr=>?_)
  subst hr
  refine fC (aLf F _) (gH (by omega) (by rw [List.length_replicate];omega) (tD (i:=0) (by rw [List.length_replicate];omega) ?_))
  exact aLe F code.length _ (by have:=(xE.start (n:=code.length)).1;unfold nn;exact Nat.le_trans List.countP_le_length (by omega)) xE.start
end
theorem eQ.okB_fit {m : eQ} (h : m.okB=true) : 1≤m.funcs.length∧m.funcs.length≤12∧∀ f∈m.funcs,Fit m.funcs f.code∧0≤f.p∧f.p≤6∧f.p≤f.lc∧f.lc≤12:=by
  simp only [eQ.okB,Bool.and_eq_true,bK,decide_eq_true_eq,List.all_eq_true,rY] at h
  obtain ⟨⟨h1,h2⟩,_,_,h3⟩:=h
  have hp : ∀ i : Int,0≤eJ m.funcs i∧eJ m.funcs i≤6:=by
    intro i
    unfold eJ
    cases hx : m.funcs[i.toNat]? with
    | none=>simp
    | some f=>exact (h3 f (List.mem_of_getElem? hx)).1
  refine ⟨by omega,by omega,fun f hf=>?_⟩
  obtain ⟨p1,p2,p3,p4⟩:=h3 f hf
  refine ⟨⟨by omega,by omega,by omega,fun x hx=>?_,fun x hx hj=>?_⟩,p1.1,p1.2,p2.1,p2.2⟩
  · have:=hp x.a
    unfold bA
    repeat' split
    all_goals (simp only;omega)
  · have:=p4 x hx
    unfold cB at this
    rcases hj with hj | hj | hj<;>simp [hj,kM] at this<;>omega
structure cF where
  f : Int
  pc : Int
  loc : List cO
  stk : List cO
def aS (l : List cO) : PV:=.lst (l.map cO.pv)
def cF.pv (f : cF) : PV:=.agg [.int .i64 f.f,.int .i64 f.pc,aS f.loc,aS f.stk]
def bL (r : List cO) : PV:=.agg [aS r]
theorem oZ {l : List cO} : ∀ x∈l.map cO.pv,x.isEl 3 true=true:=by
  intro x hx
  obtain ⟨a,_,rfl⟩:=List.mem_map.1 hx
  rfl
section
variable {P : R → Prop} {k : PV → Option R}
theorem bX {A cs : List PV} {s : Nat} {i : Int} (hi : i=A.length) (hs : cs.length=s) (h : Ok P (k (.agg cs))) : Ok P (bd (PV.at_ s true (.lst (A++[.agg cs])) (.int .i64 i)) k):=
  cV _ (by
    subst hi
    simp only [PV.at_]
    rw [if_pos (by omega),Int.toNat_natCast,List.getElem?_append_right (Nat.le_refl _),Nat.sub_self]
    simp only [List.getElem?_cons_zero]
    rw [if_pos (by simp [PV.isEl,hs])]) h
theorem cH {A cs : List PV} {s off : Nat} {i : Int} {v : PV} (hi : i=A.length) (hs : cs.length=s) (ho : off<s) (hv : v.isEl 1 false=true) (h : Ok P (k (.lst (A++[.agg (cs.set off v)])))) :
    Ok P (bd (PV.setCell s (.lst (A++[.agg cs])) (.int .i64 i) off v) k):=by
  subst hi
  refine fS (by omega) (cs:=cs) (by rw [Int.toNat_natCast,List.getElem?_append_right (Nat.le_refl _),Nat.sub_self];rfl) hs ho hv ?_
  rw [Int.toNat_natCast,List.set_append_right _ _ (Nat.le_refl _),Nat.sub_self]
  exact h
theorem mX {l : List cO} {i : Int} (h0 : 0≤i) (h1 : i<l.length) (h : ∀ v,l[i.toNat]? = some v→Ok P (k v.pv)) : Ok P (bd (PV.at_ 3 true (aS l) (.int .i64 i)) k):=by
  refine rI h0 (by rw [List.length_map];exact h1) oZ (fun x _ hx=>?_)
  rw [List.getElem?_map] at hx
  cases hl : l[i.toNat]? with
  | none=>rw [hl] at hx;cases hx
  | some v=>rw [hl] at hx;cases hx;exact h v hl
theorem bU {l : List cO} (h : Ok P (k (.int .i64 l.length))) : Ok P (bd (PV.len (aS l)) k):=aG h
theorem eF {l : List cO} {i : Int} (h0 : 0≤i) (h1 : i<l.length) (h : Ok P (k (aS l))) : Ok P (bd (PV.inb (aS l) (.int .i64 i)) k):=cQ h0 (by rw [List.length_map];exact h1) h
theorem gI {l : List cO} {m n : Int} (h0 : 0≤m) (h1 : m≤n) (h2 : n≤l.length) (h : Ok P (k (aS ((l.take n.toNat).drop m.toNat)))) : Ok P (bd (PV.cut 3 true (aS l) (.int .i64 m) (.int .i64 n)) k):=by
  refine vE h0 h1 (by rw [List.length_map];exact h2) oZ ?_
  rw [← List.map_take,← List.map_drop]
  exact h
theorem iJ {l m : List cO} (hb : l.length+m.length≤1000000000) (h : Ok P (k (aS (l++m)))) : Ok P (bd (PV.cat 3 32 true (aS l) (.lst (m.map cO.pv))) k):=by
  refine fB (by simp only [List.length_map];omega) oZ ?_
  rw [← List.map_append]
  exact h
theorem nE {l : List cO} {i : Int} {v : cO} (h0 : 0≤i) (h1 : i<l.length) (h : Ok P (k (aS (l.set i.toNat v)))) : Ok P (bd (PV.setAt 3 true (aS l) (.int .i64 i) v.pv) k):=by
  refine aIp h0 (by rw [List.length_map];exact h1) rfl ?_
  rw [← List.map_set]
  exact h
theorem tE {n : Int} (h0 : 0≤n) (h1 : n≤1000000000) (h : Ok P (k (aS (List.replicate n.toNat cX)))) : Ok P (bd (PV.zeros 32 (.agg [.int .i64 0,.int .i64 0,.str (bs [])]) (.int .i64 n)) k):=by
  obtain ⟨m,rfl⟩:=Int.eq_ofNat_of_zero_le h0
  refine cV _ ?_ h
  simp only [PV.zeros]
  rw [if_pos ⟨by omega,by omega,by omega⟩,Int.toNat_natCast,aS,List.map_replicate]
  rfl
end
section
variable {P : R → Prop} {k : R → Option R} {a0 a1 a2 a3 a4 a5 a6 a7 a8 a9 H O : PV} {A : List PV}
theorem yW {x : PV} (hA : A.length≤1000000) (h : Ok P (k [.int .i64 A.length,a0,a1,a2,a3,a4,a5,a6,a7,a8,a9,.lst (A++[x]),H,O])) :
    Ok P (bd (dU a0 a1 a2 a3 a4 a5 a6 a7 a8 a9 (.lst (A++[x])) H O) k):=by
  refine aH (Q:=fun r=>r = [.int .i64 A.length,a0,a1,a2,a3,a4,a5,a6,a7,a8,a9,.lst (A++[x]),H,O]) ?_ (fun r hr=>by rw [hr];exact h)
  rw [yN]
  have e : ((A++[x]).length : Int) - 1=A.length:=by simp
  refine cL (bG (by simp;omega) ?_)
  rw [e]
  exact cQ (by omega) (by simp;omega) (aB rfl)
theorem fT {f pc : Int} {loc s : List cO} {v : cO} (hA : A.length≤1000000) (hs : s.length≤1000000)
    (h : Ok P (k [v.pv,a0,a1,a2,a3,a4,a5,a6,a7,a8,a9,.lst (A++[cF.pv ⟨f,pc,loc,s⟩]),H,O])) :
    Ok P (bd (aY a0 a1 a2 a3 a4 a5 a6 a7 a8 a9 (.lst (A++[cF.pv ⟨f,pc,loc,s++[v]⟩])) H O) k):=by
  refine aH (Q:=fun r=>r = [v.pv,a0,a1,a2,a3,a4,a5,a6,a7,a8,a9,.lst (A++[cF.pv ⟨f,pc,loc,s⟩]),H,O]) ?_ (fun r hr=>by rw [hr];exact h)
  rw [aBo]
  have e : ((s++[v]).length : Int) - 1=s.length:=by simp
  have hl : (s++[v]).length=s.length+1:=by simp
  have at3 : ∀ {P : R→Prop} {k : PV→Option R},Ok P (k (aS (s++[v])))→Ok P (bd (PV.at_ 4 true (.lst (A++[cF.pv ⟨f,pc,loc,s++[v]⟩])) (.int .i64 A.length)) fun x=>bd (PV.cell x 3) k):=
    fun h=>bX rfl rfl (aA rfl h)
  have at_ : ∀ {P : R→Prop} {k : PV→Option R},(∀ x,Ok P (k x))→Ok P (bd (PV.at_ 4 true (.lst (A++[cF.pv ⟨f,pc,loc,s++[v]⟩])) (.int .i64 A.length)) k):=
    fun h=>bX rfl rfl (h _)
  have el : (s++[v])[(s.length : Int).toNat]? = some v:=by rw [Int.toNat_natCast,List.getElem?_append_right (Nat.le_refl _),Nat.sub_self];rfl
  refine yW hA (at_ (fun _=>at_ (fun _=>at3 (bU (bG (by omega) ?_)))))
  rw [e]
  refine at3 (eF (by omega) (by omega) (at3 (mX (by omega) (by omega) (fun w hw=>?_))))
  rw [el] at hw
  cases hw
  refine aD rfl (aA rfl (aA rfl (aA rfl (at_ (fun _=>at_ (fun _=>at3 (bU (bG (by omega) ?_))))))))
  rw [e]
  refine at3 (gI (by omega) (by omega) (by omega) (at3 (gI (by omega) (by omega) (by omega) (at3 ?_))))
  refine cH rfl rfl (by omega) rfl (cH rfl rfl (by omega) rfl (aB ?_))
  simp only [Int.toNat_natCast,Int.toNat_zero,List.drop_zero,List.take_left']
  rfl
theorem aD2 {f pc : Int} {loc s : List cO} {v : cO} (hA : A.length≤1000000) (hs : s.length≤1000000)
    (h : Ok P (k [a0,a1,a2,a3,a4,a5,a6,a7,a8,a9,.lst (A++[cF.pv ⟨f,pc,loc,s++[v]⟩]),H,O])) :
    Ok P (bd (gK v.pv a0 a1 a2 a3 a4 a5 a6 a7 a8 a9 (.lst (A++[cF.pv ⟨f,pc,loc,s⟩])) H O) k):=by
  refine aH (Q:=fun r=>r = [a0,a1,a2,a3,a4,a5,a6,a7,a8,a9,.lst (A++[cF.pv ⟨f,pc,loc,s++[v]⟩]),H,O]) ?_ (fun r hr=>by rw [hr];exact h)
  rw [aAe]
  refine aD rfl (aA rfl (aA rfl (aA rfl (yW hA ?_))))
  refine bX rfl rfl (bX rfl rfl (aA rfl (bX rfl rfl (aA rfl ?_))))
  refine cH rfl rfl (by omega) rfl (iJ (m:=[v]) (by simp;omega) (cH rfl rfl (by omega) rfl (aB rfl)))
theorem gT {f pc : Int} {loc s : List cO} {vk vn : Int} {vs : ByteArray} (hA : A.length≤1000000) (hs : s.length≤1000000)
    (h : Ok P (k [a0,a1,a2,a3,a4,a5,a6,a7,a8,a9,.lst (A++[cF.pv ⟨f,pc,loc,s++[⟨vk,vn,vs⟩]⟩]),H,O])) :
    Ok P (bd (bF (.int .i64 vk) (.int .i64 vn) (.str vs) a0 a1 a2 a3 a4 a5 a6 a7 a8 a9 (.lst (A++[cF.pv ⟨f,pc,loc,s⟩])) H O) k):=by
  refine aH (Q:=fun r=>r = [a0,a1,a2,a3,a4,a5,a6,a7,a8,a9,.lst (A++[cF.pv ⟨f,pc,loc,s++[⟨vk,vn,vs⟩]⟩]),H,O]) ?_ (fun r hr=>by rw [hr];exact h)
  rw [vP]
  refine yW hA ?_
  refine bX rfl rfl (bX rfl rfl (aA rfl (bX rfl rfl (aA rfl ?_))))
  refine cH rfl rfl (by omega) rfl (iJ (m:=[⟨vk,vn,vs⟩]) (by simp;omega) (cH rfl rfl (by omega) rfl (aB rfl)))
end
inductive aF3 where
  | trap (c : Int)
  | next (fr : cF) (hp : List (List cO)) (made : Int) (out : List ByteArray)
  | call (fr : cF) (g : cF)
  | ret (v : cO)
def gB (v : cO) (hp : List (List cO)) : ByteArray:=
  if v.k=0 then bs [110,105,108] else if v.k=1 then gX v.n else if v.k=2 then (if v.n=1 then bs [116,114,117,101] else bs [102,97,108,115,101]) else if v.k=3 then v.s
  else if v.k=5 then bs [102,117,110]++gX v.n
  else if v.k=4 then bs [123]++gX ((hp[v.n.toNat]?.getD []).length)++bs [125] else bs []
def uM (fs : List cY) (i : Int) : Int:=(fs[i.toNat]?.map cY.lc).getD 0
def pU (fs : List cY) (g : Int) (args : List cO) : cF:=⟨g,0,args++List.replicate ((uM fs g).toNat - args.length) cX,[]⟩
def dF (m : eQ) (fr : cF) (took : List cO) (depth : Nat) (hp : List (List cO)) (made : Int) (out : List ByteArray) (x : bZ) : aF3:=
  let a:=took.headD cX
  let b:=took.tail.headD cX
  let go : List cO→aF3:=fun l=>.next ⟨fr.f,fr.pc,fr.loc,fr.stk++l⟩ hp made out
  let rec_ : List cO:=hp[a.n.toNat]?.getD []
  if x.o=1 then go [qO x.a]
  else if x.o=2 then go [lB (decide (x.a=1))]
  else if x.o=3 then go [wS (m.texts[x.a.toNat]?.getD (bs []))]
  else if x.o=4 then go [cX]
  else if x.o=5 then go [aHo x.a]
  else if x.o=6 then go [fr.loc[x.a.toNat]?.getD cX]
  else if x.o=7 then .next ⟨fr.f,fr.pc,fr.loc.set x.a.toNat a,fr.stk⟩ hp made out
  else if x.o=8 then go [a,a]
  else if x.o=9 then go []
  else if x.o=10 then go [b,a]
  else if x.o≤15 then (if (nG x.o a b).2≠0 then .trap (nG x.o a b).2 else go [(nG x.o a b).1])
  else if x.o=16 then (if (uL a).2≠0 then .trap (uL a).2 else go [(uL a).1])
  else if x.o=17 then .next ⟨fr.f,x.a,fr.loc,fr.stk⟩ hp made out
  else if x.o≤19 then (if a.k≠2 then .trap 1 else if (decide (a.n=1)==decide (x.o=18))=true then .next ⟨fr.f,x.a,fr.loc,fr.stk⟩ hp made out else go [])
  else if x.o=20 then (if made=120 then .trap 7 else .next ⟨fr.f,fr.pc,fr.loc,fr.stk++[aK9 hp.length]⟩ (hp++[List.replicate x.a.toNat cX]) (made+1) out)
  else if x.o=21 then (if a.k≠4 then .trap 1 else if rec_.length≤x.a then .trap 4 else go [rec_[x.a.toNat]?.getD cX])
  else if x.o=22 then (if a.k≠4 then .trap 1 else if rec_.length≤x.a then .trap 4 else .next fr (hp.set a.n.toNat (rec_.set x.a.toNat b)) made out)
  else if x.o=23 then (if a.k≠5 then .trap 1 else if eJ m.funcs a.n≠x.a then .trap 5 else if depth=24 then .trap 6 else .call fr (pU m.funcs a.n took.tail))
  else if x.o=24 then (if depth=24 then .trap 6 else .call fr (pU m.funcs x.a took))
  else if x.o=25 then .ret a
  else if out.length=200 then .trap 8 else .next fr hp made (out++[gB a hp])
theorem aHs {v : cO} {hp : List (List cO)} {nf : Int} (hnf : nf≤1000) (hh : hp.length≤1000) (hr : ∀ r∈hp,r.length≤1000) (hv : bM nf hp.length v=true) :
    Ok (fun r=>r = [.str (gB v hp)]) (rN v.pv (.lst (hp.map bL))):=by
  have hn : -1000000000≤v.n∧v.n≤1000000000∧(v.k=4→0≤v.n∧v.n<hp.length)∧0≤v.k∧v.k≤5:=by
    unfold bM at hv
    repeat' split at hv
    all_goals first
      | (cases hv;done)
      | (simp only [cC,bK,Bool.and_eq_true,decide_eq_true_eq] at hv;omega)
  rw [aBX]
  refine aD rfl (aA rfl (aA rfl (aA rfl ?_)))
  refine aF (aC (fun h=>aB ?_) (fun h0=>aF (aC (fun h=>?_) (fun h1=>aF (aC (fun h=>?_) (fun h2=>aF (aC (fun h=>aB ?_) (fun h3=>aF (aC (fun h=>?_) (fun h5=>?_))))))))))
  · unfold gB;rw [if_pos h]
  · refine aH (yR (by omega)) (fun r hr=>?_)
    subst hr
    refine aB ?_
    unfold gB;rw [if_neg h0,if_pos h];rfl
  · refine aF (aC (fun h'=>aB ?_) (fun h'=>aB ?_))
    · unfold gB;rw [if_neg h0,if_neg h1,if_pos h,if_pos h']
    · unfold gB;rw [if_neg h0,if_neg h1,if_pos h,if_neg h']
  · unfold gB;rw [if_neg h0,if_neg h1,if_neg h2,if_pos h]
  · refine aH (yR (by omega)) (fun r hr=>?_)
    subst hr
    have:=qQ v.n
    refine mR (by have e : (bs [102,117,110]).size=3:=rfl
                  omega) (aB ?_)
    unfold gB;rw [if_neg h0,if_neg h1,if_neg h2,if_neg h3,if_pos h]
  · refine aF (aC (fun h4=>?_) (fun h4=>by omega))
    refine aG (bG (by omega) (fJ ?_))
    rw [show kM v.n 0 (hp.length - 1)=true from bK.2 (by omega)]
    refine aX ?_
    obtain ⟨i,hi⟩:=Int.eq_ofNat_of_zero_le (hn.2.2.1 h4).1
    have hil : i<hp.length:=by omega
    rw [hi]
    have hrl:=hr _ (List.getElem_mem hil)
    refine aV hil (fun _=>rfl) (aA rfl (bU ?_))
    refine aH (yR (by omega)) (fun r hr=>?_)
    subst hr
    have:=qQ ((hp[i].length : Nat) : Int)
    have e1 : (bs [123]).size=1:=rfl
    have e2 : (bs [125]).size=1:=rfl
    refine mR (by omega) (mR (by rw [ByteArray.size_append];omega) (aB ?_))
    unfold gB;rw [if_neg h0,if_neg h1,if_neg h2,if_neg h3,if_neg h5,if_pos h4,hi,Int.toNat_natCast,List.getElem?_eq_getElem hil]
    rfl
section
variable {a2 a3 a4 a5 a6 a7 a8 H O T : PV} {A : List PV} {fs : List cY}
theorem aIH {P : R→Prop} {g : Int} {loc : List cO} (hA : A.length≤1000) (h : P [T,.lst (fs.map cY.pv),a2,a3,a4,a5,a6,a7,a8,.int .i64 0,.lst (A++[cF.pv ⟨g,0,loc,[]⟩]),H,O]) :
    Ok P (iH (.int .i64 g) T (.lst (fs.map cY.pv)) a2 a3 a4 a5 a6 a7 a8 (.int .i64 0) (.lst A) H O (aS loc)):=by
  rw [uH]
  refine aU rfl (fB (by simp;omega) (fun x hx=>by simp only [List.mem_singleton] at hx;subst hx;rfl) (aB h))
theorem aML {P : R→Prop} {g f pc : Int} {under : Bool} {loc s s1 : List cO} (hA : A.length≤100) (hs : s.length≤100) (hu : (under=true∧∃ w,s=s1++[w])∨(under=false∧s=s1)) :
    ∀ (j : Nat) (args post pre : List cO),args.length=j→pre.length=j→j+post.length≤50→
    P [T,.lst (fs.map cY.pv),a2,a3,a4,a5,a6,a7,a8,.int .i64 0,.lst (A++[cF.pv ⟨f,pc,loc,s1⟩]++[cF.pv ⟨g,0,args++post,[]⟩]),H,O]→
    Ok P (iR (.int .i64 g) (.bool under) (.int .i64 ((j : Int) - 1)) T (.lst (fs.map cY.pv)) a2 a3 a4 a5 a6 a7 a8 (.int .i64 0) (.lst (A++[cF.pv ⟨f,pc,loc,s++args⟩])) H O (aS (pre++post))):=by
  intro j
  induction j with
  | zero=>
    intro args post pre h1 h2 h3 h
    rw [List.eq_nil_of_length_eq_zero h1,List.nil_append] at h
    rw [List.eq_nil_of_length_eq_zero h1,List.eq_nil_of_length_eq_zero h2,List.append_nil,List.nil_append,nV]
    refine dS (aC (fun h=>by omega) (fun _=>?_))
    rcases hu with ⟨rfl,w,rfl⟩ | ⟨rfl,rfl⟩
    · refine aX (fT (by omega) (by simp at hs;omega) ?_)
      exact aIH (by simp;omega) h
    · exact aW (aIH (by simp;omega) h)
  | succ j ih=>
    intro args post pre h1 h2 h3 h
    obtain ⟨args',v,rfl⟩ : ∃ l v,args=l++[v]:=⟨args.dropLast,args.getLast (fun e=>by rw [e] at h1;simp at h1),(List.dropLast_concat_getLast _).symm⟩
    obtain ⟨pre',u,rfl⟩ : ∃ l v,pre=l++[v]:=⟨pre.dropLast,pre.getLast (fun e=>by rw [e] at h2;simp at h2),(List.dropLast_concat_getLast _).symm⟩
    simp only [List.length_append,List.length_cons,List.length_nil,Nat.zero_add,Nat.add_right_cancel_iff] at h1 h2
    have ej : ((j+1 : Nat) : Int) - 1=j:=by omega
    rw [ej,nV,← List.append_assoc]
    refine dS (aC (fun _=>?_) (fun h=>by omega))
    refine fT (by omega) (by simp;omega) ?_
    have hlen : (pre'++[u]++post).length=j+1+post.length:=by simp;omega
    refine eF (by omega) (by omega) (nE (by omega) (by omega) (bG (by omega) ?_))
    have e : (pre'++[u]++post).set (j : Int).toNat v=pre'++(v::post):=by
      rw [Int.toNat_natCast,← h2,List.append_assoc,List.set_append_right _ _ (Nat.le_refl _),Nat.sub_self]
      rfl
    rw [e]
    refine ih args' (v::post) pre' h1 h2 (by simp;omega) ?_
    rw [show args'++v::post=args'++[v]++post by simp]
    exact h
theorem aII {P : R→Prop} {k : R→Option R} {g f pc : Int} {under : Bool} {loc s s1 args : List cO} (hF : fs.length≤1000) (hpar : ∀ f∈fs,0≤f.p∧f.p≤6∧f.p≤f.lc∧f.lc≤12) (hA : A.length≤23) (hs : s.length≤100)
    (hu : (under=true∧∃ w,s=s1++[w])∨(under=false∧s=s1)) (hg : 0≤g∧g<fs.length) (ha : args.length=eJ fs g)
    (h1 : A.length=23→Ok P (k [T,.lst (fs.map cY.pv),a2,a3,a4,a5,a6,a7,a8,.int .i64 6,.lst (A++[cF.pv ⟨f,pc,loc,s++args⟩]),H,O]))
    (h2 : A.length≠23→Ok P (k [T,.lst (fs.map cY.pv),a2,a3,a4,a5,a6,a7,a8,.int .i64 0,.lst (A++[cF.pv ⟨f,pc,loc,s1⟩]++[cF.pv (pU fs g args)]),H,O])) :
    Ok P (bd (lL (.int .i64 g) (.bool under) T (.lst (fs.map cY.pv)) a2 a3 a4 a5 a6 a7 a8 (.int .i64 0) (.lst (A++[cF.pv ⟨f,pc,loc,s++args⟩])) H O) k):=by
  obtain ⟨n,rfl⟩:=Int.eq_ofNat_of_zero_le hg.1
  have hn : n<fs.length:=by omega
  have hp:=hpar _ (List.getElem_mem hn)
  have ep : eJ fs (n : Int)=fs[n].p:=by simp [eJ,List.getElem?_eq_getElem hn]
  have el : uM fs (n : Int)=fs[n].lc:=by simp [uM,List.getElem?_eq_getElem hn]
  rw [ep] at ha
  have hl : ((A++[cF.pv ⟨f,pc,loc,s++args⟩]).length : Int)=A.length+1:=by simp
  refine aH (Q:=fun r=>(A.length=23∧r = [T,.lst (fs.map cY.pv),a2,a3,a4,a5,a6,a7,a8,.int .i64 6,.lst (A++[cF.pv ⟨f,pc,loc,s++args⟩]),H,O])∨
    (A.length≠23∧r = [T,.lst (fs.map cY.pv),a2,a3,a4,a5,a6,a7,a8,.int .i64 0,.lst (A++[cF.pv ⟨f,pc,loc,s1⟩]++[cF.pv (pU fs n args)]),H,O])) ?_ ?_
  · rw [aAf]
    refine aV hn (fun _=>rfl) (aD rfl (aA rfl (aA rfl (aA rfl (cL ?_)))))
    refine aF (aC (fun h=>aB (.inl ⟨by omega,rfl⟩)) (fun h=>?_))
    refine tE (by omega) (by omega) (dX (aC (fun _=>?_) (fun h=>by omega)))
    refine tE (by omega) (by omega) (bG (by omega) ?_)
    have e1 : fs[n].p - 1=((args.length : Int)) - 1:=by omega
    have e2 : List.replicate fs[n].lc.toNat cX=List.replicate args.length cX++List.replicate (fs[n].lc.toNat - args.length) cX:=by
      rw [List.replicate_append_replicate];congr 1;omega
    rw [e1,e2]
    refine aML (by omega) hs hu args.length args _ _ rfl (by simp) (by simp;omega) (.inr ⟨by omega,?_⟩)
    simp only [pU,el]
  · rintro r (⟨h,rfl⟩ | ⟨h,rfl⟩)
    · exact h1 h
    · exact h2 h
end
section
variable {P : R → Prop} {k : R → Option R}
theorem qS {a b : cO} {q : Int} (h : Ok P (k [.bool (decide (a.k=q)&&decide (b.k=q))])) : Ok P (bd (qY a.pv b.pv (.int .i64 q)) k):=by
  refine aH (Q:=fun r=>r = [.bool (decide (a.k=q)&&decide (b.k=q))]) ?_ (fun r hr=>by rw [hr];exact h)
  rw [aHi]
  refine aD rfl (aA rfl (aA rfl (aA rfl (aD rfl (aA rfl (aA rfl (aA rfl (aF ?_))))))))
  refine aC (fun h1=>aF (aB ?_)) (fun h1=>aB ?_)
  · rw [decide_eq_true h1];rfl
  · rw [decide_eq_false h1];rfl
theorem pA {n : Int} (h : Ok P (k [.bool (cC n)])) : Ok P (bd (kX (.int .i64 n)) k):=by
  refine aH (Q:=fun r=>r = [.bool (cC n)]) ?_ (fun r hr=>by rw [hr];exact h)
  rw [aAx]
  exact eW (aB rfl)
theorem aAz {n : Int} (h : Ok P (k [(qO n).pv])) : Ok P (bd (vK (.int .i64 n)) k):=by
  refine aH (Q:=fun r=>r = [(qO n).pv]) ?_ (fun r hr=>by rw [hr];exact h)
  rw [aFV]
  exact aU rfl (aB rfl)
theorem lC {c : Bool} (h : Ok P (k [(lB c).pv])) : Ok P (bd (kY (.bool c)) k):=by
  refine aH (Q:=fun r=>r = [(lB c).pv]) ?_ (fun r hr=>by rw [hr];exact h)
  rw [aE7]
  cases c
  · exact aW (aB rfl)
  · exact aX (aB rfl)
def aL2 (f : PV) (g : Int→Int→Int) : Prop:=∀ {a b : Int} {P : R→Prop} {k : R→Option R},cC a=true→cC b=true→Ok P (k [.int .i64 (g a b)])→Ok P (bd (PV.apply aM f [.int .i64 a,.int .i64 b]) k)
theorem aHt {a : Int} (h : cC a=true) : -1000000000≤a∧a≤1000000000:=bK.1 h
theorem pV {a b : cO} {o : Int} {f : PV} (hf : aL2 f (vT o)) (h : Ok P (k (opR (xC o a b)))) : Ok P (bd (nP a.pv b.pv f) k):=by
  refine aH (Q:=fun r=>r=opR (xC o a b)) ?_ (fun r hr=>by rw [hr];exact h)
  rw [aDR]
  unfold xC
  refine aD rfl (aA rfl (aA rfl (aA rfl (aD rfl (aA rfl (aA rfl (aA rfl (qS (bJ ?_)))))))))
  by_cases h1 : a.k=1∧b.k=1
  · rw [decide_eq_true h1.1,decide_eq_true h1.2,if_neg (by omega),if_neg (by omega)]
    refine aW (pA (bJ ?_))
    cases h2 : cC a.n with
    | false=>exact aX (aB (by simp [opR,cO.pv,cX]))
    | true=>
      refine aW (pA (bJ ?_))
      cases h3 : cC b.n with
      | false=>exact aX (aB (by simp [opR,cO.pv,cX]))
      | true=>
        refine aW (hf h2 h3 (pA (bJ ?_)))
        cases h4 : cC (vT o a.n b.n) with
        | false=>exact aX (aB (by simp [opR,cO.pv,cX,h4]))
        | true=>
          refine aW (hf h2 h3 (aAz ?_))
          exact aD rfl (aA rfl (aA rfl (aA rfl (aB (by simp [opR,cO.pv,qO,h4])))))
  · have h5 : (decide (a.k=1)&&decide (b.k=1))=false:=by
      cases h : (decide (a.k=1)&&decide (b.k=1))
      · rfl
      · simp only [Bool.and_eq_true,decide_eq_true_eq] at h;exact absurd h h1
    rw [h5]
    refine aX (aB ?_)
    by_cases h6 : a.k=1
    · rw [if_neg (by omega),if_pos (fun h7=>h1 ⟨h6,h7⟩)];rfl
    · rw [if_pos h6];rfl
theorem aHu {f : Nat} {o : Int} {g : PV→PV→Option R} (hg : ∀ x y,aM f [x,y]=g x y) (h : ∀ {a b : Int},cC a=true→cC b=true→Ok (fun r=>r = [.int .i64 (vT o a b)]) (g (.int .i64 a) (.int .i64 b))) : aL2 (.fn f []) (vT o):=
  fun ha hb hk=>pB (f:=f) (hg _ _) (h ha hb) (fun r hr=>by rw [hr];exact hk)
theorem aL3 {s : ByteArray} (h : Ok P (k [.bool false])) : Ok P (bd (lK (.str s)) k):=by
  refine aH (Q:=fun r=>r = [.bool false]) ?_ (fun r hr=>by rw [hr];exact h)
  rw [aAc]
  exact aGq (aB rfl)
theorem aJI {s t : ByteArray} (h : Ok P (k [.bool (PV.bytesLt s.toList t.toList)])) : Ok P (bd (pT (.str s) (.str t)) k):=by
  refine aH (Q:=fun r=>r = [.bool (PV.bytesLt s.toList t.toList)]) ?_ (fun r hr=>by rw [hr];exact h)
  rw [aBn]
  exact aL3 (aW (aKn (aB rfl)))
theorem aNn {f : Nat} (hg : ∀ x y,aM f [x,y]=vL x y) : aL2 (.fn f []) (vT 11):=aHu (g:=vL) hg (fun ha hb=>by
  have:=aHt ha;have:=aHt hb
  rw [aDS]
  exact aO (by omega) (aB rfl))
theorem aNo {f : Nat} (hg : ∀ x y,aM f [x,y]=vM x y) : aL2 (.fn f []) (vT 12):=aHu (g:=vM) hg (fun ha hb=>by
  have:=aHt ha;have:=aHt hb
  rw [aDT]
  exact bG (by omega) (aB rfl))
theorem aNp {f : Nat} (hg : ∀ x y,aM f [x,y]=vN x y) : aL2 (.fn f []) (vT 13):=aHu (g:=vN) hg (fun ha hb=>by
  have:=aLW ha hb
  rw [aDU]
  exact hH (by omega) (aB rfl))
theorem aL4 {a b : cO} (hs : a.s.size≤1000000∧b.s.size≤1000000) : Ok (fun r=>r=opR (nG 11 a b)) (aA3 a.pv b.pv):=by
  rw [aFX]
  refine aD rfl (aA rfl (aA rfl (aA rfl (aD rfl (aA rfl (aA rfl (aA rfl (qS ?_))))))))
  have e : nG 11 a b=(if a.k=3∧b.k=3 then (if (60 : Int)<a.s.size+b.s.size then (cX,3) else (wS (a.s++b.s),0)) else xC 11 a b):=rfl
  rw [e]
  by_cases h1 : a.k=3∧b.k=3
  · rw [if_pos h1,decide_eq_true h1.1,decide_eq_true h1.2]
    refine aX (dI (dI (aO (by omega) (cP (aC (fun h2=>aB ?_) (fun h2=>mR (by omega) (aU rfl (aB ?_))))))))
    · rw [if_pos h2];rfl
    · rw [if_neg h2];rfl
  · have h5 : (decide (a.k=3)&&decide (b.k=3))=false:=by
      cases h : (decide (a.k=3)&&decide (b.k=3))
      · rfl
      · simp only [Bool.and_eq_true,decide_eq_true_eq] at h;exact absurd h h1
    rw [if_neg h1,h5]
    refine aW (pV (aNn (fun _ _=>rfl)) (aQ rfl (aQ rfl (aD rfl (aA rfl (aA rfl (aA rfl (aB rfl))))))))
theorem aL5 {a b : cO} : Ok (fun r=>r=opR (nG 12 a b)) (aA4 a.pv b.pv):=by
  rw [aFY]
  exact aD rfl (aA rfl (aA rfl (aA rfl (aD rfl (aA rfl (aA rfl (aA rfl (pV (aNo (fun _ _=>rfl)) (aQ rfl (aQ rfl (aD rfl (aA rfl (aA rfl (aA rfl (aB rfl)))))))))))))))
theorem aL6 {a b : cO} : Ok (fun r=>r=opR (nG 13 a b)) (aA5 a.pv b.pv):=by
  rw [aFZ]
  exact aD rfl (aA rfl (aA rfl (aA rfl (aD rfl (aA rfl (aA rfl (aA rfl (pV (aNp (fun _ _=>rfl)) (aQ rfl (aQ rfl (aD rfl (aA rfl (aA rfl (aA rfl (aB rfl)))))))))))))))
theorem aL7 {p q : Prop} [Decidable p] [Decidable q] (h : ¬ (p∧q)) : (decide p&&decide q)=false:=by
  cases h' : (decide p&&decide q)
  · rfl
  · simp only [Bool.and_eq_true,decide_eq_true_eq] at h';exact absurd h' h
theorem aLg {a b : cO} : Ok (fun r=>r=opR (nG 14 a b)) (yK a.pv b.pv):=by
  rw [aE9]
  have e : nG 14 a b=(if a.k=3∧b.k=3 then (lB (PV.bytesLt a.s.toList b.s.toList),0) else if a.k=1∧b.k=1 then (lB (decide (a.n<b.n)),0) else (cX,1)):=rfl
  rw [e]
  refine aD rfl (aA rfl (aA rfl (aA rfl (aD rfl (aA rfl (aA rfl (aA rfl (qS ?_))))))))
  by_cases h1 : a.k=1∧b.k=1
  · rw [if_neg (by omega),if_pos h1,decide_eq_true h1.1,decide_eq_true h1.2]
    exact aX (aJ (lC (aD rfl (aA rfl (aA rfl (aA rfl (aB rfl)))))))
  · rw [aL7 h1]
    refine aW (qS ?_)
    by_cases h2 : a.k=3∧b.k=3
    · rw [if_pos h2,decide_eq_true h2.1,decide_eq_true h2.2]
      exact aX (aJI (lC (aD rfl (aA rfl (aA rfl (aA rfl (aB rfl)))))))
    · rw [if_neg h2,if_neg h1,aL7 h2]
      exact aW (aB rfl)
theorem aHv {a b : cO} {k : PV→Option R} (h : Ok P (k (.bool (decide (a.k=b.k)&&(decide (a.n=b.n)&&kK a.s b.s))))) : Ok P (bd (PV.ceq [1,1,2] .eql (.agg [.int .i64 a.k,.int .i64 a.n,.str a.s]) (.agg [.int .i64 b.k,.int .i64 b.n,.str b.s])) k):=
  cV _ (by simp [PV.ceq,PV.eqCells,PV.eqScalar,PV.eqOr,kK];rfl) h
theorem aLh {a b : cO} : Ok (fun r=>r = [(aAy a b).pv]) (yJ a.pv b.pv):=by
  rw [aE8]
  exact aD rfl (aA rfl (aA rfl (aA rfl (aD rfl (aA rfl (aA rfl (aA rfl (aHv (lC (aD rfl (aA rfl (aA rfl (aA rfl (aB rfl))))))))))))))
theorem aL8 {v : cO} : Ok (fun r=>r=opR (uL v)) (aA2 v.pv):=by
  rw [aFW]
  unfold uL
  refine aD rfl (aA rfl (aA rfl (aA rfl (bE (aK (fun h=>aB ?_) (fun h=>bE (lC (aD rfl (aA rfl (aA rfl (aA rfl (aB ?_))))))))))))
  · rw [if_pos h];rfl
  · rw [if_neg (by omega)];rfl
end
def aAA (v : cO) : List cF→List cF
  | []=>[]
  | [f]=>[⟨f.f,f.pc,f.loc,f.stk++[v]⟩]
  | f::g::r=>f::aAA v (g::r)
theorem vX (v : cO) : ∀ (l : List cF) (f : cF),aAA v (l++[f])=l++[⟨f.f,f.pc,f.loc,f.stk++[v]⟩]
  | [],_=>rfl
  | [a],f=>rfl
  | a::b::l,f=>by
    show a::aAA v (b::l++[f])=_
    rw [vX v (b::l) f]
    rfl
def DoR (a0 a1 made a3 a4 a5 a6 a7 a8 H O : PV) (fs0 : List cF) : aF3→R→Prop
  | .trap c,r=>c≠0∧gd r 9 = .int .i64 c
  | .next fr hp made' out,r=>r = [a0,a1,.int .i64 made',a3,a4,a5,a6,a7,a8,.int .i64 0,.lst (fs0.map cF.pv++[fr.pv]),.lst (hp.map bL),.lst (out.map PV.str)]
  | .call fr g,r=>r = [a0,a1,made,a3,a4,a5,a6,a7,a8,.int .i64 0,.lst (fs0.map cF.pv++[fr.pv]++[g.pv]),H,O]
  | .ret v,r=>r=if fs0 = [] then [a0,a1,made,.int .i64 1,a4,.int .i64 v.k,.int .i64 v.n,.str v.s,a8,.int .i64 0,.lst [],H,O]
      else [a0,a1,made,a3,a4,a5,a6,a7,a8,.int .i64 0,.lst ((aAA v fs0).map cF.pv),H,O]
structure aL9 (m : eQ) (fs0 : List cF) (fr : cF) (took : List cO) (hp : List (List cO)) (made : Int) (out : List ByteArray) : Prop where
  nf : m.funcs.length≤12
  nt : m.texts.length≤20
  par : ∀ f∈m.funcs,0≤f.p∧f.p≤6∧f.p≤f.lc∧f.lc≤12
  n0 : fs0.length≤23
  stks : ∀ f∈fs0,f.stk.length≤16
  nl : fr.loc.length≤12
  ns : fr.stk.length+took.length≤16
  recs : ∀ r∈hp,r.length≤6
  nh : hp.length≤120
  nm : 0≤made∧made≤120
  no : out.length≤200
  aS : ∀ v∈took,bM m.funcs.length hp.length v=true
theorem bY {nf recs : Int} {v : cO} (h : bM nf recs v=true) : v.s.size≤60:=by
  by_cases h3 : v.k=3
  · unfold bM at h
    rw [if_neg (fun e=>e.1 h3),if_neg (by omega),if_neg (by omega),if_neg (by omega),if_pos h3] at h
    simp only [Bool.and_eq_true,dT,decide_eq_true_eq] at h
    omega
  · unfold bM at h
    split at h
    · cases h
    · rename_i hn
      have he : kK v.s (bs [])=true:=by
        cases hs : kK v.s (bs []) with
        | true=>rfl
        | false=>exact absurd ⟨h3,hs⟩ hn
      have e0 : (bs []).toList = []:=by rw [Lib.toList_data];rfl
      unfold kK at he
      rw [e0] at he
      have hl : v.s.toList = []:=by simpa using he
      have hsz : v.s.size=v.s.toList.length:=by
        rw [Lib.toList_data,Array.length_toList]
        rfl
      rw [hsz,hl]
      simp
theorem qZ {nf recs : Int} {v : cO} (h : bM nf recs v=true) (hk : v.k=4) : 0≤v.n∧v.n<recs:=by
  unfold bM at h
  by_cases hc : v.k≠3∧kK v.s (bs [])=false
  · rw [if_pos hc] at h;cases h
  · rw [if_neg hc,if_neg (by omega),if_neg (by omega),if_neg (by omega),if_neg (by omega),if_pos hk] at h
    simp only [Bool.and_eq_true,decide_eq_true_eq] at h
    exact h
theorem aCV {nf recs : Int} {v : cO} (h : bM nf recs v=true) (hk : v.k=5) : 0≤v.n∧v.n<nf:=by
  unfold bM at h
  by_cases hc : v.k≠3∧kK v.s (bs [])=false
  · rw [if_pos hc] at h;cases h
  · rw [if_neg hc,if_neg (by omega),if_neg (by omega),if_neg (by omega),if_neg (by omega),if_neg (by omega),if_pos hk] at h
    have:=bK.1 h
    omega
theorem zQ {nt nf lc nc : Int} {x : bZ} (h : cB nt nf lc nc x.o x.a=true) : (1≤x.o∧x.o≤26)∧(x.o=3→0≤x.a∧x.a<nt)∧((x.o=6∨x.o=7)→0≤x.a∧x.a<lc)∧(x.o=20→0≤x.a∧x.a≤6)∧
    ((x.o=21∨x.o=22)→0≤x.a∧x.a≤5)∧(x.o=23→0≤x.a∧x.a≤6)∧((x.o=5∨x.o=24)→0≤x.a∧x.a<nf)∧((x.o=17∨x.o=18∨x.o=19)→0≤x.a∧x.a<nc)∧(x.o=1→cC x.a=true):=by
  unfold cB at h
  by_cases h1 : x.o=1
  · rw [if_pos h1] at h
    have h:=bK.1 h
    exact ⟨by omega,fun _=>by omega,fun _=>by omega,fun _=>by omega,fun _=>by omega,fun _=>by omega,fun _=>by omega,fun _=>by omega,fun _=>by first | (unfold cC;exact bK.2 (by omega)) | (exfalso;omega)⟩
  rw [if_neg h1] at h
  by_cases h2 : x.o=2
  · rw [if_pos h2] at h
    have h:=bK.1 h
    exact ⟨by omega,fun _=>by omega,fun _=>by omega,fun _=>by omega,fun _=>by omega,fun _=>by omega,fun _=>by omega,fun _=>by omega,fun _=>by first | (unfold cC;exact bK.2 (by omega)) | (exfalso;omega)⟩
  rw [if_neg h2] at h
  by_cases h3 : x.o=3
  · rw [if_pos h3] at h
    have h:=bK.1 h
    exact ⟨by omega,fun _=>by omega,fun _=>by omega,fun _=>by omega,fun _=>by omega,fun _=>by omega,fun _=>by omega,fun _=>by omega,fun _=>by first | (unfold cC;exact bK.2 (by omega)) | (exfalso;omega)⟩
  rw [if_neg h3] at h
  by_cases h5 : x.o=5
  · rw [if_pos h5] at h
    have h:=bK.1 h
    exact ⟨by omega,fun _=>by omega,fun _=>by omega,fun _=>by omega,fun _=>by omega,fun _=>by omega,fun _=>by omega,fun _=>by omega,fun _=>by first | (unfold cC;exact bK.2 (by omega)) | (exfalso;omega)⟩
  rw [if_neg h5] at h
  by_cases h24 : x.o=24
  · rw [if_pos h24] at h
    have h:=bK.1 h
    exact ⟨by omega,fun _=>by omega,fun _=>by omega,fun _=>by omega,fun _=>by omega,fun _=>by omega,fun _=>by omega,fun _=>by omega,fun _=>by first | (unfold cC;exact bK.2 (by omega)) | (exfalso;omega)⟩
  rw [if_neg h24] at h
  by_cases h6 : x.o=6
  · rw [if_pos h6] at h
    have h:=bK.1 h
    exact ⟨by omega,fun _=>by omega,fun _=>by omega,fun _=>by omega,fun _=>by omega,fun _=>by omega,fun _=>by omega,fun _=>by omega,fun _=>by first | (unfold cC;exact bK.2 (by omega)) | (exfalso;omega)⟩
  rw [if_neg h6] at h
  by_cases h7 : x.o=7
  · rw [if_pos h7] at h
    have h:=bK.1 h
    exact ⟨by omega,fun _=>by omega,fun _=>by omega,fun _=>by omega,fun _=>by omega,fun _=>by omega,fun _=>by omega,fun _=>by omega,fun _=>by first | (unfold cC;exact bK.2 (by omega)) | (exfalso;omega)⟩
  rw [if_neg h7] at h
  by_cases h17 : x.o=17
  · rw [if_pos h17] at h
    have h:=bK.1 h
    exact ⟨by omega,fun _=>by omega,fun _=>by omega,fun _=>by omega,fun _=>by omega,fun _=>by omega,fun _=>by omega,fun _=>by omega,fun _=>by first | (unfold cC;exact bK.2 (by omega)) | (exfalso;omega)⟩
  rw [if_neg h17] at h
  by_cases h18 : x.o=18
  · rw [if_pos h18] at h
    have h:=bK.1 h
    exact ⟨by omega,fun _=>by omega,fun _=>by omega,fun _=>by omega,fun _=>by omega,fun _=>by omega,fun _=>by omega,fun _=>by omega,fun _=>by first | (unfold cC;exact bK.2 (by omega)) | (exfalso;omega)⟩
  rw [if_neg h18] at h
  by_cases h19 : x.o=19
  · rw [if_pos h19] at h
    have h:=bK.1 h
    exact ⟨by omega,fun _=>by omega,fun _=>by omega,fun _=>by omega,fun _=>by omega,fun _=>by omega,fun _=>by omega,fun _=>by omega,fun _=>by first | (unfold cC;exact bK.2 (by omega)) | (exfalso;omega)⟩
  rw [if_neg h19] at h
  by_cases h20 : x.o=20
  · rw [if_pos h20] at h
    have h:=bK.1 h
    exact ⟨by omega,fun _=>by omega,fun _=>by omega,fun _=>by omega,fun _=>by omega,fun _=>by omega,fun _=>by omega,fun _=>by omega,fun _=>by first | (unfold cC;exact bK.2 (by omega)) | (exfalso;omega)⟩
  rw [if_neg h20] at h
  by_cases h21 : x.o=21
  · rw [if_pos h21] at h
    have h:=bK.1 h
    exact ⟨by omega,fun _=>by omega,fun _=>by omega,fun _=>by omega,fun _=>by omega,fun _=>by omega,fun _=>by omega,fun _=>by omega,fun _=>by first | (unfold cC;exact bK.2 (by omega)) | (exfalso;omega)⟩
  rw [if_neg h21] at h
  by_cases h22 : x.o=22
  · rw [if_pos h22] at h
    have h:=bK.1 h
    exact ⟨by omega,fun _=>by omega,fun _=>by omega,fun _=>by omega,fun _=>by omega,fun _=>by omega,fun _=>by omega,fun _=>by omega,fun _=>by first | (unfold cC;exact bK.2 (by omega)) | (exfalso;omega)⟩
  rw [if_neg h22] at h
  by_cases h23 : x.o=23
  · rw [if_pos h23] at h
    have h:=bK.1 h
    exact ⟨by omega,fun _=>by omega,fun _=>by omega,fun _=>by omega,fun _=>by omega,fun _=>by omega,fun _=>by omega,fun _=>by omega,fun _=>by first | (unfold cC;exact bK.2 (by omega)) | (exfalso;omega)⟩
  rw [if_neg h23] at h
  simp only [Bool.and_eq_true,decide_eq_true_eq,bK] at h
  exact ⟨by omega,fun _=>by omega,fun _=>by omega,fun _=>by omega,fun _=>by omega,fun _=>by omega,fun _=>by omega,fun _=>by omega,fun _=>by first | (unfold cC;exact bK.2 (by omega)) | (exfalso;omega)⟩
section
variable {P : R → Prop} {k : PV → Option R} {hp : List (List cO)}
theorem dE {i : Int} (h0 : 0≤i) (h1 : i<hp.length) (h : Ok P (k (bL (hp[i.toNat]?.getD [])))) : Ok P (bd (PV.at_ 1 true (.lst (hp.map bL)) (.int .i64 i)) k):=by
  obtain ⟨n,rfl⟩:=Int.eq_ofNat_of_zero_le h0
  have hn : n<hp.length:=by omega
  rw [Int.toNat_natCast,List.getElem?_eq_getElem hn] at h
  exact aV hn (fun _=>rfl) h
theorem oR {i : Int} (h0 : 0≤i) (h1 : i<hp.length) (h : Ok P (k (.lst (hp.map bL)))) : Ok P (bd (PV.inb (.lst (hp.map bL)) (.int .i64 i)) k):=cQ h0 (by rw [List.length_map];exact h1) h
theorem aFg {i : Int} {r : List cO} (h0 : 0≤i) (h1 : i<hp.length) (h : Ok P (k (.lst ((hp.set i.toNat r).map bL)))) : Ok P (bd (PV.setCell 1 (.lst (hp.map bL)) (.int .i64 i) 0 (aS r)) k):=by
  obtain ⟨n,rfl⟩:=Int.eq_ofNat_of_zero_le h0
  have hn : n<hp.length:=by omega
  refine fS (cs:=[aS hp[n]]) (by omega) (by rw [Int.toNat_natCast,List.getElem?_map,List.getElem?_eq_getElem hn];rfl) rfl (by omega) rfl ?_
  rw [List.map_set] at h
  exact h
theorem aKq {hp : List (List cO)} (h : ∀ r∈hp,r.length≤6) (i : Nat) : (hp[i]?.getD []).length≤6:=by
  cases hx : hp[i]? with
  | none=>simp
  | some r=>exact h r (List.mem_of_getElem? hx)
end
theorem nW {α : Type} {l : List α} (h : l.length=2) : ∃ a b,l = [a,b]:=by
  match l,h with
  | [a,b],_=>exact ⟨a,b,rfl⟩
theorem aGB {l : List cF} : ∀ x∈l.map cF.pv,x.isEl 4 true=true:=by
  intro x hx
  obtain ⟨a,_,rfl⟩:=List.mem_map.1 hx
  rfl
set_option maxRecDepth 100000 in
set_option maxHeartbeats 4000000 in
theorem aMM {m : eQ} {fs0 : List cF} {fr : cF} {took : List cO} {hp : List (List cO)} {made : Int} {out : List ByteArray} {x : bZ} {nc : Int} {a3 a4 a5 a6 a7 a8 : PV}
    (S : aL9 m fs0 fr took hp made out) (hx : cB m.texts.length m.funcs.length fr.loc.length nc x.o x.a=true) (hu : (took.length : Int)=(bA m.funcs x).1) :
    Ok (DoR (.lst (m.texts.map PV.str)) (.lst (m.funcs.map cY.pv)) (.int .i64 made) a3 a4 a5 a6 a7 a8 (.lst (hp.map bL)) (.lst (out.map PV.str)) fs0 (dF m fr took (fs0.length+1) hp made out x))
      (rM (.int .i64 x.o) (.int .i64 x.a) (.lst (m.texts.map PV.str)) (.lst (m.funcs.map cY.pv)) (.int .i64 made) a3 a4 a5 a6 a7 a8 (.int .i64 0)
        (.lst (fs0.map cF.pv++[cF.pv ⟨fr.f,fr.pc,fr.loc,fr.stk++took⟩])) (.lst (hp.map bL)) (.lst (out.map PV.str))):=by
  obtain ⟨q26,q3,q67,q20,q2122,q23,q524,qj,q1⟩:=zQ hx
  obtain ⟨nf,nt,par,n0,stks,nl,ns,recs,nh,nm,no,vals0⟩:=S
  have nA : (fs0.map cF.pv).length≤23:=by rw [List.length_map];exact n0
  obtain ⟨ff,fpc,floc,fstk⟩:=fr
  simp only at *
  rw [aBW]
  refine yW (by omega) ?_
  refine aF (aC (fun ho=>?_) (fun n1=>?_))
  · have e0 : bA m.funcs x=(0,1):=by unfold bA;repeat (first | rfl | rw [if_pos (by omega)] | rw [if_neg (by omega)])
    rw [e0] at hu
    obtain rfl:=List.eq_nil_of_length_eq_zero (show took.length=0 by omega)
    simp only [List.length_nil,Nat.add_zero,List.append_nil] at ns ⊢
    have e : dF m ⟨ff,fpc,floc,fstk⟩ [] (fs0.length+1) hp made out x = .next ⟨ff,fpc,floc,fstk++[qO x.a]⟩ hp made out:=by simp only [dF];repeat (first | rfl | rw [if_pos (by omega)] | rw [if_neg (by omega)])
    exact uK (aD2 (by omega) (by omega) (aB (by rw [e];rfl)))
  refine aF (aC (fun ho=>?_) (fun n2=>?_))
  · have e0 : bA m.funcs x=(0,1):=by unfold bA;repeat (first | rfl | rw [if_pos (by omega)] | rw [if_neg (by omega)])
    rw [e0] at hu
    obtain rfl:=List.eq_nil_of_length_eq_zero (show took.length=0 by omega)
    simp only [List.length_nil,Nat.add_zero,List.append_nil] at ns ⊢
    have e : dF m ⟨ff,fpc,floc,fstk⟩ [] (fs0.length+1) hp made out x = .next ⟨ff,fpc,floc,fstk++[lB (decide (x.a=1))]⟩ hp made out:=by simp only [dF];repeat (first | rfl | rw [if_pos (by omega)] | rw [if_neg (by omega)])
    exact aF (nD (aD2 (by omega) (by omega) (aB (by rw [e];rfl))))
  refine aF (aC (fun ho=>?_) (fun n3=>?_))
  · have e0 : bA m.funcs x=(0,1):=by unfold bA;repeat (first | rfl | rw [if_pos (by omega)] | rw [if_neg (by omega)])
    rw [e0] at hu
    obtain rfl:=List.eq_nil_of_length_eq_zero (show took.length=0 by omega)
    simp only [List.length_nil,Nat.add_zero,List.append_nil] at ns ⊢
    have e : dF m ⟨ff,fpc,floc,fstk⟩ [] (fs0.length+1) hp made out x = .next ⟨ff,fpc,floc,fstk++[wS (m.texts[x.a.toNat]?.getD (bs []))]⟩ hp made out:=by simp only [dF];repeat (first | rfl | rw [if_pos (by omega)] | rw [if_neg (by omega)])
    obtain ⟨i,hi⟩:=Int.eq_ofNat_of_zero_le (q3 ho).1
    have hil : i<m.texts.length:=by have:=q3 ho;omega
    rw [hi] at e ⊢
    rw [Int.toNat_natCast,List.getElem?_eq_getElem hil] at e
    exact aV hil (fun _=>rfl) (aU rfl (gT (by omega) (by omega) (aB (by rw [e];rfl))))
  refine aF (aC (fun ho=>?_) (fun n4=>?_))
  · have e0 : bA m.funcs x=(0,1):=by unfold bA;repeat (first | rfl | rw [if_pos (by omega)] | rw [if_neg (by omega)])
    rw [e0] at hu
    obtain rfl:=List.eq_nil_of_length_eq_zero (show took.length=0 by omega)
    simp only [List.length_nil,Nat.add_zero,List.append_nil] at ns ⊢
    have e : dF m ⟨ff,fpc,floc,fstk⟩ [] (fs0.length+1) hp made out x = .next ⟨ff,fpc,floc,fstk++[cX]⟩ hp made out:=by simp only [dF];repeat (first | rfl | rw [if_pos (by omega)] | rw [if_neg (by omega)])
    exact gT (by omega) (by omega) (aB (by rw [e];rfl))
  refine aF (aC (fun ho=>?_) (fun n5=>?_))
  · have e0 : bA m.funcs x=(0,1):=by unfold bA;repeat (first | rfl | rw [if_pos (by omega)] | rw [if_neg (by omega)])
    rw [e0] at hu
    obtain rfl:=List.eq_nil_of_length_eq_zero (show took.length=0 by omega)
    simp only [List.length_nil,Nat.add_zero,List.append_nil] at ns ⊢
    have e : dF m ⟨ff,fpc,floc,fstk⟩ [] (fs0.length+1) hp made out x = .next ⟨ff,fpc,floc,fstk++[aHo x.a]⟩ hp made out:=by simp only [dF];repeat (first | rfl | rw [if_pos (by omega)] | rw [if_neg (by omega)])
    exact aU rfl (gT (by omega) (by omega) (aB (by rw [e];rfl)))
  refine aF (aC (fun ho=>?_) (fun n6=>?_))
  · have e0 : bA m.funcs x=(0,1):=by unfold bA;repeat (first | rfl | rw [if_pos (by omega)] | rw [if_neg (by omega)])
    rw [e0] at hu
    obtain rfl:=List.eq_nil_of_length_eq_zero (show took.length=0 by omega)
    simp only [List.length_nil,Nat.add_zero,List.append_nil] at ns ⊢
    have e : dF m ⟨ff,fpc,floc,fstk⟩ [] (fs0.length+1) hp made out x = .next ⟨ff,fpc,floc,fstk++[floc[x.a.toNat]?.getD cX]⟩ hp made out:=by simp only [dF];repeat (first | rfl | rw [if_pos (by omega)] | rw [if_neg (by omega)])
    have hq:=q67 (.inl ho)
    refine bX rfl rfl (bX rfl rfl (aA (y:=aS floc) rfl (eF (by omega) (by omega) (bX rfl rfl (aA (y:=aS floc) rfl (mX (by omega) (by omega) (fun v hv=>?_)))))))
    rw [hv] at e
    exact aD2 (by omega) (by omega) (aB (by rw [e];rfl))
  refine aF (aC (fun ho=>?_) (fun n7=>?_))
  · have e0 : bA m.funcs x=(1,0):=by unfold bA;repeat (first | rfl | rw [if_pos (by omega)] | rw [if_neg (by omega)])
    rw [e0] at hu
    obtain ⟨a,rfl⟩:=List.length_eq_one_iff.1 (show took.length=1 by omega)
    have va:=vals0 a (by simp)
    have sa:=bY va
    have ns : fstk.length+1≤16:=ns
    have e : dF m ⟨ff,fpc,floc,fstk⟩ [a] (fs0.length+1) hp made out x = .next ⟨ff,fpc,floc.set x.a.toNat a,fstk⟩ hp made out:=by simp only [dF];repeat (first | rfl | rw [if_pos (by omega)] | rw [if_neg (by omega)])
    have hq:=q67 (.inr ho)
    refine fT (by omega) (by first | omega | (simp;omega)) (aD rfl (aA rfl (aA rfl (aA rfl (?_)))))
    refine bX rfl rfl (bX rfl rfl (aA (y:=aS floc) rfl (eF (by omega) (by omega) (bX rfl rfl (aA (y:=aS floc) rfl (bX rfl rfl (aA (y:=aS floc) rfl ?_)))))))
    refine nE (v:=a) (by omega) (by omega) (bX rfl rfl (aA (y:=aS floc) rfl (cH rfl rfl (by omega) rfl (aB (by rw [e];rfl)))))
  refine aF (aC (fun ho=>?_) (fun n8=>?_))
  · have e0 : bA m.funcs x=(1,2):=by unfold bA;repeat (first | rfl | rw [if_pos (by omega)] | rw [if_neg (by omega)])
    rw [e0] at hu
    obtain ⟨a,rfl⟩:=List.length_eq_one_iff.1 (show took.length=1 by omega)
    have va:=vals0 a (by simp)
    have sa:=bY va
    have ns : fstk.length+1≤16:=ns
    have e : dF m ⟨ff,fpc,floc,fstk⟩ [a] (fs0.length+1) hp made out x = .next ⟨ff,fpc,floc,fstk++[a,a]⟩ hp made out:=by simp only [dF];repeat (first | rfl | rw [if_pos (by omega)] | rw [if_neg (by omega)])
    refine fT (by omega) (by first | omega | (simp;omega)) (aD rfl (aA rfl (aA rfl (aA rfl (?_)))))
    refine gT (by omega) (by omega) (gT (by omega) (by simp;omega) (aB ?_))
    rw [e]
    show _=_
    simp only [List.append_assoc]
    rfl
  refine aF (aC (fun ho=>?_) (fun n9=>?_))
  · have e0 : bA m.funcs x=(1,0):=by unfold bA;repeat (first | rfl | rw [if_pos (by omega)] | rw [if_neg (by omega)])
    rw [e0] at hu
    obtain ⟨a,rfl⟩:=List.length_eq_one_iff.1 (show took.length=1 by omega)
    have va:=vals0 a (by simp)
    have sa:=bY va
    have ns : fstk.length+1≤16:=ns
    have e : dF m ⟨ff,fpc,floc,fstk⟩ [a] (fs0.length+1) hp made out x = .next ⟨ff,fpc,floc,fstk++[]⟩ hp made out:=by simp only [dF];repeat (first | rfl | rw [if_pos (by omega)] | rw [if_neg (by omega)])
    refine fT (by omega) (by first | omega | (simp;omega)) (aB ?_)
    rw [e,List.append_nil]
    rfl
  refine aF (aC (fun ho=>?_) (fun n10=>?_))
  · have e0 : bA m.funcs x=(2,2):=by unfold bA;repeat (first | rfl | rw [if_pos (by omega)] | rw [if_neg (by omega)])
    rw [e0] at hu
    obtain ⟨a,b,rfl⟩:=nW (show took.length=2 by omega)
    have va:=vals0 a (by simp)
    have vb:=vals0 b (by simp)
    have sa:=bY va
    have sb:=bY vb
    rw [show fstk++[a,b]=fstk++[a]++[b] by simp]
    have ns : fstk.length+2≤16:=ns
    have e : dF m ⟨ff,fpc,floc,fstk⟩ [a,b] (fs0.length+1) hp made out x = .next ⟨ff,fpc,floc,fstk++[b,a]⟩ hp made out:=by simp only [dF];repeat (first | rfl | rw [if_pos (by omega)] | rw [if_neg (by omega)])
    refine fT (by omega) (by first | omega | (simp;omega)) (aD rfl (aA rfl (aA rfl (aA rfl (?_)))))
    refine fT (by omega) (by first | omega | (simp;omega)) (aD rfl (aA rfl (aA rfl (aA rfl (?_)))))
    refine gT (by omega) (by omega) (gT (by omega) (by simp;omega) (aB ?_))
    rw [e]
    show _=_
    simp only [List.append_assoc]
    rfl
  refine aF (aC (fun ho=>?_) (fun n11=>?_))
  · have e0 : bA m.funcs x=(2,1):=by unfold bA;repeat (first | rfl | rw [if_pos (by omega)] | rw [if_neg (by omega)])
    rw [e0] at hu
    obtain ⟨a,b,rfl⟩:=nW (show took.length=2 by omega)
    have va:=vals0 a (by simp)
    have vb:=vals0 b (by simp)
    have sa:=bY va
    have sb:=bY vb
    rw [show fstk++[a,b]=fstk++[a]++[b] by simp]
    have ns : fstk.length+2≤16:=ns
    have e : dF m ⟨ff,fpc,floc,fstk⟩ [a,b] (fs0.length+1) hp made out x=if (nG x.o a b).2≠0 then .trap (nG x.o a b).2 else .next ⟨ff,fpc,floc,fstk++[(nG x.o a b).1]⟩ hp made out:=by simp only [dF];repeat (first | rfl | rw [if_pos (by omega)] | rw [if_neg (by omega)])
    refine fT (by omega) (by first | omega | (simp;omega)) (aD rfl (aA rfl (aA rfl (aA rfl (?_)))))
    refine fT (by omega) (by first | omega | (simp;omega)) (aD rfl (aA rfl (aA rfl (aA rfl (?_)))))
    refine mW (aB7 (o:=x.o) (a:=a) (b:=b) (by omega) ⟨by omega,by omega⟩) (aQ rfl (aQ rfl (aD rfl (aA rfl (aA rfl (aA rfl (aU rfl (gT (by omega) (by omega) (aB ?_)))))))))
    by_cases ht : (nG x.o a b).2≠0
    · rw [e,if_pos ht];exact ⟨ht,rfl⟩
    · rw [e,if_neg ht]
      have ht : (nG x.o a b).2=0:=by simpa using ht
      rw [ht];rfl
  refine aF (aC (fun ho=>?_) (fun n12=>?_))
  · have e0 : bA m.funcs x=(2,1):=by unfold bA;repeat (first | rfl | rw [if_pos (by omega)] | rw [if_neg (by omega)])
    rw [e0] at hu
    obtain ⟨a,b,rfl⟩:=nW (show took.length=2 by omega)
    have va:=vals0 a (by simp)
    have vb:=vals0 b (by simp)
    have sa:=bY va
    have sb:=bY vb
    rw [show fstk++[a,b]=fstk++[a]++[b] by simp]
    have ns : fstk.length+2≤16:=ns
    have e : dF m ⟨ff,fpc,floc,fstk⟩ [a,b] (fs0.length+1) hp made out x=if (nG x.o a b).2≠0 then .trap (nG x.o a b).2 else .next ⟨ff,fpc,floc,fstk++[(nG x.o a b).1]⟩ hp made out:=by simp only [dF];repeat (first | rfl | rw [if_pos (by omega)] | rw [if_neg (by omega)])
    refine fT (by omega) (by first | omega | (simp;omega)) (aD rfl (aA rfl (aA rfl (aA rfl (?_)))))
    refine fT (by omega) (by first | omega | (simp;omega)) (aD rfl (aA rfl (aA rfl (aA rfl (?_)))))
    refine mW (aB7 (o:=x.o) (a:=a) (b:=b) (by omega) ⟨by omega,by omega⟩) (aQ rfl (aQ rfl (aD rfl (aA rfl (aA rfl (aA rfl (aU rfl (gT (by omega) (by omega) (aB ?_)))))))))
    by_cases ht : (nG x.o a b).2≠0
    · rw [e,if_pos ht];exact ⟨ht,rfl⟩
    · rw [e,if_neg ht]
      have ht : (nG x.o a b).2=0:=by simpa using ht
      rw [ht];rfl
  refine aF (aC (fun ho=>?_) (fun n13=>?_))
  · have e0 : bA m.funcs x=(2,1):=by unfold bA;repeat (first | rfl | rw [if_pos (by omega)] | rw [if_neg (by omega)])
    rw [e0] at hu
    obtain ⟨a,b,rfl⟩:=nW (show took.length=2 by omega)
    have va:=vals0 a (by simp)
    have vb:=vals0 b (by simp)
    have sa:=bY va
    have sb:=bY vb
    rw [show fstk++[a,b]=fstk++[a]++[b] by simp]
    have ns : fstk.length+2≤16:=ns
    have e : dF m ⟨ff,fpc,floc,fstk⟩ [a,b] (fs0.length+1) hp made out x=if (nG x.o a b).2≠0 then .trap (nG x.o a b).2 else .next ⟨ff,fpc,floc,fstk++[(nG x.o a b).1]⟩ hp made out:=by simp only [dF];repeat (first | rfl | rw [if_pos (by omega)] | rw [if_neg (by omega)])
    refine fT (by omega) (by first | omega | (simp;omega)) (aD rfl (aA rfl (aA rfl (aA rfl (?_)))))
    refine fT (by omega) (by first | omega | (simp;omega)) (aD rfl (aA rfl (aA rfl (aA rfl (?_)))))
    refine mW (aB7 (o:=x.o) (a:=a) (b:=b) (by omega) ⟨by omega,by omega⟩) (aQ rfl (aQ rfl (aD rfl (aA rfl (aA rfl (aA rfl (aU rfl (gT (by omega) (by omega) (aB ?_)))))))))
    by_cases ht : (nG x.o a b).2≠0
    · rw [e,if_pos ht];exact ⟨ht,rfl⟩
    · rw [e,if_neg ht]
      have ht : (nG x.o a b).2=0:=by simpa using ht
      rw [ht];rfl
  refine aF (aC (fun ho=>?_) (fun n14=>?_))
  · have e0 : bA m.funcs x=(2,1):=by unfold bA;repeat (first | rfl | rw [if_pos (by omega)] | rw [if_neg (by omega)])
    rw [e0] at hu
    obtain ⟨a,b,rfl⟩:=nW (show took.length=2 by omega)
    have va:=vals0 a (by simp)
    have vb:=vals0 b (by simp)
    have sa:=bY va
    have sb:=bY vb
    rw [show fstk++[a,b]=fstk++[a]++[b] by simp]
    have ns : fstk.length+2≤16:=ns
    have e : dF m ⟨ff,fpc,floc,fstk⟩ [a,b] (fs0.length+1) hp made out x=if (nG x.o a b).2≠0 then .trap (nG x.o a b).2 else .next ⟨ff,fpc,floc,fstk++[(nG x.o a b).1]⟩ hp made out:=by simp only [dF];repeat (first | rfl | rw [if_pos (by omega)] | rw [if_neg (by omega)])
    refine fT (by omega) (by first | omega | (simp;omega)) (aD rfl (aA rfl (aA rfl (aA rfl (?_)))))
    refine fT (by omega) (by first | omega | (simp;omega)) (aD rfl (aA rfl (aA rfl (aA rfl (?_)))))
    refine mW (aB7 (o:=x.o) (a:=a) (b:=b) (by omega) ⟨by omega,by omega⟩) (aQ rfl (aQ rfl (aD rfl (aA rfl (aA rfl (aA rfl (aU rfl (gT (by omega) (by omega) (aB ?_)))))))))
    by_cases ht : (nG x.o a b).2≠0
    · rw [e,if_pos ht];exact ⟨ht,rfl⟩
    · rw [e,if_neg ht]
      have ht : (nG x.o a b).2=0:=by simpa using ht
      rw [ht];rfl
  refine aF (aC (fun ho=>?_) (fun n15=>?_))
  · have e0 : bA m.funcs x=(2,1):=by unfold bA;repeat (first | rfl | rw [if_pos (by omega)] | rw [if_neg (by omega)])
    rw [e0] at hu
    obtain ⟨a,b,rfl⟩:=nW (show took.length=2 by omega)
    have va:=vals0 a (by simp)
    have vb:=vals0 b (by simp)
    have sa:=bY va
    have sb:=bY vb
    rw [show fstk++[a,b]=fstk++[a]++[b] by simp]
    have ns : fstk.length+2≤16:=ns
    have e : dF m ⟨ff,fpc,floc,fstk⟩ [a,b] (fs0.length+1) hp made out x=if (nG x.o a b).2≠0 then .trap (nG x.o a b).2 else .next ⟨ff,fpc,floc,fstk++[(nG x.o a b).1]⟩ hp made out:=by simp only [dF];repeat (first | rfl | rw [if_pos (by omega)] | rw [if_neg (by omega)])
    refine fT (by omega) (by first | omega | (simp;omega)) (aD rfl (aA rfl (aA rfl (aA rfl (?_)))))
    refine fT (by omega) (by first | omega | (simp;omega)) (aD rfl (aA rfl (aA rfl (aA rfl (?_)))))
    refine mW (aB7 (o:=x.o) (a:=a) (b:=b) (by omega) ⟨by omega,by omega⟩) (aQ rfl (aQ rfl (aD rfl (aA rfl (aA rfl (aA rfl (aU rfl (gT (by omega) (by omega) (aB ?_)))))))))
    by_cases ht : (nG x.o a b).2≠0
    · rw [e,if_pos ht];exact ⟨ht,rfl⟩
    · rw [e,if_neg ht]
      have ht : (nG x.o a b).2=0:=by simpa using ht
      rw [ht];rfl
  refine aF (aC (fun ho=>?_) (fun n16=>?_))
  · have e0 : bA m.funcs x=(1,1):=by unfold bA;repeat (first | rfl | rw [if_pos (by omega)] | rw [if_neg (by omega)])
    rw [e0] at hu
    obtain ⟨a,rfl⟩:=List.length_eq_one_iff.1 (show took.length=1 by omega)
    have va:=vals0 a (by simp)
    have sa:=bY va
    have ns : fstk.length+1≤16:=ns
    have e : dF m ⟨ff,fpc,floc,fstk⟩ [a] (fs0.length+1) hp made out x=if (uL a).2≠0 then .trap (uL a).2 else .next ⟨ff,fpc,floc,fstk++[(uL a).1]⟩ hp made out:=by simp only [dF];repeat (first | rfl | rw [if_pos (by omega)] | rw [if_neg (by omega)])
    refine fT (by omega) (by first | omega | (simp;omega)) (?_)
    refine mW (aLX (v:=a)) (aQ rfl (aQ rfl (aD rfl (aA rfl (aA rfl (aA rfl (aU rfl (gT (by omega) (by omega) (aB ?_)))))))))
    by_cases ht : (uL a).2≠0
    · rw [e,if_pos ht];exact ⟨ht,rfl⟩
    · rw [e,if_neg ht]
      have ht : (uL a).2=0:=by simpa using ht
      rw [ht];rfl
  refine aF (aC (fun ho=>?_) (fun n17=>?_))
  · have e0 : bA m.funcs x=(0,0):=by unfold bA;repeat (first | rfl | rw [if_pos (by omega)] | rw [if_neg (by omega)])
    rw [e0] at hu
    obtain rfl:=List.eq_nil_of_length_eq_zero (show took.length=0 by omega)
    simp only [List.length_nil,Nat.add_zero,List.append_nil] at ns ⊢
    have e : dF m ⟨ff,fpc,floc,fstk⟩ [] (fs0.length+1) hp made out x = .next ⟨ff,x.a,floc,fstk⟩ hp made out:=by simp only [dF];repeat (first | rfl | rw [if_pos (by omega)] | rw [if_neg (by omega)])
    exact aU rfl (cH rfl rfl (by omega) rfl (aB (by rw [e];rfl)))
  refine aF (aC (fun ho=>?_) (fun n18=>?_))
  · have e0 : bA m.funcs x=(1,0):=by unfold bA;repeat (first | rfl | rw [if_pos (by omega)] | rw [if_neg (by omega)])
    rw [e0] at hu
    obtain ⟨a,rfl⟩:=List.length_eq_one_iff.1 (show took.length=1 by omega)
    have va:=vals0 a (by simp)
    have sa:=bY va
    have ns : fstk.length+1≤16:=ns
    have e : dF m ⟨ff,fpc,floc,fstk⟩ [a] (fs0.length+1) hp made out x=if a.k≠2 then .trap 1 else if (decide (a.n=1)==decide (x.o=18))=true then .next ⟨ff,x.a,floc,fstk⟩ hp made out else .next ⟨ff,fpc,floc,fstk++[]⟩ hp made out:=by simp only [dF];repeat (first | rfl | rw [if_pos (by omega)] | rw [if_neg (by omega)])
    refine fT (by omega) (by first | omega | (simp;omega)) (aD rfl (aA rfl (aA rfl (aA rfl (?_)))))
    refine bE (aK (fun h=>aB (by rw [e,if_pos h];exact ⟨by omega,rfl⟩)) (fun h=>?_))
    rw [if_neg (by simpa using h)] at e
    refine aF (aF (vD (bB (fun hb=>?_) (fun hb=>?_))))
    · rw [if_pos hb] at e
      exact aU rfl (cH rfl rfl (by omega) rfl (aB (by rw [e];rfl)))
    · rw [if_neg (by rw [hb];simp)] at e
      exact aB (by rw [e,List.append_nil];rfl)
  refine aF (aC (fun ho=>?_) (fun n19=>?_))
  · have e0 : bA m.funcs x=(1,0):=by unfold bA;repeat (first | rfl | rw [if_pos (by omega)] | rw [if_neg (by omega)])
    rw [e0] at hu
    obtain ⟨a,rfl⟩:=List.length_eq_one_iff.1 (show took.length=1 by omega)
    have va:=vals0 a (by simp)
    have sa:=bY va
    have ns : fstk.length+1≤16:=ns
    have e : dF m ⟨ff,fpc,floc,fstk⟩ [a] (fs0.length+1) hp made out x=if a.k≠2 then .trap 1 else if (decide (a.n=1)==decide (x.o=18))=true then .next ⟨ff,x.a,floc,fstk⟩ hp made out else .next ⟨ff,fpc,floc,fstk++[]⟩ hp made out:=by simp only [dF];repeat (first | rfl | rw [if_pos (by omega)] | rw [if_neg (by omega)])
    refine fT (by omega) (by first | omega | (simp;omega)) (aD rfl (aA rfl (aA rfl (aA rfl (?_)))))
    refine bE (aK (fun h=>aB (by rw [e,if_pos h];exact ⟨by omega,rfl⟩)) (fun h=>?_))
    rw [if_neg (by simpa using h)] at e
    refine aF (aF (vD (bB (fun hb=>?_) (fun hb=>?_))))
    · rw [if_pos hb] at e
      exact aU rfl (cH rfl rfl (by omega) rfl (aB (by rw [e];rfl)))
    · rw [if_neg (by rw [hb];simp)] at e
      exact aB (by rw [e,List.append_nil];rfl)
  refine aF (aC (fun ho=>?_) (fun n20=>?_))
  · have e0 : bA m.funcs x=(0,1):=by unfold bA;repeat (first | rfl | rw [if_pos (by omega)] | rw [if_neg (by omega)])
    rw [e0] at hu
    obtain rfl:=List.eq_nil_of_length_eq_zero (show took.length=0 by omega)
    simp only [List.length_nil,Nat.add_zero,List.append_nil] at ns ⊢
    have e : dF m ⟨ff,fpc,floc,fstk⟩ [] (fs0.length+1) hp made out x=if made=120 then .trap 7 else .next ⟨ff,fpc,floc,fstk++[aK9 hp.length]⟩ (hp++[List.replicate x.a.toNat cX]) (made+1) out:=by simp only [dF];repeat (first | rfl | rw [if_pos (by omega)] | rw [if_neg (by omega)])
    have hq:=q20 ho
    refine aF (aC (fun h=>aB (by rw [e,if_pos h];exact ⟨by omega,rfl⟩)) (fun h=>?_))
    rw [if_neg h] at e
    refine aG (aU rfl (gT (by omega) (by omega) (?_)))
    refine tE (by omega) (by omega) (dX (aC (fun _=>?_) (fun h=>by omega)))
    refine tE (by omega) (by omega) (fB (by simp;omega) (fun x hx=>by simp only [List.mem_singleton] at hx;subst hx;rfl) (aO (by omega) (aU rfl (aB ?_))))
    rw [e]
    show _=_
    rw [List.map_append]
    rfl
  refine aF (aC (fun ho=>?_) (fun n21=>?_))
  · have e0 : bA m.funcs x=(1,1):=by unfold bA;repeat (first | rfl | rw [if_pos (by omega)] | rw [if_neg (by omega)])
    rw [e0] at hu
    obtain ⟨a,rfl⟩:=List.length_eq_one_iff.1 (show took.length=1 by omega)
    have va:=vals0 a (by simp)
    have sa:=bY va
    have ns : fstk.length+1≤16:=ns
    have e : dF m ⟨ff,fpc,floc,fstk⟩ [a] (fs0.length+1) hp made out x=if a.k≠4 then .trap 1 else if (hp[a.n.toNat]?.getD []).length≤x.a then .trap 4 else .next ⟨ff,fpc,floc,fstk++[(hp[a.n.toNat]?.getD [])[x.a.toNat]?.getD cX]⟩ hp made out:=by simp only [dF];repeat (first | rfl | rw [if_pos (by omega)] | rw [if_neg (by omega)])
    refine fT (by omega) (by first | omega | (simp;omega)) (aD rfl (aA rfl (aA rfl (aA rfl (?_)))))
    have hq:=q2122 (.inl ho)
    refine bE (aK (fun h=>aB (by rw [e,if_pos h];exact ⟨by omega,rfl⟩)) (fun h=>?_))
    rw [if_neg (by simpa using h)] at e
    have hr:=qZ va h
    have hlen:=aKq recs a.n.toNat
    refine oR (by omega) (by omega) (dE (by omega) (by omega) (dE (by omega) (by omega) (aA rfl (bU ?_))))
    refine dS (aC (fun h=>aB (by rw [e,if_pos h];exact ⟨by omega,rfl⟩)) (fun h=>?_))
    rw [if_neg h] at e
    refine oR (by omega) (by omega) (dE (by omega) (by omega) (dE (by omega) (by omega) (aA rfl (eF (by omega) (by omega) (dE (by omega) (by omega) (aA rfl ?_))))))
    refine mX (by omega) (by omega) (fun v hv=>?_)
    rw [hv] at e
    exact aD2 (by omega) (by omega) (aB (by rw [e];rfl))
  refine aF (aC (fun ho=>?_) (fun n22=>?_))
  · have e0 : bA m.funcs x=(2,0):=by unfold bA;repeat (first | rfl | rw [if_pos (by omega)] | rw [if_neg (by omega)])
    rw [e0] at hu
    obtain ⟨a,b,rfl⟩:=nW (show took.length=2 by omega)
    have va:=vals0 a (by simp)
    have vb:=vals0 b (by simp)
    have sa:=bY va
    have sb:=bY vb
    rw [show fstk++[a,b]=fstk++[a]++[b] by simp]
    have ns : fstk.length+2≤16:=ns
    have e : dF m ⟨ff,fpc,floc,fstk⟩ [a,b] (fs0.length+1) hp made out x=if a.k≠4 then .trap 1 else if (hp[a.n.toNat]?.getD []).length≤x.a then .trap 4 else .next ⟨ff,fpc,floc,fstk⟩ (hp.set a.n.toNat ((hp[a.n.toNat]?.getD []).set x.a.toNat b)) made out:=by simp only [dF];repeat (first | rfl | rw [if_pos (by omega)] | rw [if_neg (by omega)])
    refine fT (by omega) (by first | omega | (simp;omega)) (aD rfl (aA rfl (aA rfl (aA rfl (?_)))))
    refine fT (by omega) (by first | omega | (simp;omega)) (aD rfl (aA rfl (aA rfl (aA rfl (?_)))))
    have hq:=q2122 (.inr ho)
    refine bE (aK (fun h=>aB (by rw [e,if_pos h];exact ⟨by omega,rfl⟩)) (fun h=>?_))
    rw [if_neg (by simpa using h)] at e
    have hr:=qZ va h
    have hlen:=aKq recs a.n.toNat
    refine oR (by omega) (by omega) (dE (by omega) (by omega) (dE (by omega) (by omega) (aA rfl (bU ?_))))
    refine dS (aC (fun h=>aB (by rw [e,if_pos h];exact ⟨by omega,rfl⟩)) (fun h=>?_))
    rw [if_neg h] at e
    refine oR (by omega) (by omega) (dE (by omega) (by omega) (dE (by omega) (by omega) (aA rfl (eF (by omega) (by omega) (dE (by omega) (by omega) (aA rfl ?_))))))
    refine dE (by omega) (by omega) (aA rfl (nE (v:=b) (by omega) (by omega) (dE (by omega) (by omega) (aA rfl (aFg (by omega) (by omega) (aB (by rw [e];rfl)))))))
  refine aF (aC (fun ho=>?_) (fun n23=>?_))
  · have hq:=q23 ho
    have e0 : bA m.funcs x=(x.a+1,1):=by unfold bA;repeat (first | rfl | rw [if_pos (by omega)] | rw [if_neg (by omega)])
    rw [e0] at hu
    obtain ⟨a,args,rfl⟩ : ∃ a l,took=a::l:=by
      cases took with
      | nil=>simp at hu;omega
      | cons a l=>exact ⟨a,l,rfl⟩
    have va:=vals0 a (by simp)
    have sa:=bY va
    have ns : fstk.length+(args.length+1)≤16:=ns
    have hu : ((args.length+1 : Nat) : Int)=x.a+1:=hu
    have e : dF m ⟨ff,fpc,floc,fstk⟩ (a::args) (fs0.length+1) hp made out x=if a.k≠5 then .trap 1 else if eJ m.funcs a.n≠x.a then .trap 5 else if fs0.length+1=24 then .trap 6 else .call ⟨ff,fpc,floc,fstk⟩ (pU m.funcs a.n args):=by simp only [dF];repeat (first | rfl | rw [if_pos (by omega)] | rw [if_neg (by omega)])
    have hlen : (fstk++a::args).length=fstk.length+args.length+1:=by simp;omega
    refine bX rfl rfl (bX rfl rfl (bX rfl rfl (aA (y:=aS (fstk++a::args)) rfl (bU (bG (by omega) (bG (by omega) ?_))))))
    have ei : ((fstk++a::args).length : Int) - 1 - x.a=fstk.length:=by omega
    rw [ei]
    refine bX rfl rfl (aA (y:=aS (fstk++a::args)) rfl (eF (by omega) (by omega) (bX rfl rfl (aA (y:=aS (fstk++a::args)) rfl (mX (by omega) (by omega) (fun v hv=>?_))))))
    rw [Int.toNat_natCast,List.getElem?_append_right (Nat.le_refl _),Nat.sub_self] at hv
    cases hv
    refine aD rfl (aA rfl (aA rfl (aA rfl (?_))))
    refine bE (aK (fun h=>aB (by rw [e,if_pos h];exact ⟨by omega,rfl⟩)) (fun h=>?_))
    rw [if_neg (by simpa using h)] at e
    have hr:=aCV va h
    refine aJF (by omega) (by omega) (by omega) (fun _ _=>aA rfl ?_)
    refine bE (aK (fun h=>aB (by rw [e,if_pos h];exact ⟨by omega,rfl⟩)) (fun h=>?_))
    rw [if_neg (by simpa using h)] at e
    rw [show fstk++a::args=fstk++[a]++args by simp]
    refine aII (under:=true) (s1:=fstk) (by omega) par nA (by simp;omega) (.inl ⟨rfl,a,rfl⟩) hr (by omega) (fun hd=>aB ?_) (fun hd=>aB ?_)
    · rw [e,if_pos (by rw [List.length_map] at hd;omega)];exact ⟨by omega,rfl⟩
    · rw [e,if_neg (by rw [List.length_map] at hd;omega)];rfl
  refine aF (aC (fun ho=>?_) (fun n24=>?_))
  · have hq:=q524 (.inr ho)
    have e0 : bA m.funcs x=(eJ m.funcs x.a,1):=by unfold bA;repeat (first | rfl | rw [if_pos (by omega)] | rw [if_neg (by omega)])
    rw [e0] at hu
    have e : dF m ⟨ff,fpc,floc,fstk⟩ took (fs0.length+1) hp made out x=if fs0.length+1=24 then .trap 6 else .call ⟨ff,fpc,floc,fstk⟩ (pU m.funcs x.a took):=by simp only [dF];repeat (first | rfl | rw [if_pos (by omega)] | rw [if_neg (by omega)])
    refine aII (under:=false) (s1:=fstk) (by omega) par nA (by omega) (.inr ⟨rfl,rfl⟩) hq (by omega) (fun hd=>aB ?_) (fun hd=>aB ?_)
    · rw [e,if_pos (by rw [List.length_map] at hd;omega)];exact ⟨by omega,rfl⟩
    · rw [e,if_neg (by rw [List.length_map] at hd;omega)];rfl
  refine aF (aC (fun ho=>?_) (fun n25=>?_))
  · have e0 : bA m.funcs x=(1,0):=by unfold bA;repeat (first | rfl | rw [if_pos (by omega)] | rw [if_neg (by omega)])
    rw [e0] at hu
    obtain ⟨a,rfl⟩:=List.length_eq_one_iff.1 (show took.length=1 by omega)
    have va:=vals0 a (by simp)
    have sa:=bY va
    have ns : fstk.length+1≤16:=ns
    have e : dF m ⟨ff,fpc,floc,fstk⟩ [a] (fs0.length+1) hp made out x = .ret a:=by simp only [dF];repeat (first | rfl | rw [if_pos (by omega)] | rw [if_neg (by omega)])
    refine fT (by omega) (by first | omega | (simp;omega)) (aD rfl (aA rfl (aA rfl (aA rfl (?_)))))
    have e1 : ((fs0.map cF.pv++[cF.pv ⟨ff,fpc,floc,fstk⟩]).length : Int) - 1=fs0.length:=by simp
    have hel : ∀ y∈fs0.map cF.pv++[cF.pv ⟨ff,fpc,floc,fstk⟩],y.isEl 4 true=true:=fun y hy=>(List.mem_append.1 hy).elim (aGB y) (fun h=>by simp only [List.mem_singleton] at h;subst h;rfl)
    refine cL (bG (by simp;omega) ?_)
    rw [e1]
    have e2 : ((fs0.map cF.pv++[cF.pv ⟨ff,fpc,floc,fstk⟩]).take (fs0.length : Int).toNat).drop (0 : Int).toNat=fs0.map cF.pv:=by
      rw [Int.toNat_natCast,Int.toNat_zero,List.drop_zero,List.take_left' (by simp)]
    refine vE (by omega) (by omega) (by simp;omega) hel ?_
    refine vE (by omega) (by omega) (by simp;omega) hel ?_
    rw [e2]
    refine aG (aF (aC (fun h=>aB ?_) (fun h=>?_)))
    · rw [e]
      have : fs0 = []:=List.eq_nil_of_length_eq_zero (by omega)
      subst this
      rfl
    · obtain ⟨l,g,rfl⟩ : ∃ l g,fs0=l++[g]:=⟨fs0.dropLast,fs0.getLast (fun e=>by rw [e] at h;simp at h),(List.dropLast_concat_getLast _).symm⟩
      have hg:=stks g (by simp)
      obtain ⟨gf,gpc,gloc,gstk⟩:=g
      simp only at hg
      rw [List.map_append]
      refine gT (by rw [List.length_map];simp at n0;omega) (by omega) (aB ?_)
      rw [e]
      show _=_
      rw [if_neg (by simp),vX,List.map_append]
      rfl
  refine aF (aC (fun ho=>?_) (fun n26=>?_))
  · have e0 : bA m.funcs x=(1,0):=by unfold bA;repeat (first | rfl | rw [if_pos (by omega)] | rw [if_neg (by omega)])
    rw [e0] at hu
    obtain ⟨a,rfl⟩:=List.length_eq_one_iff.1 (show took.length=1 by omega)
    have va:=vals0 a (by simp)
    have sa:=bY va
    have ns : fstk.length+1≤16:=ns
    have e : dF m ⟨ff,fpc,floc,fstk⟩ [a] (fs0.length+1) hp made out x=if out.length=200 then .trap 8 else .next ⟨ff,fpc,floc,fstk⟩ hp made (out++[gB a hp]):=by simp only [dF];repeat (first | rfl | rw [if_pos (by omega)] | rw [if_neg (by omega)])
    refine fT (by omega) (by first | omega | (simp;omega)) (aD rfl (aA rfl (aA rfl (aA rfl (?_)))))
    refine aG (aF (aC (fun h=>aB (by rw [e,if_pos (by omega)];exact ⟨by omega,rfl⟩)) (fun h=>?_)))
    rw [if_neg (by omega)] at e
    refine aH (aHs (v:=a) (hp:=hp) (nf:=m.funcs.length) (by omega) (by omega) (fun r hr=>by have:=recs r hr;omega) va) (fun r hr=>?_)
    subst hr
    refine dP rfl (jI (by simp) (fun x hx=>by simp only [List.mem_singleton] at hx;subst hx;rfl) (fB (by simp;omega) (fun x hx=>by simp only [List.mem_singleton] at hx;subst hx;rfl) (aB ?_)))
    rw [e]
    show _=_
    rw [List.map_append]
    rfl
  omega
theorem aNq {a b : ByteArray} (h : a.data.toList=b.data.toList) : a=b:=by
  cases a;cases b;congr 1;exact Array.toList_inj.1 h
theorem zR (a b : ByteArray) : (a++b).data.toList=a.data.toList++b.data.toList:=by
  rw [ByteArray.data_append,Array.toList_append]
theorem uN : ∀ (j : Nat) (n : Nat),n<10 ^ (j+1)→(vV j (n : Int)).data.toList=Lib.decDigits n
  | 0,n,h=>by
    rw [Lib.decDigits_one (by omega)]
    show [UInt8.ofNat (48+(n : Int)).toNat]=_
    rw [show (48+(n : Int)).toNat=48+n by omega]
  | j+1,n,h=>by
    unfold vV
    by_cases h1 : (n : Int)<10
    · rw [if_pos h1,Lib.decDigits_one (by omega)]
      show [UInt8.ofNat (48+(n : Int)).toNat]=_
      rw [show (48+(n : Int)).toNat=48+n by omega]
    · rw [if_neg h1,zR,show ((n : Int) / 10)=((n / 10 : Nat) : Int) by omega,uN j (n / 10) (by have : 10 ^ (j+1+1)=10 ^ (j+1)*10:=Nat.pow_succ ..;omega)]
      conv=>rhs;rw [Lib.decDigits,dif_neg (by omega)]
      show _++[UInt8.ofNat (48+(n : Int) % 10).toNat]=_
      rw [show (48+(n : Int) % 10).toNat=48+n % 10 by omega]
theorem aIJ {n : Int} (hn : -1000000000≤n∧n≤1000000000) : (⟨(Lib.itoa n).toArray⟩ : ByteArray)=gX n:=by
  refine aNq ?_
  show Lib.itoa n=(gX n).data.toList
  unfold Lib.itoa gX
  by_cases h0 : n<0
  · rw [if_pos h0,if_pos h0]
    obtain ⟨q,rfl⟩ : ∃ q : Nat,n = -(q : Int):=⟨n.natAbs,by omega⟩
    rw [show (-(q : Int)).natAbs=q by omega]
    by_cases h9 : -(q : Int) < -9
    · obtain ⟨e1,e2⟩:=aIz h0
      rw [if_pos h9,e1,e2,Int.neg_neg,Int.neg_neg,Int.neg_neg,zR,zR,show (q : Int) / 10=((q / 10 : Nat) : Int) by omega,show (q : Int) % 10=((q % 10 : Nat) : Int) by omega,
        uN 18 (q / 10) (by omega),uN 18 (q % 10) (by omega),Lib.decDigits_one (show q % 10<10 by omega)]
      conv=>lhs;rw [Lib.decDigits,dif_neg (by omega)]
      rfl
    · rw [if_neg h9,Int.neg_neg,zR,uN 18 q (by omega)]
      rfl
  · rw [if_neg h0,if_neg h0]
    obtain ⟨q,rfl⟩:=Int.eq_ofNat_of_zero_le (show 0≤n by omega)
    rw [Int.toNat_natCast,uN 18 q (by omega)]
section
variable {P : R → Prop} {k : R → Option R}
theorem aHw {n : Int} (hn : -1000000000≤n∧n≤1000000000) (h : Ok P (k [.str (gX n)])) : Ok P (bd (strconv_Itoa (.int .i64 n)) k):=by
  refine aH (Q:=fun r=>r = [.str (gX n)]) ?_ (fun r hr=>by rw [hr];exact h)
  rw [aDQ]
  unfold xG
  simp only
  rw [if_pos (by omega)]
  exact aB (by rw [aIJ hn])
theorem aJJ {b : Bool} (h : Ok P (k [.str (if b then bs [116,114,117,101] else bs [102,97,108,115,101])])) : Ok P (bd (mU (.bool b)) k):=by
  refine aH (Q:=fun r=>r = [.str (if b then bs [116,114,117,101] else bs [102,97,108,115,101])]) ?_ (fun r hr=>by rw [hr];exact h)
  rw [wW]
  refine aH (Q:=fun r=>r = [.str (if b then bs [116,114,117,101] else bs [102,97,108,115,101])]) ?_ (fun r hr=>by rw [hr];exact aB rfl)
  rw [oQ]
  cases b
  · exact aW (aB rfl)
  · exact aX (aB rfl)
theorem aMN {s : ByteArray} (hs : s.size≤1000000) (h : Ok P (k [.bool (dT s)])) : Ok P (bd (nC (.str s)) k):=aH (aCS hs) (fun r hr=>by rw [hr];exact h)
theorem aFh {v : cO} {nf recs : Int} (hs : v.s.size≤1000000) (hn : -1000000000≤nf∧nf≤1000000000) (hr : -1000000000≤recs∧recs≤1000000000) : Ok (fun r=>r = [.bool (bM nf recs v)]) (qI v.pv (.int .i64 nf) (.int .i64 recs)):=by
  rw [aDK]
  refine aD rfl (aA rfl (aA rfl (aA rfl ?_)))
  refine aF (aC (fun h0=>?_) (fun h0=>?_))
  rotate_left
  refine aF (aC (fun h1=>pA ?_) (fun h1=>?_))
  rotate_left
  refine aF (aC (fun h2=>eW ?_) (fun h2=>?_))
  rotate_left
  refine aF (aC (fun h3=>aF ?_) (fun h3=>?_))
  rotate_left
  refine aF (aC (fun h4=>gA hr ?_) (fun h4=>?_))
  rotate_left
  refine aF (aC (fun h5=>gA hn ?_) (fun h5=>aB ?_))
  rotate_right 5
  · refine aHv (a:=v) (b:=⟨0,0,bs []⟩) (aB ?_)
    unfold bM
    cases hse : kK v.s (bs []) with
    | false=>rw [if_pos ⟨by omega,rfl⟩];simp [hse]
    | true=>rw [if_neg (by simp),if_pos h0];simp [h0,hse]
  all_goals unfold bM
  · cases hse : kK v.s (bs []) with
    | false=>
      rw [if_pos ⟨by omega,rfl⟩]
      cases cC v.n
      · exact aW (aB rfl)
      · exact aX (qP (aB (by rw [hse])))
    | true=>
      rw [if_neg (by simp),if_neg h0,if_pos h1]
      cases cC v.n
      · exact aW (aB rfl)
      · exact aX (qP (aB (by rw [hse])))
  · cases hse : kK v.s (bs []) with
    | false=>
      rw [if_pos ⟨by omega,rfl⟩]
      cases kM v.n 0 1
      · exact aW (aB rfl)
      · exact aX (qP (aB (by rw [hse])))
    | true=>
      rw [if_neg (by simp),if_neg h0,if_neg h1,if_pos h2]
      cases kM v.n 0 1
      · exact aW (aB rfl)
      · exact aX (qP (aB (by rw [hse])))
  · rw [if_neg (fun h=>h.1 h3),if_neg h0,if_neg h1,if_neg h2,if_pos h3]
    refine aC (fun h6=>aMN hs (aB ?_)) (fun h6=>aB ?_)
    · rw [decide_eq_true h6];rfl
    · rw [decide_eq_false h6];rfl
  · have e : kM v.n 0 (recs - 1)=(decide (0≤v.n)&&decide (v.n<recs)):=by
      unfold kM
      congr 1
      exact decide_eq_decide.2 (by omega)
    rw [e]
    cases hse : kK v.s (bs []) with
    | false=>
      rw [if_pos ⟨by omega,rfl⟩]
      cases (decide (0≤v.n)&&decide (v.n<recs))
      · exact aW (aB rfl)
      · exact aX (qP (aB (by rw [hse])))
    | true=>
      rw [if_neg (by simp),if_neg h0,if_neg h1,if_neg h2,if_neg h3,if_pos h4]
      cases (decide (0≤v.n)&&decide (v.n<recs))
      · exact aW (aB rfl)
      · exact aX (qP (aB (by rw [hse])))
  · cases hse : kK v.s (bs []) with
    | false=>
      rw [if_pos ⟨by omega,rfl⟩]
      cases kM v.n 0 (nf - 1)
      · exact aW (aB rfl)
      · exact aX (qP (aB (by rw [hse])))
    | true=>
      rw [if_neg (by simp),if_neg h0,if_neg h1,if_neg h2,if_neg h3,if_neg h4,if_pos h5]
      cases kM v.n 0 (nf - 1)
      · exact aW (aB rfl)
      · exact aX (qP (aB (by rw [hse])))
  · by_cases hse : kK v.s (bs [])=false
    · rw [if_pos ⟨by omega,hse⟩]
    · rw [if_neg (fun h=>hse h.2),if_neg h0,if_neg h1,if_neg h2,if_neg h3,if_neg h4,if_neg h5]
theorem aHx {v : cO} {hp : List (List cO)} {nf : Int} (hnf : nf≤1000) (hh : hp.length≤1000) (hr : ∀ r∈hp,r.length≤1000) (hv : bM nf hp.length v=true) :
    Ok (fun r=>r = [.str (gB v hp)]) (rP v.pv (.lst (hp.map bL))):=by
  have hn : -1000000000≤v.n∧v.n≤1000000000∧(v.k=4→0≤v.n∧v.n<hp.length)∧0≤v.k∧v.k≤5:=by
    unfold bM at hv
    repeat' split at hv
    all_goals first
      | (cases hv;done)
      | (simp only [cC,bK,Bool.and_eq_true,decide_eq_true_eq] at hv;omega)
  rw [aB3]
  unfold gB
  have hdig:=qQ v.n
  refine aD rfl (aA rfl (aA rfl (aA rfl ?_)))
  refine aF (aC (fun h0=>aB ?_) (fun h0=>?_))
  · rw [if_pos h0]
  refine aF (aC (fun h1=>aHw (by omega) (aB ?_)) (fun h1=>?_))
  · rw [if_neg h0,if_pos h1];rfl
  refine aF (aC (fun h2=>aF (aJJ (aB ?_))) (fun h2=>?_))
  · rw [if_neg h0,if_neg h1,if_pos h2]
    by_cases h : v.n=1
    · rw [decide_eq_true h,if_pos h,if_pos rfl];rfl
    · rw [decide_eq_false h,if_neg h,if_neg (by simp)];rfl
  refine aF (aC (fun h3=>aB ?_) (fun h3=>?_))
  · rw [if_neg h0,if_neg h1,if_neg h2,if_pos h3]
  refine aF (aC (fun h5=>aHw (by omega) (mR ?_ (aB ?_))) (fun h5=>?_))
  · have : (bs [102,117,110]).size=3:=rfl
    omega
  · rw [if_neg h0,if_neg h1,if_neg h2,if_neg h3,if_pos h5]
  refine aF (aC (fun h4=>aG (gA (by omega) ?_)) (fun h4=>aB ?_))
  · have h6:=hn.2.2.1 h4
    rw [bK.2 (by omega),if_neg h0,if_neg h1,if_neg h2,if_neg h3,if_neg h5,if_pos h4]
    have hlen : (hp[v.n.toNat]?.getD []).length≤1000:=by
      cases hg : hp[v.n.toNat]? with
      | none=>simp
      | some r=>exact hr r (List.mem_of_getElem? hg)
    have hd:=qQ (hp[v.n.toNat]?.getD []).length
    have e1 : (bs [123]).size=1:=rfl
    have e2 : (bs [125]).size=1:=rfl
    refine aX (dE h6.1 h6.2 (aA rfl (aG (aHw (by omega) (mR ?_ (mR ?_ (aB rfl)))))))
    · omega
    · rw [ByteArray.size_append]
      omega
  · rw [if_neg h0,if_neg h1,if_neg h2,if_neg h3,if_neg h5,if_neg h4]
end
structure nX where
  fr : List cF
  hp : List (List cO)
  made : Int
  out : List ByteArray
  st : Int
  tr : Int
  val : cO
  steps : Int
def nX.pv (v : nX) : PV:=.agg [.lst (v.fr.map cF.pv),.lst (v.hp.map bL),.int .i64 v.made,.lst (v.out.map PV.str),.int .i64 v.st,.int .i64 v.tr,.int .i64 v.val.k,.int .i64 v.val.n,.str v.val.s,.int .i64 v.steps]
def mJ (v : nX) : R:=[.int .i64 v.made,.int .i64 v.st,.int .i64 v.tr,.int .i64 v.val.k,.int .i64 v.val.n,.str v.val.s,.int .i64 v.steps,.lst (v.fr.map cF.pv),.lst (v.hp.map bL),.lst (v.out.map PV.str)]
structure Sz (v : nX) : Prop where
  f : v.fr.length≤1000
  h : v.hp.length≤1000
  o : v.out.length≤1000
  fl : ∀ f∈v.fr,f.loc.length≤1000∧f.stk.length≤1000
  hl : ∀ r∈v.hp,r.length≤1000
theorem aCW (l : List cO) : PV.flatEs true [] (l.map cO.pv)=true:=by
  induction l with
  | nil=>simp [PV.flatEs]
  | cons x r ih=>simp [PV.flatEs,PV.flatE,PV.flatCs,PV.flat,cO.pv,ih]
theorem eK (l : List cO) : PV.flatO (.own 3 32 true []) (aS l)=true:=aCW l
theorem yX (l : List cF) : PV.flatO (.own 4 64 true [.leaf,.leaf,(.own 3 32 true []),(.own 3 32 true [])]) (.lst (l.map cF.pv))=true:=by
  show PV.flatEs true _ (l.map cF.pv)=true
  induction l with
  | nil=>simp [PV.flatEs]
  | cons x r ih=>
    simp only [List.map_cons,PV.flatEs,Bool.and_eq_true]
    refine ⟨?_,ih⟩
    simp [cF.pv,PV.flatE,PV.flatCs,PV.flat,aS,aCW]
theorem aCX (l : List (List cO)) : PV.flatO (.own 1 24 true [(.own 3 32 true [])]) (.lst (l.map bL))=true:=by
  show PV.flatEs true _ (l.map bL)=true
  induction l with
  | nil=>simp [PV.flatEs]
  | cons x r ih=>
    simp only [List.map_cons,PV.flatEs,Bool.and_eq_true]
    refine ⟨?_,ih⟩
    simp [bL,PV.flatE,PV.flatCs,aS,aCW]
theorem aGC (l : List ByteArray) : PV.flatO (.own 1 16 false []) (.lst (l.map PV.str))=true:=by
  show PV.flatEs false [] (l.map PV.str)=true
  induction l with
  | nil=>simp [PV.flatEs]
  | cons x r ih=>simp [PV.flatEs,PV.flatE,PV.flat,ih]
theorem aKr {l : List ByteArray} : ∀ x∈l.map PV.str,x.isEl 1 false=true:=by
  intro x hx
  obtain ⟨a,_,rfl⟩:=List.mem_map.1 hx
  rfl
theorem aF4 {hp : List (List cO)} (h : hp.length≤1000) (hl : ∀ r∈hp,r.length≤1000) : Ok (fun r=>r = [.lst (hp.map bL)]) (oN (.lst (hp.map bL))):=by
  rw [aAd]
  refine eH (n:=hp.length) (P:=fun _ r=>r = [.lst (hp.map bL)]) (F:=fun i=>iQ (.lst (hp.map bL)) (.int .i64 i) (.lst ((hp.take i).map bL))) ?_ ?_ 0 (by omega)
  · rw [nU]
    refine aG (aJ (aC (fun h=>by omega) (fun _=>aB ?_)))
    rw [List.take_length]
  · intro i hi ih
    rw [nU]
    have:=hl _ (List.getElem_mem hi)
    refine aG (aJ (aC (fun _=>?_) (fun h=>by omega)))
    refine aV hi (fun _=>rfl) (aA rfl (jI (by rw [List.length_map];omega) oZ ?_))
    refine fB (by simp;omega) (fun x hx=>by simp only [List.mem_singleton] at hx;subst hx;rfl) (aO (by omega) ?_)
    have e : (hp.take i).map bL++[PV.agg [.lst (hp[i].map cO.pv)]]=(hp.take (i+1)).map bL:=by
      rw [List.take_add_one,List.getElem?_eq_getElem hi,List.map_append];rfl
    rw [e]
    exact ih
theorem aFi {f : cF} (h : f.loc.length≤1000∧f.stk.length≤1000) : Ok (fun r=>r = [.int .i64 f.f,.int .i64 f.pc,aS f.loc,aS f.stk]) (nQ f.pv):=by
  rw [yP]
  refine aD rfl (aA rfl (aA rfl (aA rfl (aA rfl ?_))))
  exact jI (by rw [List.length_map];omega) oZ (jI (by rw [List.length_map];omega) oZ (aB rfl))
theorem aLi {v : nX} (z : Sz v) : Ok (fun r=>r=mJ v) (jK v.pv):=by
  obtain ⟨zf,zh,zo,zfl,zhl⟩:=z
  rw [aDO]
  refine aD rfl (aA rfl (aA rfl (aA rfl (aA rfl (aA rfl (aA rfl (aA rfl (aA rfl (aA rfl (aA rfl ?_))))))))))
  refine eH (n:=v.fr.length) (P:=fun _ r=>r=mJ v) (F:=fun i=>mQ (.int .i64 i) (.lst (v.fr.map cF.pv)) (.lst (v.hp.map bL)) (.int .i64 v.made) (.lst (v.out.map PV.str)) (.int .i64 v.st) (.int .i64 v.tr) (.int .i64 v.val.k) (.int .i64 v.val.n) (.str v.val.s) (.int .i64 v.steps) (.int .i64 0) (.int .i64 0) (.int .i64 0) (.int .i64 0) (.int .i64 0) (.str (bs [])) (.int .i64 0) (.lst []) (.lst []) (.lst []) (.lst ((v.fr.take i).map cF.pv))) ?_ ?_ 0 (by omega)
  · rw [rX]
    refine aG (aJ (aC (fun h=>by omega) (fun _=>?_)))
    refine aH (aF4 zh zhl) (fun r hr=>?_)
    subst hr
    refine fC (aCX _) (jI (by rw [List.length_map];omega) aKr (aB ?_))
    rw [List.take_length]
    rfl
  · intro i hi ih
    rw [rX]
    refine aG (aJ (aC (fun _=>?_) (fun h=>by omega)))
    refine aV hi (fun _=>rfl) (aH (aFi (zfl _ (List.getElem_mem hi))) (fun r hr=>?_))
    subst hr
    refine dP rfl (dP rfl (fC (eK _) (fC (eK _) ?_)))
    refine fB (by simp;omega) (fun x hx=>by simp only [List.mem_singleton] at hx;subst hx;rfl) (aO (by omega) ?_)
    have e : (v.fr.take i).map cF.pv++[PV.agg [.int .i64 v.fr[i].f,.int .i64 v.fr[i].pc,aS v.fr[i].loc,aS v.fr[i].stk]]=(v.fr.take (i+1)).map cF.pv:=by
      rw [List.take_add_one,List.getElem?_eq_getElem hi,List.map_append];rfl
    exact e▸ih
theorem aD3 {P : R→Prop} {k : R→Option R} {v : nX} (z : Sz v) (h : Ok P (k (mJ v))) : Ok P (bd (jK v.pv) k):=aH (aLi z) (fun r hr=>by rw [hr];exact h)
theorem jZ {P : R→Prop} {v : nX} {o : Option R} (h : Ok P o) :
    Ok P (PV.guardFlat (gd (mJ v) 0) (PV.guardFlat (gd (mJ v) 1) (PV.guardFlat (gd (mJ v) 2) (PV.guardFlat (gd (mJ v) 3) (PV.guardFlat (gd (mJ v) 4) (PV.guardFlat (gd (mJ v) 5) (PV.guardFlat (gd (mJ v) 6)
      (PV.guardOwn (.own 4 64 true [.leaf,.leaf,(.own 3 32 true []),(.own 3 32 true [])]) (gd (mJ v) 7) (PV.guardOwn (.own 1 24 true [(.own 3 32 true [])]) (gd (mJ v) 8) (PV.guardOwn (.own 1 16 false []) (gd (mJ v) 9) o)))))))))):=
  dP rfl (dP rfl (dP rfl (dP rfl (dP rfl (dP rfl (dP rfl (fC (yX _) (fC (aCX _) (fC (aGC _) h)))))))))
def dB (fs : List cY) (i : Int) : List bZ:=(fs[i.toNat]?.map cY.code).getD []
def jD (fs : List cY) (f : cF) : bZ:=(dB fs f.f)[f.pc.toNat]?.getD ⟨0,0⟩
def yY (_m : eQ) (v : nX) (fs0 : List cF) : aF3→nX
  | .trap c=>⟨v.fr,v.hp,v.made,v.out,2,c,v.val,v.steps+1⟩
  | .next fr hp made out=>⟨fs0++[fr],hp,made,out,v.st,v.tr,v.val,v.steps+1⟩
  | .call fr g=>⟨fs0++[fr,g],v.hp,v.made,v.out,v.st,v.tr,v.val,v.steps+1⟩
  | .ret a=>if fs0 = [] then ⟨[],v.hp,v.made,v.out,1,v.tr,a,v.steps+1⟩ else ⟨aAA a fs0,v.hp,v.made,v.out,v.st,v.tr,v.val,v.steps+1⟩
def wU (m : eQ) (v : nX) (fs0 : List cF) (f : cF) : aF3:=
  let x:=jD m.funcs f
  let b:=f.stk.length - (bA m.funcs x).1.toNat
  dF m ⟨f.f,f.pc+1,f.loc,f.stk.take b⟩ (f.stk.drop b) (fs0.length+1) v.hp v.made v.out x
def jE (m : eQ) (v : nX) : nX:=
  if v.st≠0 then v else if v.steps=50000 then v
  else match v.fr.getLast? with
  | none=>v
  | some f=>yY m v v.fr.dropLast (wU m v v.fr.dropLast f)
theorem zS {m : eQ} {v : nX} {fs0 : List cF} {f : cF} (h1 : v.st=0) (h2 : v.steps≠50000) (h3 : v.fr=fs0++[f]) : jE m v=yY m v fs0 (wU m v fs0 f):=by
  unfold jE
  rw [if_neg (by omega),if_neg h2,h3]
  simp
structure aMa (m : eQ) (v : nX) (fs0 : List cF) (f : cF) : Prop where
  fr : v.fr=fs0++[f]
  fi : 0≤f.f∧f.f<m.funcs.length
  pc : 0≤f.pc∧f.pc<(dB m.funcs f.f).length
  nc : (dB m.funcs f.f).length≤120
  ins : cB m.texts.length m.funcs.length f.loc.length (dB m.funcs f.f).length (jD m.funcs f).o (jD m.funcs f).a=true
  us : 0≤(bA m.funcs (jD m.funcs f)).1∧(bA m.funcs (jD m.funcs f)).1≤f.stk.length
  small : ∀ b,aL9 m fs0 ⟨f.f,f.pc+1,f.loc,f.stk.take b⟩ (f.stk.drop b) v.hp v.made v.out
theorem aLj {m : eQ} {v : nX} (z : Sz v) (hst : 0≤v.steps∧v.steps≤50000) (hg : v.st=0→v.steps≠50000→∃ fs0 f,aMa m v fs0 f) : Ok (fun r=>r = [(jE m v).pv]) (vG m.pv v.pv):=by
  rw [aDB]
  refine aD rfl (aA rfl (aA rfl (aD rfl (aA rfl (aA rfl (aA rfl (aA rfl (aA rfl (aA rfl (aA rfl (aA rfl (aA rfl (aA rfl ?_)))))))))))))
  refine bE (aK (fun h=>?_) (fun h=>?_))
  · refine aD3 z (jZ (aB ?_))
    unfold jE
    rw [if_pos h];rfl
  have h0 : v.st=0:=by simpa using h
  refine aF (aC (fun h=>?_) (fun h5=>?_))
  · refine aD3 z (jZ (aB ?_))
    unfold jE
    rw [if_neg (by omega),if_pos h];rfl
  obtain ⟨fs0,f,G⟩:=hg h0 h5
  rw [zS h0 h5 G.fr]
  obtain ⟨gfr,gfi,gpc,gnc,gins,gus,gsm⟩:=G
  obtain ⟨fi,hfi⟩:=Int.eq_ofNat_of_zero_le gfi.1
  obtain ⟨pi,hpi⟩:=Int.eq_ofNat_of_zero_le gpc.1
  have hfl : fi<m.funcs.length:=by omega
  have hco : dB m.funcs f.f=m.funcs[fi].code:=by simp [dB,hfi,List.getElem?_eq_getElem hfl]
  have hpl : pi<m.funcs[fi].code.length:=by rw [← hco];omega
  have hin : jD m.funcs f=m.funcs[fi].code[pi]:=by simp [jD,hco,hpi,List.getElem?_eq_getElem hpl]
  have n0:=(gsm 0).n0
  have nA : (fs0.map cF.pv).length≤23:=by rw [List.length_map];exact n0
  refine aD3 z (jZ ?_)
  have efr : v.fr.map cF.pv=fs0.map cF.pv++[f.pv]:=by rw [gfr,List.map_append];rfl
  show Ok _ (bd (dU _ _ _ _ _ _ _ _ _ _ (.lst (v.fr.map cF.pv)) _ _) _)
  rw [efr]
  refine yW (by omega) ?_
  refine bX rfl rfl (aA rfl ?_)
  rw [hfi]
  refine aV hfl (fun _=>rfl) (aA (y:=.lst (m.funcs[fi].code.map bZ.pv)) rfl (bX rfl rfl (aA rfl ?_)))
  rw [hpi]
  refine aV hpl (fun _=>rfl) (aD rfl (aA rfl (aA rfl (bX rfl rfl (aA rfl ?_)))))
  refine aO (by omega) (aU rfl (cH rfl rfl (by omega) rfl ?_))
  generalize hb : f.stk.length - (bA m.funcs (jD m.funcs f)).1.toNat=b
  have hsplit : f.stk=f.stk.take b++f.stk.drop b:=(List.take_append_drop b f.stk).symm
  have hdo:=aMM (nc:=(dB m.funcs f.f).length) (a3:=.int .i64 v.st) (a4:=.int .i64 v.tr) (a5:=.int .i64 v.val.k) (a6:=.int .i64 v.val.n) (a7:=.str v.val.s) (a8:=.int .i64 v.steps) (gsm b) gins (by rw [List.length_drop];omega)
  rw [hin] at hdo hb
  have hnx : wU m v fs0 f=dF m ⟨f.f,f.pc+1,f.loc,f.stk.take b⟩ (f.stk.drop b) (fs0.length+1) v.hp v.made v.out m.funcs[fi].code[pi]:=by
    simp only [wU]
    rw [hin,hb]
  rw [← hnx] at hdo
  rw [← hsplit] at hdo
  refine aH hdo (fun r hr=>?_)
  cases ha : wU m v fs0 f with
  | trap c=>
    rw [ha] at hr
    obtain ⟨hc,hr⟩:=hr
    rw [hr]
    refine bE (aK (fun _=>?_) (fun h=>absurd (by simpa using h) hc))
    rw [← efr]
    refine aD3 z ?_
    refine jZ ?_
    refine aU rfl ?_
    refine aO (by omega) ?_
    refine aU rfl (aB rfl)
  | next fr hp made out=>
    rw [ha] at hr
    have hr : r=_:=hr
    subst hr
    refine bE (aK (fun h=>absurd rfl h) (fun _=>aO (by omega) (aU rfl (aB ?_))))
    simp only [yY,nX.pv,List.map_append]
    rfl
  | call fr g=>
    rw [ha] at hr
    have hr : r=_:=hr
    subst hr
    refine bE (aK (fun h=>absurd rfl h) (fun _=>aO (by omega) (aU rfl (aB ?_))))
    simp only [yY,nX.pv,List.map_append,List.append_assoc]
    rfl
  | ret a=>
    rw [ha] at hr
    have hr : r=_:=hr
    by_cases hf : fs0 = []
    · rw [if_pos hf] at hr
      subst hr
      refine bE (aK (fun h=>absurd rfl h) (fun _=>aO (by omega) (aU rfl (aB ?_))))
      simp only [yY,if_pos hf,nX.pv]
      rfl
    · rw [if_neg hf] at hr
      subst hr
      refine bE (aK (fun h=>absurd rfl h) (fun _=>aO (by omega) (aU rfl (aB ?_))))
      simp only [yY,if_neg hf,nX.pv]
      rfl
section
variable {P : R → Prop} {k : R → Option R}
theorem vY {l : List cO} (hl : l.length≤1000000) (h : Ok P (k [aS l])) : Ok P (bd (bV (aS l)) k):=by
  refine aH (Q:=fun r=>r = [aS l]) ?_ (fun r hr=>by rw [hr];exact h)
  rw [lQ]
  refine aIq (aKk (fun e=>aB ?_) ?_)
  · have : l = []:=List.map_eq_nil_iff.1 e
    subst this;rfl
  · exact iJ (l:=[]) (m:=l) (by simp;omega) (aB (by simp))
theorem aJK {l : List ByteArray} (hl : l.length≤1000000) (h : Ok P (k [.lst (l.map PV.str)])) : Ok P (bd (gR (.lst (l.map PV.str))) k):=by
  refine aH (Q:=fun r=>r = [.lst (l.map PV.str)]) ?_ (fun r hr=>by rw [hr];exact h)
  rw [pJ]
  refine aIq (aKk (fun e=>aB ?_) ?_)
  · have : l = []:=List.map_eq_nil_iff.1 e
    subst this;rfl
  · exact jI (by simp;omega) aKr (aB rfl)
theorem aKs {n : Int} (h0 : 0≤n) (h1 : n≤1000000000) (h : Ok P (k [aS (List.replicate n.toNat cX)])) : Ok P (bd (zM (.int .i64 n)) k):=by
  refine aH (Q:=fun r=>r = [aS (List.replicate n.toNat cX)]) ?_ (fun r hr=>by rw [hr];exact h)
  rw [aHj]
  refine tE h0 h1 (dX ?_)
  rw [decide_eq_true (Int.le_refl n)]
  exact aX (tE h0 h1 (aB rfl))
theorem aMO {n : Int} (h0 : 0≤n) (h1 : n≤1000000) (h : Ok P (k [.lst []])) : Ok P (bd (eI (.int .i64 n)) k):=by
  refine aH (Q:=fun r=>r = [.lst []]) ?_ (fun r hr=>by rw [hr];exact h)
  rw [lW]
  unfold rA
  simp only
  rw [if_pos (by omega)]
  exact aB rfl
theorem aKt {a b : List cO} (ha : a.length≤1000) (hb : b.length≤1000) (h : Ok P (k [aS (a++b)])) : Ok P (bd (cR (.lst [aS a,aS b])) k):=by
  refine aH (Q:=fun r=>r = [aS (a++b)]) ?_ (fun r hr=>by rw [hr];exact h)
  have at0 : ∀ {P : R→Prop} {k : PV→Option R},Ok P (k (aS a))→Ok P (bd (PV.at_ 1 false (.lst [aS a,aS b]) (.int .i64 0)) k):=fun h=>yA (by omega) rfl rfl h
  have at1 : ∀ {P : R→Prop} {k : PV→Option R},Ok P (k (aS b))→Ok P (bd (PV.at_ 1 false (.lst [aS a,aS b]) (.int .i64 1)) k):=fun h=>yA (by omega) rfl rfl h
  rw [lA]
  refine cL ?_
  show Ok _ (bO _ (.int .i64 0) _ (.int .i64 2) (.int .i64 0))
  rw [dA]
  refine aJ (aX (at0 (bU (aO (by omega) (aJ (aC (fun h=>by omega) (fun _=>aO (by omega) ?_)))))))
  show Ok _ (bO _ _ _ (.int .i64 2) (.int .i64 1))
  rw [dA]
  refine aJ (aX (at1 (bU (aO (by omega) (aJ (aC (fun h=>by omega) (fun _=>aO (by omega) ?_)))))))
  show Ok _ (bO _ _ _ (.int .i64 2) (.int .i64 2))
  rw [dA]
  refine aJ (aW (aMO (by omega) (by omega) (cL ?_)))
  show Ok _ (bN _ (.int .i64 2) (.int .i64 0) (aS []))
  rw [cW]
  refine aJ (aX (at0 (iJ (by simp;omega) (aO (by omega) ?_))))
  show Ok _ (bN _ (.int .i64 2) (.int .i64 1) _)
  rw [cW]
  refine aJ (aX (at1 (iJ (by simp;omega) (aO (by omega) ?_))))
  show Ok _ (bN _ (.int .i64 2) (.int .i64 2) _)
  rw [cW]
  refine aJ (aW (aB ?_))
  simp
theorem aBq {fs : List cY} {i : Int} {k : PV→Option R} (h0 : 0≤i) (h1 : i<fs.length) (h : ∀ f : cY,fs[i.toNat]? = some f→Ok P (k f.pv)) : Ok P (bd (PV.at_ 3 true (.lst (fs.map cY.pv)) (.int .i64 i)) k):=by
  obtain ⟨n,rfl⟩:=Int.eq_ofNat_of_zero_le h0
  refine aV (by omega) (fun _=>rfl) (h _ ?_)
  rw [Int.toNat_natCast,List.getElem?_eq_getElem (by omega)]
theorem aFj {T : PV} {fs : List cY} {g : Int} {args : List cO} (h0 : 0≤g) (h1 : g<fs.length) (hl : (args.length : Int)≤uM fs g) (hl2 : uM fs g≤12) (h : Ok P (k [.int .i64 g,.int .i64 0,aS (pU fs g args).loc,aS []])) :
    Ok P (bd (qK (.agg [T,.lst (fs.map cY.pv)]) (.int .i64 g) (aS args)) k):=by
  refine aH (Q:=fun r=>r = [.int .i64 g,.int .i64 0,aS (pU fs g args).loc,aS []]) ?_ (fun r hr=>by rw [hr];exact h)
  rw [aDP]
  refine aD rfl (aA rfl (aA rfl (aBq h0 h1 (fun f hf=>?_))))
  have e : uM fs g=f.lc:=by unfold uM;rw [hf];rfl
  rw [e] at hl hl2
  refine aA rfl (bU (bG (by omega) (aKs (by omega) (by omega) (fC (eK _) ?_))))
  refine jI (by simp) (fun x hx=>?_) (aKt (by omega) (by simp;omega) (fC (eK _) (aU rfl (aB ?_))))
  · simp at hx
    rcases hx with rfl | rfl<;>rfl
  · unfold pU
    rw [e]
    simp only
    rw [show (f.lc - (args.length : Int)).toNat=f.lc.toNat - args.length by omega]
    rfl
theorem aIK {hp : List (List cO)} (h : hp.length≤1000) (hl : ∀ r∈hp,r.length≤1000) : Ok (fun r=>r = [.lst (hp.map bL)]) (tP (.lst (hp.map bL))):=by
  rw [aCO]
  have e : (hp.map bL).length=hp.length:=List.length_map ..
  refine cL ?_
  rw [e]
  refine (eH (n:=hp.length) (F:=fun i=>lJ (.lst (hp.map bL)) (.int .i64 hp.length) (.int .i64 i) (.lst ((hp.take i).map bL))) (P:=fun _ r=>r = [.lst (hp.map bL)]) ?_ (fun i hi ih=>?_) 0 (Nat.zero_le _))
  · rw [qA]
    refine aJ ?_
    rw [decide_eq_false (by omega)]
    refine aW (aB ?_)
    rw [List.take_length]
  · rw [qA]
    refine aJ ?_
    rw [decide_eq_true (by omega)]
    refine aX (aV hi (fun _=>rfl) (aD rfl (aA rfl (vY (by have:=hl _ (List.getElem_mem hi);omega) (fC (eK _) ?_)))))
    refine fB (by simp;omega) (fun x hx=>by simp at hx;subst hx;rfl) (aO (by omega) ?_)
    have e : (hp.take (i+1)).map bL=(hp.take i).map bL++[PV.agg [aS hp[i]]]:=by
      rw [List.take_add_one,List.getElem?_eq_getElem hi,List.map_append];rfl
    rw [e] at ih
    exact ih
theorem aF5 {fr : List cF} (h : fr.length≤1000) (hl : ∀ f∈fr,f.loc.length≤1000∧f.stk.length≤1000) : Ok (fun r=>r = [.lst (fr.map cF.pv)]) (pS (.lst (fr.map cF.pv))):=by
  rw [aBl]
  have e : (fr.map cF.pv).length=fr.length:=List.length_map ..
  refine cL ?_
  rw [e]
  refine (eH (n:=fr.length) (F:=fun i=>jL (.lst (fr.map cF.pv)) (.int .i64 fr.length) (.int .i64 i) (.lst ((fr.take i).map cF.pv))) (P:=fun _ r=>r = [.lst (fr.map cF.pv)]) ?_ (fun i hi ih=>?_) 0 (Nat.zero_le _))
  · rw [oE]
    refine aJ ?_
    rw [decide_eq_false (by omega)]
    refine aW (aB ?_)
    rw [List.take_length]
  · rw [oE]
    refine aJ ?_
    rw [decide_eq_true (by omega)]
    have hb:=hl _ (List.getElem_mem hi)
    refine aX (aV hi (fun _=>rfl) (aD rfl (aA rfl (aA rfl (aA rfl (aA rfl (vY (by omega) (fC (eK _) (vY (by omega) (fC (eK _) ?_))))))))))
    refine fB (by simp;omega) (fun x hx=>by simp at hx;subst hx;rfl) (aO (by omega) ?_)
    have e : (fr.take (i+1)).map cF.pv=(fr.take i).map cF.pv++[fr[i].pv]:=by
      rw [List.take_add_one,List.getElem?_eq_getElem hi,List.map_append];rfl
    rw [e] at ih
    exact ih
theorem uO {v : nX} (z : Sz v) (h : Ok P (k (mJ v))) : Ok P (bd (gG v.pv) k):=by
  refine aH (Q:=fun r=>r=mJ v) ?_ (fun r hr=>by rw [hr];exact h)
  rw [aCK]
  refine aD rfl (aA rfl (aA rfl (aA rfl (aA rfl (aA rfl (aA rfl (aA rfl (aA rfl (aA rfl (aA rfl ?_))))))))))
  refine aH (aF5 z.f z.fl) (fun r hr=>?_)
  rw [hr]
  refine fC (yX _) (aH (aIK z.h z.hl) (fun r hr=>?_))
  rw [hr]
  refine fC (aCX _) (aJK (by have:=z.o;omega) (fC (aGC _) (aB rfl)))
end
def DoI (made a3 a4 a5 a6 a7 a8 F H O : PV) (fs0 : List cF) : aF3→R→Prop
  | .trap c,r=>c≠0∧r = [.int .i64 c,made,a3,a4,a5,a6,a7,a8,F,H,O]
  | .next fr hp made' out,r=>r = [.int .i64 0,.int .i64 made',a3,a4,a5,a6,a7,a8,.lst (fs0.map cF.pv++[fr.pv]),.lst (hp.map bL),.lst (out.map PV.str)]
  | .call fr g,r=>r = [.int .i64 0,made,a3,a4,a5,a6,a7,a8,.lst (fs0.map cF.pv++[fr.pv]++[g.pv]),H,O]
  | .ret v,r=>r=if fs0 = [] then [.int .i64 0,made,.int .i64 1,a4,.int .i64 v.k,.int .i64 v.n,.str v.s,a8,.lst [],H,O]
      else [.int .i64 0,made,a3,a4,a5,a6,a7,a8,.lst ((aAA v fs0).map cF.pv),H,O]
section
variable {P : R → Prop} {k : R → Option R} {A : List PV}
theorem jF {A : List PV} {f pc : Int} {loc s : List cO} {i : Int} {j : Nat} {y : PV} {k : PV→Option R} (hi : i=A.length) (hy : [PV.int .i64 f,.int .i64 pc,aS loc,aS s][j]? = some y) (h : Ok P (k y)) :
    Ok P (bd (PV.at_ 4 true (.lst (A++[cF.pv ⟨f,pc,loc,s⟩])) (.int .i64 i)) fun x=>bd (PV.cell x j) k):=bX hi rfl (aA hy h)
theorem vZ {A : List PV} {f : cF} {i : Int} {k : PV→Option R} (hi : i=A.length) (h : ∀ x,Ok P (k x)) : Ok P (bd (PV.at_ 4 true (.lst (A++[f.pv])) (.int .i64 i)) k):=bX hi rfl (h _)
theorem fU {f pc next base i : Int} {loc s t laid : List cO} {k : PV→Option R} (hi : i=A.length) (hb : base=s.length) (hs : s.length≤1000) (hl : laid.length≤1000) (h : Ok P (k (.lst (A++[cF.pv ⟨f,next,loc,s++laid⟩])))) :
    Ok P (bd (PV.at_ 4 true (.lst (A++[cF.pv ⟨f,pc,loc,s++t⟩])) (.int .i64 i)) fun _=>
      bd (PV.at_ 4 true (.lst (A++[cF.pv ⟨f,pc,loc,s++t⟩])) (.int .i64 i)) fun v1=>
      bd (PV.cell v1 3) fun v2=>
      bd (PV.cut 3 true v2 (.int .i64 0) (.int .i64 base)) fun _=>
      bd (PV.at_ 4 true (.lst (A++[cF.pv ⟨f,pc,loc,s++t⟩])) (.int .i64 i)) fun v4=>
      bd (PV.cell v4 3) fun v5=>
      bd (PV.cut 3 true v5 (.int .i64 0) (.int .i64 base)) fun v6=>
      bd (PV.at_ 4 true (.lst (A++[cF.pv ⟨f,pc,loc,s++t⟩])) (.int .i64 i)) fun v7=>
      bd (PV.cell v7 3) fun _=>
      bd (PV.setCell 4 (.lst (A++[cF.pv ⟨f,pc,loc,s++t⟩])) (.int .i64 i) 3 .hole) fun v9=>
      bd (PV.cat 3 32 true v6 (aS laid)) fun v10=>
      bd (PV.setCell 4 v9 (.int .i64 i) 3 v10) fun v11=>
      bd (PV.one (.int .i64 next)) fun v12=>
      bd (PV.setCell 4 v11 (.int .i64 i) 1 v12) k):=by
  subst hb
  refine vZ hi (fun _=>jF hi rfl (gI (by omega) (by omega) (by simp;omega) (jF hi rfl (gI (by omega) (by omega) (by simp;omega) (jF hi rfl ?_)))))
  have e : (((s++t).take (s.length : Int).toNat).drop (0 : Int).toNat)=s:=by simp
  rw [e]
  exact cH hi rfl (by omega) rfl (iJ (by omega) (cH hi rfl (by omega) rfl (aU rfl (cH hi rfl (by omega) rfl h))))
theorem aKu {l : List cO} {i : Nat} {v : cO} {k : PV→Option R} (hv : l[i]? = some v) (h : Ok P (k v.pv)) : Ok P (bd (PV.inb (aS l) (.int .i64 (i : Int))) fun _=>bd (PV.at_ 3 true (aS l) (.int .i64 (i : Int))) k):=by
  have hi:=(List.getElem?_eq_some_iff.1 hv).1
  refine eF (by omega) (by omega) (mX (by omega) (by omega) (fun w hw=>?_))
  rw [Int.toNat_natCast,hv] at hw
  cases hw
  exact h
theorem wA {l : List cO} {k : PV→Option R} (hl : l.length≤1000) (h : Ok P (k (aS l))) : Ok P (bd (PV.cat 3 32 true (.lst []) (.lst (l.map cO.pv))) fun v=>bd (PV.cat 3 32 true (.lst []) v) k):=
  iJ (l:=[]) (m:=l) (by simp;omega) (iJ (l:=[]) (m:=l) (by simp;omega) (by simpa using h))
theorem zT {f : Nat} {x y : PV} {g : PV→PV→Option R} {Q : R→Prop} (hg : aM f [x,y]=g x y) (h : Ok Q (g x y)) (hk : ∀ r,Q r→Ok P (k r)) : Ok P (bd (PV.apply aM (.fn f []) [x,y]) k):=pB hg h hk
theorem aIL {v : cO} {x : Int} {hp : List (List cO)} {c0 c1 c2 c3 c4 c5 c6 F O : PV} (hx : 0≤x∧x≤1000) (hh : hp.length≤1000) (hr : ∀ r∈hp,r.length≤1000) (hv : v.k=4→0≤v.n∧v.n<hp.length)
    (h1 : v.k≠4→Ok P (k [.nil,.nil,.int .i64 1,c0,c1,c2,c3,c4,c5,c6,F,.lst (hp.map bL),O]))
    (h2 : v.k=4→(hp[v.n.toNat]?.getD []).length≤x→Ok P (k [.nil,.nil,.int .i64 4,c0,c1,c2,c3,c4,c5,c6,F,.lst (hp.map bL),O]))
    (h3 : v.k=4→x<(hp[v.n.toNat]?.getD []).length→Ok P (k [.int .i64 v.n,.int .i64 x,.int .i64 0,c0,c1,c2,c3,c4,c5,c6,F,.lst (hp.map bL),O])) :
    Ok P (bd (oY v.pv (.int .i64 x) c0 c1 c2 c3 c4 c5 c6 F (.lst (hp.map bL)) O) k):=by
  refine aH (Q:=fun r=>(v.k≠4∧r = [.nil,.nil,.int .i64 1,c0,c1,c2,c3,c4,c5,c6,F,.lst (hp.map bL),O])∨(v.k=4∧(hp[v.n.toNat]?.getD []).length≤x∧r = [.nil,.nil,.int .i64 4,c0,c1,c2,c3,c4,c5,c6,F,.lst (hp.map bL),O])∨
    (v.k=4∧x<(hp[v.n.toNat]?.getD []).length∧r = [.int .i64 v.n,.int .i64 x,.int .i64 0,c0,c1,c2,c3,c4,c5,c6,F,.lst (hp.map bL),O])) ?_ ?_
  rotate_left
  · rintro r (⟨g1,rfl⟩ | ⟨g1,g2,rfl⟩ | ⟨g1,g2,rfl⟩)
    · exact h1 g1
    · exact h2 g1 g2
    · exact h3 g1 g2
  rw [aCQ]
  refine aD rfl (aA rfl (aA rfl (aA rfl (bE (aK (fun g=>aB (.inl ⟨g,rfl⟩)) (fun g=>?_))))))
  obtain ⟨g1,g2⟩:=hv g
  have hlen : (hp[v.n.toNat]?.getD []).length≤1000:=by
    cases hg : hp[v.n.toNat]? with
    | none=>simp
    | some r=>exact hr r (List.mem_of_getElem? hg)
  refine oR g1 g2 (dE g1 g2 (dE g1 g2 (aA rfl (bU (dS (aC (fun q=>aB (.inr (.inl ⟨g,q,rfl⟩))) (fun q=>?_)))))))
  exact oR g1 g2 (dE g1 g2 (dE g1 g2 (aA rfl (eF (by omega) (by omega) (aB (.inr (.inr ⟨g,by omega,rfl⟩)))))))
theorem aLk {v : cO} {fs0 : List cF} {f : cF} {c0 c1 c2 c3 c4 c5 c6 H O : PV} (hn : fs0.length≤1000) (hs : ∀ g∈fs0,g.stk.length≤1000)
    (h : Ok P (k (if fs0 = [] then [c0,.int .i64 1,c2,.int .i64 v.k,.int .i64 v.n,.str v.s,c6,.lst [],H,O] else [c0,c1,c2,c3,c4,c5,c6,.lst ((aAA v fs0).map cF.pv),H,O]))) :
    Ok P (bd (rQ v.pv c0 c1 c2 c3 c4 c5 c6 (.lst (fs0.map cF.pv++[f.pv])) H O) k):=by
  refine aH (Q:=fun r=>r=(if fs0 = [] then [c0,.int .i64 1,c2,.int .i64 v.k,.int .i64 v.n,.str v.s,c6,.lst [],H,O] else [c0,c1,c2,c3,c4,c5,c6,.lst ((aAA v fs0).map cF.pv),H,O])) ?_ (fun r hr=>by rw [hr];exact h)
  rw [aB4]
  have e : ((fs0.map cF.pv++[f.pv]).length : Int) - 1=fs0.length:=by simp
  have el : ∀ x∈fs0.map cF.pv++[f.pv],x.isEl 4 true=true:=by
    intro x hx
    rcases List.mem_append.1 hx with hx | hx
    · exact aGB x hx
    · simp at hx;subst hx;rfl
  have et : (((fs0.map cF.pv++[f.pv]).take ((fs0.length : Int)).toNat).drop ((0 : Int)).toNat)=fs0.map cF.pv:=by simp
  refine aD rfl (aA rfl (aA rfl (aA rfl (cL (bG (by simp;omega) ?_)))))
  rw [e]
  refine vE (by omega) (by omega) (by simp;omega) el (vE (by omega) (by omega) (by simp;omega) el ?_)
  rw [et]
  refine aF (aC (fun h0=>aB ?_) (fun h0=>?_))
  · have : fs0 = []:=List.eq_nil_of_length_eq_zero (by omega)
    subst this
    rfl
  · obtain ⟨gs,g,rfl⟩ : ∃ gs g,fs0=gs++[g]:=by
      rcases List.eq_nil_or_concat fs0 with rfl | ⟨gs,g,rfl⟩
      · simp at h0
      · exact ⟨gs,g,by simp⟩
    have e2 : ((gs++[g]).length : Int) - 1=gs.length:=by simp
    have em : (gs++[g]).map cF.pv=gs.map cF.pv++[g.pv]:=by simp
    refine bG (by omega) ?_
    rw [e2,em]
    have hi : (gs.length : Int)=(gs.map cF.pv).length:=by simp
    have hg:=hs g (by simp)
    obtain ⟨gf,gp,gl,gk⟩:=g
    have hg : gk.length≤1000:=hg
    refine cQ (by omega) (by simp;omega) (vZ hi (fun _=>jF hi rfl (jF hi rfl ?_)))
    refine cH hi rfl (by omega) rfl (iJ (m:=[v]) (by simp;omega) (cH hi rfl (by omega) rfl (aB ?_)))
    rw [if_neg (by simp),vX]
    simp
    rfl
end
theorem dZ {P : R→Prop} {l : List cO} {v : cO} {k : PV→Option R} (hv : l[0]? = some v) (h : Ok P (k v.pv)) : Ok P (bd (PV.inb (aS l) (.int .i64 0)) fun _=>bd (PV.at_ 3 true (aS l) (.int .i64 0)) k):=aKu (i:=0) hv h
theorem rZ {P : R→Prop} {l : List cO} {v : cO} {k : PV→Option R} (hv : l[1]? = some v) (h : Ok P (k v.pv)) : Ok P (bd (PV.inb (aS l) (.int .i64 1)) fun _=>bd (PV.at_ 3 true (aS l) (.int .i64 1)) k):=aKu (i:=1) hv h
theorem aD4 {o : Int} {a b : cO} (ho : 11≤o∧o≤14) (hs : a.s.size≤1000000∧b.s.size≤1000000) : Ok (fun r=>∀ {P : R→Prop} {k : R→Option R},Ok P (k (opR (nG o a b)))→Ok P (bd (PV.apply aM (hd r) [a.pv,b.pv]) k)) (iA (.int .i64 o)):=by
  rw [aBm]
  refine bG (by omega) ?_
  have : o=11∨o=12∨o=13∨o=14:=by omega
  rcases this with rfl | rfl | rfl | rfl
  · exact aKj (by decide) rfl rfl (aB (fun h=>zT (g:=aA3) rfl (aL4 hs) (fun r hr=>by rw [hr];exact h)))
  · exact aKj (by decide) rfl rfl (aB (fun h=>zT (g:=aA4) rfl aL5 (fun r hr=>by rw [hr];exact h)))
  · exact aKj (by decide) rfl rfl (aB (fun h=>zT (g:=aA5) rfl aL6 (fun r hr=>by rw [hr];exact h)))
  · exact aKj (by decide) rfl rfl (aB (fun h=>zT (g:=yK) rfl aLg (fun r hr=>by rw [hr];exact h)))
theorem aMb {m : eQ} {A : List PV} {made a3 a4 a5 a6 a7 a8 T H O : PV} {f pc base g next i : Int} {loc s t args : List cO} (hi : i=A.length) (hb : base=s.length) (hs : s.length≤1000) (hA : A.length≤23) (hg : 0≤g∧g<m.funcs.length) (hargs : (args.length : Int)=eJ m.funcs g)
    (par : ∀ f∈m.funcs,0≤f.p∧f.p≤6∧f.p≤f.lc∧f.lc≤12) :
    Ok (fun r=>(A.length=23∧r = [.int .i64 6,made,a3,a4,a5,a6,a7,a8,.lst (A++[cF.pv ⟨f,pc,loc,s++t⟩]),H,O])∨(A.length≠23∧r = [.int .i64 0,made,a3,a4,a5,a6,a7,a8,.lst (A++[cF.pv ⟨f,next,loc,s⟩]++[(pU m.funcs g args).pv]),H,O]))
      (iZ (.int .i64 i) (.int .i64 base) (.int .i64 next) (.int .i64 g) made a3 a4 a5 a6 a7 a8 T (.lst (m.funcs.map cY.pv)) (.lst (A++[cF.pv ⟨f,pc,loc,s++t⟩])) H O (aS args)):=by
  subst hb
  rw [aB2]
  refine cL (aF (aC (fun h=>aB (.inl ⟨by simp at h;omega,rfl⟩)) (fun h=>?_)))
  refine vZ hi (fun _=>jF hi rfl (gI (by omega) (by omega) (by simp;omega) (jF hi rfl (gI (by omega) (by omega) (by simp;omega) (jF hi rfl ?_)))))
  have e : (((s++t).take (s.length : Int).toNat).drop (0 : Int).toNat)=s:=by simp
  rw [e]
  refine cH hi rfl (by omega) rfl (cH hi rfl (by omega) rfl (aU rfl (cH hi rfl (by omega) rfl ?_)))
  obtain ⟨q,rfl⟩:=Int.eq_ofNat_of_zero_le hg.1
  have hq : q<m.funcs.length:=by omega
  have hf:=par _ (List.getElem_mem hq)
  have hlc : uM m.funcs q=m.funcs[q].lc:=by unfold uM;rw [Int.toNat_natCast,List.getElem?_eq_getElem hq];rfl
  have hpa : eJ m.funcs q=m.funcs[q].p:=by unfold eJ;rw [Int.toNat_natCast,List.getElem?_eq_getElem hq];rfl
  refine aFj (by omega) (by omega) (by rw [hlc];omega) (by rw [hlc];omega) (dP rfl (dP rfl (fC (eK _) (fC (eK []) ?_))))
  refine fB (by simp;omega) (fun x hx=>by simp at hx;subst hx;rfl) (aB (.inr ⟨?_,rfl⟩))
  intro h0
  exact h (by simp;omega)
set_option maxHeartbeats 8000000 in
theorem aMP {m : eQ} {fs0 : List cF} {took : List cO} {hp : List (List cO)} {made ff fpc : Int} {floc fstk : List cO} {out : List ByteArray} {x : bZ} {nc : Int} {a3 a4 a5 a6 a7 a8 : PV}
    (S : aL9 m fs0 ⟨ff,fpc+1,floc,fstk⟩ took hp made out) (hx : cB m.texts.length m.funcs.length floc.length nc x.o x.a=true) (hu : (took.length : Int)=(bA m.funcs x).1)
    (hff : 0≤ff∧ff<m.funcs.length) (hpc : 0≤fpc∧fpc≤1000) (hcode : (dB m.funcs ff)[fpc.toNat]? = some x) :
    Ok (DoI (.int .i64 made) a3 a4 a5 a6 a7 a8 (.lst (fs0.map cF.pv++[cF.pv ⟨ff,fpc,floc,fstk++took⟩])) (.lst (hp.map bL)) (.lst (out.map PV.str)) fs0 (dF m ⟨ff,fpc+1,floc,fstk⟩ took (fs0.length+1) hp made out x))
      (aA1 (.lst (m.texts.map PV.str)) (.lst (m.funcs.map cY.pv)) (.int .i64 made) a3 a4 a5 a6 a7 a8
        (.lst (fs0.map cF.pv++[cF.pv ⟨ff,fpc,floc,fstk++took⟩])) (.lst (hp.map bL)) (.lst (out.map PV.str))):=by
  obtain ⟨q26,q3,q67,q20,q2122,q23,q524,qj,q1⟩:=zQ hx
  obtain ⟨nf,nt,par,n0,stks,nl,ns,recs,nh,nm,no,vals0⟩:=S
  simp only at *
  have hsz : ∀ v∈took,v.s.size≤1000000:=fun v hv=>by have:=bY (vals0 v hv);omega
  have hrec : ∀ r∈hp,r.length≤1000:=fun r hr=>by have:=recs r hr;omega
  rw [aFU]
  have hA : (fs0.map cF.pv).length=fs0.length:=List.length_map ..
  have hi : (fs0.length : Int)=(fs0.map cF.pv).length:=by rw [hA]
  have e : ((fs0.map cF.pv++[cF.pv ⟨ff,fpc,floc,fstk++took⟩]).length : Int) - 1=fs0.length:=by simp
  refine cL (bG (by simp;omega) ?_)
  rw [e]
  refine cQ (by omega) (by simp;omega) (jF hi rfl (aBq hff.1 hff.2 (fun fn hfn=>aA rfl (jF hi rfl ?_))))
  have hcd : (fn.code.map bZ.pv)[fpc.toNat]? = some x.pv:=by
    have : dB m.funcs ff=fn.code:=by unfold dB;rw [hfn];rfl
    rw [List.getElem?_map,← this,hcode];rfl
  refine yA (by omega) hcd rfl (aD rfl (aA rfl (aA rfl (aH (aGv (by omega)) (fun r hr=>?_)))))
  rw [hr]
  refine aQ rfl (aQ rfl (vZ hi (fun _=>jF hi rfl (bU (bG (by simp;omega) ?_)))))
  have e2 : ((fstk++took).length : Int) - (bA m.funcs x).1=fstk.length:=by rw [← hu];simp
  rw [e2]
  refine vZ hi (fun _=>jF hi rfl (bU (gI (by omega) (by simp;omega) (by omega) (jF hi rfl (gI (by omega) (by simp;omega) (by omega) ?_)))))
  have e3 : (((fstk++took).take ((fstk++took).length : Int).toNat).drop (fstk.length : Int).toNat)=took:=by rw [Int.toNat_natCast,Int.toNat_natCast,List.take_length,List.drop_left]
  rw [e3]
  refine vY (by omega) (fC (eK _) (jF hi rfl (aO (by omega) ?_)))
  have hfs : fstk.length≤1000:=by omega
  refine aF (aC (fun ho=>?_) (fun n1=>?_))
  · have e0 : bA m.funcs x=(0,1):=by unfold bA;repeat (first | rfl | rw [if_pos (by omega)] | rw [if_neg (by omega)])
    rw [e0] at hu
    obtain rfl:=List.eq_nil_of_length_eq_zero (show took.length=0 by omega)
    have e : dF m ⟨ff,fpc+1,floc,fstk⟩ [] (fs0.length+1) hp made out x = .next ⟨ff,fpc+1,floc,fstk++[qO x.a]⟩ hp made out:=by simp only [dF,List.headD,List.tail];(repeat (first | rfl | refine (if_pos (by omega)).trans ?_ | refine (if_neg (by omega)).trans ?_))
    exact aAz (wA (l:=[qO x.a]) (by simp) (fU (laid:=[qO x.a]) hi rfl hfs (by simp) (aB (by rw [e];rfl))))
  refine aF (aC (fun ho=>?_) (fun n2=>?_))
  · have e0 : bA m.funcs x=(0,1):=by unfold bA;repeat (first | rfl | rw [if_pos (by omega)] | rw [if_neg (by omega)])
    rw [e0] at hu
    obtain rfl:=List.eq_nil_of_length_eq_zero (show took.length=0 by omega)
    have e : dF m ⟨ff,fpc+1,floc,fstk⟩ [] (fs0.length+1) hp made out x = .next ⟨ff,fpc+1,floc,fstk++[lB (decide (x.a=1))]⟩ hp made out:=by simp only [dF,List.headD,List.tail];(repeat (first | rfl | refine (if_pos (by omega)).trans ?_ | refine (if_neg (by omega)).trans ?_))
    exact aF (lC (wA (l:=[lB (decide (x.a=1))]) (by simp) (fU (laid:=[lB (decide (x.a=1))]) hi rfl hfs (by simp) (aB (by rw [e];rfl)))))
  refine aF (aC (fun ho=>?_) (fun n3=>?_))
  · have e0 : bA m.funcs x=(0,1):=by unfold bA;repeat (first | rfl | rw [if_pos (by omega)] | rw [if_neg (by omega)])
    rw [e0] at hu
    obtain rfl:=List.eq_nil_of_length_eq_zero (show took.length=0 by omega)
    obtain ⟨xa,hxa⟩:=Int.eq_ofNat_of_zero_le (q3 ho).1
    have hlt : xa<m.texts.length:=by have:=q3 ho;omega
    have e : dF m ⟨ff,fpc+1,floc,fstk⟩ [] (fs0.length+1) hp made out x = .next ⟨ff,fpc+1,floc,fstk++[wS m.texts[xa]]⟩ hp made out:=by
      have et : m.texts[x.a.toNat]?.getD (bs [])=m.texts[xa]:=by rw [hxa,Int.toNat_natCast,List.getElem?_eq_getElem hlt];rfl
      simp only [dF,List.headD,List.tail,et];(repeat (first | rfl | refine (if_pos (by omega)).trans ?_ | refine (if_neg (by omega)).trans ?_))
    rw [hxa]
    refine aV hlt (fun _=>rfl) (aU rfl (fU (laid:=[wS m.texts[xa]]) hi rfl hfs (by simp) (aB (by rw [e];rfl))))
  refine aF (aC (fun ho=>?_) (fun n4=>?_))
  · have e0 : bA m.funcs x=(0,1):=by unfold bA;repeat (first | rfl | rw [if_pos (by omega)] | rw [if_neg (by omega)])
    rw [e0] at hu
    obtain rfl:=List.eq_nil_of_length_eq_zero (show took.length=0 by omega)
    have e : dF m ⟨ff,fpc+1,floc,fstk⟩ [] (fs0.length+1) hp made out x = .next ⟨ff,fpc+1,floc,fstk++[cX]⟩ hp made out:=by simp only [dF,List.headD,List.tail];(repeat (first | rfl | refine (if_pos (by omega)).trans ?_ | refine (if_neg (by omega)).trans ?_))
    exact fU (laid:=[cX]) hi rfl hfs (by simp) (aB (by rw [e];rfl))
  refine aF (aC (fun ho=>?_) (fun n5=>?_))
  · have e0 : bA m.funcs x=(0,1):=by unfold bA;repeat (first | rfl | rw [if_pos (by omega)] | rw [if_neg (by omega)])
    rw [e0] at hu
    obtain rfl:=List.eq_nil_of_length_eq_zero (show took.length=0 by omega)
    have e : dF m ⟨ff,fpc+1,floc,fstk⟩ [] (fs0.length+1) hp made out x = .next ⟨ff,fpc+1,floc,fstk++[aHo x.a]⟩ hp made out:=by simp only [dF,List.headD,List.tail];(repeat (first | rfl | refine (if_pos (by omega)).trans ?_ | refine (if_neg (by omega)).trans ?_))
    exact aU rfl (fU (laid:=[aHo x.a]) hi rfl hfs (by simp) (aB (by rw [e];rfl)))
  refine aF (aC (fun ho=>?_) (fun n6=>?_))
  · have e0 : bA m.funcs x=(0,1):=by unfold bA;repeat (first | rfl | rw [if_pos (by omega)] | rw [if_neg (by omega)])
    rw [e0] at hu
    obtain rfl:=List.eq_nil_of_length_eq_zero (show took.length=0 by omega)
    have hq:=q67 (.inl ho)
    obtain ⟨v,hv⟩ : ∃ v,floc[x.a.toNat]? = some v:=⟨_,List.getElem?_eq_getElem (show x.a.toNat<floc.length by omega)⟩
    have e : dF m ⟨ff,fpc+1,floc,fstk⟩ [] (fs0.length+1) hp made out x = .next ⟨ff,fpc+1,floc,fstk++[v]⟩ hp made out:=by
      have et : floc[x.a.toNat]?.getD cX=v:=by rw [hv];rfl
      simp only [dF,List.headD,List.tail,et];(repeat (first | rfl | refine (if_pos (by omega)).trans ?_ | refine (if_neg (by omega)).trans ?_))
    refine vZ hi (fun _=>jF hi rfl (eF (by omega) (by omega) (jF hi rfl (mX (by omega) (by omega) (fun v' hv'=>?_)))))
    rw [hv] at hv';cases hv'
    exact wA (l:=[v]) (by simp) (fU (laid:=[v]) hi rfl hfs (by simp) (aB (by rw [e];rfl)))
  refine aF (aC (fun ho=>?_) (fun n7=>?_))
  · have e0 : bA m.funcs x=(1,0):=by unfold bA;repeat (first | rfl | rw [if_pos (by omega)] | rw [if_neg (by omega)])
    rw [e0] at hu
    obtain ⟨a,rfl⟩:=List.length_eq_one_iff.1 (show took.length=1 by omega)
    have hq:=q67 (.inr ho)
    have e : dF m ⟨ff,fpc+1,floc,fstk⟩ [a] (fs0.length+1) hp made out x = .next ⟨ff,fpc+1,floc.set x.a.toNat a,fstk⟩ hp made out:=by simp only [dF,List.headD,List.tail];(repeat (first | rfl | refine (if_pos (by omega)).trans ?_ | refine (if_neg (by omega)).trans ?_))
    refine vZ hi (fun _=>dZ rfl (jF hi rfl (eF (by omega) (by omega) (jF hi rfl (jF hi rfl (nE (by omega) (by omega) (jF hi rfl (cH hi rfl (by omega) rfl ?_))))))))
    exact fU (loc:=floc.set x.a.toNat a) (laid:=[]) hi rfl hfs (by simp) (aB (by rw [e];simp [DoI]))
  refine aF (aC (fun ho=>?_) (fun n8=>?_))
  · have e0 : bA m.funcs x=(1,2):=by unfold bA;repeat (first | rfl | rw [if_pos (by omega)] | rw [if_neg (by omega)])
    rw [e0] at hu
    obtain ⟨a,rfl⟩:=List.length_eq_one_iff.1 (show took.length=1 by omega)
    have e : dF m ⟨ff,fpc+1,floc,fstk⟩ [a] (fs0.length+1) hp made out x = .next ⟨ff,fpc+1,floc,fstk++[a,a]⟩ hp made out:=by simp only [dF,List.headD,List.tail];(repeat (first | rfl | refine (if_pos (by omega)).trans ?_ | refine (if_neg (by omega)).trans ?_))
    exact dZ rfl (dZ rfl (wA (l:=[a,a]) (by simp) (fU (laid:=[a,a]) hi rfl hfs (by simp) (aB (by rw [e];rfl)))))
  refine aF (aC (fun ho=>?_) (fun n10=>?_))
  · have e0 : bA m.funcs x=(2,2):=by unfold bA;repeat (first | rfl | rw [if_pos (by omega)] | rw [if_neg (by omega)])
    rw [e0] at hu
    obtain ⟨a,b,rfl⟩:=nW (show took.length=2 by omega)
    have e : dF m ⟨ff,fpc+1,floc,fstk⟩ [a,b] (fs0.length+1) hp made out x = .next ⟨ff,fpc+1,floc,fstk++[b,a]⟩ hp made out:=by simp only [dF,List.headD,List.tail];(repeat (first | rfl | refine (if_pos (by omega)).trans ?_ | refine (if_neg (by omega)).trans ?_))
    exact rZ rfl (dZ rfl (wA (l:=[b,a]) (by simp) (fU (laid:=[b,a]) hi rfl hfs (by simp) (aB (by rw [e];rfl)))))
  refine aF (aC (fun ho=>?_) (fun n11=>?_))
  · have e0 : bA m.funcs x=(2,1):=by unfold bA;repeat (first | rfl | rw [if_pos (by omega)] | rw [if_neg (by omega)])
    rw [e0] at hu
    obtain ⟨a,b,rfl⟩:=nW (show took.length=2 by omega)
    have hab:=hsz a (by simp);have hbb:=hsz b (by simp)
    refine aH (aD4 (a:=a) (b:=b) (by omega) ⟨hab,hbb⟩) (fun r hr=>dZ rfl (rZ rfl (hr (aQ rfl (aQ rfl (aD rfl (aA rfl (aA rfl (aA rfl (bE (aK (fun ht=>aB ?_) (fun ht=>?_))))))))))))
    · have e : dF m ⟨ff,fpc+1,floc,fstk⟩ [a,b] (fs0.length+1) hp made out x = .trap (nG x.o a b).2:=by simp only [dF,List.headD,List.tail];(repeat (first | rfl | refine (if_pos (by omega)).trans ?_ | refine (if_neg (by omega)).trans ?_))
      rw [e];exact ⟨ht,rfl⟩
    · have e : dF m ⟨ff,fpc+1,floc,fstk⟩ [a,b] (fs0.length+1) hp made out x = .next ⟨ff,fpc+1,floc,fstk++[(nG x.o a b).1]⟩ hp made out:=by simp only [dF,List.headD,List.tail];(repeat (first | rfl | refine (if_pos (by omega)).trans ?_ | refine (if_neg (by omega)).trans ?_))
      exact fU (laid:=[(nG x.o a b).1]) hi rfl hfs (by simp) (aB (by rw [e];rfl))
  refine aF (aC (fun ho=>?_) (fun n12=>?_))
  · have e0 : bA m.funcs x=(2,1):=by unfold bA;repeat (first | rfl | rw [if_pos (by omega)] | rw [if_neg (by omega)])
    rw [e0] at hu
    obtain ⟨a,b,rfl⟩:=nW (show took.length=2 by omega)
    have hab:=hsz a (by simp);have hbb:=hsz b (by simp)
    refine aH (aD4 (a:=a) (b:=b) (by omega) ⟨hab,hbb⟩) (fun r hr=>dZ rfl (rZ rfl (hr (aQ rfl (aQ rfl (aD rfl (aA rfl (aA rfl (aA rfl (bE (aK (fun ht=>aB ?_) (fun ht=>?_))))))))))))
    · have e : dF m ⟨ff,fpc+1,floc,fstk⟩ [a,b] (fs0.length+1) hp made out x = .trap (nG x.o a b).2:=by simp only [dF,List.headD,List.tail];(repeat (first | rfl | refine (if_pos (by omega)).trans ?_ | refine (if_neg (by omega)).trans ?_))
      rw [e];exact ⟨ht,rfl⟩
    · have e : dF m ⟨ff,fpc+1,floc,fstk⟩ [a,b] (fs0.length+1) hp made out x = .next ⟨ff,fpc+1,floc,fstk++[(nG x.o a b).1]⟩ hp made out:=by simp only [dF,List.headD,List.tail];(repeat (first | rfl | refine (if_pos (by omega)).trans ?_ | refine (if_neg (by omega)).trans ?_))
      exact fU (laid:=[(nG x.o a b).1]) hi rfl hfs (by simp) (aB (by rw [e];rfl))
  refine aF (aC (fun ho=>?_) (fun n13=>?_))
  · have e0 : bA m.funcs x=(2,1):=by unfold bA;repeat (first | rfl | rw [if_pos (by omega)] | rw [if_neg (by omega)])
    rw [e0] at hu
    obtain ⟨a,b,rfl⟩:=nW (show took.length=2 by omega)
    have hab:=hsz a (by simp);have hbb:=hsz b (by simp)
    refine aH (aD4 (a:=a) (b:=b) (by omega) ⟨hab,hbb⟩) (fun r hr=>dZ rfl (rZ rfl (hr (aQ rfl (aQ rfl (aD rfl (aA rfl (aA rfl (aA rfl (bE (aK (fun ht=>aB ?_) (fun ht=>?_))))))))))))
    · have e : dF m ⟨ff,fpc+1,floc,fstk⟩ [a,b] (fs0.length+1) hp made out x = .trap (nG x.o a b).2:=by simp only [dF,List.headD,List.tail];(repeat (first | rfl | refine (if_pos (by omega)).trans ?_ | refine (if_neg (by omega)).trans ?_))
      rw [e];exact ⟨ht,rfl⟩
    · have e : dF m ⟨ff,fpc+1,floc,fstk⟩ [a,b] (fs0.length+1) hp made out x = .next ⟨ff,fpc+1,floc,fstk++[(nG x.o a b).1]⟩ hp made out:=by simp only [dF,List.headD,List.tail];(repeat (first | rfl | refine (if_pos (by omega)).trans ?_ | refine (if_neg (by omega)).trans ?_))
      exact fU (laid:=[(nG x.o a b).1]) hi rfl hfs (by simp) (aB (by rw [e];rfl))
  refine aF (aC (fun ho=>?_) (fun n14=>?_))
  · have e0 : bA m.funcs x=(2,1):=by unfold bA;repeat (first | rfl | rw [if_pos (by omega)] | rw [if_neg (by omega)])
    rw [e0] at hu
    obtain ⟨a,b,rfl⟩:=nW (show took.length=2 by omega)
    have hab:=hsz a (by simp);have hbb:=hsz b (by simp)
    refine aH (aD4 (a:=a) (b:=b) (by omega) ⟨hab,hbb⟩) (fun r hr=>dZ rfl (rZ rfl (hr (aQ rfl (aQ rfl (aD rfl (aA rfl (aA rfl (aA rfl (bE (aK (fun ht=>aB ?_) (fun ht=>?_))))))))))))
    · have e : dF m ⟨ff,fpc+1,floc,fstk⟩ [a,b] (fs0.length+1) hp made out x = .trap (nG x.o a b).2:=by simp only [dF,List.headD,List.tail];(repeat (first | rfl | refine (if_pos (by omega)).trans ?_ | refine (if_neg (by omega)).trans ?_))
      rw [e];exact ⟨ht,rfl⟩
    · have e : dF m ⟨ff,fpc+1,floc,fstk⟩ [a,b] (fs0.length+1) hp made out x = .next ⟨ff,fpc+1,floc,fstk++[(nG x.o a b).1]⟩ hp made out:=by simp only [dF,List.headD,List.tail];(repeat (first | rfl | refine (if_pos (by omega)).trans ?_ | refine (if_neg (by omega)).trans ?_))
      exact fU (laid:=[(nG x.o a b).1]) hi rfl hfs (by simp) (aB (by rw [e];rfl))
  refine aF (aC (fun ho=>?_) (fun n15=>?_))
  · have e0 : bA m.funcs x=(2,1):=by unfold bA;repeat (first | rfl | rw [if_pos (by omega)] | rw [if_neg (by omega)])
    rw [e0] at hu
    obtain ⟨a,b,rfl⟩:=nW (show took.length=2 by omega)
    have e4 : (nG x.o a b)=(aAy a b,0):=by unfold nG;repeat (first | rfl | rw [if_pos (by omega)] | rw [if_neg (by omega)])
    have e : dF m ⟨ff,fpc+1,floc,fstk⟩ [a,b] (fs0.length+1) hp made out x = .next ⟨ff,fpc+1,floc,fstk++[aAy a b]⟩ hp made out:=by simp only [dF,List.headD,List.tail,e4];(repeat (first | rfl | exact if_neg (fun h=>h rfl) | refine (if_pos (by omega)).trans ?_ | refine (if_neg (by omega)).trans ?_))
    exact dZ rfl (rZ rfl (aH aLh (fun r hr=>by rw [hr];exact wA (l:=[aAy a b]) (by simp) (fU (laid:=[aAy a b]) hi rfl hfs (by simp) (aB (by rw [e];rfl))))))
  refine aF (aC (fun ho=>?_) (fun n16=>?_))
  · have e0 : bA m.funcs x=(1,1):=by unfold bA;repeat (first | rfl | rw [if_pos (by omega)] | rw [if_neg (by omega)])
    rw [e0] at hu
    obtain ⟨a,rfl⟩:=List.length_eq_one_iff.1 (show took.length=1 by omega)
    refine dZ rfl (mW aL8 (aQ rfl (aQ rfl (aD rfl (aA rfl (aA rfl (aA rfl (bE (aK (fun ht=>aB ?_) (fun ht=>?_))))))))))
    · have e : dF m ⟨ff,fpc+1,floc,fstk⟩ [a] (fs0.length+1) hp made out x = .trap (uL a).2:=by simp only [dF,List.headD,List.tail];(repeat (first | rfl | refine (if_pos (by omega)).trans ?_ | refine (if_neg (by omega)).trans ?_))
      rw [e];exact ⟨ht,rfl⟩
    · have e : dF m ⟨ff,fpc+1,floc,fstk⟩ [a] (fs0.length+1) hp made out x = .next ⟨ff,fpc+1,floc,fstk++[(uL a).1]⟩ hp made out:=by simp only [dF,List.headD,List.tail];(repeat (first | rfl | refine (if_pos (by omega)).trans ?_ | refine (if_neg (by omega)).trans ?_))
      exact fU (laid:=[(uL a).1]) hi rfl hfs (by simp) (aB (by rw [e];rfl))
  refine aF (aC (fun ho=>?_) (fun n17=>?_))
  · have e0 : bA m.funcs x=(0,0):=by unfold bA;repeat (first | rfl | rw [if_pos (by omega)] | rw [if_neg (by omega)])
    rw [e0] at hu
    obtain rfl:=List.eq_nil_of_length_eq_zero (show took.length=0 by omega)
    have e : dF m ⟨ff,fpc+1,floc,fstk⟩ [] (fs0.length+1) hp made out x = .next ⟨ff,x.a,floc,fstk⟩ hp made out:=by simp only [dF,List.headD,List.tail];(repeat (first | rfl | refine (if_pos (by omega)).trans ?_ | refine (if_neg (by omega)).trans ?_))
    exact fU (next:=x.a) (laid:=[]) hi rfl hfs (by simp) (aB (by rw [e];simp [DoI]))
  refine aF (aC (fun ho=>?_) (fun n18=>?_))
  · have e0 : bA m.funcs x=(1,0):=by unfold bA;repeat (first | rfl | rw [if_pos (by omega)] | rw [if_neg (by omega)])
    rw [e0] at hu
    obtain ⟨a,rfl⟩:=List.length_eq_one_iff.1 (show took.length=1 by omega)
    have hd : decide (x.o=18)=true:=by simp [ho]
    refine dZ rfl (aA rfl (bE (aK (fun h1=>aB ?_) (fun h1=>?_))))
    · have e : dF m ⟨ff,fpc+1,floc,fstk⟩ [a] (fs0.length+1) hp made out x = .trap 1:=by simp only [dF,List.headD,List.tail];(repeat (first | rfl | refine (if_pos (by omega)).trans ?_ | refine (if_neg (by omega)).trans ?_))
      rw [e];exact ⟨by omega,rfl⟩
    refine dZ rfl (aA rfl (aF (aF (vD (bB (fun h2=>?_) (fun h2=>?_))))))
    · have e : dF m ⟨ff,fpc+1,floc,fstk⟩ [a] (fs0.length+1) hp made out x = .next ⟨ff,x.a,floc,fstk⟩ hp made out:=by simp only [dF,List.headD,List.tail];(repeat (first | rfl | refine (if_pos (by omega)).trans ?_ | refine (if_neg (by omega)).trans ?_ | refine (if_pos h2).trans ?_))
      exact fU (next:=x.a) (laid:=[]) hi rfl hfs (by simp) (aB (by rw [e];simp [DoI]))
    · have e : dF m ⟨ff,fpc+1,floc,fstk⟩ [a] (fs0.length+1) hp made out x = .next ⟨ff,fpc+1,floc,fstk++[]⟩ hp made out:=by simp only [dF,List.headD,List.tail];(repeat (first | rfl | refine (if_pos (by omega)).trans ?_ | refine (if_neg (by omega)).trans ?_ | exact if_neg (fun h=>Bool.noConfusion (h2.symm.trans h))))
      exact fU (laid:=[]) hi rfl hfs (by simp) (aB (by rw [e];rfl))
  refine aF (aC (fun ho=>?_) (fun n19=>?_))
  · have e0 : bA m.funcs x=(1,0):=by unfold bA;repeat (first | rfl | rw [if_pos (by omega)] | rw [if_neg (by omega)])
    rw [e0] at hu
    obtain ⟨a,rfl⟩:=List.length_eq_one_iff.1 (show took.length=1 by omega)
    have hd : decide (x.o=18)=false:=by simp [ho]
    refine dZ rfl (aA rfl (bE (aK (fun h1=>aB ?_) (fun h1=>?_))))
    · have e : dF m ⟨ff,fpc+1,floc,fstk⟩ [a] (fs0.length+1) hp made out x = .trap 1:=by simp only [dF,List.headD,List.tail];(repeat (first | rfl | refine (if_pos (by omega)).trans ?_ | refine (if_neg (by omega)).trans ?_))
      rw [e];exact ⟨by omega,rfl⟩
    refine dZ rfl (aA rfl (aF (aF (vD (bB (fun h2=>?_) (fun h2=>?_))))))
    · have e : dF m ⟨ff,fpc+1,floc,fstk⟩ [a] (fs0.length+1) hp made out x = .next ⟨ff,x.a,floc,fstk⟩ hp made out:=by simp only [dF,List.headD,List.tail];(repeat (first | rfl | refine (if_pos (by omega)).trans ?_ | refine (if_neg (by omega)).trans ?_ | refine (if_pos h2).trans ?_))
      exact fU (next:=x.a) (laid:=[]) hi rfl hfs (by simp) (aB (by rw [e];simp [DoI]))
    · have e : dF m ⟨ff,fpc+1,floc,fstk⟩ [a] (fs0.length+1) hp made out x = .next ⟨ff,fpc+1,floc,fstk++[]⟩ hp made out:=by simp only [dF,List.headD,List.tail];(repeat (first | rfl | refine (if_pos (by omega)).trans ?_ | refine (if_neg (by omega)).trans ?_ | exact if_neg (fun h=>Bool.noConfusion (h2.symm.trans h))))
      exact fU (laid:=[]) hi rfl hfs (by simp) (aB (by rw [e];rfl))
  refine aF (aC (fun ho=>?_) (fun n20=>?_))
  · have e0 : bA m.funcs x=(0,1):=by unfold bA;repeat (first | rfl | rw [if_pos (by omega)] | rw [if_neg (by omega)])
    rw [e0] at hu
    obtain rfl:=List.eq_nil_of_length_eq_zero (show took.length=0 by omega)
    have hq:=q20 ho
    refine aF (aC (fun h1=>aB ?_) (fun h1=>?_))
    · have e : dF m ⟨ff,fpc+1,floc,fstk⟩ [] (fs0.length+1) hp made out x = .trap 7:=by simp only [dF,List.headD,List.tail];(repeat (first | rfl | refine (if_pos (by omega)).trans ?_ | refine (if_neg (by omega)).trans ?_))
      rw [e];exact ⟨by omega,rfl⟩
    have e : dF m ⟨ff,fpc+1,floc,fstk⟩ [] (fs0.length+1) hp made out x = .next ⟨ff,fpc+1,floc,fstk++[aK9 hp.length]⟩ (hp++[List.replicate x.a.toNat cX]) (made+1) out:=by simp only [dF,List.headD,List.tail];(repeat (first | rfl | refine (if_pos (by omega)).trans ?_ | refine (if_neg (by omega)).trans ?_))
    refine aG (aU rfl (aKs (by omega) (by omega) (fC (eK _) (fB (by simp;omega) (fun y hy=>by simp at hy;subst hy;rfl) (aO (by omega) (aU rfl ?_))))))
    exact fU (laid:=[aK9 hp.length]) hi rfl hfs (by simp) (aB (by rw [e];simp [DoI];rfl))
  refine aF (aC (fun ho=>?_) (fun n21=>?_))
  · have e0 : bA m.funcs x=(1,1):=by unfold bA;repeat (first | rfl | rw [if_pos (by omega)] | rw [if_neg (by omega)])
    rw [e0] at hu
    obtain ⟨a,rfl⟩:=List.length_eq_one_iff.1 (show took.length=1 by omega)
    have hq:=q2122 (.inl ho)
    refine dZ rfl (aIL (by omega) (by omega) hrec (qZ (vals0 a (by simp))) (fun h1=>?_) (fun h1 h2=>?_) (fun h1 h2=>?_))
    · have e : dF m ⟨ff,fpc+1,floc,fstk⟩ [a] (fs0.length+1) hp made out x = .trap 1:=by simp only [dF,List.headD,List.tail];(repeat (first | rfl | refine (if_pos (by omega)).trans ?_ | refine (if_neg (by omega)).trans ?_))
      refine bE (aK (fun _=>aB ?_) (fun h=>absurd h (by decide)))
      rw [e];exact ⟨by omega,rfl⟩
    · have e : dF m ⟨ff,fpc+1,floc,fstk⟩ [a] (fs0.length+1) hp made out x = .trap 4:=by simp only [dF,List.headD,List.tail];(repeat (first | rfl | refine (if_pos (by omega)).trans ?_ | refine (if_neg (by omega)).trans ?_))
      refine bE (aK (fun _=>aB ?_) (fun h=>absurd h (by decide)))
      rw [e];exact ⟨by omega,rfl⟩
    · have hr4:=qZ (vals0 a (by simp)) h1
      obtain ⟨v,hv⟩ : ∃ v,(hp[a.n.toNat]?.getD [])[x.a.toNat]? = some v:=⟨_,List.getElem?_eq_getElem (show x.a.toNat<(hp[a.n.toNat]?.getD []).length by omega)⟩
      have et : (hp[a.n.toNat]?.getD [])[x.a.toNat]?.getD cX=v:=by rw [hv];rfl
      have e : dF m ⟨ff,fpc+1,floc,fstk⟩ [a] (fs0.length+1) hp made out x = .next ⟨ff,fpc+1,floc,fstk++[v]⟩ hp made out:=by simp only [dF,List.headD,List.tail,et];(repeat (first | rfl | refine (if_pos (by omega)).trans ?_ | refine (if_neg (by omega)).trans ?_))
      refine bE (aK (fun h=>absurd rfl h) (fun _=>aIr (dE hr4.1 hr4.2 (aA rfl (mX (by omega) (by omega) (fun v' hv'=>?_))))))
      rw [hv] at hv';cases hv'
      exact wA (l:=[v]) (by simp) (fU (laid:=[v]) hi rfl hfs (by simp) (aB (by rw [e];rfl)))
  refine aF (aC (fun ho=>?_) (fun n22=>?_))
  · have e0 : bA m.funcs x=(2,0):=by unfold bA;repeat (first | rfl | rw [if_pos (by omega)] | rw [if_neg (by omega)])
    rw [e0] at hu
    obtain ⟨a,b,rfl⟩:=nW (show took.length=2 by omega)
    have hq:=q2122 (.inr ho)
    refine dZ rfl (aIL (by omega) (by omega) hrec (qZ (vals0 a (by simp))) (fun h1=>?_) (fun h1 h2=>?_) (fun h1 h2=>?_))
    · have e : dF m ⟨ff,fpc+1,floc,fstk⟩ [a,b] (fs0.length+1) hp made out x = .trap 1:=by simp only [dF,List.headD,List.tail];(repeat (first | rfl | refine (if_pos (by omega)).trans ?_ | refine (if_neg (by omega)).trans ?_))
      refine bE (aK (fun _=>aB ?_) (fun h=>absurd h (by decide)))
      rw [e];exact ⟨by omega,rfl⟩
    · have e : dF m ⟨ff,fpc+1,floc,fstk⟩ [a,b] (fs0.length+1) hp made out x = .trap 4:=by simp only [dF,List.headD,List.tail];(repeat (first | rfl | refine (if_pos (by omega)).trans ?_ | refine (if_neg (by omega)).trans ?_))
      refine bE (aK (fun _=>aB ?_) (fun h=>absurd h (by decide)))
      rw [e];exact ⟨by omega,rfl⟩
    · have hr4:=qZ (vals0 a (by simp)) h1
      have e : dF m ⟨ff,fpc+1,floc,fstk⟩ [a,b] (fs0.length+1) hp made out x = .next ⟨ff,fpc+1,floc,fstk⟩ (hp.set a.n.toNat ((hp[a.n.toNat]?.getD []).set x.a.toNat b)) made out:=by simp only [dF,List.headD,List.tail];(repeat (first | rfl | refine (if_pos (by omega)).trans ?_ | refine (if_neg (by omega)).trans ?_))
      refine bE (aK (fun h=>absurd rfl h) (fun _=>rZ rfl (aIr (dE hr4.1 hr4.2 (aA rfl (dE hr4.1 hr4.2 (aA rfl (nE (by omega) (by omega) (dE hr4.1 hr4.2 (aA rfl (aFg hr4.1 hr4.2 ?_)))))))))))
      exact fU (laid:=[]) hi rfl hfs (by simp) (aB (by rw [e,List.append_nil];rfl))
  refine aF (aC (fun ho=>?_) (fun n23=>?_))
  · have e0 : bA m.funcs x=(x.a+1,1):=by unfold bA;repeat (first | rfl | rw [if_pos (by omega)] | rw [if_neg (by omega)])
    rw [e0] at hu
    have hq:=q23 ho
    obtain ⟨a,args,rfl⟩ : ∃ a args,took=a::args:=by
      cases took with
      | nil=>simp at hu;omega
      | cons a args=>exact ⟨a,args,rfl⟩
    simp only [List.length_cons] at hu
    have hk:=vals0 a (by simp)
    refine aF ?_
    rw [decide_eq_true ho]
    refine aX (dZ rfl (aA rfl (bE (aK (fun h1=>aB ?_) (fun h1=>?_)))))
    · have e : dF m ⟨ff,fpc+1,floc,fstk⟩ (a::args) (fs0.length+1) hp made out x = .trap 1:=by simp only [dF,List.headD,List.tail];(repeat (first | rfl | refine (if_pos (by omega)).trans ?_ | refine (if_neg (by omega)).trans ?_))
      rw [e];exact ⟨by omega,rfl⟩
    have h5:=aCV hk h1
    obtain ⟨q,hqn⟩:=Int.eq_ofNat_of_zero_le h5.1
    have hql : q<m.funcs.length:=by omega
    have hpa : eJ m.funcs a.n=m.funcs[q].p:=by unfold eJ;rw [hqn,Int.toNat_natCast,List.getElem?_eq_getElem hql];rfl
    refine dZ rfl (aA rfl (aBq h5.1 h5.2 (fun fn2 hfn2=>aA rfl ?_)))
    have hp2 : fn2.p=eJ m.funcs a.n:=by unfold eJ;rw [hfn2];rfl
    rw [hp2]
    refine bE (aK (fun h2=>aB ?_) (fun h2=>?_))
    · have e : dF m ⟨ff,fpc+1,floc,fstk⟩ (a::args) (fs0.length+1) hp made out x = .trap 5:=by simp only [dF,List.headD,List.tail];(repeat (first | rfl | refine (if_pos (by omega)).trans ?_ | refine (if_neg (by omega)).trans ?_))
      rw [e];exact ⟨by omega,rfl⟩
    refine dZ rfl (aA rfl (bU (gI (by omega) (by simp;omega) (by omega) (gI (by omega) (by simp;omega) (by omega) ?_))))
    have et : (((a::args).take ((a::args).length : Int).toNat).drop (1 : Int).toNat)=args:=by rw [Int.toNat_natCast,List.take_length];rfl
    rw [et]
    refine (aMb (t:=a::args) hi rfl hfs (by rw [hA];omega) h5 (by omega) par).mono (fun r hr=>?_)
    rcases hr with ⟨h6,rfl⟩ | ⟨h6,rfl⟩
    · have e : dF m ⟨ff,fpc+1,floc,fstk⟩ (a::args) (fs0.length+1) hp made out x = .trap 6:=by simp only [dF,List.headD,List.tail];(repeat (first | rfl | refine (if_pos (by omega)).trans ?_ | refine (if_neg (by omega)).trans ?_))
      rw [e];exact ⟨by omega,rfl⟩
    · have e : dF m ⟨ff,fpc+1,floc,fstk⟩ (a::args) (fs0.length+1) hp made out x = .call ⟨ff,fpc+1,floc,fstk⟩ (pU m.funcs a.n args):=by simp only [dF,List.headD,List.tail];(repeat (first | rfl | refine (if_pos (by omega)).trans ?_ | refine (if_neg (by omega)).trans ?_))
      rw [e];rfl
  refine aF (aC (fun ho=>?_) (fun n24=>?_))
  · have e0 : bA m.funcs x=(eJ m.funcs x.a,1):=by unfold bA;repeat (first | rfl | rw [if_pos (by omega)] | rw [if_neg (by omega)])
    rw [e0] at hu
    have hq:=q524 (.inr ho)
    refine aF ?_
    rw [decide_eq_false n23]
    refine aW ((aMb (t:=took) hi rfl hfs (by rw [hA];omega) hq hu par).mono (fun r hr=>?_))
    rcases hr with ⟨h6,rfl⟩ | ⟨h6,rfl⟩
    · have e : dF m ⟨ff,fpc+1,floc,fstk⟩ took (fs0.length+1) hp made out x = .trap 6:=by simp only [dF];(repeat (first | rfl | refine (if_pos (by omega)).trans ?_ | refine (if_neg (by omega)).trans ?_))
      rw [e];exact ⟨by omega,rfl⟩
    · have e : dF m ⟨ff,fpc+1,floc,fstk⟩ took (fs0.length+1) hp made out x = .call ⟨ff,fpc+1,floc,fstk⟩ (pU m.funcs x.a took):=by simp only [dF];(repeat (first | rfl | refine (if_pos (by omega)).trans ?_ | refine (if_neg (by omega)).trans ?_))
      rw [e];rfl
  refine aF (aC (fun ho=>?_) (fun n25=>?_))
  · have e0 : bA m.funcs x=(1,0):=by unfold bA;repeat (first | rfl | rw [if_pos (by omega)] | rw [if_neg (by omega)])
    rw [e0] at hu
    obtain ⟨a,rfl⟩:=List.length_eq_one_iff.1 (show took.length=1 by omega)
    have e : dF m ⟨ff,fpc+1,floc,fstk⟩ [a] (fs0.length+1) hp made out x = .ret a:=by simp only [dF,List.headD,List.tail];(repeat (first | rfl | refine (if_pos (by omega)).trans ?_ | refine (if_neg (by omega)).trans ?_))
    refine dZ rfl (aLk (by omega) (fun g hg=>by have:=stks g hg;omega) (aB ?_))
    rw [e]
    show _=_
    by_cases h0 : fs0 = []
    · rw [if_pos h0,if_pos h0];rfl
    · rw [if_neg h0,if_neg h0];rfl
  refine aF (aC (fun ho=>?_) (fun n26=>?_))
  · have e0 : bA m.funcs x=(1,0):=by unfold bA;repeat (first | rfl | rw [if_pos (by omega)] | rw [if_neg (by omega)])
    rw [e0] at hu
    obtain ⟨a,rfl⟩:=List.length_eq_one_iff.1 (show took.length=1 by omega)
    refine aG (aF (aC (fun h1=>aB ?_) (fun h1=>?_)))
    · have e : dF m ⟨ff,fpc+1,floc,fstk⟩ [a] (fs0.length+1) hp made out x = .trap 8:=by simp only [dF,List.headD,List.tail];(repeat (first | rfl | refine (if_pos (by omega)).trans ?_ | refine (if_neg (by omega)).trans ?_))
      rw [e];exact ⟨by omega,rfl⟩
    have e : dF m ⟨ff,fpc+1,floc,fstk⟩ [a] (fs0.length+1) hp made out x = .next ⟨ff,fpc+1,floc,fstk⟩ hp made (out++[gB a hp]):=by simp only [dF,List.headD,List.tail];(repeat (first | rfl | refine (if_pos (by omega)).trans ?_ | refine (if_neg (by omega)).trans ?_))
    refine dZ rfl (aH (aHx (nf:=m.funcs.length) (by omega) (by omega) hrec (vals0 a (by simp))) (fun r hr=>?_))
    rw [hr]
    refine dP rfl (fB (by simp) (fun y hy=>by simp at hy;subst hy;rfl) (fB (by simp;omega) (fun y hy=>by simp at hy;subst hy;rfl) ?_))
    exact fU (laid:=[]) hi rfl hfs (by simp) (aB (by rw [e];simp [DoI];rfl))
  have h9 : x.o=9:=by omega
  have e0 : bA m.funcs x=(1,0):=by unfold bA;repeat (first | rfl | rw [if_pos (by omega)] | rw [if_neg (by omega)])
  rw [e0] at hu
  obtain ⟨a,rfl⟩:=List.length_eq_one_iff.1 (show took.length=1 by omega)
  have e : dF m ⟨ff,fpc+1,floc,fstk⟩ [a] (fs0.length+1) hp made out x = .next ⟨ff,fpc+1,floc,fstk++[]⟩ hp made out:=by simp only [dF,List.headD,List.tail];(repeat (first | rfl | refine (if_pos (by omega)).trans ?_ | refine (if_neg (by omega)).trans ?_))
  exact fU (laid:=[]) hi rfl hfs (by simp) (aB (by rw [e];rfl))
def aCd (fs : List cY) (code : List bZ) (d : List Int) (pc : Nat) : Option Int:=
  match code[pc]? with
  | none=>none
  | some x=>
    if d[pc]?.getD 0<0 then none
    else if can fs x (d[pc]?.getD 0)=false then some 2
    else if (fO x pc).any (fun t=>decide ((code.length : Int)≤t))=true then some 3
    else if (fO x pc).any (fun t=>!decide (d[t.toNat]?.getD 0=gY fs x (d[pc]?.getD 0)))=true then some 4
    else none
def aAB (fs : List cY) (code : List bZ) (f pc : Nat) : Option (Int × Nat × Nat):=(aCd fs code (jO fs code) pc).map fun c=>(c,f,pc)
def aGD (fs : List cY) (f : Nat) : Option (Int × Nat × Nat):=match fs[f]? with
  | some x=>(List.range' 0 x.code.length).findSome? (aAB fs x.code f)
  | none=>none
def bad (fs : List cY) : Option (Int × Nat × Nat):=(List.range' 0 fs.length).findSome? (aGD fs)
def aJL : Option (Int × Nat × Nat)→PV
  | some (c,f,pc)=>.agg [.int .i64 c,.int .i64 f,.int .i64 pc]
  | none=>.agg [.int .i64 0,.int .i64 0,.int .i64 0]
def eQ.verify (m : eQ) : PV:=if m.okB then aJL (bad m.funcs) else .agg [.int .i64 1,.int .i64 0,.int .i64 0]
theorem aD5 {n : Nat} {F : Nat→Option R} {P : R→Prop} (I : Nat→Prop) (he : I n→Ok P (F n)) (hs : ∀ i,i<n→I i→(I (i+1)→Ok P (F (i+1)))→Ok P (F i)) (h0 : I 0) : Ok P (F 0):=
  aCT (σ:=Unit) (F:=fun i _=>F i) (fun i _=>I i) (fun _ h=>he h) (fun i _ hi hI ih=>hs i hi hI (fun h=>ih () h)) 0 () (by omega) h0
theorem aCe {α : Type} {xs : List α} {i : Nat} (hi : i<xs.length) (p : α→Bool) : (xs.drop i).any p=(p xs[i]||(xs.drop (i+1)).any p):=by
  rw [List.drop_eq_getElem_cons hi,List.any_cons]
section
variable {fs : List cY} {code : List bZ} {T x3 x4 x5 : PV} (F : Fit fs code) {f : Nat} (hf : f < fs.length)
include F hf
theorem aJM {P : R→Prop} {pc : Nat} (hpc : pc<code.length) {d : List Int} (hd : d.length=code.length) {left : Int} {ts : List Int} (hts : ∀ t∈ts,0≤t∧t<code.length) (hn : ts.length≤10)
    (h4 : ts.any (fun t=>!decide (d[t.toNat]?.getD 0=left))=true→P [.agg [.int .i64 4,.int .i64 f,.int .i64 pc]])
    (hgo : ts.any (fun t=>!decide (d[t.toNat]?.getD 0=left))=false→Ok P (iV (.int .i64 f) (.lst (code.map bZ.pv)) (dG d) (.int .i64 ((pc : Int)+1)) T (.lst (fs.map cY.pv)) x3 x4 x5)) :
    Ok P (hX (.int .i64 f) (.lst (code.map bZ.pv)) (dG d) (.int .i64 pc) (.int .i64 left) (dG ts) (.int .i64 0) T (.lst (fs.map cY.pv)) x3 x4 x5):=by
  have hn2:=F.n2
  refine aD5 (n:=ts.length) (F:=fun i=>hX (.int .i64 f) (.lst (code.map bZ.pv)) (dG d) (.int .i64 pc) (.int .i64 left) (dG ts) (.int .i64 i) T (.lst (fs.map cY.pv)) x3 x4 x5)
    (fun i=>(ts.drop i).any (fun t=>!decide (d[t.toNat]?.getD 0=left))=ts.any (fun t=>!decide (d[t.toNat]?.getD 0=left))) ?_ ?_ (by rw [List.drop_zero])
  · intro hI
    rw [List.drop_length] at hI
    rw [rS]
    exact eE (aJ (aC (fun h=>by omega) (fun _=>aO (by omega) (hgo hI.symm))))
  · intro i hi hI ih
    rw [aCe hi] at hI
    have ht:=hts ts[i] (List.getElem_mem _)
    rw [rS]
    refine eE (aJ (aC (fun _=>?_) (fun h=>by omega)))
    refine dK hi (pN (by omega) (by omega) (fun v hv=>?_))
    have hv' : d[ts[i].toNat]?.getD 0=v:=by rw [hv];rfl
    rw [hv'] at hI
    refine bE (aK (fun h=>?_) (fun h=>?_))
    · rw [decide_eq_false h] at hI
      exact aU rfl (aU rfl (aB (h4 hI.symm)))
    · rw [decide_eq_true h] at hI
      exact aO (by omega) (ih hI)
theorem aLl {P : R→Prop} {pc : Nat} (hpc : pc<code.length) {d : List Int} (hd : d.length=code.length) {left : Int} {ts : List Int} (hts : ∀ t∈ts,0≤t∧t≤code.length) (hn : ts.length≤10)
    (h3 : ts.any (fun t=>decide ((code.length : Int)≤t))=true→P [.agg [.int .i64 3,.int .i64 f,.int .i64 pc]])
    (hgo : ts.any (fun t=>decide ((code.length : Int)≤t))=false→Ok P (hX (.int .i64 f) (.lst (code.map bZ.pv)) (dG d) (.int .i64 pc) (.int .i64 left) (dG ts) (.int .i64 0) T (.lst (fs.map cY.pv)) x3 x4 x5)) :
    Ok P (jT (.int .i64 f) (.lst (code.map bZ.pv)) (dG d) (.int .i64 pc) (.int .i64 left) (dG ts) (.int .i64 0) T (.lst (fs.map cY.pv)) x3 x4 x5):=by
  have hn2:=F.n2
  refine aD5 (n:=ts.length) (F:=fun i=>jT (.int .i64 f) (.lst (code.map bZ.pv)) (dG d) (.int .i64 pc) (.int .i64 left) (dG ts) (.int .i64 i) T (.lst (fs.map cY.pv)) x3 x4 x5)
    (fun i=>(ts.drop i).any (fun t=>decide ((code.length : Int)≤t))=ts.any (fun t=>decide ((code.length : Int)≤t))) ?_ ?_ (by rw [List.drop_zero])
  · intro hI
    rw [List.drop_length] at hI
    rw [rR]
    exact eE (aJ (aC (fun h=>by omega) (fun _=>hgo hI.symm)))
  · intro i hi hI ih
    rw [aCe hi] at hI
    rw [rR]
    refine eE (aJ (aC (fun _=>?_) (fun h=>by omega)))
    refine dK hi (aG (dS (aC (fun h=>?_) (fun h=>?_))))
    · rw [decide_eq_true h] at hI
      exact aU rfl (aU rfl (aB (h3 hI.symm)))
    · rw [decide_eq_false h] at hI
      exact aO (by omega) (ih hI)
theorem aKv {ts : List Int} {n : Int} (h : ts.any (fun t=>decide (n≤t))=false) : ∀ t∈ts,t<n:=by
  clear F hf
  intro t ht
  rw [List.any_eq_false] at h
  have:=h t ht
  simp at this
  omega
theorem aJN {rest : Option (Int × Nat × Nat)} (hnext : Ok (fun r=>r = [aJL rest]) (kU (.int .i64 ((f : Int)+1)) T (.lst (fs.map cY.pv)) x3 x4 x5)) : ∀ pc,pc≤code.length→
    Ok (fun r=>r = [aJL (((List.range' pc (code.length - pc)).findSome? (aAB fs code f)).or rest)]) (iV (.int .i64 f) (.lst (code.map bZ.pv)) (dG (jO fs code)) (.int .i64 pc) T (.lst (fs.map cY.pv)) x3 x4 x5):=by
  have hn2:=F.n2
  have hnf:=F.nf
  have hg:=vW F
  generalize hd : jO fs code=d at hg
  refine eH ?_ ?_
  · rw [tA,aB5]
    exact aG (aJ (aC (fun h=>by omega) (fun _=>aO (by omega) hnext)))
  · intro pc hpc ih
    have hx : code[pc]? = some code[pc]:=List.getElem?_eq_getElem hpc
    have hm : code[pc]∈code:=List.getElem_mem _
    have hu:=F.u code[pc] hm
    have hil : pc<d.length:=by rw [hg.1];exact hpc
    have hv:=hg.at pc
    have e2 : d[pc]=d[pc]?.getD 0:=aD1 hil
    rw [zN hpc]
    have eb : aAB fs code f pc=(aCd fs code d pc).map fun c=>(c,f,pc):=by unfold aAB;rw [hd]
    rw [eb]
    have ec : aCd fs code d pc=if d[pc]?.getD 0<0 then none
      else if can fs code[pc] (d[pc]?.getD 0)=false then some 2
      else if (fO code[pc] pc).any (fun t=>decide ((code.length : Int)≤t))=true then some 3
      else if (fO code[pc] pc).any (fun t=>!decide (d[t.toNat]?.getD 0=gY fs code[pc] (d[pc]?.getD 0)))=true then some 4
      else none:=by
      conv=>lhs;unfold aCd
      rw [hx]
    generalize hw : d[pc]?.getD 0=w at *
    generalize aCd fs code d pc=ch at *
    rw [tA]
    refine aG (aJ (aC (fun _=>?_) (fun h=>by omega)))
    refine dK hil ?_
    rw [e2]
    refine aJ (aC (fun h1=>?_) (fun h1=>?_))
    · rw [if_pos h1] at ec
      subst ec
      exact aO (by omega) ih
    rw [if_neg h1] at ec
    refine aV hpc (fun _=>rfl) (aH (aGu (T:=T) (by omega)) (fun r hr=>?_))
    subst hr
    refine aQ rfl (aQ rfl (dK hil ?_))
    rw [e2]
    refine bG (by omega) (aO (by omega) (dK hil ?_))
    rw [e2]
    refine aJ (aC (fun h2=>?_) (fun h2=>?_))
    · have hc : can fs code[pc] w=false:=by simp only [can];rw [decide_eq_false (by omega)];rfl
      rw [if_pos hc] at ec
      subst ec
      exact aU rfl (aU rfl (aB rfl))
    refine cP (aC (fun h3=>?_) (fun h3=>?_))
    · have hc : can fs code[pc] w=false:=by simp only [can];rw [decide_eq_false (p:=gY fs code[pc] w≤16) (by unfold gY;omega),Bool.and_false]
      rw [if_pos hc] at ec
      subst ec
      exact aU rfl (aU rfl (aB rfl))
    have hc : can fs code[pc] w=true:=by simp only [can];rw [decide_eq_true (by omega),decide_eq_true (p:=gY fs code[pc] w≤16) (by unfold gY;omega)];rfl
    rw [hc,if_neg (by simp)] at ec
    refine aV hpc (fun _=>rfl) (aH (aGw (by omega)) (fun r hr=>?_))
    subst hr
    have hnx:=yS F hm hpc
    have hl10 : (fO code[pc] pc).length≤10:=by unfold fO;repeat' split<;>simp
    refine aLl F hf hpc hg.1 (left:=gY fs code[pc] w) hnx hl10 (fun h=>?_) (fun h=>?_)
    · rw [if_pos h] at ec
      subst ec
      rfl
    rw [if_neg (by rw [h];simp)] at ec
    refine aJM F hf hpc hg.1 (left:=gY fs code[pc] w) (fun t ht=>⟨(hnx t ht).1,aKv F hf h t ht⟩) hl10 (fun h=>?_) (fun h=>?_)
    · rw [if_pos h] at ec
      subst ec
      rfl
    · rw [if_neg (by rw [h];simp)] at ec
      subst ec
      exact ih
end
theorem aFk {fs : List cY} {f : Nat} (hf : f<fs.length) : aGD fs f=(List.range' 0 fs[f].code.length).findSome? (aAB fs fs[f].code f):=by
  unfold aGD
  rw [List.getElem?_eq_getElem hf]
theorem aIM {m : eQ} (h : m.sized) : Ok (fun r=>r = [m.verify]) (yC m.pv):=by
  rw [aET]
  refine aD rfl (aA rfl (aA rfl (aH (aF1 h) (fun r hr=>?_))))
  subst hr
  unfold eQ.verify
  refine bJ (bB (fun hb=>aB ?_) (fun hb=>?_))
  · have : m.okB=false:=by simpa using hb
    rw [this];rfl
  have hb : m.okB=true:=by simpa using hb
  rw [hb,if_pos rfl]
  obtain ⟨h1,h2,h3⟩:=eQ.okB_fit hb
  have key:=eH (n:=m.funcs.length) (P:=fun f r=>r = [aJL ((List.range' f (m.funcs.length - f)).findSome? (aGD m.funcs))])
    (F:=fun f=>kU (.int .i64 f) (.lst (m.texts.map PV.str)) (.lst (m.funcs.map cY.pv)) (.int .i64 0) (.int .i64 0) (.int .i64 0)) ?_ ?_ 0 (by omega)
  · exact key
  · rw [sZ,aB5]
    exact aG (aJ (aC (fun h=>by omega) (fun _=>aB rfl)))
  · intro f hf ih
    have F:=(h3 m.funcs[f] (List.getElem_mem _)).1
    rw [sZ,zN hf,aFk hf]
    refine aG (aJ (aC (fun _=>?_) (fun h=>by omega)))
    refine aV hf (fun _=>rfl) (aA rfl (aH (aID F hf rfl) (fun r hr=>?_)))
    subst hr
    exact aJN F hf ih 0 (by omega)
section
variable {P : R → Prop} {k : R → Option R}
theorem aLm {xs : List Int} (hx : xs.length≤1000000000) (y : Int) : Ok (fun r=>∃ n : Int,r = [.int .i64 n]∧(0≤n↔xs.any (fun x=>decide (y=x))=true)) (kW (dG xs) (.int .i64 y)):=by
  rw [uG]
  refine eE ?_
  refine aD5 (n:=xs.length) (F:=fun i=>fM (dG xs) (.int .i64 y) (.int .i64 xs.length) (.int .i64 i)) (fun i=>(xs.drop i).any (fun x=>decide (y=x))=xs.any (fun x=>decide (y=x))) ?_ ?_ (by rw [List.drop_zero])
  · intro hI
    rw [List.drop_length] at hI
    rw [kZ]
    refine aJ (aC (fun h=>by omega) (fun _=>aB ⟨-1,rfl,?_⟩))
    rw [← hI];simp
  · intro i hi hI ih
    rw [aCe hi] at hI
    rw [kZ]
    refine aJ (aC (fun _=>?_) (fun h=>by omega))
    refine dK hi (aF (aC (fun h=>aB ⟨i,rfl,?_⟩) (fun h=>?_)))
    · rw [← hI,decide_eq_true h];simp
    · rw [decide_eq_false h] at hI
      exact aO (by omega) (ih hI)
theorem aLn {xs : List Int} (hx : xs.length≤1000000000) {y : Int} (h : Ok P (k [.bool (xs.any (fun x=>decide (y=x)))])) : Ok P (bd (iW (dG xs) (.int .i64 y)) k):=by
  refine aH (Q:=fun r=>r = [.bool (xs.any (fun x=>decide (y=x)))]) ?_ (fun r hr=>by rw [hr];exact h)
  rw [rU]
  refine aH (aLm hx y) ?_
  rintro r ⟨n,rfl,hn⟩
  refine dS (aB ?_)
  by_cases h0 : 0≤n
  · rw [decide_eq_true h0,hn.1 h0]
  · rw [decide_eq_false h0]
    cases h2 : xs.any (fun x=>decide (y=x)) with
    | false=>rfl
    | true=>exact absurd (hn.2 h2) h0
theorem aLo {f : Nat} {caps : List PV} {xs : List Int} (hx : xs.length≤1000000000) (p : Int→Bool) (hp : ∀ x∈xs,Ok (fun r=>r = [.bool (p x)]) (aM f ([.int .i64 x]++caps))) (h : Ok P (k [.bool (xs.any p)])) :
    Ok P (bd (gC (dG xs) (.fn f caps)) k):=by
  refine aH (Q:=fun r=>r = [.bool (xs.any p)]) ?_ (fun r hr=>by rw [hr];exact h)
  rw [oP]
  refine aH (Q:=fun r=>∃ n : Int,r = [.int .i64 n]∧(0≤n↔xs.any p=true)) ?_ ?_
  · rw [qL]
    refine eE ?_
    refine aD5 (n:=xs.length) (F:=fun i=>eG (dG xs) (.fn f caps) (.int .i64 xs.length) (.int .i64 i)) (fun i=>(xs.drop i).any p=xs.any p) ?_ ?_ (by rw [List.drop_zero])
    · intro hI
      rw [List.drop_length] at hI
      rw [jB]
      refine aJ (aC (fun h=>by omega) (fun _=>aB ⟨-1,rfl,?_⟩))
      rw [← hI];simp
    · intro i hi hI ih
      rw [aCe hi] at hI
      rw [jB]
      refine aJ (aC (fun _=>?_) (fun h=>by omega))
      refine dK hi (pB rfl (hp _ (List.getElem_mem _)) (fun r hr=>?_))
      subst hr
      refine bB (fun h=>aB ⟨i,rfl,?_⟩) (fun h=>?_)
      · rw [← hI,h];simp
      · rw [h,Bool.false_or] at hI
        exact aO (by omega) (ih hI)
  · rintro r ⟨n,rfl,hn⟩
    refine dS (aB ?_)
    by_cases h0 : 0≤n
    · rw [decide_eq_true h0,hn.1 h0]
    · rw [decide_eq_false h0]
      cases h2 : xs.any p with
      | false=>rfl
      | true=>exact absurd (hn.2 h2) h0
end
theorem aMQ {ts : List Int} {n : Int} (h : ∀ t∈ts,t≤n) : ts.any (fun x=>decide (n=x))=ts.any (fun t=>decide (n≤t)):=by
  induction ts with
  | nil=>rfl
  | cons t r ih=>
    rw [List.any_cons,List.any_cons,ih (fun x hx=>h x (List.mem_cons_of_mem _ hx))]
    have:=h t List.mem_cons_self
    congr 1
    by_cases h1 : n=t
    · rw [decide_eq_true h1,decide_eq_true (by omega)]
    · rw [decide_eq_false h1,decide_eq_false (by omega)]
section
variable {fs : List cY} {code : List bZ} {T x3 x4 x5 : PV} (F : Fit fs code) {f : Nat} (hf : f < fs.length)
include F hf
theorem aJO {rest : Option (Int × Nat × Nat)} (hnext : Ok (fun r=>r = [aJL rest]) (kS (.int .i64 fs.length) (.int .i64 ((f : Int)+1)) T (.lst (fs.map cY.pv)) x3 x4 x5)) : ∀ pc,pc≤code.length→
    Ok (fun r=>r = [aJL (((List.range' pc (code.length - pc)).findSome? (aAB fs code f)).or rest)])
      (kT (.int .i64 f) (.int .i64 fs.length) (.int .i64 f) (.lst (code.map bZ.pv)) (.int .i64 code.length) (.int .i64 pc) T (.lst (fs.map cY.pv)) x3 x4 x5 (dG (jO fs code))):=by
  have hn2:=F.n2
  have hnf:=F.nf
  have hg:=vW F
  generalize hd : jO fs code=d at hg
  refine eH ?_ ?_
  · rw [sY,aB5]
    exact aJ (aC (fun h=>by omega) (fun _=>aO (by omega) hnext))
  · intro pc hpc ih
    have hx : code[pc]? = some code[pc]:=List.getElem?_eq_getElem hpc
    have hm : code[pc]∈code:=List.getElem_mem _
    have hu:=F.u code[pc] hm
    have hil : pc<d.length:=by rw [hg.1];exact hpc
    have hv:=hg.at pc
    have e2 : d[pc]=d[pc]?.getD 0:=aD1 hil
    rw [zN hpc]
    have eb : aAB fs code f pc=(aCd fs code d pc).map fun c=>(c,f,pc):=by unfold aAB;rw [hd]
    rw [eb]
    have ec : aCd fs code d pc=if d[pc]?.getD 0<0 then none
      else if can fs code[pc] (d[pc]?.getD 0)=false then some 2
      else if (fO code[pc] pc).any (fun t=>decide ((code.length : Int)≤t))=true then some 3
      else if (fO code[pc] pc).any (fun t=>!decide (d[t.toNat]?.getD 0=gY fs code[pc] (d[pc]?.getD 0)))=true then some 4
      else none:=by
      conv=>lhs;unfold aCd
      rw [hx]
    generalize hw : d[pc]?.getD 0=w at *
    generalize aCd fs code d pc=ch at *
    rw [sY]
    refine aJ (aC (fun _=>?_) (fun h=>by omega))
    refine aV hpc (fun _=>rfl) (aD rfl (aA rfl (aA rfl (dK hil ?_))))
    rw [e2]
    refine aJ (aC (fun h1=>?_) (fun h1=>?_))
    · rw [if_pos h1] at ec
      subst ec
      exact aO (by omega) ih
    rw [if_neg h1] at ec
    refine dK hil ?_
    rw [e2]
    refine aH (aGA (T:=T) F hm hv) (fun r hr=>?_)
    subst hr
    refine aQ rfl (aQ rfl (aU rfl (bJ (bB (fun hc=>?_) (fun hc=>?_)))))
    · have hc : can fs code[pc] w=false:=by simpa using hc
      rw [if_pos hc] at ec
      subst ec
      exact aU rfl (aU rfl (aB rfl))
    have hc : can fs code[pc] w=true:=by simpa using hc
    rw [hc,if_neg (by simp)] at ec
    refine aH (aGx (x:=code[pc]) (by omega)) (fun r hr=>?_)
    subst hr
    have hnx:=yS F hm hpc
    have hl10 : (fO code[pc] pc).length≤10:=by unfold fO;repeat' split<;>simp
    refine eE (aLn (by omega) ?_)
    rw [hg.1,aMQ (fun t ht=>(hnx t ht).2)]
    refine bB (fun h=>?_) (fun h=>?_)
    · rw [if_pos h] at ec
      subst ec
      exact aU rfl (aU rfl (aB rfl))
    rw [if_neg (by rw [h];simp)] at ec
    refine aLo (by omega) (fun t=>!decide (d[t.toNat]?.getD 0=gY fs code[pc] w)) (fun t ht=>?_) ?_
    · have:=hnx t ht
      have:=aKv F hf h t ht
      show Ok _ (aAs _ _ _)
      rw [aCG]
      refine pC rfl (pN (by omega) (by rw [hg.1];omega) (fun v hv=>pC rfl (bE (aB ?_))))
      rw [hv];rfl
    · refine dP rfl (bB (fun h=>?_) (fun h=>?_))
      · rw [if_pos h] at ec
        subst ec
        exact aU rfl (aU rfl (aB rfl))
      · rw [if_neg (by rw [h];simp)] at ec
        subst ec
        exact aO (by omega) ih
end
theorem aIN {m : eQ} (h : m.sized) : Ok (fun r=>r = [m.verify]) (yB m.pv):=by
  rw [aES]
  refine aD rfl (aA rfl (aA rfl (aH (aF2 h) (fun r hr=>?_))))
  subst hr
  unfold eQ.verify
  refine bJ (bB (fun hb=>aB ?_) (fun hb=>?_))
  · have : m.okB=false:=by simpa using hb
    rw [this];rfl
  have hb : m.okB=true:=by simpa using hb
  rw [hb,if_pos rfl]
  obtain ⟨h1,h2,h3⟩:=eQ.okB_fit hb
  refine aG ?_
  have key:=eH (n:=m.funcs.length) (P:=fun f r=>r = [aJL ((List.range' f (m.funcs.length - f)).findSome? (aGD m.funcs))])
    (F:=fun f=>kS (.int .i64 m.funcs.length) (.int .i64 f) (.lst (m.texts.map PV.str)) (.lst (m.funcs.map cY.pv)) (.int .i64 0) (.int .i64 0) (.int .i64 0)) ?_ ?_ 0 (by omega)
  · exact key
  · rw [sX,aB5]
    exact aJ (aC (fun h=>by omega) (fun _=>aB rfl))
  · intro f hf ih
    have F:=(h3 m.funcs[f] (List.getElem_mem _)).1
    rw [sX,zN hf,aFk hf]
    refine aJ (aC (fun _=>?_) (fun h=>by omega))
    refine aH (yV F hf rfl) (fun r hr=>?_)
    subst hr
    refine aU rfl (aV hf (fun _=>rfl) (aA rfl (aG ?_)))
    exact aJO F hf ih 0 (by omega)
theorem aLp {fs : List cY} {code : List bZ} {d : List Int} {pc : Nat} (hpc : pc<code.length) (h : aCd fs code d pc=none) (h0 : ¬ d[pc]?.getD 0<0) :
    can fs code[pc] (d[pc]?.getD 0)=true∧∀ t∈fO code[pc] pc,t<code.length∧d[t.toNat]?.getD 0=gY fs code[pc] (d[pc]?.getD 0):=by
  unfold aCd at h
  rw [List.getElem?_eq_getElem hpc] at h
  simp only at h
  rw [if_neg h0] at h
  split at h
  · cases h
  rename_i h1
  split at h
  · cases h
  rename_i h2
  split at h
  · cases h
  rename_i h3
  refine ⟨by simpa using h1,fun t ht=>?_⟩
  rw [Bool.not_eq_true,List.any_eq_false] at h2 h3
  have g2:=h2 t ht
  have g3:=h3 t ht
  simp at g2 g3
  exact ⟨by omega,g3⟩
theorem aMc {fs : List cY} (h : bad fs=none) {f : Nat} (hf : f<fs.length) {pc : Nat} (hpc : pc<fs[f].code.length) : aCd fs fs[f].code (jO fs fs[f].code) pc=none:=by
  unfold bad at h
  rw [List.findSome?_eq_none_iff] at h
  have h1:=h f (by rw [List.mem_range'_1];omega)
  rw [aFk hf,List.findSome?_eq_none_iff] at h1
  have h2:=h1 pc (by rw [List.mem_range'_1];omega)
  simpa [aAB] using h2
structure gZ (m : eQ) : Prop where
  sz : m.sized
  ok : m.okB=true
  bad : bad m.funcs=none
def dAt (m : eQ) (f pc : Int) : Int:=(jO m.funcs (dB m.funcs f))[pc.toNat]?.getD 0
def uP (m : eQ) (f pc : Int) : bZ:=(dB m.funcs f)[pc.toNat]?.getD ⟨0,0⟩
abbrev xF (m : eQ) (n : Int) (v : cO) : Prop:=bM m.funcs.length n v=true
theorem yZ : kK (bs []) (bs [])=true:=aFd _
theorem lR {nf n : Int} : bM nf n cX=true:=by simp [bM,cX,yZ]
theorem aKw {nf n x : Int} (h : cC x=true) : bM nf n (qO x)=true:=by simp [bM,qO,yZ,h]
theorem aCf {nf n : Int} {b : Bool} : bM nf n (lB b)=true:=by cases b<;>simp [bM,lB,yZ,kM]
theorem aIO {nf n : Int} {s : ByteArray} (h : dT s=true) : bM nf n (wS s)=true:=by simp [bM,wS,h]
theorem aMR {nf n i : Int} (h : 0≤i∧i<n) : bM nf n (aK9 i)=true:=by simp [bM,aK9,yZ,h]
theorem aMS {nf n i : Int} (h : 0≤i∧i<nf) : bM nf n (aHo i)=true:=by
  have : i≤nf - 1:=by omega
  simp [bM,aHo,yZ,kM,h,this]
theorem oS {nf n n' : Int} (hn : n≤n') {v : cO} (h : bM nf n v=true) : bM nf n' v=true:=by
  unfold bM at *
  split at h
  · cases h
  rename_i h0
  rw [if_neg h0]
  split at h
  · rename_i h1;rw [if_pos h1];exact h
  rename_i h1
  rw [if_neg h1]
  split at h
  · rename_i h1;rw [if_pos h1];exact h
  rename_i h2
  rw [if_neg h2]
  split at h
  · rename_i h1;rw [if_pos h1];exact h
  rename_i h3
  rw [if_neg h3]
  split at h
  · rename_i h1;rw [if_pos h1];exact h
  rename_i h4
  rw [if_neg h4]
  split at h
  · rename_i h1
    rw [if_pos h1]
    simp only [Bool.and_eq_true,decide_eq_true_eq] at *
    omega
  rename_i h5
  rw [if_neg h5]
  exact h
theorem aMT {a b : ByteArray} (ha : dT a=true) (hb : dT b=true) (h : ¬ (60 : Int)<a.size+b.size) : dT (a++b)=true:=by
  simp only [dT,Bool.and_eq_true,decide_eq_true_eq,List.all_eq_true] at *
  refine ⟨by rw [ByteArray.size_append];omega,fun x hx=>?_⟩
  rw [ByteArray.data_append,Array.toList_append,List.mem_append] at hx
  rcases hx with hx | hx
  · exact ha.2 x hx
  · exact hb.2 x hx
theorem aCY {nf n : Int} {v : cO} (h : bM nf n v=true) (hk : v.k=3) : dT v.s=true:=by
  unfold bM at h
  rw [if_neg (fun e=>e.1 hk),if_neg (by omega),if_neg (by omega),if_neg (by omega),if_pos hk] at h
  simp only [Bool.and_eq_true] at h
  exact h.2
theorem aHy {nf n o : Int} {a b : cO} : bM nf n (xC o a b).1=true:=by
  unfold xC
  repeat' split
  all_goals first
    | exact lR
    | (rename_i h;exact aKw (by simpa using h))
theorem aNs {nf n o : Int} {a b : cO} (ha : bM nf n a=true) (hb : bM nf n b=true) : bM nf n (nG o a b).1=true:=by
  unfold nG
  split
  · split
    · rename_i h
      split
      · exact lR
      · rename_i h2
        exact aIO (aMT (aCY ha h.1) (aCY hb h.2) h2)
    · exact aHy
  split
  · exact aHy
  split
  · exact aHy
  split
  · repeat' split
    all_goals first
      | exact lR
      | exact aCf
  · exact aCf
theorem gZ.fit {m : eQ} (g : gZ m) : 1≤m.funcs.length∧m.funcs.length≤12∧∀ f∈m.funcs,Fit m.funcs f.code∧0≤f.p∧f.p≤6∧f.p≤f.lc∧f.lc≤12:=eQ.okB_fit g.ok
theorem gZ.code {m : eQ} (g : gZ m) {f : Int} (h : 0≤f∧f<m.funcs.length) : ∃ i : Nat,∃ hi : i<m.funcs.length,f=i∧dB m.funcs f=m.funcs[i].code∧Fit m.funcs m.funcs[i].code∧0≤m.funcs[i].p∧m.funcs[i].p≤6∧m.funcs[i].p≤m.funcs[i].lc∧m.funcs[i].lc≤12∧uM m.funcs f=m.funcs[i].lc∧eJ m.funcs f=m.funcs[i].p∧
    ∀ x∈m.funcs[i].code,cB m.texts.length m.funcs.length m.funcs[i].lc m.funcs[i].code.length x.o x.a=true:=by
  obtain ⟨i,hi⟩:=Int.eq_ofNat_of_zero_le h.1
  have hl : i<m.funcs.length:=by omega
  have hm : m.funcs[i]∈m.funcs:=List.getElem_mem _
  obtain ⟨F,p1,p2,p3,p4⟩:=g.fit.2.2 _ hm
  refine ⟨i,hl,hi,by simp [dB,hi,List.getElem?_eq_getElem hl],F,p1,p2,p3,p4,by simp [uM,hi,List.getElem?_eq_getElem hl],by simp [eJ,hi,List.getElem?_eq_getElem hl],fun x hx=>?_⟩
  have h:=g.ok
  simp only [eQ.okB,Bool.and_eq_true,bK,decide_eq_true_eq,List.all_eq_true,rY] at h
  exact (h.2.2.2 _ hm).2.2.2 x hx
theorem gZ.at_ {m : eQ} (g : gZ m) {f pc : Int} (h : 0≤f∧f<m.funcs.length) (hp : 0≤pc∧pc<(dB m.funcs f).length) (hd : 0≤dAt m f pc) :
    cB m.texts.length m.funcs.length (uM m.funcs f) (dB m.funcs f).length (uP m f pc).o (uP m f pc).a=true∧
    (0≤(bA m.funcs (uP m f pc)).1∧(bA m.funcs (uP m f pc)).1≤dAt m f pc∧0≤(bA m.funcs (uP m f pc)).2∧(bA m.funcs (uP m f pc)).2≤2)∧dAt m f pc≤16∧gY m.funcs (uP m f pc) (dAt m f pc)≤16∧
    ∀ t∈fO (uP m f pc) pc,(0≤t∧t<(dB m.funcs f).length)∧dAt m f t=gY m.funcs (uP m f pc) (dAt m f pc):=by
  obtain ⟨i,hi,rfl,hc,F,p1,p2,p3,p4,hlc,hpar,hins⟩:=g.code h
  obtain ⟨j,rfl⟩:=Int.eq_ofNat_of_zero_le hp.1
  have hj : j<m.funcs[i].code.length:=by rw [hc] at hp;omega
  have hx : uP m i j=m.funcs[i].code[j]:=by simp [uP,hc,List.getElem?_eq_getElem hj]
  have hm : m.funcs[i].code[j]∈m.funcs[i].code:=List.getElem_mem _
  have hu:=F.u _ hm
  have hdd : ∀ t : Int,dAt m i t=(jO m.funcs m.funcs[i].code)[t.toNat]?.getD 0:=fun t=>by rw [dAt,hc]
  have hb:=(vW F).at j
  have hck:=aLp hj (aMc g.bad hi hj)
  have hnx:=yS F hm hj
  rw [hx,hc,hlc]
  rw [hdd,Int.toNat_natCast] at hd ⊢
  obtain ⟨hcan,hall⟩:=hck (by omega)
  simp only [can,Bool.and_eq_true,decide_eq_true_eq] at hcan
  refine ⟨hins _ hm,⟨hu.1,hcan.1,hu.2.2⟩,hb.2,hcan.2,fun t ht=>?_⟩
  obtain ⟨q1,q2⟩:=hall t ht
  exact ⟨⟨(hnx t ht).1,q1⟩,by rw [hdd];exact q2⟩
structure FrI (m : eQ) (n : Int) (f : cF) : Prop where
  fi : 0≤f.f∧f.f<m.funcs.length
  pc : 0≤f.pc∧f.pc<(dB m.funcs f.f).length
  loc : (f.loc.length : Int)=uM m.funcs f.f
  d : 0≤dAt m f.f f.pc
  vl : ∀ v∈f.loc,xF m n v
  vs : ∀ v∈f.stk,xF m n v
structure aMd (m : eQ) (n : Int) (f : cF) : Prop extends FrI m n f where
  h : (f.stk.length : Int)=dAt m f.f f.pc
structure aJP (m : eQ) (n : Int) (f : cF) : Prop extends FrI m n f where
  low : 1≤f.pc∧0≤dAt m f.f (f.pc - 1)∧((uP m f.f (f.pc - 1)).o=23∨(uP m f.f (f.pc - 1)).o=24)
  h : (f.stk.length : Int)=dAt m f.f f.pc - 1
structure HpI (m : eQ) (hp : List (List cO)) (made : Int) (out : List ByteArray) : Prop where
  made : hp.length≤made∧made≤120
  recs : ∀ r∈hp,r.length≤6∧∀ v∈r,xF m hp.length v
  out : out.length≤200
structure VmI (m : eQ) (v : nX) : Prop where
  hp : HpI m v.hp v.made v.out
  steps : 0≤v.steps∧v.steps≤50000
  nfr : v.fr.length≤24
  run : v.st=0→v.fr≠[]
  top : ∀ fs0 f,v.fr=fs0++[f]→aMd m v.hp.length f∧∀ g∈fs0,aJP m v.hp.length g
theorem FrI.mono {m : eQ} {n n' : Int} (hn : n≤n') {f : cF} (h : FrI m n f) : FrI m n' f:=
  ⟨h.fi,h.pc,h.loc,h.d,fun v hv=>oS hn (h.vl v hv),fun v hv=>oS hn (h.vs v hv)⟩
theorem aJP.mono {m : eQ} {n n' : Int} (hn : n≤n') {f : cF} (h : aJP m n f) : aJP m n' f:=⟨h.toFrI.mono hn,h.low,h.h⟩
theorem FrI.small {m : eQ} (g : gZ m) {n : Int} {f : cF} (h : FrI m n f) : f.loc.length≤12:=by
  obtain ⟨i,hi,he,hc,F,p1,p2,p3,p4,hlc,hpar,hins⟩:=g.code h.fi
  have:=h.loc
  omega
theorem FrI.dle {m : eQ} (g : gZ m) {n : Int} {f : cF} (h : FrI m n f) : dAt m f.f f.pc≤16:=(g.at_ h.fi h.pc h.d).2.2.1
theorem VmI.sz {m : eQ} (g : gZ m) {v : nX} (h : VmI m v) : Sz v:=by
  have:=h.hp.made
  have:=h.hp.out
  have:=h.nfr
  refine ⟨by omega,by omega,by omega,fun f hf=>?_,fun r hr=>by have:=(h.hp.recs r hr).1;omega⟩
  rcases List.eq_nil_or_concat v.fr with h0 | ⟨fs0,f0,h0⟩
  · rw [h0] at hf;cases hf
  · obtain ⟨t,l⟩:=h.top fs0 f0 (by rw [h0];simp)
    rw [h0] at hf
    simp only [List.concat_eq_append,List.mem_append,List.mem_singleton] at hf
    rcases hf with hf | rfl
    · have:=(l f hf).toFrI.small g
      have:=(l f hf).toFrI.dle g
      have:=(l f hf).h
      omega
    · have:=t.toFrI.small g
      have:=t.toFrI.dle g
      have:=t.h
      omega
theorem VmI.goes {m : eQ} (g : gZ m) {v : nX} (h : VmI m v) (h0 : v.st=0) : ∃ fs0 f,aMa m v fs0 f:=by
  rcases List.eq_nil_or_concat v.fr with e | ⟨fs0,f,e⟩
  · exact absurd e (h.run h0)
  rw [List.concat_eq_append] at e
  refine ⟨fs0,f,?_⟩
  obtain ⟨t,l⟩:=h.top fs0 f e
  obtain ⟨i,hi,he,hc,F,p1,p2,p3,p4,hlc,hpar,hins⟩:=g.code t.fi
  obtain ⟨a1,a2,a3,a4,a5⟩:=g.at_ t.fi t.pc t.d
  have hx : jD m.funcs f=uP m f.f f.pc:=rfl
  have hh:=t.h
  have hm:=h.hp.made
  have hn:=h.nfr
  rw [e,List.length_append,List.length_singleton] at hn
  refine ⟨e,t.fi,t.pc,by rw [hc];exact F.n2,by rw [hx,t.loc];exact a1,by rw [hx,hh];exact ⟨a2.1,a2.2.1⟩,fun b=>?_⟩
  refine ⟨g.fit.2.1,?_,fun f hf=>?_,by omega,fun f hf=>?_,by have:=t.toFrI.small g;exact this,?_,fun r hr=>(h.hp.recs r hr).1,by omega,by omega,h.hp.out,fun v hv=>t.vs v (List.mem_of_mem_drop hv)⟩
  · have h:=g.ok
    simp only [eQ.okB,Bool.and_eq_true,bK,decide_eq_true_eq] at h
    omega
  · have:=g.fit.2.2 f hf
    exact this.2
  · have:=(l f hf).toFrI.dle g
    have:=(l f hf).h
    omega
  · simp only [List.length_take,List.length_drop]
    omega
structure aIP (m : eQ) (v : nX) (f : cF) (x : bZ) (fr : cF) (hp : List (List cO)) (made : Int) (out : List ByteArray) : Prop where
  ff : fr.f=f.f
  pc : fr.pc∈fO x f.pc
  loc : fr.loc.length=f.loc.length
  len : (fr.stk.length : Int)=gY m.funcs x f.stk.length
  vl : ∀ y∈fr.loc,xF m hp.length y
  vs : ∀ y∈fr.stk,xF m hp.length y
  n : v.hp.length≤hp.length
  hpI : HpI m hp made out
structure aNb (m : eQ) (v : nX) (fs0 : List cF) (f : cF) (x : bZ) (fr g : cF) : Prop where
  n : fs0.length+1<24
  o : x.o=23∨x.o=24
  frr : fr=⟨f.f,f.pc+1,f.loc,f.stk.take (f.stk.length - (bA m.funcs x).1.toNat)⟩
  gg : ∃ i args,g=pU m.funcs i args∧(0≤i∧i<m.funcs.length)∧(args.length : Int)=eJ m.funcs i∧∀ y∈args,xF m v.hp.length y
def aNH (m : eQ) (v : nX) (fs0 : List cF) (f : cF) (x : bZ) : aF3→Prop
  | .trap _=>True
  | .next fr hp made out=>aIP m v f x fr hp made out
  | .call fr g=>aNb m v fs0 f x fr g
  | .ret a=>xF m v.hp.length a
theorem aKx {m : eQ} {n : Int} {l : List cO} (h : ∀ y∈l,xF m n y) (i : Nat) : xF m n (l[i]?.getD cX):=by
  cases hx : l[i]? with
  | none=>exact lR
  | some y=>exact h y (List.mem_of_getElem? hx)
theorem aHz {m : eQ} {v : nX} (h : HpI m v.hp v.made v.out) (i : Nat) : (v.hp[i]?.getD []).length≤6∧∀ y∈v.hp[i]?.getD [],xF m v.hp.length y:=by
  cases hx : v.hp[i]? with
  | none=>simp
  | some y=>exact h.recs y (List.mem_of_getElem? hx)
theorem aMe {m : eQ} {n : Int} {l : List cO} (h : ∀ y∈l,xF m n y) {y : cO} (hy : xF m n y) (i : Nat) : ∀ z∈l.set i y,xF m n z:=by
  intro z hz
  rcases List.mem_or_eq_of_mem_set hz with h1 | rfl
  · exact h z h1
  · exact hy
theorem aHA {m : eQ} {n : Int} {a b : List cO} (h : ∀ y∈a,xF m n y) (h' : ∀ y∈b,xF m n y) : ∀ y∈a++b,xF m n y:=by
  intro y hy
  rcases List.mem_append.1 hy with h1 | h1
  · exact h y h1
  · exact h' y h1
theorem aGE {x : bZ} {pc : Int} (h : x.o≠17∧x.o≠25) : pc+1∈fO x pc:=by simp [fO,h]
theorem aFl {x : bZ} {pc : Int} (h : x.o=17∨x.o=18∨x.o=19) : x.a∈fO x pc:=by unfold fO;rw [if_pos h];simp
section
variable {m : eQ} {v : nX} {fs0 : List cF} {f : cF} {x : bZ}
theorem aMf (g : gZ m) (h : VmI m v) (t : aMd m v.hp.length f) (hx : jD m.funcs f=x) (hn : fs0.length+1≤24) : aNH m v fs0 f x (wU m v fs0 f):=by
  obtain ⟨a1,a2,a3,a4,a5⟩:=g.at_ t.fi t.pc t.d
  have hi : uP m f.f f.pc=x:=hx
  rw [hi] at a1 a2 a4 a5
  have hh:=t.h
  rw [← hh] at a2 a3 a4
  rw [← t.loc] at a1
  have ib:=zQ a1
  show aNH m v fs0 f x (dF m ⟨f.f,f.pc+1,f.loc,f.stk.take (f.stk.length - (bA m.funcs (jD m.funcs f)).1.toNat)⟩ (f.stk.drop (f.stk.length - (bA m.funcs (jD m.funcs f)).1.toNat)) (fs0.length+1) v.hp v.made v.out (jD m.funcs f))
  rw [hx]
  generalize hb : f.stk.length - (bA m.funcs x).1.toNat=b
  have hlt : ((f.stk.take b).length : Int)=f.stk.length - (bA m.funcs x).1:=by rw [List.length_take];omega
  have hld : ((f.stk.drop b).length : Int)=(bA m.funcs x).1:=by rw [List.length_drop];omega
  have kt : ∀ y∈f.stk.take b,xF m v.hp.length y:=fun y hy=>t.vs y (List.mem_of_mem_take hy)
  have kd : ∀ y∈f.stk.drop b,xF m v.hp.length y:=fun y hy=>t.vs y (List.mem_of_mem_drop hy)
  have hlef : gY m.funcs x f.stk.length=f.stk.length - (bA m.funcs x).1+(bA m.funcs x).2:=rfl
  generalize htk : f.stk.take b=T at *
  generalize hdr : f.stk.drop b=D at *
  have ka : xF m v.hp.length (D.headD cX):=by
    cases D with
    | nil=>exact lR
    | cons y r=>exact kd y (by simp)
  have kb : xF m v.hp.length (D.tail.headD cX):=by
    cases D with
    | nil=>exact lR
    | cons y r=>cases r with
      | nil=>exact lR
      | cons z r=>exact kd z (by simp)
  have ktl : ∀ y∈D.tail,xF m v.hp.length y:=fun y hy=>kd y (List.mem_of_mem_tail hy)
  have go : ∀ (l : List cO) (pc : Int),pc∈fO x f.pc→(∀ y∈l,xF m v.hp.length y)→(l.length : Int)=(bA m.funcs x).2→aIP m v f x ⟨f.f,pc,f.loc,T++l⟩ v.hp v.made v.out:=fun l pc hpc hl hn=>
    ⟨rfl,hpc,rfl,by rw [hlef,List.length_append];omega,t.vl,aHA kt hl,Nat.le_refl _,h.hp⟩
  have go0 : ∀ pc : Int,pc∈fO x f.pc→(bA m.funcs x).2=0→aIP m v f x ⟨f.f,pc,f.loc,T⟩ v.hp v.made v.out:=fun pc hpc hn=>by
    have:=go [] pc hpc (by simp) (by simp [hn])
    simpa using this
  have one : ∀ y,xF m v.hp.length y→∀ z∈[y],xF m v.hp.length z:=fun y hy z hz=>by rw [List.mem_singleton] at hz;rw [hz];exact hy
  have two : ∀ y y',xF m v.hp.length y→xF m v.hp.length y'→∀ z∈[y,y'],xF m v.hp.length z:=fun y y' hy hy' z hz=>by
    simp only [List.mem_cons,List.not_mem_nil,or_false] at hz
    rcases hz with rfl | rfl
    · exact hy
    · exact hy'
  obtain ⟨⟨o1,o2⟩,i3,i67,i20,i21,i23,i5,ij,i1⟩:=ib
  have inc : x.o≠17→x.o≠25→f.pc+1∈fO x f.pc:=fun h1 h2=>aGE ⟨h1,h2⟩
  unfold dF
  simp only
  by_cases h1 : x.o=1
  · rw [if_pos h1]
    exact go _ _ (inc (by omega) (by omega)) (one _ (aKw (i1 h1))) (by simp [bA,h1])
  rw [if_neg h1]
  by_cases h2 : x.o=2
  · rw [if_pos h2]
    exact go _ _ (inc (by omega) (by omega)) (one _ aCf) (by simp [bA,h2])
  rw [if_neg h2]
  by_cases h3 : x.o=3
  · rw [if_pos h3]
    refine go _ _ (inc (by omega) (by omega)) (one _ (aIO ?_)) (by simp [bA,h3])
    have hok:=g.ok
    simp only [eQ.okB,Bool.and_eq_true,bK,decide_eq_true_eq,List.all_eq_true] at hok
    have:=i3 h3
    rw [List.getElem?_eq_getElem (by omega)]
    exact hok.2.2.1 _ (List.getElem_mem _)
  rw [if_neg h3]
  by_cases h4 : x.o=4
  · rw [if_pos h4]
    exact go _ _ (inc (by omega) (by omega)) (one _ lR) (by simp [bA,h4])
  rw [if_neg h4]
  by_cases h5 : x.o=5
  · rw [if_pos h5]
    exact go _ _ (inc (by omega) (by omega)) (one _ (aMS (i5 (.inl h5)))) (by simp [bA,h5])
  rw [if_neg h5]
  by_cases h6 : x.o=6
  · rw [if_pos h6]
    exact go _ _ (inc (by omega) (by omega)) (one _ (aKx t.vl _)) (by simp [bA,h6])
  rw [if_neg h6]
  by_cases h7 : x.o=7
  · rw [if_pos h7]
    exact ⟨rfl,inc (by omega) (by omega),by simp,by rw [hlef];simp only;rw [hlt];simp [bA,h7],aMe t.vl ka _,kt,Nat.le_refl _,h.hp⟩
  rw [if_neg h7]
  by_cases h8 : x.o=8
  · rw [if_pos h8]
    exact go _ _ (inc (by omega) (by omega)) (two _ _ ka ka) (by simp [bA,h8])
  rw [if_neg h8]
  by_cases h9 : x.o=9
  · rw [if_pos h9]
    exact go _ _ (inc (by omega) (by omega)) (by simp) (by simp [bA,h9])
  rw [if_neg h9]
  by_cases h10 : x.o=10
  · rw [if_pos h10]
    exact go _ _ (inc (by omega) (by omega)) (two _ _ kb ka) (by simp [bA,h10])
  rw [if_neg h10]
  by_cases h15 : x.o≤15
  · rw [if_pos h15]
    have hu : (bA m.funcs x).2=1:=by
      have : x.o=11∨x.o=12∨x.o=13∨x.o=14∨x.o=15:=by omega
      rcases this with h | h | h | h | h<;>simp [bA,h]
    split
    · trivial
    · exact go _ _ (inc (by omega) (by omega)) (one _ (aNs ka kb)) (by rw [hu];rfl)
  rw [if_neg h15]
  by_cases h16 : x.o=16
  · rw [if_pos h16]
    split
    · trivial
    · refine go _ _ (inc (by omega) (by omega)) (one _ ?_) (by simp [bA,h16])
      unfold uL
      split
      · exact lR
      · exact aCf
  rw [if_neg h16]
  by_cases h17 : x.o=17
  · rw [if_pos h17]
    exact go0 _ (aFl (.inl h17)) (by simp [bA,h17])
  rw [if_neg h17]
  by_cases h19 : x.o≤19
  · rw [if_pos h19]
    have h89 : x.o=18∨x.o=19:=by omega
    have hu : (bA m.funcs x).2=0:=by rcases h89 with h | h<;>simp [bA,h]
    split
    · trivial
    split
    · exact go0 _ (aFl (.inr h89)) hu
    · exact go _ _ (inc (by omega) (by omega)) (by simp) (by rw [hu];rfl)
  rw [if_neg h19]
  by_cases h20 : x.o=20
  · rw [if_pos h20]
    split
    · trivial
    rename_i hm
    have hm0:=h.hp.made
    have hl : (v.hp++[List.replicate x.a.toNat cX]).length=v.hp.length+1:=by simp
    refine ⟨rfl,inc (by omega) (by omega),rfl,?_,fun y hy=>oS (by rw [hl];omega) (t.vl y hy),aHA (fun y hy=>oS (by rw [hl];omega) (kt y hy)) (fun y hy=>?_),by rw [hl];omega,⟨by rw [hl];omega,fun r hr=>?_,h.hp.out⟩⟩
    · rw [hlef];simp only [List.length_append,List.length_singleton]
      have hu : (bA m.funcs x).2=1:=by simp [bA,h20]
      omega
    · rw [List.mem_singleton] at hy
      rw [hy]
      exact aMR (by rw [hl];omega)
    · rcases List.mem_append.1 hr with hr | hr
      · exact ⟨(h.hp.recs r hr).1,fun y hy=>oS (by rw [hl];omega) ((h.hp.recs r hr).2 y hy)⟩
      · rw [List.mem_singleton] at hr
        rw [hr]
        have:=i20 h20
        refine ⟨by rw [List.length_replicate];omega,fun y hy=>?_⟩
        rw [List.eq_of_mem_replicate hy]
        exact lR
  rw [if_neg h20]
  by_cases h21 : x.o=21
  · rw [if_pos h21]
    split
    · trivial
    split
    · trivial
    exact go _ _ (inc (by omega) (by omega)) (one _ (aKx (aHz h.hp _).2 _)) (by simp [bA,h21])
  rw [if_neg h21]
  by_cases h22 : x.o=22
  · rw [if_pos h22]
    split
    · trivial
    split
    · trivial
    have hl : ∀ r,(v.hp.set (D.headD cX).n.toNat r).length=v.hp.length:=fun r=>List.length_set
    refine ⟨rfl,inc (by omega) (by omega),rfl,by rw [hlef];simp only;rw [hlt];simp [bA,h22],fun y hy=>by rw [xF,hl];exact t.vl y hy,fun y hy=>by rw [xF,hl];exact kt y hy,by rw [hl];omega,⟨by rw [hl];exact h.hp.made,fun r hr=>?_,h.hp.out⟩⟩
    rw [hl]
    rcases List.mem_or_eq_of_mem_set hr with hr | hr
    · exact h.hp.recs r hr
    · rw [hr]
      exact ⟨by rw [List.length_set];exact (aHz h.hp _).1,aMe (aHz h.hp _).2 kb _⟩
  rw [if_neg h22]
  by_cases h23 : x.o=23
  · rw [if_pos h23]
    have hxa:=i23 h23
    have hu : bA m.funcs x=(x.a+1,1):=by
      have : 0≤x.a∧x.a≤6:=hxa
      simp [bA,h23,this]
    rw [hu] at hld hb
    simp only at hld hb
    split
    · trivial
    rename_i hk
    have hk : (D.headD cX).k=5:=by omega
    split
    · trivial
    rename_i hp
    have hp : eJ m.funcs (D.headD cX).n=x.a:=by omega
    split
    · trivial
    rename_i hd
    refine ⟨?_,.inl h23,?_,_,_,rfl,aCV ka hk,by rw [List.length_tail,hp];omega,ktl⟩
    · omega
    · rw [← htk,← hb,hu]
  rw [if_neg h23]
  by_cases h24 : x.o=24
  · rw [if_pos h24]
    have hxa:=i5 (.inr h24)
    have hu : bA m.funcs x=(eJ m.funcs x.a,1):=by
      have : 0≤x.a∧x.a<m.funcs.length:=hxa
      simp [bA,h24,this]
    rw [hu] at hld hb
    simp only at hld hb
    split
    · trivial
    rename_i hd
    refine ⟨?_,.inr h24,?_,_,_,rfl,hxa,hld,kd⟩
    · omega
    · rw [← htk,← hb,hu]
  rw [if_neg h24]
  by_cases h25 : x.o=25
  · rw [if_pos h25]
    exact ka
  rw [if_neg h25]
  have h26 : x.o=26:=by omega
  split
  · trivial
  rename_i ho
  have:=h.hp.out
  exact ⟨rfl,inc (by omega) (by omega),rfl,by rw [hlef];simp only;rw [hlt];simp [bA,h26],t.vl,kt,Nat.le_refl _,⟨h.hp.made,h.hp.recs,by simp;omega⟩⟩
end
theorem aCg {α : Type} {a b : List α} {x y : α} (h : a++[x]=b++[y]) : a=b∧x=y:=by
  have:=List.append_inj' h rfl
  exact ⟨this.1,by simpa using this.2⟩
theorem aJP.top {m : eQ} {n : Int} {f : cF} {a : cO} (h : aJP m n f) (ha : xF m n a) : aMd m n ⟨f.f,f.pc,f.loc,f.stk++[a]⟩:=
  ⟨⟨h.fi,h.pc,h.loc,h.d,h.vl,aHA h.vs (fun y hy=>by rw [List.mem_singleton] at hy;rw [hy];exact ha)⟩,by
    have:=h.h
    simp only [List.length_append,List.length_singleton]
    omega⟩
theorem aIQ {m : eQ} (g : gZ m) {n i : Int} {args : List cO} (hi : 0≤i∧i<m.funcs.length) (hn : (args.length : Int)=eJ m.funcs i) (ha : ∀ y∈args,xF m n y) : aMd m n (pU m.funcs i args):=by
  obtain ⟨k,hk,he,hc,F,p1,p2,p3,p4,hlc,hpar,hins⟩:=g.code hi
  have h0 : dAt m i 0=0:=by
    rw [dAt,hc,Int.toNat_zero,aIC F];rfl
  refine ⟨⟨hi,?_,?_,?_,?_,fun y hy=>by cases hy⟩,?_⟩
  · show (0 : Int)≤0∧0<((dB m.funcs i).length : Int)
    have:=F.n1
    rw [hc];omega
  · show ((args++List.replicate ((uM m.funcs i).toNat - args.length) cX).length : Int)=uM m.funcs i
    rw [List.length_append,List.length_replicate]
    omega
  · show 0≤dAt m i 0
    omega
  · refine aHA ha (fun y hy=>?_)
    rw [List.eq_of_mem_replicate hy]
    exact lR
  · show ((0 : Nat) : Int)=dAt m i 0
    omega
theorem VmI.step {m : eQ} (g : gZ m) {v : nX} (h : VmI m v) : VmI m (jE m v):=by
  by_cases h0 : v.st≠0
  · have : jE m v=v:=by unfold jE;rw [if_pos h0]
    rw [this];exact h
  have h0 : v.st=0:=by omega
  by_cases h5 : v.steps=50000
  · have : jE m v=v:=by unfold jE;rw [if_neg (by omega),if_pos h5]
    rw [this];exact h
  obtain ⟨fs0,f,G⟩:=h.goes g h0
  obtain ⟨t,low⟩:=h.top fs0 f G.fr
  have hnf:=h.nfr
  rw [G.fr,List.length_append,List.length_singleton] at hnf
  have hst:=h.steps
  rw [zS h0 h5 G.fr]
  have A:=aMf (fs0:=fs0) g h t rfl hnf
  obtain ⟨a1,a2,a3,a4,a5⟩:=g.at_ t.fi t.pc t.d
  have hh:=t.h
  have hx : uP m f.f f.pc=jD m.funcs f:=rfl
  rw [hx] at a1 a2 a4 a5
  cases ha : wU m v fs0 f with
  | trap c=>
    exact ⟨h.hp,by show 0≤v.steps+1∧v.steps+1≤50000;omega,h.nfr,fun h=>absurd h (by show (2 : Int)≠0;omega),h.top⟩
  | next fr hp made out=>
    rw [ha] at A
    have A : aIP m v f (jD m.funcs f) fr hp made out:=A
    obtain ⟨b1,b2⟩:=a5 _ A.pc
    refine ⟨A.hpI,by show 0≤v.steps+1∧v.steps+1≤50000;omega,by show (fs0++[fr]).length≤24;rw [List.length_append,List.length_singleton];exact hnf,fun _=>by show fs0++[fr]≠[];simp,fun fs1 f1 he=>?_⟩
    obtain ⟨rfl,rfl⟩:=aCg (show fs0++[fr]=fs1++[f1] from he)
    refine ⟨⟨⟨by rw [A.ff];exact t.fi,by rw [A.ff];exact b1,by rw [A.ff,A.loc];exact t.loc,by rw [A.ff,b2];have:=A.len;rw [hh] at this;omega,A.vl,A.vs⟩,by rw [A.len,A.ff,b2,hh]⟩,fun f hf=>(low f hf).mono (n':=(hp.length : Int)) (by have:=A.n;omega)⟩
  | call fr gg=>
    rw [ha] at A
    have A : aNb m v fs0 f (jD m.funcs f) fr gg:=A
    obtain ⟨i,args,rfl,hi,hn,hv⟩:=A.gg
    have hnx : f.pc+1∈fO (jD m.funcs f) f.pc:=aGE (by have:=A.o;omega)
    obtain ⟨b1,b2⟩:=a5 _ hnx
    have hu2 : (bA m.funcs (jD m.funcs f)).2=1:=by
      have ib:=zQ a1
      rcases A.o with ho | ho
      · have:=ib.2.2.2.2.2.1 ho
        simp [bA,ho,this]
      · have:=ib.2.2.2.2.2.2.1 (.inr ho)
        simp [bA,ho,this]
    have hlef : gY m.funcs (jD m.funcs f) (dAt m f.f f.pc)=dAt m f.f f.pc - (bA m.funcs (jD m.funcs f)).1+(bA m.funcs (jD m.funcs f)).2:=rfl
    refine ⟨h.hp,by show 0≤v.steps+1∧v.steps+1≤50000;omega,by show (fs0++[fr,pU m.funcs i args]).length≤24;rw [List.length_append];have:=A.n;simp only [List.length_cons,List.length_nil];omega,fun _=>by show fs0++[fr,pU m.funcs i args]≠[];simp,fun fs1 f1 he=>?_⟩
    have he : fs0++[fr,pU m.funcs i args]=fs1++[f1]:=he
    rw [show fs0++[fr,pU m.funcs i args]=(fs0++[fr])++[pU m.funcs i args] by simp] at he
    obtain ⟨rfl,rfl⟩:=aCg he
    refine ⟨aIQ g hi hn hv,fun y hy=>?_⟩
    rcases List.mem_append.1 hy with hy | hy
    · exact low y hy
    · rw [List.mem_singleton] at hy
      rw [hy,A.frr]
      refine ⟨⟨t.fi,b1,t.loc,by show 0≤dAt m f.f (f.pc+1);rw [b2];omega,t.vl,fun y hy=>t.vs y (List.mem_of_mem_take hy)⟩,?_,?_⟩
      · show 1≤f.pc+1∧0≤dAt m f.f (f.pc+1 - 1)∧((uP m f.f (f.pc+1 - 1)).o=23∨(uP m f.f (f.pc+1 - 1)).o=24)
        rw [show f.pc+1 - 1=f.pc by omega]
        exact ⟨by have:=t.pc;omega,t.d,A.o⟩
      · show ((f.stk.take (f.stk.length - (bA m.funcs (jD m.funcs f)).1.toNat)).length : Int)=dAt m f.f (f.pc+1) - 1
        rw [b2,List.length_take]
        omega
  | ret a=>
    rw [ha] at A
    have A : xF m v.hp.length a:=A
    by_cases hf : fs0 = []
    · have e : yY m v fs0 (.ret a)=⟨[],v.hp,v.made,v.out,1,v.tr,a,v.steps+1⟩:=if_pos hf
      rw [e]
      exact ⟨h.hp,by show 0≤v.steps+1∧v.steps+1≤50000;omega,by simp,fun h=>absurd h (by show (1 : Int)≠0;omega),fun fs1 f1 he=>by simp at he⟩
    · have e : yY m v fs0 (.ret a)=⟨aAA a fs0,v.hp,v.made,v.out,v.st,v.tr,v.val,v.steps+1⟩:=if_neg hf
      rw [e]
      rcases List.eq_nil_or_concat fs0 with e0 | ⟨fs1,f1,e1⟩
      · exact absurd e0 hf
      rw [List.concat_eq_append] at e1
      subst e1
      rw [vX]
      simp only [List.length_append,List.length_singleton] at hnf
      refine ⟨h.hp,by show 0≤v.steps+1∧v.steps+1≤50000;omega,by simp only [List.length_append,List.length_singleton];omega,fun _=>by simp,fun fs2 f2 he=>?_⟩
      obtain ⟨rfl,rfl⟩:=aCg he
      exact ⟨(low f1 (by simp)).top A,fun y hy=>low y (by simp [hy])⟩
end Go.Proofs.YtjgleeamiclokaaGreatDoor
