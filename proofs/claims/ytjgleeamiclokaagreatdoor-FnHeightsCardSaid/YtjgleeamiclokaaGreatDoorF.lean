/-
  Texts of the proof, part 6: a value-level evaluator and its soundness, what the functions compute, laws about it.
  Conditions: none.
-/
import Derived.Test.YtjgleeamiclokaaGreatDoorE
import Derived.Calls
import Derived.KernelRfl
import Derived.Orders
import Derived.Test.YtjgleeamiclokaaGreatDoorProg
import Derived.Lib.AppendIntMem
import Derived.Lib.ItoaNum
import Derived.Laws.IdiomCopy
import Derived.Laws.Cells
import Derived.Below
import Derived.Laws.StructEq
import Derived.Laws.BytesString
import Derived.Laws.NewFold
import Derived.Laws.Tables
import Derived.Great.FillDense
import Derived.Shelf.Spec.SlicesGrow
import Derived.Shelf.Strconv.Itoa3
import Derived.Shelf.SlGeneric
import Derived.Ground.NamesProg
import Derived.Ground.Names8Prog
import Derived.IntWalk
import Derived.WalkKit
import Derived.ProofKit
import Derived.OpenShut
import Derived.ShutString
import Derived.ChangeOld
import Derived.Lib.Strings
set_option linter.all false
namespace Go.Proofs.YtjgleeamiclokaaGreatDoor
open Go Go.IntWalk
attribute [local irreducible] bd PV.ite PV.guardFlat PV.guardOwn PV.whole PV.one PV.cell PV.sub PV.at_ PV.len PV.slen PV.chr PV.beq PV.peq PV.ceq PV.bin PV.neg PV.not PV.conv PV.cut PV.scut PV.cat PV.setAt PV.setCell PV.ncopy PV.copyIn PV.zeros PV.toStr PV.toBytes PV.deref PV.isPtr PV.comp PV.inb PV.off PV.imin PV.imax PV.sel PV.apply PV.isLst PV.isInt PV.ix PV.nilT
structure cS where
  k : Int
  n : Int
  s : ByteArray
def cS.pv (v : cS) : PV:=.agg [.int .i64 v.k,.int .i64 v.n,.str v.s]
def cX : cS:=⟨0,0,bs []⟩
def qY (n : Int) : cS:=⟨1,n,bs []⟩
def lC (b : Bool) : cS:=⟨2,if b then 1 else 0,bs []⟩
def xD (s : ByteArray) : cS:=⟨3,0,s⟩
def aK9 (n : Int) : cS:=⟨4,n,bs []⟩
def aHr (n : Int) : cS:=⟨5,n,bs []⟩
def cD (n : Int) : Bool:=lG n (-1000000000) 1000000000
def kK (a b : ByteArray) : Bool:=a.toList==b.toList
theorem aFk (a : ByteArray) : kK a a=true:=by simp [kK]
def I64 (n : Int) : Prop:=-9223372036854775808≤n∧n≤9223372036854775807
section
variable {P : R → Prop} {k : PV → Option R} {kr : R → Option R} {a b : ByteArray}
theorem aML (h : Ok P (k (.bool (!kK a b)))) : Ok P (bd (PV.bin .neq (.str a) (.str b)) k):=cQ _ (by simp only [PV.bin,PV.strBin];rfl) h
theorem qZ (h : Ok P (k (.bool (kK a b)))) : Ok P (bd (PV.bin .eql (.str a) (.str b)) k):=cQ _ (by simp only [PV.bin,PV.strBin];rfl) h
theorem aKo (h : Ok P (k (.bool (PV.bytesLt a.toList b.toList)))) : Ok P (bd (PV.bin .lss (.str a) (.str b)) k):=cQ _ (by simp only [PV.bin,PV.strBin]) h
theorem mX (hb : a.size+b.size≤4611686018427387904) (h : Ok P (k (.str (a++b)))) : Ok P (bd (PV.bin .add (.str a) (.str b)) k):=cQ _ (by simp only [PV.bin,PV.strBin];rw [if_pos (by omega)]) h
theorem aCa {n : Int} (h : Ok P (kr [.bool (cD n)])) : Ok P (bd (gG (.int .i64 n)) kr):=by
  refine aH (Q:=fun r=>r = [.bool (cD n)]) ?_ (fun r hr=>by rw [hr];exact h)
  rw [aE4]
  exact eB (aB rfl)
theorem uX {n : Int} (h : Ok P (kr [(qY n).pv])) : Ok P (bd (eQ (.int .i64 n)) kr):=by
  refine aH (Q:=fun r=>r = [(qY n).pv]) ?_ (fun r hr=>by rw [hr];exact h)
  rw [aFa]
  exact aW rfl (aB rfl)
theorem nI {c : Bool} (h : Ok P (kr [(lC c).pv])) : Ok P (bd (fE (.bool c)) kr):=by
  refine aH (Q:=fun r=>r = [(lC c).pv]) ?_ (fun r hr=>by rw [hr];exact h)
  rw [aDU]
  exact aZ (fun h=>aB (by rw [h];rfl)) (fun h=>aB (by rw [h];rfl))
end
def bN (nf recs : Int) (v : cS) : Bool:=
  if v.k≠3∧kK v.s (bs [])=false then false
  else if v.k=0 then decide (v.n=0)
  else if v.k=1 then cD v.n
  else if v.k=2 then lG v.n 0 1
  else if v.k=3 then decide (v.n=0)&&dR v.s
  else if v.k=4 then decide (0≤v.n)&&decide (v.n<recs)
  else if v.k=5 then lG v.n 0 (nf - 1)
  else false
theorem aBt {fs : List cZ} {T : PV} {v : cS} {recs : Int} (hf : fs.length≤1000000) (hs : v.s.size≤1000000) : Ok (fun r=>r = [.bool (bN fs.length recs v)]) (rV (.agg [T,.lst (fs.map cZ.pv)]) v.pv (.int .i64 recs)):=by
  rw [aFQ]
  refine aD rfl (aA rfl (aA rfl (aD rfl (aA rfl (aA rfl (aA rfl ?_))))))
  refine bC (aK (fun h3=>?_) (fun h3=>?_))
  · refine aML (aZ (fun h=>aB ?_) (fun h=>?_))
    · have h : kK v.s (bs [])=false:=by simpa using h
      unfold bN
      rw [if_pos ⟨h3,h⟩]
    have h : kK v.s (bs [])=true:=by simpa using h
    repeat' (first
      | refine aF (aC (fun heq=>?_) (fun heq=>?_))
      | refine dP (aC (fun hge=>?_) (fun hge=>?_))
      | exact aCa (aB (by unfold bN;rw [if_neg (by rw [h];simp)];repeat (first | rfl | rw [if_pos (by assumption)] | rw [if_neg (by assumption)])))
      | exact eB (aB (by unfold bN;rw [if_neg (by rw [h];simp)];repeat (first | rfl | rw [if_pos (by assumption)] | rw [if_neg (by assumption)])))
      | exact aG (bG (by omega) (eB (aB (by unfold bN;rw [if_neg (by rw [h];simp)];repeat (first | rfl | rw [if_pos (by assumption)] | rw [if_neg (by assumption)])))))
      | (exfalso;omega)
      | exact aF (aB (by unfold bN;rw [if_neg (by rw [h];simp)];repeat (first | rfl | rw [if_pos (by assumption)] | rw [if_neg (by assumption)])))
      | exact aJ (aB (by unfold bN;rw [if_neg (by rw [h];simp)];repeat (first | rfl | rw [decide_eq_true hge,Bool.true_and] | rw [if_pos (by assumption)] | rw [if_neg (by assumption)])))
      | exact aB (by unfold bN;rw [if_neg (by rw [h];simp)];repeat (first | rfl | rw [decide_eq_false hge,Bool.false_and] | rw [if_pos (by assumption)] | rw [if_neg (by assumption)])))
  · have hk : ¬ (v.k≠3∧kK v.s (bs [])=false):=fun h=>h.1 h3
    repeat' (first
      | refine aF (aC (fun heq=>?_) (fun heq=>?_))
      | (exfalso;omega)
      | exact aHm hs (aB (by unfold bN;rw [if_neg hk];repeat (first | rfl | rw [if_pos (by assumption)] | rw [if_neg (by omega)] | rw [decide_eq_true heq,Bool.true_and])))
      | exact aB (by unfold bN;rw [if_neg hk];repeat (first | rfl | rw [if_pos (by assumption)] | rw [if_neg (by omega)] | rw [decide_eq_false heq,Bool.false_and])))
def wH (o a b : Int) : Int:=if o=12 then a - b else if o=13 then a*b else a+b
def xM (o : Int) (a b : cS) : cS × Int:=
  if a.k≠1 then (cX,1) else if b.k≠1 then (cX,1) else if cD a.n=false then (cX,2) else if cD b.n=false then (cX,2)
  else if cD (wH o a.n b.n)=false then (cX,2) else (qY (wH o a.n b.n),0)
def aAE (a b : cS) : cS:=lC (decide (a.k=b.k)&&(decide (a.n=b.n)&&kK a.s b.s))
def nM (o : Int) (a b : cS) : cS × Int:=
  if o=11 then (if a.k=3∧b.k=3 then (if (60 : Int)<a.s.size+b.s.size then (cX,3) else (xD (a.s++b.s),0)) else xM 11 a b)
  else if o=12 then xM 12 a b
  else if o=13 then xM 13 a b
  else if o=14 then (if a.k=3∧b.k=3 then (lC (PV.bytesLt a.s.toList b.s.toList),0) else if a.k=1∧b.k=1 then (lC (decide (a.n<b.n)),0) else (cX,1))
  else (aAE a b,0)
def opR (p : cS × Int) : R:=[.tup [p.1.pv,.int .i64 p.2]]
theorem aL0 {a b : Int} (ha : cD a=true) (hb : cD b=true) : -1000000000000000000≤a*b∧a*b≤1000000000000000000:=by
  have ha:=bI.1 ha
  have hb:=bI.1 hb
  have h : (a*b).natAbs≤1000000000*1000000000:=by
    rw [Int.natAbs_mul]
    exact Nat.mul_le_mul (by omega) (by omega)
  omega
theorem aJJ {o a b : Int} (ho : o=11∨o=12∨o=13) : Ok (fun r=>r=(if cD a=false then [.tup [.int .i64 0,.int .i64 2]] else if cD b=false then [.tup [.int .i64 0,.int .i64 2]]
    else if cD (wH o a b)=false then [.tup [.int .i64 0,.int .i64 2]] else [.tup [.int .i64 (wH o a b),.int .i64 0]])) (uB (.int .i64 o) (.int .i64 a) (.int .i64 b)):=by
  rw [aCT]
  refine aCa (bE (aZ (fun h=>aB ?_) (fun h1=>?_)))
  · rw [if_pos (by simpa using h)]
  have h1 : cD a=true:=by simpa using h1
  rw [if_neg (by rw [h1];simp)]
  refine aCa (bE (aZ (fun h=>aB ?_) (fun h2=>?_)))
  · rw [if_pos (by simpa using h)]
  have h2 : cD b=true:=by simpa using h2
  rw [if_neg (by rw [h2];simp)]
  have ga:=bI.1 h1
  have gb:=bI.1 h2
  have gm:=aL0 h1 h2
  have fin : ∀ n : Int,n=wH o a b→Ok (fun r=>r=(if cD (wH o a b)=false then [.tup [.int .i64 0,.int .i64 2]] else [.tup [.int .i64 (wH o a b),.int .i64 0]]))
      (bd (gG (.int .i64 n)) fun r=>bd (PV.not (hd r)) fun v=>PV.ite v (some [.tup [.int .i64 0,.int .i64 2]]) (some [.tup [.int .i64 n,.int .i64 0]])):=by
    intro n hn
    subst hn
    refine aCa (bE (aZ (fun h=>aB ?_) (fun h=>aB ?_)))
    · rw [if_pos (by simpa using h)]
    · rw [if_neg (by simpa using h)]
  refine aR (by omega) (aF (aC (fun h=>bG (by omega) ?_) (fun h12=>aF (aC (fun h=>iJ (by omega) ?_) (fun h13=>?_)))))
  · exact fin _ (by unfold wH;rw [if_pos h])
  · exact fin _ (by unfold wH;rw [if_neg h12,if_pos h])
  · exact fin _ (by unfold wH;rw [if_neg h12,if_neg h13])
theorem wI {o : Int} {a b : cS} (ho : o=11∨o=12∨o=13) : Ok (fun r=>r=opR (xM o a b)) (hJ (.int .i64 o) a.pv b.pv):=by
  rw [aBl]
  refine aD rfl (aA rfl (aA rfl (aA rfl (aD rfl (aA rfl (aA rfl (aA rfl ?_)))))))
  refine bC (aK (fun h=>aB ?_) (fun h1=>bC (aK (fun h=>aB ?_) (fun h2=>?_))))
  · unfold xM;rw [if_pos h];rfl
  · unfold xM;rw [if_neg (by simpa using h1),if_pos h];rfl
  refine aH (aJJ ho) (fun r hr=>?_)
  have e : xM o a b=if cD a.n=false then (cX,2) else if cD b.n=false then (cX,2) else if cD (wH o a.n b.n)=false then (cX,2) else (qY (wH o a.n b.n),0):=by
    unfold xM;rw [if_neg (by simpa using h1),if_neg (by simpa using h2)]
  rw [e]
  have trap : ∀ {x : R},x = [.tup [.int .i64 0,.int .i64 2]]→r=x→Ok (fun r=>r=opR (cX,2)) (bd (PV.comp (hd r) 0) fun v2185=>bd (PV.comp (hd r) 1) fun v2186=>bd (PV.bin .neq v2186 (.int .i64 0)) fun v2187=>PV.ite v2187 (some [(.tup [(.agg [(.int .i64 0),(.int .i64 0),(.str (bs []))]),v2186])]) (bd (eQ v2185) fun r2188=>bd (PV.whole 3 (hd r2188)) fun v2189=>bd (PV.cell v2189 0) fun v2190=>bd (PV.cell v2189 1) fun v2191=>bd (PV.cell v2189 2) fun v2192=>some [(.tup [(.agg [v2190,v2191,v2192]),(.int .i64 0)])])):=by
    intro x hx hr
    subst hx;subst hr
    exact aS rfl (aS rfl (bC (aK (fun _=>aB rfl) (fun h=>by omega))))
  split at hr
  · rename_i h;rw [if_pos h];exact trap rfl hr
  rename_i h3
  rw [if_neg h3]
  split at hr
  · rename_i h;rw [if_pos h];exact trap rfl hr
  rename_i h4
  rw [if_neg h4]
  split at hr
  · rename_i h;rw [if_pos h];exact trap rfl hr
  rename_i h5
  rw [if_neg h5]
  subst hr
  refine aS rfl (aS rfl (bC (aK (fun h=>absurd rfl h) (fun _=>?_))))
  exact uX (aD rfl (aA rfl (aA rfl (aA rfl (aB rfl)))))
theorem nD {P : R→Prop} {k : R→Option R} {o : Option R} {p : cS × Int} (h : Ok (fun r=>r=opR p) o) (hk : Ok P (k [.tup [.agg [.int .i64 p.1.k,.int .i64 p.1.n,.str p.1.s],.int .i64 p.2]])) : Ok P (bd o k):=
  aH h (fun r hr=>by subst hr;exact hk)
set_option maxRecDepth 100000 in
theorem aCb {o : Int} {a b : cS} (ho : 11≤o∧o≤15) (hs : a.s.size≤1000000∧b.s.size≤1000000) : Ok (fun r=>r=opR (nM o a b)) (mZ (.int .i64 o) a.pv b.pv):=by
  have less3 : ¬ (a.k=3∧b.k=3)→Ok (fun r=>r=opR (if a.k=1∧b.k=1 then (lC (decide (a.n<b.n)),0) else (cX,1))) (nU (.int .i64 a.k) (.int .i64 a.n) (.str a.s) (.int .i64 b.k) (.int .i64 b.n) (.str b.s) (.int .i64 0) (.int .i64 0) (.str (bs []))):=by
    intro _
    rw [aB3]
    refine aF (aC (fun h1=>aF (aC (fun h2=>?_) (fun h2=>aB ?_))) (fun h1=>aB ?_))
    · rw [aB4,if_pos ⟨h1,h2⟩]
      exact aJ (nI (aD rfl (aA rfl (aA rfl (aA rfl (aB rfl))))))
    · rw [if_neg (fun h=>h2 h.2)];rfl
    · rw [if_neg (fun h=>h1 h.1)];rfl
  have less : Ok (fun r=>r=opR (nM 14 a b)) (yM a.pv b.pv):=by
    rw [aFb]
    refine aD rfl (aA rfl (aA rfl (aA rfl (aD rfl (aA rfl (aA rfl (aA rfl ?_)))))))
    have e : nM 14 a b=(if a.k=3∧b.k=3 then (lC (PV.bytesLt a.s.toList b.s.toList),0) else if a.k=1∧b.k=1 then (lC (decide (a.n<b.n)),0) else (cX,1)):=rfl
    rw [e]
    refine aF (aC (fun h1=>aF (aC (fun h2=>?_) (fun h2=>?_))) (fun h1=>?_))
    · rw [aB2,if_pos ⟨h1,h2⟩]
      exact aKo (nI (aD rfl (aA rfl (aA rfl (aA rfl (aB rfl))))))
    · rw [if_neg (fun h=>h2 h.2)];exact less3 (fun h=>h2 h.2)
    · rw [if_neg (fun h=>h1 h.1)];exact less3 (fun h=>h1 h.1)
  have add : Ok (fun r=>r=opR (nM 11 a b)) (aA1 a.pv b.pv):=by
    rw [aFW]
    refine aD rfl (aA rfl (aA rfl (aA rfl (aD rfl (aA rfl (aA rfl (aA rfl ?_)))))))
    have e : nM 11 a b=(if a.k=3∧b.k=3 then (if (60 : Int)<a.s.size+b.s.size then (cX,3) else (xD (a.s++b.s),0)) else xM 11 a b):=rfl
    rw [e]
    have hn:=wI (o:=11) (a:=a) (b:=b) (by omega)
    refine aF (aC (fun h1=>aF (aC (fun h2=>?_) (fun h2=>?_))) (fun h1=>?_))
    · rw [aCS,if_pos ⟨h1,h2⟩]
      refine dI (dI (bG (by omega) (cO (aC (fun h=>aB ?_) (fun h=>?_)))))
      · rw [if_pos (by omega)];rfl
      · rw [if_neg (by omega)]
        exact mX (by omega) (aW rfl (aB rfl))
    · rw [if_neg (fun h=>h2 h.2)]
      exact nD hn (aS rfl (aS rfl (aD rfl (aA rfl (aA rfl (aA rfl (aB rfl)))))))
    · rw [if_neg (fun h=>h1 h.1)]
      exact nD hn (aS rfl (aS rfl (aD rfl (aA rfl (aA rfl (aA rfl (aB rfl)))))))
  rw [aFU]
  refine aD rfl (aA rfl (aA rfl (aA rfl (aD rfl (aA rfl (aA rfl (aA rfl ?_)))))))
  refine aF (aC (fun h=>?_) (fun h11=>aF (aC (fun h=>?_) (fun h12=>aF (aC (fun h=>?_) (fun h13=>aF (aC (fun h=>?_) (fun h14=>?_))))))))
  · subst h
    exact nD add (aS rfl (aS rfl (aD rfl (aA rfl (aA rfl (aA rfl (aB rfl)))))))
  · subst h
    have : Ok (fun r=>r=opR (nM 12 a b)) (aA2 a.pv b.pv):=by
      rw [aFX]
      refine aD rfl (aA rfl (aA rfl (aA rfl (aD rfl (aA rfl (aA rfl (aA rfl ?_)))))))
      exact nD (wI (o:=12) (by omega)) (aS rfl (aS rfl (aD rfl (aA rfl (aA rfl (aA rfl (aB rfl)))))))
    exact nD this (aS rfl (aS rfl (aD rfl (aA rfl (aA rfl (aA rfl (aB rfl)))))))
  · subst h
    have : Ok (fun r=>r=opR (nM 13 a b)) (aA3 a.pv b.pv):=by
      rw [aFY]
      refine aD rfl (aA rfl (aA rfl (aA rfl (aD rfl (aA rfl (aA rfl (aA rfl ?_)))))))
      exact nD (wI (o:=13) (by omega)) (aS rfl (aS rfl (aD rfl (aA rfl (aA rfl (aA rfl (aB rfl)))))))
    exact nD this (aS rfl (aS rfl (aD rfl (aA rfl (aA rfl (aA rfl (aB rfl)))))))
  · subst h
    exact nD less (aS rfl (aS rfl (aD rfl (aA rfl (aA rfl (aA rfl (aB rfl)))))))
  · have h15 : o=15:=by omega
    subst h15
    have same : Ok (fun r=>r = [(aAE a b).pv]) (yP a.pv b.pv):=by
      rw [aFc]
      refine aD rfl (aA rfl (aA rfl (aA rfl (aD rfl (aA rfl (aA rfl (aA rfl ?_)))))))
      refine aF (aC (fun h1=>aF (aC (fun h2=>qZ ?_) (fun h2=>?_))) (fun h1=>?_))
      · refine nI (aD rfl (aA rfl (aA rfl (aA rfl (aB ?_)))))
        unfold aAE;rw [decide_eq_true h1,decide_eq_true h2];rfl
      · refine nI (aD rfl (aA rfl (aA rfl (aA rfl (aB ?_)))))
        unfold aAE;rw [decide_eq_true h1,decide_eq_false h2];rfl
      · refine nI (aD rfl (aA rfl (aA rfl (aA rfl (aB ?_)))))
        unfold aAE;rw [decide_eq_false h1];rfl
    refine aH same (fun r hr=>?_)
    subst hr
    exact aD rfl (aA rfl (aA rfl (aA rfl (aB rfl))))
def uY (v : cS) : cS × Int:=if v.k≠2 then (cX,1) else (lC (!decide (v.n=1)),0)
theorem aL1 {v : cS} : Ok (fun r=>r=opR (uY v)) (aA0 v.pv):=by
  rw [aFV]
  refine aD rfl (aA rfl (aA rfl (aA rfl ?_)))
  refine bC (aK (fun h=>aB ?_) (fun h=>?_))
  · unfold uY;rw [if_pos h];rfl
  · refine bC (nI (aD rfl (aA rfl (aA rfl (aA rfl (aB ?_))))))
    unfold uY;rw [if_neg (by simpa using h)];rfl
def dig (n : Int) : ByteArray:=⟨#[UInt8.ofNat (48+n).toNat]⟩
def wJ : Nat→Int→ByteArray
  | 0,n=>dig n
  | j+1,n=>if n<10 then dig n else wJ j (n / 10)++dig (n % 10)
def gW (n : Int) : ByteArray:=
  if n<0 then (if n < -9 then bs [45]++wJ 18 (-(n.tdiv 10))++wJ 18 (-(n.tmod 10)) else bs [45]++wJ 18 (-n)) else wJ 18 n
theorem aCc (n : Int) : (dig n).size=1:=rfl
theorem fR : ∀ (j : Nat) (n : Int),(wJ j n).size≤j+1
  | 0,n=>by simp [wJ,aCc]
  | j+1,n=>by
    unfold wJ
    split
    · rw [aCc];omega
    · rw [ByteArray.size_append,aCc]
      have:=fR j (n / 10)
      omega
theorem zS : ∀ (j : Nat) (n : Int),0≤n→n<10 ^ (j+1)→n≤9223372036854775807→j≤100→Ok (fun r=>r = [.str (wJ j n)]) (eA (.int .i64 n)):=by
  have one : ∀ {P : R→Prop} {k : PV→Option R} {n : Int},0≤n→n<10→Ok P (k (.str (dig n)))→Ok P (bd (PV.bin .add (.int .i64 48) (.int .i64 n)) fun v=>bd (PV.conv .u8 v) fun v=>bd (PV.cat 1 1 false (.lst []) (.lst [v])) fun v=>bd (PV.toStr v) k):=by
    intro P k n h1 h2 h
    refine aR (by omega) (aNI (by omega) ?_)
    refine jH (by simp) (fun x hx=>by simp only [List.mem_singleton] at hx;subst hx;rfl) ?_
    exact aLV (l:=[48+n]) h
  intro j
  induction j with
  | zero=>
    intro n h1 h2 _ _
    rw [nY]
    refine aJ (aC (fun h=>by omega) (fun _=>aJ (aC (fun h=>?_) (fun h=>by omega))))
    exact one h1 h (aB rfl)
  | succ j ih=>
    intro n h1 h2 hj hjj
    rw [nY]
    have hp2 : (10 : Int) ^ (j+1+1)=10 ^ (j+1)*10:=Int.pow_succ _ _
    refine aJ (aC (fun h=>by omega) (fun _=>aJ (aC (fun h=>?_) (fun h=>?_))))
    · refine one h1 h (aB ?_)
      unfold wJ;rw [if_pos h]
    · refine iU h1 (by omega) hj ?_
      refine aH (ih (n / 10) (by omega) (by omega) (by omega) (by omega)) (fun r hr=>?_)
      subst hr
      refine iK h1 (by omega) (one (by omega) (by omega) ?_)
      have:=fR j (n / 10)
      refine mX (by rw [aCc];omega) (aB ?_)
      show _ = [PV.str (wJ (j+1) n)]
      rw [show wJ (j+1) n=wJ j (n / 10)++dig (n % 10) by conv=>lhs;unfold wJ
                                                         rw [if_neg h]]
theorem aMM {P : R→Prop} {k : PV→Option R} {a b : Int} (hb : b≠0) (hr : I64 (a.tdiv b)) (h : Ok P (k (.int .i64 (a.tdiv b)))) : Ok P (bd (PV.bin .quo (.int .i64 a) (.int .i64 b)) k):=
  cQ _ (by rw [iO (by simp) (by simp)];simp only [PV.intBin];rw [if_neg hb,i64_in _ hr]) h
theorem aMN {P : R→Prop} {k : PV→Option R} {a b : Int} (hb : b≠0) (h : Ok P (k (.int .i64 (a.tmod b)))) : Ok P (bd (PV.bin .rem (.int .i64 a) (.int .i64 b)) k):=
  cQ _ (by rw [iO (by simp) (by simp)];simp only [PV.intBin];rw [if_neg hb]) h
theorem aIC {n : Int} (h : n<0) : n.tdiv 10 = -((-n) / 10)∧n.tmod 10 = -((-n) % 10):=by
  have e : n = -(-n):=by omega
  constructor
  · rw [e,Int.neg_tdiv,Int.tdiv_eq_ediv_of_nonneg (by omega)]
    simp
  · rw [e,Int.neg_tmod,Int.tmod_eq_emod_of_nonneg (by omega)]
    simp
theorem rA (n : Int) : (gW n).size≤40:=by
  have h45 : (bs [45]).size=1:=rfl
  unfold gW
  split
  · split
    · rw [ByteArray.size_append,ByteArray.size_append,h45]
      have h1:=fR 18 (-(n.tdiv 10))
      have h2:=fR 18 (-(n.tmod 10))
      omega
    · rw [ByteArray.size_append,h45]
      have h1:=fR 18 (-n)
      omega
  · have h1:=fR 18 n
    omega
theorem yW {n : Int} (hn : -9223372036854775807≤n∧n≤9223372036854775807) : Ok (fun r=>r = [.str (gW n)]) (eA (.int .i64 n)):=by
  have big : ∀ {x : Int},x≤9223372036854775807→x<10 ^ (18+1):=fun h=>by
    have : (10 : Int) ^ (18+1)=10000000000000000000:=by decide
    omega
  have h45 : (bs [45]).size=1:=rfl
  by_cases h : n<0
  · obtain ⟨e1,e2⟩:=aIC h
    rw [nY]
    refine aJ (aC (fun _=>?_) (fun h'=>absurd h h'))
    refine aJ (aC (fun h9=>?_) (fun h9=>?_))
    · refine aMM (by omega) (by unfold I64;omega) (gY (by omega) ?_)
      have z1 : 0 - n.tdiv 10 = -(n.tdiv 10):=by omega
      have z2 : 0 - n.tmod 10 = -(n.tmod 10):=by omega
      rw [z1]
      have s1:=fR 18 (-(n.tdiv 10))
      have s2:=fR 18 (-(n.tmod 10))
      refine aH (zS 18 (-(n.tdiv 10)) (by omega) (big (by omega)) (by omega) (by omega)) (fun r hr=>?_)
      subst hr
      refine mX (by omega) (aMN (by omega) (gY (by omega) ?_))
      rw [z2]
      refine aH (zS 18 (-(n.tmod 10)) (by omega) (big (by omega)) (by omega) (by omega)) (fun r hr=>?_)
      subst hr
      refine mX (by rw [ByteArray.size_append];omega) (aB ?_)
      unfold gW
      rw [if_pos h,if_pos h9]
    · refine gY (by omega) ?_
      have z1 : 0 - n = -n:=by omega
      rw [z1]
      have s1:=fR 18 (-n)
      refine aH (zS 18 (-n) (by omega) (big (by omega)) (by omega) (by omega)) (fun r hr=>?_)
      subst hr
      refine mX (by omega) (aB ?_)
      unfold gW
      rw [if_pos h,if_neg h9]
  · refine (zS 18 n (by omega) (big hn.2) hn.2 (by omega)).mono ?_
    rintro r rfl
    unfold gW
    rw [if_neg h]
open Go
def gX (fs : List cZ) (x : bY) (h : Int) : Int:=h - (bA fs x).1+(bA fs x).2
def can (fs : List cZ) (x : bY) (h : Int) : Bool:=decide ((bA fs x).1≤h)&&decide (gX fs x h≤16)
abbrev Hs:=List Int × Bool
def rB (l : Int) (s : Hs) (t : Int) : Hs:=if t<s.1.length∧s.1[t.toNat]?.getD 0<0 then (s.1.set t.toNat l,true) else s
def xN (fs : List cZ) (code : List bY) (s : Hs) (pc : Nat) : Hs:=
  match code[pc]? with
  | some x=>if can fs x (s.1[pc]?.getD 0) then (fQ x pc).foldl (rB (gX fs x (s.1[pc]?.getD 0))) s else s
  | none=>s
def pX (fs : List cZ) (code : List bY) (s : List Int) : Hs:=(List.range' 0 code.length).foldl (xN fs code) (s,false)
def aCe (fs : List cZ) (code : List bY) : Nat→List Int→List Int
  | 0,s=>s
  | n+1,s=>if (pX fs code s).2 then aCe fs code n (pX fs code s).1 else (pX fs code s).1
def aHs (n : Nat) : List Int:=(List.replicate n (-1)).set 0 0
def gZ (fs : List cZ) (code : List bY) : List Int:=aCe fs code (code.length+1) (aHs code.length)
structure Fit (fs : List cZ) (code : List bY) : Prop where
  n1 : 1≤code.length
  n2 : code.length≤120
  nf : fs.length≤12
  u : ∀ x∈code,0≤(bA fs x).1∧(bA fs x).1≤7∧0≤(bA fs x).2∧(bA fs x).2≤2
  j : ∀ x∈code,(x.o=17∨x.o=18∨x.o=19)→0≤x.a∧x.a<code.length
def xO (n : Nat) (s : List Int) : Prop:=s.length=n∧∀ v∈s,-1≤v∧v≤16
theorem xO.at {n : Nat} {s : List Int} (h : xO n s) (i : Nat) : -1≤s[i]?.getD 0∧s[i]?.getD 0≤16:=by
  cases hx : s[i]? with
  | none=>simp
  | some v=>exact h.2 v (List.mem_of_getElem? hx)
theorem xO.put {n : Nat} {s : Hs} (h : xO n s.1) {l : Int} (hl : -1≤l∧l≤16) (t : Int) : xO n (rB l s t).1:=by
  unfold rB
  split
  · refine ⟨by simp only [List.length_set];exact h.1,fun v hv=>?_⟩
    rcases List.mem_or_eq_of_mem_set hv with h1 | h1
    · exact h.2 v h1
    · omega
  · exact h
theorem xO.puts {n : Nat} {l : Int} (hl : -1≤l∧l≤16) : ∀ (ts : List Int) (s : Hs),xO n s.1→xO n (ts.foldl (rB l) s).1
  | [],_,h=>h
  | t::r,s,h=>xO.puts hl r _ (h.put hl t)
theorem aID {fs : List cZ} {x : bY} {h : Int} (hu : 0≤(bA fs x).1∧(bA fs x).1≤7∧0≤(bA fs x).2∧(bA fs x).2≤2) (hc : can fs x h=true) : 0≤gX fs x h∧gX fs x h≤16:=by
  simp only [can,Bool.and_eq_true,decide_eq_true_eq] at hc
  unfold gX at *
  omega
theorem xO.one {fs : List cZ} {code : List bY} (F : Fit fs code) {n : Nat} {s : Hs} (h : xO n s.1) (pc : Nat) : xO n (xN fs code s pc).1:=by
  unfold xN
  split
  · rename_i x hx
    split
    · rename_i hc
      have:=aID (F.u x (List.mem_of_getElem? hx)) hc
      exact xO.puts (by omega) _ _ h
    · exact h
  · exact h
theorem xO.ones {fs : List cZ} {code : List bY} (F : Fit fs code) {n : Nat} : ∀ (l : List Nat) (s : Hs),xO n s.1→xO n (l.foldl (xN fs code) s).1
  | [],_,h=>h
  | t::r,s,h=>xO.ones F r _ (h.one F t)
theorem xO.pass {fs : List cZ} {code : List bY} (F : Fit fs code) {n : Nat} {s : List Int} (h : xO n s) : xO n (pX fs code s).1:=xO.ones F _ _ h
theorem xO.start {n : Nat} : xO n (aHs n):=by
  refine ⟨by simp [aHs],fun v hv=>?_⟩
  rcases List.mem_or_eq_of_mem_set hv with h1 | h1
  · have:=List.eq_of_mem_replicate h1;omega
  · omega
def nn (s : List Int) : Nat:=s.countP (· < 0)
def Dec (s s' : Hs) : Prop:=s'=s∨(s'.2=true∧nn s'.1<nn s.1)
theorem Dec.trans {a b c : Hs} (h : Dec a b) (k : Dec b c) : Dec a c:=by
  rcases h with rfl | h
  · exact k
  · rcases k with rfl | k
    · exact .inr h
    · exact .inr ⟨k.1,by omega⟩
theorem aL2 : ∀ (s : List Int) (i : Nat) (l : Int),0≤l→s[i]?.getD 0<0→nn (s.set i l)<nn s
  | [],i,l,_,h=>by simp at h
  | x::r,0,l,hl,h=>by
    simp only [List.getElem?_cons_zero,Option.getD_some] at h
    simp only [nn,List.set_cons_zero,List.countP_cons]
    rw [if_neg (by simp;omega),if_pos (by simpa using h)]
    omega
  | x::r,i+1,l,hl,h=>by
    simp only [List.getElem?_cons_succ] at h
    have:=aL2 r i l hl h
    simp only [nn,List.set_cons_succ,List.countP_cons] at *
    omega
theorem Dec.put {l : Int} (hl : 0≤l) (s : Hs) (t : Int) : Dec s (rB l s t):=by
  unfold rB
  split
  · rename_i h
    exact .inr ⟨rfl,aL2 _ _ _ hl h.2⟩
  · exact .inl rfl
theorem Dec.puts {l : Int} (hl : 0≤l) : ∀ (ts : List Int) (s : Hs),Dec s (ts.foldl (rB l) s)
  | [],_=>.inl rfl
  | t::r,s=>(Dec.put hl s t).trans (Dec.puts hl r _)
theorem Dec.one {fs : List cZ} {code : List bY} (F : Fit fs code) (s : Hs) (pc : Nat) : Dec s (xN fs code s pc):=by
  unfold xN
  split
  · rename_i x hx
    split
    · rename_i hc
      exact Dec.puts (aID (F.u x (List.mem_of_getElem? hx)) hc).1 _ _
    · exact .inl rfl
  · exact .inl rfl
theorem Dec.ones {fs : List cZ} {code : List bY} (F : Fit fs code) : ∀ (l : List Nat) (s : Hs),Dec s (l.foldl (xN fs code) s)
  | [],_=>.inl rfl
  | t::r,s=>(Dec.one F s t).trans (Dec.ones F r _)
theorem Dec.pass {fs : List cZ} {code : List bY} (F : Fit fs code) (s : List Int) : Dec (s,false) (pX fs code s):=Dec.ones F _ _
theorem aL3 {l : Int} {s : Hs} {t : Int} (h : s.1[0]? = some 0) : (rB l s t).1[0]? = some 0:=by
  unfold rB
  split
  · rename_i hc
    rw [List.getElem?_set]
    split
    · rename_i h0
      rw [h0] at hc
      rw [h] at hc
      simp at hc
    · exact h
  · exact h
theorem aGB {l : Int} : ∀ (ts : List Int) (s : Hs),s.1[0]? = some 0→(ts.foldl (rB l) s).1[0]? = some 0
  | [],_,h=>h
  | t::r,s,h=>aGB r _ (aL3 h)
theorem aL4 {fs : List cZ} {code : List bY} {s : Hs} (pc : Nat) (h : s.1[0]? = some 0) : (xN fs code s pc).1[0]? = some 0:=by
  unfold xN
  split
  · split
    · exact aGB _ _ h
    · exact h
  · exact h
theorem aC0 {fs : List cZ} {code : List bY} : ∀ (l : List Nat) (s : Hs),s.1[0]? = some 0→(l.foldl (xN fs code) s).1[0]? = some 0
  | [],_,h=>h
  | t::r,s,h=>aC0 r _ (aL4 t h)
theorem aIE {fs : List cZ} {code : List bY} : ∀ (n : Nat) (s : List Int),s[0]? = some 0→(aCe fs code n s)[0]? = some 0
  | 0,_,h=>h
  | n+1,s,h=>by
    unfold aCe
    split
    · exact aIE n _ (aC0 _ _ h)
    · exact aC0 _ _ h
theorem aKp {fs : List cZ} {code : List bY} (F : Fit fs code) {m : Nat} : ∀ (n : Nat) (s : List Int),xO m s→xO m (aCe fs code n s)
  | 0,_,h=>h
  | n+1,s,h=>by
    unfold aCe
    split
    · exact aKp F n _ (h.pass F)
    · exact h.pass F
theorem sL {fs : List cZ} {code : List bY} (F : Fit fs code) : xO code.length (gZ fs code):=aKp F _ _ xO.start
theorem aIF {fs : List cZ} {code : List bY} (F : Fit fs code) : (gZ fs code)[0]? = some 0:=by
  refine aIE _ _ ?_
  have:=F.n1
  rw [aHs,List.getElem?_set_self (by rw [List.length_replicate];omega)]
theorem aD9 {s : List Int} {i : Nat} (h : i<s.length) : s[i]=s[i]?.getD 0:=by rw [List.getElem?_eq_getElem h];rfl
theorem yX {fs : List cZ} {code : List bY} (F : Fit fs code) {x : bY} (hx : x∈code) {pc : Nat} (hp : pc<code.length) : ∀ t∈fQ x pc,0≤t∧t≤code.length:=by
  intro t ht
  unfold fQ at ht
  rcases List.mem_append.1 ht with h | h
  · split at h
    · simp only [List.mem_singleton] at h;omega
    · cases h
  · split at h
    · rename_i hj
      simp only [List.mem_singleton] at h
      have:=F.j x hx hj
      omega
    · cases h
theorem aKq {l : Int} {s : Hs} {t : Int} (h1 : t<s.1.length) (h2 : s.1[t.toNat]?.getD 0<0) : rB l s t=(s.1.set t.toNat l,true):=if_pos ⟨h1,h2⟩
theorem aHt {l : Int} {s : Hs} {t : Int} (h : ¬ (t<s.1.length∧s.1[t.toNat]?.getD 0<0)) : rB l s t=s:=if_neg h
section
variable {fs : List cZ} {code : List bY} {T : PV} (F : Fit fs code)
include F
theorem aLa {P : R→Prop} {pc : Nat} (hpc : pc<code.length) {left : Int} {ts : List Int} (hts : ∀ t∈ts,0≤t∧t≤code.length) (hn : ts.length≤10) {s : Hs} (hs : s.1.length=code.length)
    (h : Ok P (dJ (.lst (code.map bY.pv)) (.bool (ts.foldl (rB left) s).2) (.int .i64 ((pc : Int)+1)) T (.lst (fs.map cZ.pv)) (dF (ts.foldl (rB left) s).1))) :
    Ok P (eE (.lst (code.map bY.pv)) (.bool s.2) (.int .i64 pc) (.int .i64 left) (dF ts) (.int .i64 0) T (.lst (fs.map cZ.pv)) (dF s.1)):=by
  have hn2:=F.n2
  refine aFj (n:=ts.length) (F:=fun i (q : Hs)=>eE (.lst (code.map bY.pv)) (.bool q.2) (.int .i64 pc) (.int .i64 left) (dF ts) (.int .i64 i) T (.lst (fs.map cZ.pv)) (dF q.1))
    (fun i q=>q.1.length=code.length∧(ts.drop i).foldl (rB left) q=ts.foldl (rB left) s) ?_ ?_ 0 s (by omega) ⟨hs,by rw [List.drop_zero]⟩
  · rintro q ⟨hq,he⟩
    rw [List.drop_length] at he
    have he : q=ts.foldl (rB left) s:=he
    subst he
    rw [oG]
    exact dW (aJ (aC (fun h=>by omega) (fun _=>aR (by omega) h)))
  · rintro i q hi ⟨hq,he⟩ ih
    have ht:=hts ts[i] (List.getElem_mem _)
    rw [List.drop_eq_getElem_cons hi,List.foldl_cons] at he
    have ih:=fun s'=>ih s'
    rw [oG]
    refine dW (aJ (aC (fun _=>?_) (fun h=>by omega)))
    refine dK hi (aG (aJ (aC (fun h1=>?_) (fun h1=>?_))))
    · refine dK hi (gH (by omega) (by omega) (pW (by omega) (by omega) (fun v hv=>?_)))
      refine aJ (aC (fun h2=>?_) (fun h2=>?_))
      · rw [xF]
        refine dK hi (gH (by omega) (by omega) ?_)
        obtain ⟨t,et⟩:=Int.eq_ofNat_of_zero_le ht.1
        rw [et]
        refine tQ (by omega) (aR (by omega) ?_)
        refine ih (q.1.set t left,true) ⟨by simpa using hq,?_⟩
        rw [aKq (by omega) (by rw [hv];exact h2),et] at he
        exact he
      · refine aR (by omega) (ih q ⟨hq,?_⟩)
        rw [aHt (by rw [hv];simp only [Option.getD_some];omega)] at he
        exact he
    · refine aR (by omega) (ih q ⟨hq,?_⟩)
      rw [aHt (by omega)] at he
      exact he
theorem aFl {P : R→Prop} {s : List Int} (hs : xO code.length s)
    (h : Ok P (iA (.lst (code.map bY.pv)) (.bool (pX fs code s).2) T (.lst (fs.map cZ.pv)) (dF (pX fs code s).1))) :
    Ok P (dJ (.lst (code.map bY.pv)) (.bool false) (.int .i64 0) T (.lst (fs.map cZ.pv)) (dF s)):=by
  have hn2:=F.n2
  have hnf:=F.nf
  refine aFj (n:=code.length) (F:=fun i (q : Hs)=>dJ (.lst (code.map bY.pv)) (.bool q.2) (.int .i64 i) T (.lst (fs.map cZ.pv)) (dF q.1))
    (fun i q=>xO code.length q.1∧(List.range' i (code.length - i)).foldl (xN fs code) q=pX fs code s) ?_ ?_ 0 (s,false) (by omega) ⟨hs,rfl⟩
  · rintro q ⟨hq,he⟩
    rw [Nat.sub_self] at he
    have he : q=pX fs code s:=he
    subst he
    rw [oF]
    exact aG (aJ (aC (fun h=>by omega) (fun _=>h)))
  · rintro i q hi ⟨hq,he⟩ ih
    have e1 : code.length - i=(code.length - (i+1))+1:=by omega
    rw [e1,List.range'_succ,List.foldl_cons] at he
    have hx : code[i]? = some code[i]:=List.getElem?_eq_getElem hi
    have hu:=F.u code[i] (List.getElem_mem _)
    have hil : i<q.1.length:=by rw [hq.1];exact hi
    have hv:=hq.at i
    have e2 : q.1[i]=q.1[i]?.getD 0:=aD9 hil
    have hone:=hq.one F i
    have hgo:=ih (xN fs code q i) ⟨hone,he⟩
    have eo : xN fs code q i=if can fs code[i] (q.1[i]?.getD 0) then (fQ code[i] i).foldl (rB (gX fs code[i] (q.1[i]?.getD 0))) q else q:=by
      conv=>lhs;unfold xN
      rw [hx]
    generalize hw : q.1[i]?.getD 0=w at *
    rw [oF]
    refine aG (aJ (aC (fun _=>?_) (fun h=>by omega)))
    refine aU hi (fun _=>rfl) (aH (aGx (T:=T) (by omega)) (fun r hr=>?_))
    subst hr
    refine aS rfl (aS rfl ?_)
    refine gH (by omega) (by omega) (dK hil (bG (by omega) (aR (by omega) (gH (by omega) (by omega) (dK hil ?_)))))
    rw [e2]
    refine aJ (aC (fun h1=>?_) (fun h1=>?_))
    · have hc : can fs code[i] w=false:=by simp only [can];rw [decide_eq_false (by omega)];rfl
      rw [hc,if_neg (by simp)] at eo
      rw [eo] at hgo
      exact aR (by omega) hgo
    refine cO (aC (fun h2=>?_) (fun h2=>?_))
    · have hc : can fs code[i] w=false:=by simp only [can];rw [decide_eq_false (p:=gX fs code[i] w≤16) (by unfold gX;omega),Bool.and_false]
      rw [hc,if_neg (by simp)] at eo
      rw [eo] at hgo
      exact aR (by omega) hgo
    · have hc : can fs code[i] w=true:=by simp only [can];rw [decide_eq_true (by omega),decide_eq_true (p:=gX fs code[i] w≤16) (by unfold gX;omega)];rfl
      rw [hc,if_pos rfl] at eo
      rw [eo] at hgo
      refine aU hi (fun _=>rfl) (aH (aGz (by omega)) (fun r hr=>?_))
      subst hr
      exact aLa F hi (yX F (List.getElem_mem _) hi) (by unfold fQ;repeat' split<;>simp) hq.1 hgo
theorem aLb : ∀ (j : Nat) (s : List Int),nn s≤j→xO code.length s→Ok (fun r=>r = [dF (aCe fs code (j+1) s)]) (iA (.lst (code.map bY.pv)) (.bool true) T (.lst (fs.map cZ.pv)) (dF s)):=by
  intro j
  induction j with
  | zero=>
    intro s hs hg
    rw [iF]
    refine bB (aFl F hg ?_)
    rcases Dec.pass F s with h | ⟨h,h2⟩
    · unfold aCe
      rw [h,iF]
      exact aQ (aB rfl)
    · have h3 : nn (pX fs code s).1<nn s:=h2
      omega
  | succ j ih=>
    intro s hs hg
    rw [iF]
    refine bB (aFl F hg ?_)
    rcases Dec.pass F s with h | ⟨h,h2⟩
    · unfold aCe
      rw [h,iF]
      exact aQ (aB rfl)
    · rw [aCe,h,if_pos rfl]
      exact ih _ (by have h3 : nn (pX fs code s).1<nn s:=h2;omega) (hg.pass F)
end
section
variable {fs : List cZ} {code : List bY} {T : PV} (F : Fit fs code)
include F
theorem aDy {f : Nat} (hf : f<fs.length) (hc : fs[f].code=code) : Ok (fun r=>r = [dF (gZ fs code)]) (kV (.agg [T,.lst (fs.map cZ.pv)]) (.int .i64 f)):=by
  have hn2:=F.n2
  have hn1:=F.n1
  rw [aBY]
  refine aD rfl (aA rfl (aA rfl (aU hf (fun _=>rfl) (aA (y:=.lst (code.map bY.pv)) (by rw [← hc];rfl) ?_))))
  have key:=dS (n:=code.length) (P:=fun _ r=>r = [dF (gZ fs code)])
    (F:=fun i=>kE (.lst (code.map bY.pv)) (.int .i64 i) T (.lst (fs.map cZ.pv)) (dF (List.replicate i (-1)))) ?_ ?_ 0 (by omega)
  · exact key
  · rw [pO]
    refine aG (aJ (aC (fun h=>by omega) (fun _=>?_)))
    refine gH (by omega) (by rw [List.length_replicate];omega) (tQ (i:=0) (by rw [List.length_replicate];omega) ?_)
    exact aLb F code.length _ (by have:=(xO.start (n:=code.length)).1;unfold nn;exact Nat.le_trans List.countP_le_length (by omega)) xO.start
  · intro i hi ih
    rw [pO]
    refine aG (aJ (aC (fun h=>?_) (fun h=>by omega)))
    refine pV (ys:=[-1]) (by rw [List.length_replicate];simp only [List.length_cons,List.length_nil];omega) (aR (by omega) ?_)
    rw [← List.replicate_succ']
    exact ih
end
section
variable {P : R → Prop} {k : PV → Option R}
theorem zT {m n : Nat} {kk : IntKind} (h : n≤m) : PV.bound m (.int kk (n : Int))=some n:=by
  simp only [PV.bound]
  rw [if_pos (by omega),Int.toNat_natCast]
theorem aIG {xs ys : List PV} {lo hi : Nat} {k1 k2 : IntKind} (h1 : lo≤hi) (h2 : hi≤xs.length) (h3 : xs.length≤1000000000) (h : Ok P (k (.int .i64 (min (hi - lo) ys.length : Nat)))) :
    Ok P (bd (PV.ncopy (.lst xs) (.int k1 (lo : Int)) (.int k2 (hi : Int)) (.lst ys)) k):=
  cQ _ (by
    simp only [PV.ncopy]
    rw [zT (by omega),zT (by omega)]
    simp only [PV.elems]
    rw [if_pos ⟨h1,h2⟩]) h
theorem aGC {s : Nat} {g : Bool} {xs ys : List PV} {lo hi : Nat} {k1 k2 : IntKind} (h1 : lo≤hi) (h2 : hi≤xs.length) (h3 : xs.length≤1000000000) (he : ∀ y∈ys,y.isEl s g=true)
    (h : Ok P (k (.lst (xs.take lo++ys.take (hi - lo)++xs.drop (lo+min (hi - lo) ys.length))))) :
    Ok P (bd (PV.copyIn s g (.lst xs) (.int k1 (lo : Int)) (.int k2 (hi : Int)) (.lst ys)) k):=
  cQ _ (by
    simp only [PV.copyIn]
    rw [zT (by omega),zT (by omega)]
    simp only [PV.elems]
    rw [if_pos ⟨h1,h2,List.all_eq_true.2 he⟩]) h
theorem aIH {e n : Nat} {z : PV} {kk : IntKind} (h1 : n*e≤140737488355328) (h2 : n≤1000000000) (h : Ok P (k (.lst (List.replicate n z)))) : Ok P (bd (PV.zeros e z (.int kk (n : Int))) k):=
  cQ _ (by
    simp only [PV.zeros]
    rw [if_pos ⟨by omega,by rw [Int.toNat_natCast];exact h1,by omega⟩,Int.toNat_natCast]) h
theorem aCf {l : List Int} : ∀ x∈l.map (PV.int .i64),x.isEl 1 false=true:=by
  intro x hx
  obtain ⟨a,_,rfl⟩:=List.mem_map.1 hx
  rfl
end
theorem aII {n : Nat} (hn : n≤1000) : ∀ (j a : Nat),n - a≤j→1≤a→a≤n→
    Ok (fun r=>r = [dF (List.replicate n (-1))]) (fF (.int .i64 a) (dF (List.replicate a (-1)++List.replicate (n - a) 0))):=by
  intro j
  induction j with
  | zero=>
    intro a h1 h2 h3
    have : a=n:=by omega
    subst this
    rw [kJ]
    refine dW (aJ (aC (fun h=>?_) (fun _=>aB ?_)))
    · simp at h
    · simp
  | succ j ih=>
    intro a h1 h2 h3
    rw [kJ]
    have hl : (List.replicate a (-1 : Int)++List.replicate (n - a) 0).length=n:=by simp;omega
    have hlm : ((List.replicate a (-1 : Int)++List.replicate (n - a) 0).map (PV.int .i64)).length=n:=by rw [List.length_map,hl]
    have ht : (List.replicate a (-1 : Int)++List.replicate (n - a) 0).take a=List.replicate a (-1):=by
      rw [List.take_left' (by simp)]
    refine dW (aJ (aC (fun h=>?_) (fun h=>aB ?_)))
    · rw [hl] at h
      refine dW ?_
      rw [hl]
      refine vP (by omega) (by omega) (by omega) aCf ?_
      refine vP (by omega) (by omega) (by omega) aCf ?_
      refine vP (by omega) (by omega) (by omega) aCf ?_
      simp only [Int.toNat_natCast,Int.toNat_zero,List.drop_zero,← List.map_take]
      rw [ht]
      refine aIG (by omega) (by omega) (by omega) (aGC (by omega) (by omega) (by omega) aCf ?_)
      rw [← List.map_take,ht,← List.map_take,← List.map_drop,← List.map_append,← List.map_append,List.length_map,List.length_replicate]
      have e : List.replicate a (-1 : Int)++(List.replicate a (-1)).take (n - a)++(List.replicate a (-1)++List.replicate (n - a) 0).drop (a+min (n - a) a)=List.replicate (a+min (n - a) a) (-1)++List.replicate (n - (a+min (n - a) a)) 0:=by
        rw [List.take_replicate,List.replicate_append_replicate,List.drop_append,List.length_replicate,List.drop_eq_nil_of_le (by simp),List.nil_append,List.drop_replicate]
        congr 2
        omega
      rw [e]
      exact aR (by omega) (ih (a+min (n - a) a) (by omega) (by omega) (by omega))
    · have : a=n:=by rw [hl] at h;omega
      subst this
      simp
theorem aHu {P : R→Prop} {k : PV→Option R} {a : Int} (h1 : 0≤a∧a≤1000000) (h : Ok P (k (.int .u64 a))) : Ok P (bd (PV.bin .and (.int .u64 a) (.int .u64 4294967295)) k):=
  cQ _ (by
    obtain ⟨n,rfl⟩:=Int.eq_ofNat_of_zero_le h1.1
    rw [iO (by simp) (by simp)]
    simp only [PV.intBin]
    have hb : IntKind.u64.bits=64:=rfl
    have e : (BitVec.ofInt 64 (n : Int)&&& BitVec.ofInt 64 4294967295).toNat=n:=by
      rw [BitVec.toNat_and,BitVec.ofInt_natCast,BitVec.toNat_ofNat]
      have : (BitVec.ofInt 64 4294967295).toNat=2 ^ 32 - 1:=by decide
      rw [this,Nat.and_two_pow_sub_one_eq_mod,Nat.mod_eq_of_lt (by omega),Nat.mod_eq_of_lt (by omega)]
    rw [hb,e,u64_in _ (by omega)]) h
theorem yY {P : R→Prop} {k : PV→Option R} {a : Int} (h1 : 0≤a∧a≤1000000) (h : Ok P (k (.int .u64 0))) : Ok P (bd (PV.bin .shr (.int .u64 a) (.int .u64 32)) k):=
  cQ _ (by
    simp only [PV.bin]
    rw [if_neg (by omega)]
    have : a.fdiv (2 ^ min (Int.toNat 32) IntKind.u64.bits)=0:=by
      have e : (2 : Int) ^ min (Int.toNat 32) IntKind.u64.bits=4294967296:=by decide
      rw [e,Int.fdiv_eq_ediv_of_nonneg _ (by omega)]
      omega
    rw [this]) h
theorem yZ {P : R→Prop} {k : PV→Option R} {a b : Int} (h1 : 0≤a*b∧a*b≤1000000) (h : Ok P (k (.int .u64 (a*b)))) : Ok P (bd (PV.bin .mul (.int .u64 a) (.int .u64 b)) k):=
  cQ _ (by rw [iO (by simp) (by simp)];simp only [PV.intBin];rw [u64_in _ (by omega)]) h
theorem aCg {P : R→Prop} {k : PV→Option R} {a b : Int} (h1 : 0≤a+b∧a+b≤1000000) (h : Ok P (k (.int .u64 (a+b)))) : Ok P (bd (PV.bin .add (.int .u64 a) (.int .u64 b)) k):=
  cQ _ (by rw [iO (by simp) (by simp)];simp only [PV.intBin];rw [u64_in _ (by omega)]) h
theorem aL5 {P : R→Prop} {k : PV→Option R} {a : Int} {kk : IntKind} (h1 : 0≤a∧a≤1000000) (h : Ok P (k (.int .u64 a))) : Ok P (bd (PV.conv .u64 (.int kk a)) k):=cQ _ (by simp only [PV.conv];rw [u64_in _ (by omega)]) h
theorem aLc {n : Nat} (h1 : 1≤n) (hn : n≤1000) : Ok (fun r=>r = [dF (List.replicate n (-1))]) (jY (.lst [.int .i64 (-1)]) (.int .i64 n)):=by
  rw [uE]
  refine aJ (aC (fun h=>by omega) (fun _=>?_))
  rw [qW]
  refine cJ (aL5 (by simp) (aL5 (by omega) ?_))
  refine aH (Q:=fun r=>r = [.tup [.int .u64 0,.int .u64 n]]) ?_ (fun r hr=>?_)
  · rw [aCU,aBm]
    simp only [List.length_cons,List.length_nil]
    refine aH (Q:=fun r=>r = [.tup [.int .u64 0,.int .u64 n]]) ?_ (fun r hr=>?_)
    · refine aHu (by omega) (yY (by omega) (aHu (by omega) (yY (by omega) ?_)))
      refine yZ (by omega) (yZ (by omega) (yY (by omega) (aCg (by omega) ?_)))
      refine aHu (by omega) (yY (by omega) (yZ (by omega) (aCg (by omega) ?_)))
      refine yZ (by omega) (aCg (by omega) (yY (by omega) (aCg (by omega) (yZ (by omega) (aB ?_)))))
      simp
    · subst hr
      exact aS rfl (aS rfl (aB rfl))
  subst hr
  refine aS rfl (aS rfl (cO (aC (fun h=>by omega) (fun _=>cO (aC (fun h=>by omega) (fun _=>?_))))))
  rw [qX]
  refine iL (by omega) (aIH (by omega) (by omega) (dZ (aC (fun _=>?_) (fun h=>by omega))))
  refine aIH (by omega) (by omega) (cJ ?_)
  rw [List.length_replicate]
  refine aIG (lo:=0) (by omega) (by simp) (by simp;omega) (aGC (lo:=0) (by omega) (by simp) (by simp;omega) (aCf (l:=[-1])) ?_)
  have:=aII hn n 1 (by omega) (by omega) h1
  have e : (min (n - 0) [PV.int .i64 (-1)].length : Nat)=1:=by simp;omega
  rw [e]
  have e2 : (List.replicate n (PV.int .i64 0)).take 0++[PV.int .i64 (-1)].take (n - 0)++(List.replicate n (PV.int .i64 0)).drop (0+1)=(List.replicate 1 (-1 : Int)++List.replicate (n - 1) 0).map (PV.int .i64):=by
    rw [List.take_zero,List.nil_append,List.take_of_length_le (by simp;omega),List.drop_replicate]
    simp
  rw [e2]
  exact this
section
variable {fs : List cZ} {code : List bY} {T : PV} (F : Fit fs code)
include F
theorem aGD {x : bY} (hx : x∈code) {h : Int} (hh : -1≤h∧h≤16) : Ok (fun r=>r = [.tup [.int .i64 (gX fs x h),.bool (can fs x h)]]) (tD (.agg [T,.lst (fs.map cZ.pv)]) x.pv (.int .i64 h)):=by
  have hu:=F.u x hx
  have hnf:=F.nf
  rw [aE1]
  refine aD rfl (aA rfl (aA rfl (aD rfl (aA rfl (aA rfl ?_)))))
  refine aH (aGy (x:=x) (T:=T) (by omega)) (fun r hr=>?_)
  subst hr
  refine aS rfl (aS rfl (bG (by omega) (aR (by omega) (dZ (aC (fun h1=>?_) (fun h1=>aB ?_))))))
  · refine dZ (aB ?_)
    unfold can gX
    rw [decide_eq_true h1];rfl
  · unfold can gX
    rw [decide_eq_false h1];rfl
theorem aLd {P : R→Prop} {pc : Nat} (hpc : pc<code.length) {left : Int} {b : Bool} {ts : List Int} (hts : ∀ t∈ts,0≤t∧t≤code.length) (hn : ts.length≤10) {s : Hs} (hs : s.1.length=code.length)
    (h : Ok P (gM (.lst (code.map bY.pv)) (.bool (if b then ts.foldl (rB left) s else s).2) (.lst (code.map bY.pv)) (.int .i64 code.length) (.int .i64 ((pc : Int)+1)) T (.lst (fs.map cZ.pv)) (dF (if b then ts.foldl (rB left) s else s).1))) :
    Ok P (eO (.lst (code.map bY.pv)) (.bool s.2) (.int .i64 left) (.bool b) (.lst (code.map bY.pv)) (.int .i64 code.length) (.int .i64 pc) (dF ts) (.int .i64 ts.length) (.int .i64 0) T (.lst (fs.map cZ.pv)) (dF s.1)):=by
  have hn2:=F.n2
  refine aFj (n:=ts.length) (F:=fun i (q : Hs)=>eO (.lst (code.map bY.pv)) (.bool q.2) (.int .i64 left) (.bool b) (.lst (code.map bY.pv)) (.int .i64 code.length) (.int .i64 pc) (dF ts) (.int .i64 ts.length) (.int .i64 i) T (.lst (fs.map cZ.pv)) (dF q.1))
    (fun i q=>q.1.length=code.length∧(if b then (ts.drop i).foldl (rB left) q else q)=(if b then ts.foldl (rB left) s else s)) ?_ ?_ 0 s (by omega) ⟨hs,by rw [List.drop_zero]⟩
  · rintro q ⟨hq,he⟩
    rw [List.drop_length] at he
    have he : q=(if b then ts.foldl (rB left) s else s):=by rw [← he];split<;>rfl
    subst he
    rw [sE]
    exact aJ (aC (fun h=>by omega) (fun _=>aR (by omega) h))
  · rintro i q hi ⟨hq,he⟩ ih
    have ht:=hts ts[i] (List.getElem_mem _)
    rw [List.drop_eq_getElem_cons hi,List.foldl_cons] at he
    rw [sE]
    refine aJ (aC (fun _=>?_) (fun h=>by omega))
    refine dK hi (aZ (fun hb=>?_) (fun hb=>?_))
    · subst hb
      simp only [if_true] at he ih
      refine aG (aJ (aC (fun h1=>?_) (fun h1=>?_)))
      · refine gH (by omega) (by omega) (pW (by omega) (by omega) (fun v hv=>?_))
        refine aJ (aC (fun h2=>?_) (fun h2=>?_))
        · rw [aBc]
          refine gH (by omega) (by omega) ?_
          obtain ⟨t,et⟩:=Int.eq_ofNat_of_zero_le ht.1
          rw [et]
          refine tQ (by omega) (aR (by omega) ?_)
          refine ih (q.1.set t left,true) ⟨by simpa using hq,?_⟩
          rw [aKq (by omega) (by rw [hv];exact h2),et] at he
          exact he
        · refine aR (by omega) (ih q ⟨hq,?_⟩)
          rw [aHt (by rw [hv];simp only [Option.getD_some];omega)] at he
          exact he
      · refine aR (by omega) (ih q ⟨hq,?_⟩)
        rw [aHt (by omega)] at he
        exact he
    · subst hb
      exact aR (by omega) (ih q ⟨hq,he⟩)
theorem aMO {x : bY} (hx : x∈code) {h : Int} (hh : h<0) : can fs x h=false:=by
  have hu:=F.u x hx
  simp only [can]
  rw [decide_eq_false (by omega)];rfl
theorem aFm {P : R→Prop} {s : List Int} (hs : xO code.length s)
    (h : Ok P (kU (.lst (code.map bY.pv)) (.bool (pX fs code s).2) T (.lst (fs.map cZ.pv)) (dF (pX fs code s).1))) :
    Ok P (gM (.lst (code.map bY.pv)) (.bool false) (.lst (code.map bY.pv)) (.int .i64 code.length) (.int .i64 0) T (.lst (fs.map cZ.pv)) (dF s)):=by
  have hn2:=F.n2
  have hnf:=F.nf
  refine aFj (n:=code.length) (F:=fun i (q : Hs)=>gM (.lst (code.map bY.pv)) (.bool q.2) (.lst (code.map bY.pv)) (.int .i64 code.length) (.int .i64 i) T (.lst (fs.map cZ.pv)) (dF q.1))
    (fun i q=>xO code.length q.1∧(List.range' i (code.length - i)).foldl (xN fs code) q=pX fs code s) ?_ ?_ 0 (s,false) (by omega) ⟨hs,rfl⟩
  · rintro q ⟨hq,he⟩
    rw [Nat.sub_self] at he
    have he : q=pX fs code s:=he
    subst he
    rw [tO]
    exact aJ (aC (fun h=>by omega) (fun _=>h))
  · rintro i q hi ⟨hq,he⟩ ih
    have e1 : code.length - i=(code.length - (i+1))+1:=by omega
    rw [e1,List.range'_succ,List.foldl_cons] at he
    have hx : code[i]? = some code[i]:=List.getElem?_eq_getElem hi
    have hm : code[i]∈code:=List.getElem_mem _
    have hil : i<q.1.length:=by rw [hq.1];exact hi
    have hv:=hq.at i
    have e2 : q.1[i]=q.1[i]?.getD 0:=aD9 hil
    have hone:=hq.one F i
    have hgo:=ih (xN fs code q i) ⟨hone,he⟩
    have eo : xN fs code q i=if can fs code[i] (q.1[i]?.getD 0) then (fQ code[i] i).foldl (rB (gX fs code[i] (q.1[i]?.getD 0))) q else q:=by
      conv=>lhs;unfold xN
      rw [hx]
    generalize hw : q.1[i]?.getD 0=w at *
    rw [tO]
    refine aJ (aC (fun _=>?_) (fun h=>by omega))
    refine aU hi (fun _=>rfl) (aD rfl (aA rfl (aA rfl ?_)))
    refine gH (by omega) (by omega) (dK hil ?_)
    rw [e2]
    refine aJ (aC (fun h1=>?_) (fun h1=>?_))
    · rw [aMO F hm h1,if_neg (by simp)] at eo
      rw [eo] at hgo
      exact aR (by omega) hgo
    refine gH (by omega) (by omega) (dK hil ?_)
    rw [e2]
    refine aH (aGD (T:=T) F hm hv) (fun r hr=>?_)
    subst hr
    refine aS rfl (aS rfl (aH (aGA (x:=code[i]) (by omega)) (fun r hr=>?_)))
    subst hr
    refine dW ?_
    refine aLd F hi (yX F hm hi) (by unfold fQ;repeat' split<;>simp) hq.1 ?_
    rw [← eo]
    exact hgo
theorem aLe : ∀ (j : Nat) (s : List Int),nn s≤j→xO code.length s→Ok (fun r=>r = [dF (aCe fs code (j+1) s)]) (kU (.lst (code.map bY.pv)) (.bool true) T (.lst (fs.map cZ.pv)) (dF s)):=by
  intro j
  induction j with
  | zero=>
    intro s hs hg
    rw [kI]
    refine bB (aG (aFm F hg ?_))
    rcases Dec.pass F s with h | ⟨h,h2⟩
    · unfold aCe
      rw [h,kI]
      exact aQ (aB rfl)
    · have h3 : nn (pX fs code s).1<nn s:=h2
      omega
  | succ j ih=>
    intro s hs hg
    rw [kI]
    refine bB (aG (aFm F hg ?_))
    rcases Dec.pass F s with h | ⟨h,h2⟩
    · unfold aCe
      rw [h,kI]
      exact aQ (aB rfl)
    · rw [aCe,h,if_pos rfl]
      exact ih _ (by have h3 : nn (pX fs code s).1<nn s:=h2;omega) (hg.pass F)
theorem aLf (l : List Int) : PV.flatO (.own 1 8 false []) (dF l)=true:=by
  clear F
  show PV.flatEs false [] (l.map (PV.int .i64))=true
  induction l with
  | nil=>simp [PV.flatEs]
  | cons x r ih=>simp [PV.flatEs,PV.flatE,PV.flat,ih]
theorem sM {f : Nat} (hf : f<fs.length) (hc : fs[f].code=code) : Ok (fun r=>r = [dF (gZ fs code)]) (pJ (.agg [T,.lst (fs.map cZ.pv)]) (.int .i64 f)):=by
  have hn2:=F.n2
  have hn1:=F.n1
  rw [aE0]
  refine aD rfl (aA rfl (aA rfl (aU hf (fun _=>rfl) (aA (y:=.lst (code.map bY.pv)) (by rw [← hc];rfl) (aG ?_)))))
  refine aH (aLc hn1 (by omega)) (fun r hr=>?_)
  subst hr
  refine fB (aLf F _) (gH (by omega) (by rw [List.length_replicate];omega) (tQ (i:=0) (by rw [List.length_replicate];omega) ?_))
  exact aLe F code.length _ (by have:=(xO.start (n:=code.length)).1;unfold nn;exact Nat.le_trans List.countP_le_length (by omega)) xO.start
end
theorem fI.okB_fit {m : fI} (h : m.okB=true) : 1≤m.funcs.length∧m.funcs.length≤12∧∀ f∈m.funcs,Fit m.funcs f.code∧0≤f.p∧f.p≤6∧f.p≤f.lc∧f.lc≤12:=by
  simp only [fI.okB,Bool.and_eq_true,bI,decide_eq_true_eq,List.all_eq_true,sK] at h
  obtain ⟨⟨h1,h2⟩,_,_,h3⟩:=h
  have hp : ∀ i : Int,0≤eK m.funcs i∧eK m.funcs i≤6:=by
    intro i
    unfold eK
    cases hx : m.funcs[i.toNat]? with
    | none=>simp
    | some f=>exact (h3 f (List.mem_of_getElem? hx)).1
  refine ⟨by omega,by omega,fun f hf=>?_⟩
  obtain ⟨p1,p2,p3,p4⟩:=h3 f hf
  refine ⟨⟨by omega,by omega,by omega,fun x hx=>?_,fun x hx hj=>?_⟩,p1.1,p1.2,p2.1,p2.2⟩
  · have:=hp x.a
    unfold bA
    repeat' split
    all_goals (simp only;omega)
  · have:=p4 x hx
    unfold cB at this
    rcases hj with hj | hj | hj<;>simp [hj,lG] at this<;>omega
structure cF where
  f : Int
  pc : Int
  loc : List cS
  stk : List cS
def aV (l : List cS) : PV:=.lst (l.map cS.pv)
def cF.pv (f : cF) : PV:=.agg [.int .i64 f.f,.int .i64 f.pc,aV f.loc,aV f.stk]
def bM (r : List cS) : PV:=.agg [aV r]
theorem pF {l : List cS} : ∀ x∈l.map cS.pv,x.isEl 3 true=true:=by
  intro x hx
  obtain ⟨a,_,rfl⟩:=List.mem_map.1 hx
  rfl
section
variable {P : R → Prop} {k : PV → Option R}
theorem bX {A cs : List PV} {s : Nat} {i : Int} (hi : i=A.length) (hs : cs.length=s) (h : Ok P (k (.agg cs))) : Ok P (bd (PV.at_ s true (.lst (A++[.agg cs])) (.int .i64 i)) k):=
  cQ _ (by
    subst hi
    simp only [PV.at_]
    rw [if_pos (by omega),Int.toNat_natCast,List.getElem?_append_right (Nat.le_refl _),Nat.sub_self]
    simp only [List.getElem?_cons_zero]
    rw [if_pos (by simp [PV.isEl,hs])]) h
theorem cH {A cs : List PV} {s off : Nat} {i : Int} {v : PV} (hi : i=A.length) (hs : cs.length=s) (ho : off<s) (hv : v.isEl 1 false=true) (h : Ok P (k (.lst (A++[.agg (cs.set off v)])))) :
    Ok P (bd (PV.setCell s (.lst (A++[.agg cs])) (.int .i64 i) off v) k):=by
  subst hi
  refine fU (by omega) (cs:=cs) (by rw [Int.toNat_natCast,List.getElem?_append_right (Nat.le_refl _),Nat.sub_self];rfl) hs ho hv ?_
  rw [Int.toNat_natCast,List.set_append_right _ _ (Nat.le_refl _),Nat.sub_self]
  exact h
theorem nE {l : List cS} {i : Int} (h0 : 0≤i) (h1 : i<l.length) (h : ∀ v,l[i.toNat]? = some v→Ok P (k v.pv)) : Ok P (bd (PV.at_ 3 true (aV l) (.int .i64 i)) k):=by
  refine rS h0 (by rw [List.length_map];exact h1) pF (fun x _ hx=>?_)
  rw [List.getElem?_map] at hx
  cases hl : l[i.toNat]? with
  | none=>rw [hl] at hx;cases hx
  | some v=>rw [hl] at hx;cases hx;exact h v hl
theorem bJ {l : List cS} (h : Ok P (k (.int .i64 l.length))) : Ok P (bd (PV.len (aV l)) k):=aG h
theorem eH {l : List cS} {i : Int} (h0 : 0≤i) (h1 : i<l.length) (h : Ok P (k (aV l))) : Ok P (bd (PV.inb (aV l) (.int .i64 i)) k):=cR h0 (by rw [List.length_map];exact h1) h
theorem gI {l : List cS} {m n : Int} (h0 : 0≤m) (h1 : m≤n) (h2 : n≤l.length) (h : Ok P (k (aV ((l.take n.toNat).drop m.toNat)))) : Ok P (bd (PV.cut 3 true (aV l) (.int .i64 m) (.int .i64 n)) k):=by
  refine vP h0 h1 (by rw [List.length_map];exact h2) pF ?_
  rw [← List.map_take,← List.map_drop]
  exact h
theorem iG {l m : List cS} (hb : l.length+m.length≤1000000000) (h : Ok P (k (aV (l++m)))) : Ok P (bd (PV.cat 3 32 true (aV l) (.lst (m.map cS.pv))) k):=by
  refine fA (by simp only [List.length_map];omega) pF ?_
  rw [← List.map_append]
  exact h
theorem nJ {l : List cS} {i : Int} {v : cS} (h0 : 0≤i) (h1 : i<l.length) (h : Ok P (k (aV (l.set i.toNat v)))) : Ok P (bd (PV.setAt 3 true (aV l) (.int .i64 i) v.pv) k):=by
  refine aIx h0 (by rw [List.length_map];exact h1) rfl ?_
  rw [← List.map_set]
  exact h
theorem tR {n : Int} (h0 : 0≤n) (h1 : n≤1000000000) (h : Ok P (k (aV (List.replicate n.toNat cX)))) : Ok P (bd (PV.zeros 32 (.agg [.int .i64 0,.int .i64 0,.str (bs [])]) (.int .i64 n)) k):=by
  obtain ⟨m,rfl⟩:=Int.eq_ofNat_of_zero_le h0
  refine cQ _ ?_ h
  simp only [PV.zeros]
  rw [if_pos ⟨by omega,by omega,by omega⟩,Int.toNat_natCast,aV,List.map_replicate]
  rfl
end
section
variable {P : R → Prop} {k : R → Option R} {a0 a1 a2 a3 a4 a5 a6 a7 a8 a9 H O : PV} {A : List PV}
theorem zA {x : PV} (hA : A.length≤1000000) (h : Ok P (k [.int .i64 A.length,a0,a1,a2,a3,a4,a5,a6,a7,a8,a9,.lst (A++[x]),H,O])) :
    Ok P (bd (dV a0 a1 a2 a3 a4 a5 a6 a7 a8 a9 (.lst (A++[x])) H O) k):=by
  refine aH (Q:=fun r=>r = [.int .i64 A.length,a0,a1,a2,a3,a4,a5,a6,a7,a8,a9,.lst (A++[x]),H,O]) ?_ (fun r hr=>by rw [hr];exact h)
  rw [yS]
  have e : ((A++[x]).length : Int) - 1=A.length:=by simp
  refine cJ (bG (by simp;omega) ?_)
  rw [e]
  exact cR (by omega) (by simp;omega) (aB rfl)
theorem fV {f pc : Int} {loc s : List cS} {v : cS} (hA : A.length≤1000000) (hs : s.length≤1000000)
    (h : Ok P (k [v.pv,a0,a1,a2,a3,a4,a5,a6,a7,a8,a9,.lst (A++[cF.pv ⟨f,pc,loc,s⟩]),H,O])) :
    Ok P (bd (aX a0 a1 a2 a3 a4 a5 a6 a7 a8 a9 (.lst (A++[cF.pv ⟨f,pc,loc,s++[v]⟩])) H O) k):=by
  refine aH (Q:=fun r=>r = [v.pv,a0,a1,a2,a3,a4,a5,a6,a7,a8,a9,.lst (A++[cF.pv ⟨f,pc,loc,s⟩]),H,O]) ?_ (fun r hr=>by rw [hr];exact h)
  rw [aBr]
  have e : ((s++[v]).length : Int) - 1=s.length:=by simp
  have hl : (s++[v]).length=s.length+1:=by simp
  have at3 : ∀ {P : R→Prop} {k : PV→Option R},Ok P (k (aV (s++[v])))→Ok P (bd (PV.at_ 4 true (.lst (A++[cF.pv ⟨f,pc,loc,s++[v]⟩])) (.int .i64 A.length)) fun x=>bd (PV.cell x 3) k):=
    fun h=>bX rfl rfl (aA rfl h)
  have at_ : ∀ {P : R→Prop} {k : PV→Option R},(∀ x,Ok P (k x))→Ok P (bd (PV.at_ 4 true (.lst (A++[cF.pv ⟨f,pc,loc,s++[v]⟩])) (.int .i64 A.length)) k):=
    fun h=>bX rfl rfl (h _)
  have el : (s++[v])[(s.length : Int).toNat]? = some v:=by rw [Int.toNat_natCast,List.getElem?_append_right (Nat.le_refl _),Nat.sub_self];rfl
  refine zA hA (at_ (fun _=>at_ (fun _=>at3 (bJ (bG (by omega) ?_)))))
  rw [e]
  refine at3 (eH (by omega) (by omega) (at3 (nE (by omega) (by omega) (fun w hw=>?_))))
  rw [el] at hw
  cases hw
  refine aD rfl (aA rfl (aA rfl (aA rfl (at_ (fun _=>at_ (fun _=>at3 (bJ (bG (by omega) ?_))))))))
  rw [e]
  refine at3 (gI (by omega) (by omega) (by omega) (at3 (gI (by omega) (by omega) (by omega) (at3 ?_))))
  refine cH rfl rfl (by omega) rfl (cH rfl rfl (by omega) rfl (aB ?_))
  simp only [Int.toNat_natCast,Int.toNat_zero,List.drop_zero,List.take_left']
  rfl
theorem aEa {f pc : Int} {loc s : List cS} {v : cS} (hA : A.length≤1000000) (hs : s.length≤1000000)
    (h : Ok P (k [a0,a1,a2,a3,a4,a5,a6,a7,a8,a9,.lst (A++[cF.pv ⟨f,pc,loc,s++[v]⟩]),H,O])) :
    Ok P (bd (gK v.pv a0 a1 a2 a3 a4 a5 a6 a7 a8 a9 (.lst (A++[cF.pv ⟨f,pc,loc,s⟩])) H O) k):=by
  refine aH (Q:=fun r=>r = [a0,a1,a2,a3,a4,a5,a6,a7,a8,a9,.lst (A++[cF.pv ⟨f,pc,loc,s++[v]⟩]),H,O]) ?_ (fun r hr=>by rw [hr];exact h)
  rw [aAj]
  refine aD rfl (aA rfl (aA rfl (aA rfl (zA hA ?_))))
  refine bX rfl rfl (bX rfl rfl (aA rfl (bX rfl rfl (aA rfl ?_))))
  refine cH rfl rfl (by omega) rfl (iG (m:=[v]) (by simp;omega) (cH rfl rfl (by omega) rfl (aB rfl)))
theorem gS {f pc : Int} {loc s : List cS} {vk vn : Int} {vs : ByteArray} (hA : A.length≤1000000) (hs : s.length≤1000000)
    (h : Ok P (k [a0,a1,a2,a3,a4,a5,a6,a7,a8,a9,.lst (A++[cF.pv ⟨f,pc,loc,s++[⟨vk,vn,vs⟩]⟩]),H,O])) :
    Ok P (bd (bH (.int .i64 vk) (.int .i64 vn) (.str vs) a0 a1 a2 a3 a4 a5 a6 a7 a8 a9 (.lst (A++[cF.pv ⟨f,pc,loc,s⟩])) H O) k):=by
  refine aH (Q:=fun r=>r = [a0,a1,a2,a3,a4,a5,a6,a7,a8,a9,.lst (A++[cF.pv ⟨f,pc,loc,s++[⟨vk,vn,vs⟩]⟩]),H,O]) ?_ (fun r hr=>by rw [hr];exact h)
  rw [wD]
  refine zA hA ?_
  refine bX rfl rfl (bX rfl rfl (aA rfl (bX rfl rfl (aA rfl ?_))))
  refine cH rfl rfl (by omega) rfl (iG (m:=[⟨vk,vn,vs⟩]) (by simp;omega) (cH rfl rfl (by omega) rfl (aB rfl)))
end
inductive aHv where
  | trap (c : Int)
  | next (fr : cF) (hp : List (List cS)) (made : Int) (out : List ByteArray)
  | call (fr : cF) (g : cF)
  | ret (v : cS)
def gC (v : cS) (hp : List (List cS)) : ByteArray:=
  if v.k=0 then bs [110,105,108] else if v.k=1 then gW v.n else if v.k=2 then (if v.n=1 then bs [116,114,117,101] else bs [102,97,108,115,101]) else if v.k=3 then v.s
  else if v.k=5 then bs [102,117,110]++gW v.n
  else if v.k=4 then bs [123]++gW ((hp[v.n.toNat]?.getD []).length)++bs [125] else bs []
def uZ (fs : List cZ) (i : Int) : Int:=(fs[i.toNat]?.map cZ.lc).getD 0
def qE (fs : List cZ) (g : Int) (args : List cS) : cF:=⟨g,0,args++List.replicate ((uZ fs g).toNat - args.length) cX,[]⟩
def dG (m : fI) (fr : cF) (took : List cS) (depth : Nat) (hp : List (List cS)) (made : Int) (out : List ByteArray) (x : bY) : aHv:=
  let a:=took.headD cX
  let b:=took.tail.headD cX
  let go : List cS→aHv:=fun l=>.next ⟨fr.f,fr.pc,fr.loc,fr.stk++l⟩ hp made out
  let rec_ : List cS:=hp[a.n.toNat]?.getD []
  if x.o=1 then go [qY x.a]
  else if x.o=2 then go [lC (decide (x.a=1))]
  else if x.o=3 then go [xD (m.texts[x.a.toNat]?.getD (bs []))]
  else if x.o=4 then go [cX]
  else if x.o=5 then go [aHr x.a]
  else if x.o=6 then go [fr.loc[x.a.toNat]?.getD cX]
  else if x.o=7 then .next ⟨fr.f,fr.pc,fr.loc.set x.a.toNat a,fr.stk⟩ hp made out
  else if x.o=8 then go [a,a]
  else if x.o=9 then go []
  else if x.o=10 then go [b,a]
  else if x.o≤15 then (if (nM x.o a b).2≠0 then .trap (nM x.o a b).2 else go [(nM x.o a b).1])
  else if x.o=16 then (if (uY a).2≠0 then .trap (uY a).2 else go [(uY a).1])
  else if x.o=17 then .next ⟨fr.f,x.a,fr.loc,fr.stk⟩ hp made out
  else if x.o≤19 then (if a.k≠2 then .trap 1 else if (decide (a.n=1)==decide (x.o=18))=true then .next ⟨fr.f,x.a,fr.loc,fr.stk⟩ hp made out else go [])
  else if x.o=20 then (if made=120 then .trap 7 else .next ⟨fr.f,fr.pc,fr.loc,fr.stk++[aK9 hp.length]⟩ (hp++[List.replicate x.a.toNat cX]) (made+1) out)
  else if x.o=21 then (if a.k≠4 then .trap 1 else if rec_.length≤x.a then .trap 4 else go [rec_[x.a.toNat]?.getD cX])
  else if x.o=22 then (if a.k≠4 then .trap 1 else if rec_.length≤x.a then .trap 4 else .next fr (hp.set a.n.toNat (rec_.set x.a.toNat b)) made out)
  else if x.o=23 then (if a.k≠5 then .trap 1 else if eK m.funcs a.n≠x.a then .trap 5 else if depth=24 then .trap 6 else .call fr (qE m.funcs a.n took.tail))
  else if x.o=24 then (if depth=24 then .trap 6 else .call fr (qE m.funcs x.a took))
  else if x.o=25 then .ret a
  else if out.length=200 then .trap 8 else .next fr hp made (out++[gC a hp])
theorem aHw {v : cS} {hp : List (List cS)} {nf : Int} (hnf : nf≤1000) (hh : hp.length≤1000) (hr : ∀ r∈hp,r.length≤1000) (hv : bN nf hp.length v=true) :
    Ok (fun r=>r = [.str (gC v hp)]) (rY v.pv (.lst (hp.map bM))):=by
  have hn : -1000000000≤v.n∧v.n≤1000000000∧(v.k=4→0≤v.n∧v.n<hp.length)∧0≤v.k∧v.k≤5:=by
    unfold bN at hv
    repeat' split at hv
    all_goals first
      | (cases hv;done)
      | (simp only [cD,bI,Bool.and_eq_true,decide_eq_true_eq] at hv;omega)
  rw [aB1]
  refine aD rfl (aA rfl (aA rfl (aA rfl ?_)))
  refine aF (aC (fun h=>aB ?_) (fun h0=>aF (aC (fun h=>?_) (fun h1=>aF (aC (fun h=>?_) (fun h2=>aF (aC (fun h=>aB ?_) (fun h3=>aF (aC (fun h=>?_) (fun h5=>?_))))))))))
  · unfold gC;rw [if_pos h]
  · refine aH (yW (by omega)) (fun r hr=>?_)
    subst hr
    refine aB ?_
    unfold gC;rw [if_neg h0,if_pos h];rfl
  · refine aF (aC (fun h'=>aB ?_) (fun h'=>aB ?_))
    · unfold gC;rw [if_neg h0,if_neg h1,if_pos h,if_pos h']
    · unfold gC;rw [if_neg h0,if_neg h1,if_pos h,if_neg h']
  · unfold gC;rw [if_neg h0,if_neg h1,if_neg h2,if_pos h]
  · refine aH (yW (by omega)) (fun r hr=>?_)
    subst hr
    have:=rA v.n
    refine mX (by have e : (bs [102,117,110]).size=3:=rfl
                  omega) (aB ?_)
    unfold gC;rw [if_neg h0,if_neg h1,if_neg h2,if_neg h3,if_pos h]
  · refine aF (aC (fun h4=>?_) (fun h4=>by omega))
    refine aG (bG (by omega) (eB ?_))
    rw [show lG v.n 0 (hp.length - 1)=true from bI.2 (by omega)]
    refine bB ?_
    obtain ⟨i,hi⟩:=Int.eq_ofNat_of_zero_le (hn.2.2.1 h4).1
    have hil : i<hp.length:=by omega
    rw [hi]
    have hrl:=hr _ (List.getElem_mem hil)
    refine aU hil (fun _=>rfl) (aA rfl (bJ ?_))
    refine aH (yW (by omega)) (fun r hr=>?_)
    subst hr
    have:=rA ((hp[i].length : Nat) : Int)
    have e1 : (bs [123]).size=1:=rfl
    have e2 : (bs [125]).size=1:=rfl
    refine mX (by omega) (mX (by rw [ByteArray.size_append];omega) (aB ?_))
    unfold gC;rw [if_neg h0,if_neg h1,if_neg h2,if_neg h3,if_neg h5,if_pos h4,hi,Int.toNat_natCast,List.getElem?_eq_getElem hil]
    rfl
section
variable {a2 a3 a4 a5 a6 a7 a8 H O T : PV} {A : List PV} {fs : List cZ}
theorem aIJ {P : R→Prop} {g : Int} {loc : List cS} (hA : A.length≤1000) (h : P [T,.lst (fs.map cZ.pv),a2,a3,a4,a5,a6,a7,a8,.int .i64 0,.lst (A++[cF.pv ⟨g,0,loc,[]⟩]),H,O]) :
    Ok P (iE (.int .i64 g) T (.lst (fs.map cZ.pv)) a2 a3 a4 a5 a6 a7 a8 (.int .i64 0) (.lst A) H O (aV loc)):=by
  rw [uU]
  refine aW rfl (fA (by simp;omega) (fun x hx=>by simp only [List.mem_singleton] at hx;subst hx;rfl) (aB h))
theorem aMP {P : R→Prop} {g f pc : Int} {under : Bool} {loc s s1 : List cS} (hA : A.length≤100) (hs : s.length≤100) (hu : (under=true∧∃ w,s=s1++[w])∨(under=false∧s=s1)) :
    ∀ (j : Nat) (args post pre : List cS),args.length=j→pre.length=j→j+post.length≤50→
    P [T,.lst (fs.map cZ.pv),a2,a3,a4,a5,a6,a7,a8,.int .i64 0,.lst (A++[cF.pv ⟨f,pc,loc,s1⟩]++[cF.pv ⟨g,0,args++post,[]⟩]),H,O]→
    Ok P (iR (.int .i64 g) (.bool under) (.int .i64 ((j : Int) - 1)) T (.lst (fs.map cZ.pv)) a2 a3 a4 a5 a6 a7 a8 (.int .i64 0) (.lst (A++[cF.pv ⟨f,pc,loc,s++args⟩])) H O (aV (pre++post))):=by
  intro j
  induction j with
  | zero=>
    intro args post pre h1 h2 h3 h
    rw [List.eq_nil_of_length_eq_zero h1,List.nil_append] at h
    rw [List.eq_nil_of_length_eq_zero h1,List.eq_nil_of_length_eq_zero h2,List.append_nil,List.nil_append,oA]
    refine dP (aC (fun h=>by omega) (fun _=>?_))
    rcases hu with ⟨rfl,w,rfl⟩ | ⟨rfl,rfl⟩
    · refine bB (fV (by omega) (by simp at hs;omega) ?_)
      exact aIJ (by simp;omega) h
    · exact aQ (aIJ (by simp;omega) h)
  | succ j ih=>
    intro args post pre h1 h2 h3 h
    obtain ⟨args',v,rfl⟩ : ∃ l v,args=l++[v]:=⟨args.dropLast,args.getLast (fun e=>by rw [e] at h1;simp at h1),(List.dropLast_concat_getLast _).symm⟩
    obtain ⟨pre',u,rfl⟩ : ∃ l v,pre=l++[v]:=⟨pre.dropLast,pre.getLast (fun e=>by rw [e] at h2;simp at h2),(List.dropLast_concat_getLast _).symm⟩
    simp only [List.length_append,List.length_cons,List.length_nil,Nat.zero_add,Nat.add_right_cancel_iff] at h1 h2
    have ej : ((j+1 : Nat) : Int) - 1=j:=by omega
    rw [ej,oA,← List.append_assoc]
    refine dP (aC (fun _=>?_) (fun h=>by omega))
    refine fV (by omega) (by simp;omega) ?_
    have hlen : (pre'++[u]++post).length=j+1+post.length:=by simp;omega
    refine eH (by omega) (by omega) (nJ (by omega) (by omega) (bG (by omega) ?_))
    have e : (pre'++[u]++post).set (j : Int).toNat v=pre'++(v::post):=by
      rw [Int.toNat_natCast,← h2,List.append_assoc,List.set_append_right _ _ (Nat.le_refl _),Nat.sub_self]
      rfl
    rw [e]
    refine ih args' (v::post) pre' h1 h2 (by simp;omega) ?_
    rw [show args'++v::post=args'++[v]++post by simp]
    exact h
theorem aIK {P : R→Prop} {k : R→Option R} {g f pc : Int} {under : Bool} {loc s s1 args : List cS} (hF : fs.length≤1000) (hpar : ∀ f∈fs,0≤f.p∧f.p≤6∧f.p≤f.lc∧f.lc≤12) (hA : A.length≤23) (hs : s.length≤100)
    (hu : (under=true∧∃ w,s=s1++[w])∨(under=false∧s=s1)) (hg : 0≤g∧g<fs.length) (ha : args.length=eK fs g)
    (h1 : A.length=23→Ok P (k [T,.lst (fs.map cZ.pv),a2,a3,a4,a5,a6,a7,a8,.int .i64 6,.lst (A++[cF.pv ⟨f,pc,loc,s++args⟩]),H,O]))
    (h2 : A.length≠23→Ok P (k [T,.lst (fs.map cZ.pv),a2,a3,a4,a5,a6,a7,a8,.int .i64 0,.lst (A++[cF.pv ⟨f,pc,loc,s1⟩]++[cF.pv (qE fs g args)]),H,O])) :
    Ok P (bd (lQ (.int .i64 g) (.bool under) T (.lst (fs.map cZ.pv)) a2 a3 a4 a5 a6 a7 a8 (.int .i64 0) (.lst (A++[cF.pv ⟨f,pc,loc,s++args⟩])) H O) k):=by
  obtain ⟨n,rfl⟩:=Int.eq_ofNat_of_zero_le hg.1
  have hn : n<fs.length:=by omega
  have hp:=hpar _ (List.getElem_mem hn)
  have ep : eK fs (n : Int)=fs[n].p:=by simp [eK,List.getElem?_eq_getElem hn]
  have el : uZ fs (n : Int)=fs[n].lc:=by simp [uZ,List.getElem?_eq_getElem hn]
  rw [ep] at ha
  have hl : ((A++[cF.pv ⟨f,pc,loc,s++args⟩]).length : Int)=A.length+1:=by simp
  refine aH (Q:=fun r=>(A.length=23∧r = [T,.lst (fs.map cZ.pv),a2,a3,a4,a5,a6,a7,a8,.int .i64 6,.lst (A++[cF.pv ⟨f,pc,loc,s++args⟩]),H,O])∨
    (A.length≠23∧r = [T,.lst (fs.map cZ.pv),a2,a3,a4,a5,a6,a7,a8,.int .i64 0,.lst (A++[cF.pv ⟨f,pc,loc,s1⟩]++[cF.pv (qE fs n args)]),H,O])) ?_ ?_
  · rw [aAk]
    refine aU hn (fun _=>rfl) (aD rfl (aA rfl (aA rfl (aA rfl (cJ ?_)))))
    refine aF (aC (fun h=>aB (.inl ⟨by omega,rfl⟩)) (fun h=>?_))
    refine tR (by omega) (by omega) (dZ (aC (fun _=>?_) (fun h=>by omega)))
    refine tR (by omega) (by omega) (bG (by omega) ?_)
    have e1 : fs[n].p - 1=((args.length : Int)) - 1:=by omega
    have e2 : List.replicate fs[n].lc.toNat cX=List.replicate args.length cX++List.replicate (fs[n].lc.toNat - args.length) cX:=by
      rw [List.replicate_append_replicate];congr 1;omega
    rw [e1,e2]
    refine aMP (by omega) hs hu args.length args _ _ rfl (by simp) (by simp;omega) (.inr ⟨by omega,?_⟩)
    simp only [qE,el]
  · rintro r (⟨h,rfl⟩ | ⟨h,rfl⟩)
    · exact h1 h
    · exact h2 h
end
section
variable {P : R → Prop} {k : R → Option R}
theorem rC {a b : cS} {q : Int} (h : Ok P (k [.bool (decide (a.k=q)&&decide (b.k=q))])) : Ok P (bd (rI a.pv b.pv (.int .i64 q)) k):=by
  refine aH (Q:=fun r=>r = [.bool (decide (a.k=q)&&decide (b.k=q))]) ?_ (fun r hr=>by rw [hr];exact h)
  rw [aHk]
  refine aD rfl (aA rfl (aA rfl (aA rfl (aD rfl (aA rfl (aA rfl (aA rfl (aF ?_))))))))
  refine aC (fun h1=>aF (aB ?_)) (fun h1=>aB ?_)
  · rw [decide_eq_true h1];rfl
  · rw [decide_eq_false h1];rfl
theorem pG {n : Int} (h : Ok P (k [.bool (cD n)])) : Ok P (bd (kY (.int .i64 n)) k):=by
  refine aH (Q:=fun r=>r = [.bool (cD n)]) ?_ (fun r hr=>by rw [hr];exact h)
  rw [aAC]
  exact fJ (aB rfl)
theorem aAF {n : Int} (h : Ok P (k [(qY n).pv])) : Ok P (bd (vX (.int .i64 n)) k):=by
  refine aH (Q:=fun r=>r = [(qY n).pv]) ?_ (fun r hr=>by rw [hr];exact h)
  rw [aF0]
  exact aW rfl (aB rfl)
theorem lD {c : Bool} (h : Ok P (k [(lC c).pv])) : Ok P (bd (kZ (.bool c)) k):=by
  refine aH (Q:=fun r=>r = [(lC c).pv]) ?_ (fun r hr=>by rw [hr];exact h)
  rw [aFd]
  cases c
  · exact aQ (aB rfl)
  · exact bB (aB rfl)
def aL6 (f : PV) (g : Int→Int→Int) : Prop:=∀ {a b : Int} {P : R→Prop} {k : R→Option R},cD a=true→cD b=true→Ok P (k [.int .i64 (g a b)])→Ok P (bd (PV.apply aN f [.int .i64 a,.int .i64 b]) k)
theorem aHx {a : Int} (h : cD a=true) : -1000000000≤a∧a≤1000000000:=bI.1 h
theorem qF {a b : cS} {o : Int} {f : PV} (hf : aL6 f (wH o)) (h : Ok P (k (opR (xM o a b)))) : Ok P (bd (nV a.pv b.pv f) k):=by
  refine aH (Q:=fun r=>r=opR (xM o a b)) ?_ (fun r hr=>by rw [hr];exact h)
  rw [aDZ]
  unfold xM
  refine aD rfl (aA rfl (aA rfl (aA rfl (aD rfl (aA rfl (aA rfl (aA rfl (rC (bE ?_)))))))))
  by_cases h1 : a.k=1∧b.k=1
  · rw [decide_eq_true h1.1,decide_eq_true h1.2,if_neg (by omega),if_neg (by omega)]
    refine aQ (pG (bE ?_))
    cases h2 : cD a.n with
    | false=>exact bB (aB (by simp [opR,cS.pv,cX]))
    | true=>
      refine aQ (pG (bE ?_))
      cases h3 : cD b.n with
      | false=>exact bB (aB (by simp [opR,cS.pv,cX]))
      | true=>
        refine aQ (hf h2 h3 (pG (bE ?_)))
        cases h4 : cD (wH o a.n b.n) with
        | false=>exact bB (aB (by simp [opR,cS.pv,cX,h4]))
        | true=>
          refine aQ (hf h2 h3 (aAF ?_))
          exact aD rfl (aA rfl (aA rfl (aA rfl (aB (by simp [opR,cS.pv,qY,h4])))))
  · have h5 : (decide (a.k=1)&&decide (b.k=1))=false:=by
      cases h : (decide (a.k=1)&&decide (b.k=1))
      · rfl
      · simp only [Bool.and_eq_true,decide_eq_true_eq] at h;exact absurd h h1
    rw [h5]
    refine bB (aB ?_)
    by_cases h6 : a.k=1
    · rw [if_neg (by omega),if_pos (fun h7=>h1 ⟨h6,h7⟩)];rfl
    · rw [if_pos h6];rfl
theorem aHy {f : Nat} {o : Int} {g : PV→PV→Option R} (hg : ∀ x y,aN f [x,y]=g x y) (h : ∀ {a b : Int},cD a=true→cD b=true→Ok (fun r=>r = [.int .i64 (wH o a b)]) (g (.int .i64 a) (.int .i64 b))) : aL6 (.fn f []) (wH o):=
  fun ha hb hk=>rT (f:=f) (hg _ _) (h ha hb) (fun r hr=>by rw [hr];exact hk)
theorem aL7 {s : ByteArray} (h : Ok P (k [.bool false])) : Ok P (bd (lP (.str s)) k):=by
  refine aH (Q:=fun r=>r = [.bool false]) ?_ (fun r hr=>by rw [hr];exact h)
  rw [aAh]
  exact aGt (aB rfl)
theorem aJK {s t : ByteArray} (h : Ok P (k [.bool (PV.bytesLt s.toList t.toList)])) : Ok P (bd (qD (.str s) (.str t)) k):=by
  refine aH (Q:=fun r=>r = [.bool (PV.bytesLt s.toList t.toList)]) ?_ (fun r hr=>by rw [hr];exact h)
  rw [aBq]
  exact aL7 (aQ (aKo (aB rfl)))
theorem aNq {f : Nat} (hg : ∀ x y,aN f [x,y]=vY x y) : aL6 (.fn f []) (wH 11):=aHy (g:=vY) hg (fun ha hb=>by
  have:=aHx ha;have:=aHx hb
  rw [aD0]
  exact aR (by omega) (aB rfl))
theorem aNr {f : Nat} (hg : ∀ x y,aN f [x,y]=vZ x y) : aL6 (.fn f []) (wH 12):=aHy (g:=vZ) hg (fun ha hb=>by
  have:=aHx ha;have:=aHx hb
  rw [aD1]
  exact bG (by omega) (aB rfl))
theorem aNs {f : Nat} (hg : ∀ x y,aN f [x,y]=wA x y) : aL6 (.fn f []) (wH 13):=aHy (g:=wA) hg (fun ha hb=>by
  have:=aL0 ha hb
  rw [aD2]
  exact iJ (by omega) (aB rfl))
theorem aL8 {a b : cS} (hs : a.s.size≤1000000∧b.s.size≤1000000) : Ok (fun r=>r=opR (nM 11 a b)) (aA6 a.pv b.pv):=by
  rw [aF2]
  refine aD rfl (aA rfl (aA rfl (aA rfl (aD rfl (aA rfl (aA rfl (aA rfl (rC ?_))))))))
  have e : nM 11 a b=(if a.k=3∧b.k=3 then (if (60 : Int)<a.s.size+b.s.size then (cX,3) else (xD (a.s++b.s),0)) else xM 11 a b):=rfl
  rw [e]
  by_cases h1 : a.k=3∧b.k=3
  · rw [if_pos h1,decide_eq_true h1.1,decide_eq_true h1.2]
    refine bB (dI (dI (aR (by omega) (cO (aC (fun h2=>aB ?_) (fun h2=>mX (by omega) (aW rfl (aB ?_))))))))
    · rw [if_pos h2];rfl
    · rw [if_neg h2];rfl
  · have h5 : (decide (a.k=3)&&decide (b.k=3))=false:=by
      cases h : (decide (a.k=3)&&decide (b.k=3))
      · rfl
      · simp only [Bool.and_eq_true,decide_eq_true_eq] at h;exact absurd h h1
    rw [if_neg h1,h5]
    refine aQ (qF (aNq (fun _ _=>rfl)) (aS rfl (aS rfl (aD rfl (aA rfl (aA rfl (aA rfl (aB rfl))))))))
theorem aL9 {a b : cS} : Ok (fun r=>r=opR (nM 12 a b)) (aA7 a.pv b.pv):=by
  rw [aF3]
  exact aD rfl (aA rfl (aA rfl (aA rfl (aD rfl (aA rfl (aA rfl (aA rfl (qF (aNr (fun _ _=>rfl)) (aS rfl (aS rfl (aD rfl (aA rfl (aA rfl (aA rfl (aB rfl)))))))))))))))
theorem aMa {a b : cS} : Ok (fun r=>r=opR (nM 13 a b)) (aA8 a.pv b.pv):=by
  rw [aF4]
  exact aD rfl (aA rfl (aA rfl (aA rfl (aD rfl (aA rfl (aA rfl (aA rfl (qF (aNs (fun _ _=>rfl)) (aS rfl (aS rfl (aD rfl (aA rfl (aA rfl (aA rfl (aB rfl)))))))))))))))
theorem aMb {p q : Prop} [Decidable p] [Decidable q] (h : ¬ (p∧q)) : (decide p&&decide q)=false:=by
  cases h' : (decide p&&decide q)
  · rfl
  · simp only [Bool.and_eq_true,decide_eq_true_eq] at h';exact absurd h' h
theorem aLg {a b : cS} : Ok (fun r=>r=opR (nM 14 a b)) (yR a.pv b.pv):=by
  rw [aFf]
  have e : nM 14 a b=(if a.k=3∧b.k=3 then (lC (PV.bytesLt a.s.toList b.s.toList),0) else if a.k=1∧b.k=1 then (lC (decide (a.n<b.n)),0) else (cX,1)):=rfl
  rw [e]
  refine aD rfl (aA rfl (aA rfl (aA rfl (aD rfl (aA rfl (aA rfl (aA rfl (rC ?_))))))))
  by_cases h1 : a.k=1∧b.k=1
  · rw [if_neg (by omega),if_pos h1,decide_eq_true h1.1,decide_eq_true h1.2]
    exact bB (aJ (lD (aD rfl (aA rfl (aA rfl (aA rfl (aB rfl)))))))
  · rw [aMb h1]
    refine aQ (rC ?_)
    by_cases h2 : a.k=3∧b.k=3
    · rw [if_pos h2,decide_eq_true h2.1,decide_eq_true h2.2]
      exact bB (aJK (lD (aD rfl (aA rfl (aA rfl (aA rfl (aB rfl)))))))
    · rw [if_neg h2,if_neg h1,aMb h2]
      exact aQ (aB rfl)
theorem aHz {a b : cS} {k : PV→Option R} (h : Ok P (k (.bool (decide (a.k=b.k)&&(decide (a.n=b.n)&&kK a.s b.s))))) : Ok P (bd (PV.ceq [1,1,2] .eql (.agg [.int .i64 a.k,.int .i64 a.n,.str a.s]) (.agg [.int .i64 b.k,.int .i64 b.n,.str b.s])) k):=
  cQ _ (by simp [PV.ceq,PV.eqCells,PV.eqScalar,PV.eqOr,kK];rfl) h
theorem aLh {a b : cS} : Ok (fun r=>r = [(aAE a b).pv]) (yQ a.pv b.pv):=by
  rw [aFe]
  exact aD rfl (aA rfl (aA rfl (aA rfl (aD rfl (aA rfl (aA rfl (aA rfl (aHz (lD (aD rfl (aA rfl (aA rfl (aA rfl (aB rfl))))))))))))))
theorem aMc {v : cS} : Ok (fun r=>r=opR (uY v)) (aA5 v.pv):=by
  rw [aF1]
  unfold uY
  refine aD rfl (aA rfl (aA rfl (aA rfl (bC (aK (fun h=>aB ?_) (fun h=>bC (lD (aD rfl (aA rfl (aA rfl (aA rfl (aB ?_))))))))))))
  · rw [if_pos h];rfl
  · rw [if_neg (by omega)];rfl
end
def aAG (v : cS) : List cF→List cF
  | []=>[]
  | [f]=>[⟨f.f,f.pc,f.loc,f.stk++[v]⟩]
  | f::g::r=>f::aAG v (g::r)
theorem wK (v : cS) : ∀ (l : List cF) (f : cF),aAG v (l++[f])=l++[⟨f.f,f.pc,f.loc,f.stk++[v]⟩]
  | [],_=>rfl
  | [a],f=>rfl
  | a::b::l,f=>by
    show a::aAG v (b::l++[f])=_
    rw [wK v (b::l) f]
    rfl
def DoR (a0 a1 made a3 a4 a5 a6 a7 a8 H O : PV) (fs0 : List cF) : aHv→R→Prop
  | .trap c,r=>c≠0∧gd r 9 = .int .i64 c
  | .next fr hp made' out,r=>r = [a0,a1,.int .i64 made',a3,a4,a5,a6,a7,a8,.int .i64 0,.lst (fs0.map cF.pv++[fr.pv]),.lst (hp.map bM),.lst (out.map PV.str)]
  | .call fr g,r=>r = [a0,a1,made,a3,a4,a5,a6,a7,a8,.int .i64 0,.lst (fs0.map cF.pv++[fr.pv]++[g.pv]),H,O]
  | .ret v,r=>r=if fs0 = [] then [a0,a1,made,.int .i64 1,a4,.int .i64 v.k,.int .i64 v.n,.str v.s,a8,.int .i64 0,.lst [],H,O]
      else [a0,a1,made,a3,a4,a5,a6,a7,a8,.int .i64 0,.lst ((aAG v fs0).map cF.pv),H,O]
structure aMd (m : fI) (fs0 : List cF) (fr : cF) (took : List cS) (hp : List (List cS)) (made : Int) (out : List ByteArray) : Prop where
  nf : m.funcs.length≤12
  nt : m.texts.length≤20
  par : ∀ f∈m.funcs,0≤f.p∧f.p≤6∧f.p≤f.lc∧f.lc≤12
  n0 : fs0.length≤23
  stks : ∀ f∈fs0,f.stk.length≤16
  nl : fr.loc.length≤12
  ns : fr.stk.length+took.length≤16
  recs : ∀ r∈hp,r.length≤6
  nh : hp.length≤120
  nm : 0≤made∧made≤120
  no : out.length≤200
  aV : ∀ v∈took,bN m.funcs.length hp.length v=true
theorem bU {nf recs : Int} {v : cS} (h : bN nf recs v=true) : v.s.size≤60:=by
  by_cases h3 : v.k=3
  · unfold bN at h
    rw [if_neg (fun e=>e.1 h3),if_neg (by omega),if_neg (by omega),if_neg (by omega),if_pos h3] at h
    simp only [Bool.and_eq_true,dR,decide_eq_true_eq] at h
    omega
  · unfold bN at h
    split at h
    · cases h
    · rename_i hn
      have he : kK v.s (bs [])=true:=by
        cases hs : kK v.s (bs []) with
        | true=>rfl
        | false=>exact absurd ⟨h3,hs⟩ hn
      have e0 : (bs []).toList = []:=by rw [Lib.toList_data];rfl
      unfold kK at he
      rw [e0] at he
      have hl : v.s.toList = []:=by simpa using he
      have hsz : v.s.size=v.s.toList.length:=by
        rw [Lib.toList_data,Array.length_toList]
        rfl
      rw [hsz,hl]
      simp
theorem rJ {nf recs : Int} {v : cS} (h : bN nf recs v=true) (hk : v.k=4) : 0≤v.n∧v.n<recs:=by
  unfold bN at h
  by_cases hc : v.k≠3∧kK v.s (bs [])=false
  · rw [if_pos hc] at h;cases h
  · rw [if_neg hc,if_neg (by omega),if_neg (by omega),if_neg (by omega),if_neg (by omega),if_pos hk] at h
    simp only [Bool.and_eq_true,decide_eq_true_eq] at h
    exact h
theorem aC1 {nf recs : Int} {v : cS} (h : bN nf recs v=true) (hk : v.k=5) : 0≤v.n∧v.n<nf:=by
  unfold bN at h
  by_cases hc : v.k≠3∧kK v.s (bs [])=false
  · rw [if_pos hc] at h;cases h
  · rw [if_neg hc,if_neg (by omega),if_neg (by omega),if_neg (by omega),if_neg (by omega),if_neg (by omega),if_pos hk] at h
    have:=bI.1 h
    omega
theorem zU {nt nf lc nc : Int} {x : bY} (h : cB nt nf lc nc x.o x.a=true) : (1≤x.o∧x.o≤26)∧(x.o=3→0≤x.a∧x.a<nt)∧((x.o=6∨x.o=7)→0≤x.a∧x.a<lc)∧(x.o=20→0≤x.a∧x.a≤6)∧
    ((x.o=21∨x.o=22)→0≤x.a∧x.a≤5)∧(x.o=23→0≤x.a∧x.a≤6)∧((x.o=5∨x.o=24)→0≤x.a∧x.a<nf)∧((x.o=17∨x.o=18∨x.o=19)→0≤x.a∧x.a<nc)∧(x.o=1→cD x.a=true):=by
  unfold cB at h
  by_cases h1 : x.o=1
  · rw [if_pos h1] at h
    have h:=bI.1 h
    exact ⟨by omega,fun _=>by omega,fun _=>by omega,fun _=>by omega,fun _=>by omega,fun _=>by omega,fun _=>by omega,fun _=>by omega,fun _=>by first | (unfold cD;exact bI.2 (by omega)) | (exfalso;omega)⟩
  rw [if_neg h1] at h
  by_cases h2 : x.o=2
  · rw [if_pos h2] at h
    have h:=bI.1 h
    exact ⟨by omega,fun _=>by omega,fun _=>by omega,fun _=>by omega,fun _=>by omega,fun _=>by omega,fun _=>by omega,fun _=>by omega,fun _=>by first | (unfold cD;exact bI.2 (by omega)) | (exfalso;omega)⟩
  rw [if_neg h2] at h
  by_cases h3 : x.o=3
  · rw [if_pos h3] at h
    have h:=bI.1 h
    exact ⟨by omega,fun _=>by omega,fun _=>by omega,fun _=>by omega,fun _=>by omega,fun _=>by omega,fun _=>by omega,fun _=>by omega,fun _=>by first | (unfold cD;exact bI.2 (by omega)) | (exfalso;omega)⟩
  rw [if_neg h3] at h
  by_cases h5 : x.o=5
  · rw [if_pos h5] at h
    have h:=bI.1 h
    exact ⟨by omega,fun _=>by omega,fun _=>by omega,fun _=>by omega,fun _=>by omega,fun _=>by omega,fun _=>by omega,fun _=>by omega,fun _=>by first | (unfold cD;exact bI.2 (by omega)) | (exfalso;omega)⟩
  rw [if_neg h5] at h
  by_cases h24 : x.o=24
  · rw [if_pos h24] at h
    have h:=bI.1 h
    exact ⟨by omega,fun _=>by omega,fun _=>by omega,fun _=>by omega,fun _=>by omega,fun _=>by omega,fun _=>by omega,fun _=>by omega,fun _=>by first | (unfold cD;exact bI.2 (by omega)) | (exfalso;omega)⟩
  rw [if_neg h24] at h
  by_cases h6 : x.o=6
  · rw [if_pos h6] at h
    have h:=bI.1 h
    exact ⟨by omega,fun _=>by omega,fun _=>by omega,fun _=>by omega,fun _=>by omega,fun _=>by omega,fun _=>by omega,fun _=>by omega,fun _=>by first | (unfold cD;exact bI.2 (by omega)) | (exfalso;omega)⟩
  rw [if_neg h6] at h
  by_cases h7 : x.o=7
  · rw [if_pos h7] at h
    have h:=bI.1 h
    exact ⟨by omega,fun _=>by omega,fun _=>by omega,fun _=>by omega,fun _=>by omega,fun _=>by omega,fun _=>by omega,fun _=>by omega,fun _=>by first | (unfold cD;exact bI.2 (by omega)) | (exfalso;omega)⟩
  rw [if_neg h7] at h
  by_cases h17 : x.o=17
  · rw [if_pos h17] at h
    have h:=bI.1 h
    exact ⟨by omega,fun _=>by omega,fun _=>by omega,fun _=>by omega,fun _=>by omega,fun _=>by omega,fun _=>by omega,fun _=>by omega,fun _=>by first | (unfold cD;exact bI.2 (by omega)) | (exfalso;omega)⟩
  rw [if_neg h17] at h
  by_cases h18 : x.o=18
  · rw [if_pos h18] at h
    have h:=bI.1 h
    exact ⟨by omega,fun _=>by omega,fun _=>by omega,fun _=>by omega,fun _=>by omega,fun _=>by omega,fun _=>by omega,fun _=>by omega,fun _=>by first | (unfold cD;exact bI.2 (by omega)) | (exfalso;omega)⟩
  rw [if_neg h18] at h
  by_cases h19 : x.o=19
  · rw [if_pos h19] at h
    have h:=bI.1 h
    exact ⟨by omega,fun _=>by omega,fun _=>by omega,fun _=>by omega,fun _=>by omega,fun _=>by omega,fun _=>by omega,fun _=>by omega,fun _=>by first | (unfold cD;exact bI.2 (by omega)) | (exfalso;omega)⟩
  rw [if_neg h19] at h
  by_cases h20 : x.o=20
  · rw [if_pos h20] at h
    have h:=bI.1 h
    exact ⟨by omega,fun _=>by omega,fun _=>by omega,fun _=>by omega,fun _=>by omega,fun _=>by omega,fun _=>by omega,fun _=>by omega,fun _=>by first | (unfold cD;exact bI.2 (by omega)) | (exfalso;omega)⟩
  rw [if_neg h20] at h
  by_cases h21 : x.o=21
  · rw [if_pos h21] at h
    have h:=bI.1 h
    exact ⟨by omega,fun _=>by omega,fun _=>by omega,fun _=>by omega,fun _=>by omega,fun _=>by omega,fun _=>by omega,fun _=>by omega,fun _=>by first | (unfold cD;exact bI.2 (by omega)) | (exfalso;omega)⟩
  rw [if_neg h21] at h
  by_cases h22 : x.o=22
  · rw [if_pos h22] at h
    have h:=bI.1 h
    exact ⟨by omega,fun _=>by omega,fun _=>by omega,fun _=>by omega,fun _=>by omega,fun _=>by omega,fun _=>by omega,fun _=>by omega,fun _=>by first | (unfold cD;exact bI.2 (by omega)) | (exfalso;omega)⟩
  rw [if_neg h22] at h
  by_cases h23 : x.o=23
  · rw [if_pos h23] at h
    have h:=bI.1 h
    exact ⟨by omega,fun _=>by omega,fun _=>by omega,fun _=>by omega,fun _=>by omega,fun _=>by omega,fun _=>by omega,fun _=>by omega,fun _=>by first | (unfold cD;exact bI.2 (by omega)) | (exfalso;omega)⟩
  rw [if_neg h23] at h
  simp only [Bool.and_eq_true,decide_eq_true_eq,bI] at h
  exact ⟨by omega,fun _=>by omega,fun _=>by omega,fun _=>by omega,fun _=>by omega,fun _=>by omega,fun _=>by omega,fun _=>by omega,fun _=>by first | (unfold cD;exact bI.2 (by omega)) | (exfalso;omega)⟩
section
variable {P : R → Prop} {k : PV → Option R} {hp : List (List cS)}
theorem dE {i : Int} (h0 : 0≤i) (h1 : i<hp.length) (h : Ok P (k (bM (hp[i.toNat]?.getD [])))) : Ok P (bd (PV.at_ 1 true (.lst (hp.map bM)) (.int .i64 i)) k):=by
  obtain ⟨n,rfl⟩:=Int.eq_ofNat_of_zero_le h0
  have hn : n<hp.length:=by omega
  rw [Int.toNat_natCast,List.getElem?_eq_getElem hn] at h
  exact aU hn (fun _=>rfl) h
theorem oW {i : Int} (h0 : 0≤i) (h1 : i<hp.length) (h : Ok P (k (.lst (hp.map bM)))) : Ok P (bd (PV.inb (.lst (hp.map bM)) (.int .i64 i)) k):=cR h0 (by rw [List.length_map];exact h1) h
theorem aFn {i : Int} {r : List cS} (h0 : 0≤i) (h1 : i<hp.length) (h : Ok P (k (.lst ((hp.set i.toNat r).map bM)))) : Ok P (bd (PV.setCell 1 (.lst (hp.map bM)) (.int .i64 i) 0 (aV r)) k):=by
  obtain ⟨n,rfl⟩:=Int.eq_ofNat_of_zero_le h0
  have hn : n<hp.length:=by omega
  refine fU (cs:=[aV hp[n]]) (by omega) (by rw [Int.toNat_natCast,List.getElem?_map,List.getElem?_eq_getElem hn];rfl) rfl (by omega) rfl ?_
  rw [List.map_set] at h
  exact h
theorem aKr {hp : List (List cS)} (h : ∀ r∈hp,r.length≤6) (i : Nat) : (hp[i]?.getD []).length≤6:=by
  cases hx : hp[i]? with
  | none=>simp
  | some r=>exact h r (List.mem_of_getElem? hx)
end
theorem oB {α : Type} {l : List α} (h : l.length=2) : ∃ a b,l = [a,b]:=by
  match l,h with
  | [a,b],_=>exact ⟨a,b,rfl⟩
theorem aGE {l : List cF} : ∀ x∈l.map cF.pv,x.isEl 4 true=true:=by
  intro x hx
  obtain ⟨a,_,rfl⟩:=List.mem_map.1 hx
  rfl
set_option maxRecDepth 100000 in
set_option maxHeartbeats 4000000 in
theorem aMQ {m : fI} {fs0 : List cF} {fr : cF} {took : List cS} {hp : List (List cS)} {made : Int} {out : List ByteArray} {x : bY} {nc : Int} {a3 a4 a5 a6 a7 a8 : PV}
    (S : aMd m fs0 fr took hp made out) (hx : cB m.texts.length m.funcs.length fr.loc.length nc x.o x.a=true) (hu : (took.length : Int)=(bA m.funcs x).1) :
    Ok (DoR (.lst (m.texts.map PV.str)) (.lst (m.funcs.map cZ.pv)) (.int .i64 made) a3 a4 a5 a6 a7 a8 (.lst (hp.map bM)) (.lst (out.map PV.str)) fs0 (dG m fr took (fs0.length+1) hp made out x))
      (rX (.int .i64 x.o) (.int .i64 x.a) (.lst (m.texts.map PV.str)) (.lst (m.funcs.map cZ.pv)) (.int .i64 made) a3 a4 a5 a6 a7 a8 (.int .i64 0)
        (.lst (fs0.map cF.pv++[cF.pv ⟨fr.f,fr.pc,fr.loc,fr.stk++took⟩])) (.lst (hp.map bM)) (.lst (out.map PV.str))):=by
  obtain ⟨q26,q3,q67,q20,q2122,q23,q524,qj,q1⟩:=zU hx
  obtain ⟨nf,nt,par,n0,stks,nl,ns,recs,nh,nm,no,vals0⟩:=S
  have nA : (fs0.map cF.pv).length≤23:=by rw [List.length_map];exact n0
  obtain ⟨ff,fpc,floc,fstk⟩:=fr
  simp only at *
  rw [aB0]
  refine zA (by omega) ?_
  refine aF (aC (fun ho=>?_) (fun n1=>?_))
  · have e0 : bA m.funcs x=(0,1):=by unfold bA;repeat (first | rfl | rw [if_pos (by omega)] | rw [if_neg (by omega)])
    rw [e0] at hu
    obtain rfl:=List.eq_nil_of_length_eq_zero (show took.length=0 by omega)
    simp only [List.length_nil,Nat.add_zero,List.append_nil] at ns ⊢
    have e : dG m ⟨ff,fpc,floc,fstk⟩ [] (fs0.length+1) hp made out x = .next ⟨ff,fpc,floc,fstk++[qY x.a]⟩ hp made out:=by simp only [dG];repeat (first | rfl | rw [if_pos (by omega)] | rw [if_neg (by omega)])
    exact uX (aEa (by omega) (by omega) (aB (by rw [e];rfl)))
  refine aF (aC (fun ho=>?_) (fun n2=>?_))
  · have e0 : bA m.funcs x=(0,1):=by unfold bA;repeat (first | rfl | rw [if_pos (by omega)] | rw [if_neg (by omega)])
    rw [e0] at hu
    obtain rfl:=List.eq_nil_of_length_eq_zero (show took.length=0 by omega)
    simp only [List.length_nil,Nat.add_zero,List.append_nil] at ns ⊢
    have e : dG m ⟨ff,fpc,floc,fstk⟩ [] (fs0.length+1) hp made out x = .next ⟨ff,fpc,floc,fstk++[lC (decide (x.a=1))]⟩ hp made out:=by simp only [dG];repeat (first | rfl | rw [if_pos (by omega)] | rw [if_neg (by omega)])
    exact aF (nI (aEa (by omega) (by omega) (aB (by rw [e];rfl))))
  refine aF (aC (fun ho=>?_) (fun n3=>?_))
  · have e0 : bA m.funcs x=(0,1):=by unfold bA;repeat (first | rfl | rw [if_pos (by omega)] | rw [if_neg (by omega)])
    rw [e0] at hu
    obtain rfl:=List.eq_nil_of_length_eq_zero (show took.length=0 by omega)
    simp only [List.length_nil,Nat.add_zero,List.append_nil] at ns ⊢
    have e : dG m ⟨ff,fpc,floc,fstk⟩ [] (fs0.length+1) hp made out x = .next ⟨ff,fpc,floc,fstk++[xD (m.texts[x.a.toNat]?.getD (bs []))]⟩ hp made out:=by simp only [dG];repeat (first | rfl | rw [if_pos (by omega)] | rw [if_neg (by omega)])
    obtain ⟨i,hi⟩:=Int.eq_ofNat_of_zero_le (q3 ho).1
    have hil : i<m.texts.length:=by have:=q3 ho;omega
    rw [hi] at e ⊢
    rw [Int.toNat_natCast,List.getElem?_eq_getElem hil] at e
    exact aU hil (fun _=>rfl) (aW rfl (gS (by omega) (by omega) (aB (by rw [e];rfl))))
  refine aF (aC (fun ho=>?_) (fun n4=>?_))
  · have e0 : bA m.funcs x=(0,1):=by unfold bA;repeat (first | rfl | rw [if_pos (by omega)] | rw [if_neg (by omega)])
    rw [e0] at hu
    obtain rfl:=List.eq_nil_of_length_eq_zero (show took.length=0 by omega)
    simp only [List.length_nil,Nat.add_zero,List.append_nil] at ns ⊢
    have e : dG m ⟨ff,fpc,floc,fstk⟩ [] (fs0.length+1) hp made out x = .next ⟨ff,fpc,floc,fstk++[cX]⟩ hp made out:=by simp only [dG];repeat (first | rfl | rw [if_pos (by omega)] | rw [if_neg (by omega)])
    exact gS (by omega) (by omega) (aB (by rw [e];rfl))
  refine aF (aC (fun ho=>?_) (fun n5=>?_))
  · have e0 : bA m.funcs x=(0,1):=by unfold bA;repeat (first | rfl | rw [if_pos (by omega)] | rw [if_neg (by omega)])
    rw [e0] at hu
    obtain rfl:=List.eq_nil_of_length_eq_zero (show took.length=0 by omega)
    simp only [List.length_nil,Nat.add_zero,List.append_nil] at ns ⊢
    have e : dG m ⟨ff,fpc,floc,fstk⟩ [] (fs0.length+1) hp made out x = .next ⟨ff,fpc,floc,fstk++[aHr x.a]⟩ hp made out:=by simp only [dG];repeat (first | rfl | rw [if_pos (by omega)] | rw [if_neg (by omega)])
    exact aW rfl (gS (by omega) (by omega) (aB (by rw [e];rfl)))
  refine aF (aC (fun ho=>?_) (fun n6=>?_))
  · have e0 : bA m.funcs x=(0,1):=by unfold bA;repeat (first | rfl | rw [if_pos (by omega)] | rw [if_neg (by omega)])
    rw [e0] at hu
    obtain rfl:=List.eq_nil_of_length_eq_zero (show took.length=0 by omega)
    simp only [List.length_nil,Nat.add_zero,List.append_nil] at ns ⊢
    have e : dG m ⟨ff,fpc,floc,fstk⟩ [] (fs0.length+1) hp made out x = .next ⟨ff,fpc,floc,fstk++[floc[x.a.toNat]?.getD cX]⟩ hp made out:=by simp only [dG];repeat (first | rfl | rw [if_pos (by omega)] | rw [if_neg (by omega)])
    have hq:=q67 (.inl ho)
    refine bX rfl rfl (bX rfl rfl (aA (y:=aV floc) rfl (eH (by omega) (by omega) (bX rfl rfl (aA (y:=aV floc) rfl (nE (by omega) (by omega) (fun v hv=>?_)))))))
    rw [hv] at e
    exact aEa (by omega) (by omega) (aB (by rw [e];rfl))
  refine aF (aC (fun ho=>?_) (fun n7=>?_))
  · have e0 : bA m.funcs x=(1,0):=by unfold bA;repeat (first | rfl | rw [if_pos (by omega)] | rw [if_neg (by omega)])
    rw [e0] at hu
    obtain ⟨a,rfl⟩:=List.length_eq_one_iff.1 (show took.length=1 by omega)
    have va:=vals0 a (by simp)
    have sa:=bU va
    have ns : fstk.length+1≤16:=ns
    have e : dG m ⟨ff,fpc,floc,fstk⟩ [a] (fs0.length+1) hp made out x = .next ⟨ff,fpc,floc.set x.a.toNat a,fstk⟩ hp made out:=by simp only [dG];repeat (first | rfl | rw [if_pos (by omega)] | rw [if_neg (by omega)])
    have hq:=q67 (.inr ho)
    refine fV (by omega) (by first | omega | (simp;omega)) (aD rfl (aA rfl (aA rfl (aA rfl (?_)))))
    refine bX rfl rfl (bX rfl rfl (aA (y:=aV floc) rfl (eH (by omega) (by omega) (bX rfl rfl (aA (y:=aV floc) rfl (bX rfl rfl (aA (y:=aV floc) rfl ?_)))))))
    refine nJ (v:=a) (by omega) (by omega) (bX rfl rfl (aA (y:=aV floc) rfl (cH rfl rfl (by omega) rfl (aB (by rw [e];rfl)))))
  refine aF (aC (fun ho=>?_) (fun n8=>?_))
  · have e0 : bA m.funcs x=(1,2):=by unfold bA;repeat (first | rfl | rw [if_pos (by omega)] | rw [if_neg (by omega)])
    rw [e0] at hu
    obtain ⟨a,rfl⟩:=List.length_eq_one_iff.1 (show took.length=1 by omega)
    have va:=vals0 a (by simp)
    have sa:=bU va
    have ns : fstk.length+1≤16:=ns
    have e : dG m ⟨ff,fpc,floc,fstk⟩ [a] (fs0.length+1) hp made out x = .next ⟨ff,fpc,floc,fstk++[a,a]⟩ hp made out:=by simp only [dG];repeat (first | rfl | rw [if_pos (by omega)] | rw [if_neg (by omega)])
    refine fV (by omega) (by first | omega | (simp;omega)) (aD rfl (aA rfl (aA rfl (aA rfl (?_)))))
    refine gS (by omega) (by omega) (gS (by omega) (by simp;omega) (aB ?_))
    rw [e]
    show _=_
    simp only [List.append_assoc]
    rfl
  refine aF (aC (fun ho=>?_) (fun n9=>?_))
  · have e0 : bA m.funcs x=(1,0):=by unfold bA;repeat (first | rfl | rw [if_pos (by omega)] | rw [if_neg (by omega)])
    rw [e0] at hu
    obtain ⟨a,rfl⟩:=List.length_eq_one_iff.1 (show took.length=1 by omega)
    have va:=vals0 a (by simp)
    have sa:=bU va
    have ns : fstk.length+1≤16:=ns
    have e : dG m ⟨ff,fpc,floc,fstk⟩ [a] (fs0.length+1) hp made out x = .next ⟨ff,fpc,floc,fstk++[]⟩ hp made out:=by simp only [dG];repeat (first | rfl | rw [if_pos (by omega)] | rw [if_neg (by omega)])
    refine fV (by omega) (by first | omega | (simp;omega)) (aB ?_)
    rw [e,List.append_nil]
    rfl
  refine aF (aC (fun ho=>?_) (fun n10=>?_))
  · have e0 : bA m.funcs x=(2,2):=by unfold bA;repeat (first | rfl | rw [if_pos (by omega)] | rw [if_neg (by omega)])
    rw [e0] at hu
    obtain ⟨a,b,rfl⟩:=oB (show took.length=2 by omega)
    have va:=vals0 a (by simp)
    have vb:=vals0 b (by simp)
    have sa:=bU va
    have sb:=bU vb
    rw [show fstk++[a,b]=fstk++[a]++[b] by simp]
    have ns : fstk.length+2≤16:=ns
    have e : dG m ⟨ff,fpc,floc,fstk⟩ [a,b] (fs0.length+1) hp made out x = .next ⟨ff,fpc,floc,fstk++[b,a]⟩ hp made out:=by simp only [dG];repeat (first | rfl | rw [if_pos (by omega)] | rw [if_neg (by omega)])
    refine fV (by omega) (by first | omega | (simp;omega)) (aD rfl (aA rfl (aA rfl (aA rfl (?_)))))
    refine fV (by omega) (by first | omega | (simp;omega)) (aD rfl (aA rfl (aA rfl (aA rfl (?_)))))
    refine gS (by omega) (by omega) (gS (by omega) (by simp;omega) (aB ?_))
    rw [e]
    show _=_
    simp only [List.append_assoc]
    rfl
  refine aF (aC (fun ho=>?_) (fun n11=>?_))
  · have e0 : bA m.funcs x=(2,1):=by unfold bA;repeat (first | rfl | rw [if_pos (by omega)] | rw [if_neg (by omega)])
    rw [e0] at hu
    obtain ⟨a,b,rfl⟩:=oB (show took.length=2 by omega)
    have va:=vals0 a (by simp)
    have vb:=vals0 b (by simp)
    have sa:=bU va
    have sb:=bU vb
    rw [show fstk++[a,b]=fstk++[a]++[b] by simp]
    have ns : fstk.length+2≤16:=ns
    have e : dG m ⟨ff,fpc,floc,fstk⟩ [a,b] (fs0.length+1) hp made out x=if (nM x.o a b).2≠0 then .trap (nM x.o a b).2 else .next ⟨ff,fpc,floc,fstk++[(nM x.o a b).1]⟩ hp made out:=by simp only [dG];repeat (first | rfl | rw [if_pos (by omega)] | rw [if_neg (by omega)])
    refine fV (by omega) (by first | omega | (simp;omega)) (aD rfl (aA rfl (aA rfl (aA rfl (?_)))))
    refine fV (by omega) (by first | omega | (simp;omega)) (aD rfl (aA rfl (aA rfl (aA rfl (?_)))))
    refine nD (aCb (o:=x.o) (a:=a) (b:=b) (by omega) ⟨by omega,by omega⟩) (aS rfl (aS rfl (aD rfl (aA rfl (aA rfl (aA rfl (aW rfl (gS (by omega) (by omega) (aB ?_)))))))))
    by_cases ht : (nM x.o a b).2≠0
    · rw [e,if_pos ht];exact ⟨ht,rfl⟩
    · rw [e,if_neg ht]
      have ht : (nM x.o a b).2=0:=by simpa using ht
      rw [ht];rfl
  refine aF (aC (fun ho=>?_) (fun n12=>?_))
  · have e0 : bA m.funcs x=(2,1):=by unfold bA;repeat (first | rfl | rw [if_pos (by omega)] | rw [if_neg (by omega)])
    rw [e0] at hu
    obtain ⟨a,b,rfl⟩:=oB (show took.length=2 by omega)
    have va:=vals0 a (by simp)
    have vb:=vals0 b (by simp)
    have sa:=bU va
    have sb:=bU vb
    rw [show fstk++[a,b]=fstk++[a]++[b] by simp]
    have ns : fstk.length+2≤16:=ns
    have e : dG m ⟨ff,fpc,floc,fstk⟩ [a,b] (fs0.length+1) hp made out x=if (nM x.o a b).2≠0 then .trap (nM x.o a b).2 else .next ⟨ff,fpc,floc,fstk++[(nM x.o a b).1]⟩ hp made out:=by simp only [dG];repeat (first | rfl | rw [if_pos (by omega)] | rw [if_neg (by omega)])
    refine fV (by omega) (by first | omega | (simp;omega)) (aD rfl (aA rfl (aA rfl (aA rfl (?_)))))
    refine fV (by omega) (by first | omega | (simp;omega)) (aD rfl (aA rfl (aA rfl (aA rfl (?_)))))
    refine nD (aCb (o:=x.o) (a:=a) (b:=b) (by omega) ⟨by omega,by omega⟩) (aS rfl (aS rfl (aD rfl (aA rfl (aA rfl (aA rfl (aW rfl (gS (by omega) (by omega) (aB ?_)))))))))
    by_cases ht : (nM x.o a b).2≠0
    · rw [e,if_pos ht];exact ⟨ht,rfl⟩
    · rw [e,if_neg ht]
      have ht : (nM x.o a b).2=0:=by simpa using ht
      rw [ht];rfl
  refine aF (aC (fun ho=>?_) (fun n13=>?_))
  · have e0 : bA m.funcs x=(2,1):=by unfold bA;repeat (first | rfl | rw [if_pos (by omega)] | rw [if_neg (by omega)])
    rw [e0] at hu
    obtain ⟨a,b,rfl⟩:=oB (show took.length=2 by omega)
    have va:=vals0 a (by simp)
    have vb:=vals0 b (by simp)
    have sa:=bU va
    have sb:=bU vb
    rw [show fstk++[a,b]=fstk++[a]++[b] by simp]
    have ns : fstk.length+2≤16:=ns
    have e : dG m ⟨ff,fpc,floc,fstk⟩ [a,b] (fs0.length+1) hp made out x=if (nM x.o a b).2≠0 then .trap (nM x.o a b).2 else .next ⟨ff,fpc,floc,fstk++[(nM x.o a b).1]⟩ hp made out:=by simp only [dG];repeat (first | rfl | rw [if_pos (by omega)] | rw [if_neg (by omega)])
    refine fV (by omega) (by first | omega | (simp;omega)) (aD rfl (aA rfl (aA rfl (aA rfl (?_)))))
    refine fV (by omega) (by first | omega | (simp;omega)) (aD rfl (aA rfl (aA rfl (aA rfl (?_)))))
    refine nD (aCb (o:=x.o) (a:=a) (b:=b) (by omega) ⟨by omega,by omega⟩) (aS rfl (aS rfl (aD rfl (aA rfl (aA rfl (aA rfl (aW rfl (gS (by omega) (by omega) (aB ?_)))))))))
    by_cases ht : (nM x.o a b).2≠0
    · rw [e,if_pos ht];exact ⟨ht,rfl⟩
    · rw [e,if_neg ht]
      have ht : (nM x.o a b).2=0:=by simpa using ht
      rw [ht];rfl
  refine aF (aC (fun ho=>?_) (fun n14=>?_))
  · have e0 : bA m.funcs x=(2,1):=by unfold bA;repeat (first | rfl | rw [if_pos (by omega)] | rw [if_neg (by omega)])
    rw [e0] at hu
    obtain ⟨a,b,rfl⟩:=oB (show took.length=2 by omega)
    have va:=vals0 a (by simp)
    have vb:=vals0 b (by simp)
    have sa:=bU va
    have sb:=bU vb
    rw [show fstk++[a,b]=fstk++[a]++[b] by simp]
    have ns : fstk.length+2≤16:=ns
    have e : dG m ⟨ff,fpc,floc,fstk⟩ [a,b] (fs0.length+1) hp made out x=if (nM x.o a b).2≠0 then .trap (nM x.o a b).2 else .next ⟨ff,fpc,floc,fstk++[(nM x.o a b).1]⟩ hp made out:=by simp only [dG];repeat (first | rfl | rw [if_pos (by omega)] | rw [if_neg (by omega)])
    refine fV (by omega) (by first | omega | (simp;omega)) (aD rfl (aA rfl (aA rfl (aA rfl (?_)))))
    refine fV (by omega) (by first | omega | (simp;omega)) (aD rfl (aA rfl (aA rfl (aA rfl (?_)))))
    refine nD (aCb (o:=x.o) (a:=a) (b:=b) (by omega) ⟨by omega,by omega⟩) (aS rfl (aS rfl (aD rfl (aA rfl (aA rfl (aA rfl (aW rfl (gS (by omega) (by omega) (aB ?_)))))))))
    by_cases ht : (nM x.o a b).2≠0
    · rw [e,if_pos ht];exact ⟨ht,rfl⟩
    · rw [e,if_neg ht]
      have ht : (nM x.o a b).2=0:=by simpa using ht
      rw [ht];rfl
  refine aF (aC (fun ho=>?_) (fun n15=>?_))
  · have e0 : bA m.funcs x=(2,1):=by unfold bA;repeat (first | rfl | rw [if_pos (by omega)] | rw [if_neg (by omega)])
    rw [e0] at hu
    obtain ⟨a,b,rfl⟩:=oB (show took.length=2 by omega)
    have va:=vals0 a (by simp)
    have vb:=vals0 b (by simp)
    have sa:=bU va
    have sb:=bU vb
    rw [show fstk++[a,b]=fstk++[a]++[b] by simp]
    have ns : fstk.length+2≤16:=ns
    have e : dG m ⟨ff,fpc,floc,fstk⟩ [a,b] (fs0.length+1) hp made out x=if (nM x.o a b).2≠0 then .trap (nM x.o a b).2 else .next ⟨ff,fpc,floc,fstk++[(nM x.o a b).1]⟩ hp made out:=by simp only [dG];repeat (first | rfl | rw [if_pos (by omega)] | rw [if_neg (by omega)])
    refine fV (by omega) (by first | omega | (simp;omega)) (aD rfl (aA rfl (aA rfl (aA rfl (?_)))))
    refine fV (by omega) (by first | omega | (simp;omega)) (aD rfl (aA rfl (aA rfl (aA rfl (?_)))))
    refine nD (aCb (o:=x.o) (a:=a) (b:=b) (by omega) ⟨by omega,by omega⟩) (aS rfl (aS rfl (aD rfl (aA rfl (aA rfl (aA rfl (aW rfl (gS (by omega) (by omega) (aB ?_)))))))))
    by_cases ht : (nM x.o a b).2≠0
    · rw [e,if_pos ht];exact ⟨ht,rfl⟩
    · rw [e,if_neg ht]
      have ht : (nM x.o a b).2=0:=by simpa using ht
      rw [ht];rfl
  refine aF (aC (fun ho=>?_) (fun n16=>?_))
  · have e0 : bA m.funcs x=(1,1):=by unfold bA;repeat (first | rfl | rw [if_pos (by omega)] | rw [if_neg (by omega)])
    rw [e0] at hu
    obtain ⟨a,rfl⟩:=List.length_eq_one_iff.1 (show took.length=1 by omega)
    have va:=vals0 a (by simp)
    have sa:=bU va
    have ns : fstk.length+1≤16:=ns
    have e : dG m ⟨ff,fpc,floc,fstk⟩ [a] (fs0.length+1) hp made out x=if (uY a).2≠0 then .trap (uY a).2 else .next ⟨ff,fpc,floc,fstk++[(uY a).1]⟩ hp made out:=by simp only [dG];repeat (first | rfl | rw [if_pos (by omega)] | rw [if_neg (by omega)])
    refine fV (by omega) (by first | omega | (simp;omega)) (?_)
    refine nD (aL1 (v:=a)) (aS rfl (aS rfl (aD rfl (aA rfl (aA rfl (aA rfl (aW rfl (gS (by omega) (by omega) (aB ?_)))))))))
    by_cases ht : (uY a).2≠0
    · rw [e,if_pos ht];exact ⟨ht,rfl⟩
    · rw [e,if_neg ht]
      have ht : (uY a).2=0:=by simpa using ht
      rw [ht];rfl
  refine aF (aC (fun ho=>?_) (fun n17=>?_))
  · have e0 : bA m.funcs x=(0,0):=by unfold bA;repeat (first | rfl | rw [if_pos (by omega)] | rw [if_neg (by omega)])
    rw [e0] at hu
    obtain rfl:=List.eq_nil_of_length_eq_zero (show took.length=0 by omega)
    simp only [List.length_nil,Nat.add_zero,List.append_nil] at ns ⊢
    have e : dG m ⟨ff,fpc,floc,fstk⟩ [] (fs0.length+1) hp made out x = .next ⟨ff,x.a,floc,fstk⟩ hp made out:=by simp only [dG];repeat (first | rfl | rw [if_pos (by omega)] | rw [if_neg (by omega)])
    exact aW rfl (cH rfl rfl (by omega) rfl (aB (by rw [e];rfl)))
  refine aF (aC (fun ho=>?_) (fun n18=>?_))
  · have e0 : bA m.funcs x=(1,0):=by unfold bA;repeat (first | rfl | rw [if_pos (by omega)] | rw [if_neg (by omega)])
    rw [e0] at hu
    obtain ⟨a,rfl⟩:=List.length_eq_one_iff.1 (show took.length=1 by omega)
    have va:=vals0 a (by simp)
    have sa:=bU va
    have ns : fstk.length+1≤16:=ns
    have e : dG m ⟨ff,fpc,floc,fstk⟩ [a] (fs0.length+1) hp made out x=if a.k≠2 then .trap 1 else if (decide (a.n=1)==decide (x.o=18))=true then .next ⟨ff,x.a,floc,fstk⟩ hp made out else .next ⟨ff,fpc,floc,fstk++[]⟩ hp made out:=by simp only [dG];repeat (first | rfl | rw [if_pos (by omega)] | rw [if_neg (by omega)])
    refine fV (by omega) (by first | omega | (simp;omega)) (aD rfl (aA rfl (aA rfl (aA rfl (?_)))))
    refine bC (aK (fun h=>aB (by rw [e,if_pos h];exact ⟨by omega,rfl⟩)) (fun h=>?_))
    rw [if_neg (by simpa using h)] at e
    refine aF (aF (vO (aZ (fun hb=>?_) (fun hb=>?_))))
    · rw [if_pos hb] at e
      exact aW rfl (cH rfl rfl (by omega) rfl (aB (by rw [e];rfl)))
    · rw [if_neg (by rw [hb];simp)] at e
      exact aB (by rw [e,List.append_nil];rfl)
  refine aF (aC (fun ho=>?_) (fun n19=>?_))
  · have e0 : bA m.funcs x=(1,0):=by unfold bA;repeat (first | rfl | rw [if_pos (by omega)] | rw [if_neg (by omega)])
    rw [e0] at hu
    obtain ⟨a,rfl⟩:=List.length_eq_one_iff.1 (show took.length=1 by omega)
    have va:=vals0 a (by simp)
    have sa:=bU va
    have ns : fstk.length+1≤16:=ns
    have e : dG m ⟨ff,fpc,floc,fstk⟩ [a] (fs0.length+1) hp made out x=if a.k≠2 then .trap 1 else if (decide (a.n=1)==decide (x.o=18))=true then .next ⟨ff,x.a,floc,fstk⟩ hp made out else .next ⟨ff,fpc,floc,fstk++[]⟩ hp made out:=by simp only [dG];repeat (first | rfl | rw [if_pos (by omega)] | rw [if_neg (by omega)])
    refine fV (by omega) (by first | omega | (simp;omega)) (aD rfl (aA rfl (aA rfl (aA rfl (?_)))))
    refine bC (aK (fun h=>aB (by rw [e,if_pos h];exact ⟨by omega,rfl⟩)) (fun h=>?_))
    rw [if_neg (by simpa using h)] at e
    refine aF (aF (vO (aZ (fun hb=>?_) (fun hb=>?_))))
    · rw [if_pos hb] at e
      exact aW rfl (cH rfl rfl (by omega) rfl (aB (by rw [e];rfl)))
    · rw [if_neg (by rw [hb];simp)] at e
      exact aB (by rw [e,List.append_nil];rfl)
  refine aF (aC (fun ho=>?_) (fun n20=>?_))
  · have e0 : bA m.funcs x=(0,1):=by unfold bA;repeat (first | rfl | rw [if_pos (by omega)] | rw [if_neg (by omega)])
    rw [e0] at hu
    obtain rfl:=List.eq_nil_of_length_eq_zero (show took.length=0 by omega)
    simp only [List.length_nil,Nat.add_zero,List.append_nil] at ns ⊢
    have e : dG m ⟨ff,fpc,floc,fstk⟩ [] (fs0.length+1) hp made out x=if made=120 then .trap 7 else .next ⟨ff,fpc,floc,fstk++[aK9 hp.length]⟩ (hp++[List.replicate x.a.toNat cX]) (made+1) out:=by simp only [dG];repeat (first | rfl | rw [if_pos (by omega)] | rw [if_neg (by omega)])
    have hq:=q20 ho
    refine aF (aC (fun h=>aB (by rw [e,if_pos h];exact ⟨by omega,rfl⟩)) (fun h=>?_))
    rw [if_neg h] at e
    refine aG (aW rfl (gS (by omega) (by omega) (?_)))
    refine tR (by omega) (by omega) (dZ (aC (fun _=>?_) (fun h=>by omega)))
    refine tR (by omega) (by omega) (fA (by simp;omega) (fun x hx=>by simp only [List.mem_singleton] at hx;subst hx;rfl) (aR (by omega) (aW rfl (aB ?_))))
    rw [e]
    show _=_
    rw [List.map_append]
    rfl
  refine aF (aC (fun ho=>?_) (fun n21=>?_))
  · have e0 : bA m.funcs x=(1,1):=by unfold bA;repeat (first | rfl | rw [if_pos (by omega)] | rw [if_neg (by omega)])
    rw [e0] at hu
    obtain ⟨a,rfl⟩:=List.length_eq_one_iff.1 (show took.length=1 by omega)
    have va:=vals0 a (by simp)
    have sa:=bU va
    have ns : fstk.length+1≤16:=ns
    have e : dG m ⟨ff,fpc,floc,fstk⟩ [a] (fs0.length+1) hp made out x=if a.k≠4 then .trap 1 else if (hp[a.n.toNat]?.getD []).length≤x.a then .trap 4 else .next ⟨ff,fpc,floc,fstk++[(hp[a.n.toNat]?.getD [])[x.a.toNat]?.getD cX]⟩ hp made out:=by simp only [dG];repeat (first | rfl | rw [if_pos (by omega)] | rw [if_neg (by omega)])
    refine fV (by omega) (by first | omega | (simp;omega)) (aD rfl (aA rfl (aA rfl (aA rfl (?_)))))
    have hq:=q2122 (.inl ho)
    refine bC (aK (fun h=>aB (by rw [e,if_pos h];exact ⟨by omega,rfl⟩)) (fun h=>?_))
    rw [if_neg (by simpa using h)] at e
    have hr:=rJ va h
    have hlen:=aKr recs a.n.toNat
    refine oW (by omega) (by omega) (dE (by omega) (by omega) (dE (by omega) (by omega) (aA rfl (bJ ?_))))
    refine dP (aC (fun h=>aB (by rw [e,if_pos h];exact ⟨by omega,rfl⟩)) (fun h=>?_))
    rw [if_neg h] at e
    refine oW (by omega) (by omega) (dE (by omega) (by omega) (dE (by omega) (by omega) (aA rfl (eH (by omega) (by omega) (dE (by omega) (by omega) (aA rfl ?_))))))
    refine nE (by omega) (by omega) (fun v hv=>?_)
    rw [hv] at e
    exact aEa (by omega) (by omega) (aB (by rw [e];rfl))
  refine aF (aC (fun ho=>?_) (fun n22=>?_))
  · have e0 : bA m.funcs x=(2,0):=by unfold bA;repeat (first | rfl | rw [if_pos (by omega)] | rw [if_neg (by omega)])
    rw [e0] at hu
    obtain ⟨a,b,rfl⟩:=oB (show took.length=2 by omega)
    have va:=vals0 a (by simp)
    have vb:=vals0 b (by simp)
    have sa:=bU va
    have sb:=bU vb
    rw [show fstk++[a,b]=fstk++[a]++[b] by simp]
    have ns : fstk.length+2≤16:=ns
    have e : dG m ⟨ff,fpc,floc,fstk⟩ [a,b] (fs0.length+1) hp made out x=if a.k≠4 then .trap 1 else if (hp[a.n.toNat]?.getD []).length≤x.a then .trap 4 else .next ⟨ff,fpc,floc,fstk⟩ (hp.set a.n.toNat ((hp[a.n.toNat]?.getD []).set x.a.toNat b)) made out:=by simp only [dG];repeat (first | rfl | rw [if_pos (by omega)] | rw [if_neg (by omega)])
    refine fV (by omega) (by first | omega | (simp;omega)) (aD rfl (aA rfl (aA rfl (aA rfl (?_)))))
    refine fV (by omega) (by first | omega | (simp;omega)) (aD rfl (aA rfl (aA rfl (aA rfl (?_)))))
    have hq:=q2122 (.inr ho)
    refine bC (aK (fun h=>aB (by rw [e,if_pos h];exact ⟨by omega,rfl⟩)) (fun h=>?_))
    rw [if_neg (by simpa using h)] at e
    have hr:=rJ va h
    have hlen:=aKr recs a.n.toNat
    refine oW (by omega) (by omega) (dE (by omega) (by omega) (dE (by omega) (by omega) (aA rfl (bJ ?_))))
    refine dP (aC (fun h=>aB (by rw [e,if_pos h];exact ⟨by omega,rfl⟩)) (fun h=>?_))
    rw [if_neg h] at e
    refine oW (by omega) (by omega) (dE (by omega) (by omega) (dE (by omega) (by omega) (aA rfl (eH (by omega) (by omega) (dE (by omega) (by omega) (aA rfl ?_))))))
    refine dE (by omega) (by omega) (aA rfl (nJ (v:=b) (by omega) (by omega) (dE (by omega) (by omega) (aA rfl (aFn (by omega) (by omega) (aB (by rw [e];rfl)))))))
  refine aF (aC (fun ho=>?_) (fun n23=>?_))
  · have hq:=q23 ho
    have e0 : bA m.funcs x=(x.a+1,1):=by unfold bA;repeat (first | rfl | rw [if_pos (by omega)] | rw [if_neg (by omega)])
    rw [e0] at hu
    obtain ⟨a,args,rfl⟩ : ∃ a l,took=a::l:=by
      cases took with
      | nil=>simp at hu;omega
      | cons a l=>exact ⟨a,l,rfl⟩
    have va:=vals0 a (by simp)
    have sa:=bU va
    have ns : fstk.length+(args.length+1)≤16:=ns
    have hu : ((args.length+1 : Nat) : Int)=x.a+1:=hu
    have e : dG m ⟨ff,fpc,floc,fstk⟩ (a::args) (fs0.length+1) hp made out x=if a.k≠5 then .trap 1 else if eK m.funcs a.n≠x.a then .trap 5 else if fs0.length+1=24 then .trap 6 else .call ⟨ff,fpc,floc,fstk⟩ (qE m.funcs a.n args):=by simp only [dG];repeat (first | rfl | rw [if_pos (by omega)] | rw [if_neg (by omega)])
    have hlen : (fstk++a::args).length=fstk.length+args.length+1:=by simp;omega
    refine bX rfl rfl (bX rfl rfl (bX rfl rfl (aA (y:=aV (fstk++a::args)) rfl (bJ (bG (by omega) (bG (by omega) ?_))))))
    have ei : ((fstk++a::args).length : Int) - 1 - x.a=fstk.length:=by omega
    rw [ei]
    refine bX rfl rfl (aA (y:=aV (fstk++a::args)) rfl (eH (by omega) (by omega) (bX rfl rfl (aA (y:=aV (fstk++a::args)) rfl (nE (by omega) (by omega) (fun v hv=>?_))))))
    rw [Int.toNat_natCast,List.getElem?_append_right (Nat.le_refl _),Nat.sub_self] at hv
    cases hv
    refine aD rfl (aA rfl (aA rfl (aA rfl (?_))))
    refine bC (aK (fun h=>aB (by rw [e,if_pos h];exact ⟨by omega,rfl⟩)) (fun h=>?_))
    rw [if_neg (by simpa using h)] at e
    have hr:=aC1 va h
    refine aJI (by omega) (by omega) (by omega) (fun _ _=>aA rfl ?_)
    refine bC (aK (fun h=>aB (by rw [e,if_pos h];exact ⟨by omega,rfl⟩)) (fun h=>?_))
    rw [if_neg (by simpa using h)] at e
    rw [show fstk++a::args=fstk++[a]++args by simp]
    refine aIK (under:=true) (s1:=fstk) (by omega) par nA (by simp;omega) (.inl ⟨rfl,a,rfl⟩) hr (by omega) (fun hd=>aB ?_) (fun hd=>aB ?_)
    · rw [e,if_pos (by rw [List.length_map] at hd;omega)];exact ⟨by omega,rfl⟩
    · rw [e,if_neg (by rw [List.length_map] at hd;omega)];rfl
  refine aF (aC (fun ho=>?_) (fun n24=>?_))
  · have hq:=q524 (.inr ho)
    have e0 : bA m.funcs x=(eK m.funcs x.a,1):=by unfold bA;repeat (first | rfl | rw [if_pos (by omega)] | rw [if_neg (by omega)])
    rw [e0] at hu
    have e : dG m ⟨ff,fpc,floc,fstk⟩ took (fs0.length+1) hp made out x=if fs0.length+1=24 then .trap 6 else .call ⟨ff,fpc,floc,fstk⟩ (qE m.funcs x.a took):=by simp only [dG];repeat (first | rfl | rw [if_pos (by omega)] | rw [if_neg (by omega)])
    refine aIK (under:=false) (s1:=fstk) (by omega) par nA (by omega) (.inr ⟨rfl,rfl⟩) hq (by omega) (fun hd=>aB ?_) (fun hd=>aB ?_)
    · rw [e,if_pos (by rw [List.length_map] at hd;omega)];exact ⟨by omega,rfl⟩
    · rw [e,if_neg (by rw [List.length_map] at hd;omega)];rfl
  refine aF (aC (fun ho=>?_) (fun n25=>?_))
  · have e0 : bA m.funcs x=(1,0):=by unfold bA;repeat (first | rfl | rw [if_pos (by omega)] | rw [if_neg (by omega)])
    rw [e0] at hu
    obtain ⟨a,rfl⟩:=List.length_eq_one_iff.1 (show took.length=1 by omega)
    have va:=vals0 a (by simp)
    have sa:=bU va
    have ns : fstk.length+1≤16:=ns
    have e : dG m ⟨ff,fpc,floc,fstk⟩ [a] (fs0.length+1) hp made out x = .ret a:=by simp only [dG];repeat (first | rfl | rw [if_pos (by omega)] | rw [if_neg (by omega)])
    refine fV (by omega) (by first | omega | (simp;omega)) (aD rfl (aA rfl (aA rfl (aA rfl (?_)))))
    have e1 : ((fs0.map cF.pv++[cF.pv ⟨ff,fpc,floc,fstk⟩]).length : Int) - 1=fs0.length:=by simp
    have hel : ∀ y∈fs0.map cF.pv++[cF.pv ⟨ff,fpc,floc,fstk⟩],y.isEl 4 true=true:=fun y hy=>(List.mem_append.1 hy).elim (aGE y) (fun h=>by simp only [List.mem_singleton] at h;subst h;rfl)
    refine cJ (bG (by simp;omega) ?_)
    rw [e1]
    have e2 : ((fs0.map cF.pv++[cF.pv ⟨ff,fpc,floc,fstk⟩]).take (fs0.length : Int).toNat).drop (0 : Int).toNat=fs0.map cF.pv:=by
      rw [Int.toNat_natCast,Int.toNat_zero,List.drop_zero,List.take_left' (by simp)]
    refine vP (by omega) (by omega) (by simp;omega) hel ?_
    refine vP (by omega) (by omega) (by simp;omega) hel ?_
    rw [e2]
    refine aG (aF (aC (fun h=>aB ?_) (fun h=>?_)))
    · rw [e]
      have : fs0 = []:=List.eq_nil_of_length_eq_zero (by omega)
      subst this
      rfl
    · obtain ⟨l,g,rfl⟩ : ∃ l g,fs0=l++[g]:=⟨fs0.dropLast,fs0.getLast (fun e=>by rw [e] at h;simp at h),(List.dropLast_concat_getLast _).symm⟩
      have hg:=stks g (by simp)
      obtain ⟨gf,gpc,gloc,gstk⟩:=g
      simp only at hg
      rw [List.map_append]
      refine gS (by rw [List.length_map];simp at n0;omega) (by omega) (aB ?_)
      rw [e]
      show _=_
      rw [if_neg (by simp),wK,List.map_append]
      rfl
  refine aF (aC (fun ho=>?_) (fun n26=>?_))
  · have e0 : bA m.funcs x=(1,0):=by unfold bA;repeat (first | rfl | rw [if_pos (by omega)] | rw [if_neg (by omega)])
    rw [e0] at hu
    obtain ⟨a,rfl⟩:=List.length_eq_one_iff.1 (show took.length=1 by omega)
    have va:=vals0 a (by simp)
    have sa:=bU va
    have ns : fstk.length+1≤16:=ns
    have e : dG m ⟨ff,fpc,floc,fstk⟩ [a] (fs0.length+1) hp made out x=if out.length=200 then .trap 8 else .next ⟨ff,fpc,floc,fstk⟩ hp made (out++[gC a hp]):=by simp only [dG];repeat (first | rfl | rw [if_pos (by omega)] | rw [if_neg (by omega)])
    refine fV (by omega) (by first | omega | (simp;omega)) (aD rfl (aA rfl (aA rfl (aA rfl (?_)))))
    refine aG (aF (aC (fun h=>aB (by rw [e,if_pos (by omega)];exact ⟨by omega,rfl⟩)) (fun h=>?_)))
    rw [if_neg (by omega)] at e
    refine aH (aHw (v:=a) (hp:=hp) (nf:=m.funcs.length) (by omega) (by omega) (fun r hr=>by have:=recs r hr;omega) va) (fun r hr=>?_)
    subst hr
    refine dU rfl (jH (by simp) (fun x hx=>by simp only [List.mem_singleton] at hx;subst hx;rfl) (fA (by simp;omega) (fun x hx=>by simp only [List.mem_singleton] at hx;subst hx;rfl) (aB ?_)))
    rw [e]
    show _=_
    rw [List.map_append]
    rfl
  omega
theorem aNt {a b : ByteArray} (h : a.data.toList=b.data.toList) : a=b:=by
  cases a;cases b;congr 1;exact Array.toList_inj.1 h
theorem zV (a b : ByteArray) : (a++b).data.toList=a.data.toList++b.data.toList:=by
  rw [ByteArray.data_append,Array.toList_append]
theorem vA : ∀ (j : Nat) (n : Nat),n<10 ^ (j+1)→(wJ j (n : Int)).data.toList=Lib.decDigits n
  | 0,n,h=>by
    rw [Lib.decDigits_one (by omega)]
    show [UInt8.ofNat (48+(n : Int)).toNat]=_
    rw [show (48+(n : Int)).toNat=48+n by omega]
  | j+1,n,h=>by
    unfold wJ
    by_cases h1 : (n : Int)<10
    · rw [if_pos h1,Lib.decDigits_one (by omega)]
      show [UInt8.ofNat (48+(n : Int)).toNat]=_
      rw [show (48+(n : Int)).toNat=48+n by omega]
    · rw [if_neg h1,zV,show ((n : Int) / 10)=((n / 10 : Nat) : Int) by omega,vA j (n / 10) (by have : 10 ^ (j+1+1)=10 ^ (j+1)*10:=Nat.pow_succ ..;omega)]
      conv=>rhs;rw [Lib.decDigits,dif_neg (by omega)]
      show _++[UInt8.ofNat (48+(n : Int) % 10).toNat]=_
      rw [show (48+(n : Int) % 10).toNat=48+n % 10 by omega]
theorem aIL {n : Int} (hn : -1000000000≤n∧n≤1000000000) : (⟨(Lib.itoa n).toArray⟩ : ByteArray)=gW n:=by
  refine aNt ?_
  show Lib.itoa n=(gW n).data.toList
  unfold Lib.itoa gW
  by_cases h0 : n<0
  · rw [if_pos h0,if_pos h0]
    obtain ⟨q,rfl⟩ : ∃ q : Nat,n = -(q : Int):=⟨n.natAbs,by omega⟩
    rw [show (-(q : Int)).natAbs=q by omega]
    by_cases h9 : -(q : Int) < -9
    · obtain ⟨e1,e2⟩:=aIC h0
      rw [if_pos h9,e1,e2,Int.neg_neg,Int.neg_neg,Int.neg_neg,zV,zV,show (q : Int) / 10=((q / 10 : Nat) : Int) by omega,show (q : Int) % 10=((q % 10 : Nat) : Int) by omega,
        vA 18 (q / 10) (by omega),vA 18 (q % 10) (by omega),Lib.decDigits_one (show q % 10<10 by omega)]
      conv=>lhs;rw [Lib.decDigits,dif_neg (by omega)]
      rfl
    · rw [if_neg h9,Int.neg_neg,zV,vA 18 q (by omega)]
      rfl
  · rw [if_neg h0,if_neg h0]
    obtain ⟨q,rfl⟩:=Int.eq_ofNat_of_zero_le (show 0≤n by omega)
    rw [Int.toNat_natCast,vA 18 q (by omega)]
section
variable {P : R → Prop} {k : R → Option R}
theorem aHA {n : Int} (hn : -1000000000≤n∧n≤1000000000) (h : Ok P (k [.str (gW n)])) : Ok P (bd (strconv_Itoa (.int .i64 n)) k):=by
  refine aH (Q:=fun r=>r = [.str (gW n)]) ?_ (fun r hr=>by rw [hr];exact h)
  rw [aDY]
  unfold xQ
  simp only
  rw [if_pos (by omega)]
  exact aB (by rw [aIL hn])
theorem aJL {b : Bool} (h : Ok P (k [.str (if b then bs [116,114,117,101] else bs [102,97,108,115,101])])) : Ok P (bd (nB (.bool b)) k):=by
  refine aH (Q:=fun r=>r = [.str (if b then bs [116,114,117,101] else bs [102,97,108,115,101])]) ?_ (fun r hr=>by rw [hr];exact h)
  rw [xG]
  refine aH (Q:=fun r=>r = [.str (if b then bs [116,114,117,101] else bs [102,97,108,115,101])]) ?_ (fun r hr=>by rw [hr];exact aB rfl)
  rw [oV]
  cases b
  · exact aQ (aB rfl)
  · exact bB (aB rfl)
theorem aMR {s : ByteArray} (hs : s.size≤1000000) (h : Ok P (k [.bool (dR s)])) : Ok P (bd (nH (.str s)) k):=aH (aCZ hs) (fun r hr=>by rw [hr];exact h)
theorem aFo {v : cS} {nf recs : Int} (hs : v.s.size≤1000000) (hn : -1000000000≤nf∧nf≤1000000000) (hr : -1000000000≤recs∧recs≤1000000000) : Ok (fun r=>r = [.bool (bN nf recs v)]) (qT v.pv (.int .i64 nf) (.int .i64 recs)):=by
  rw [aDS]
  refine aD rfl (aA rfl (aA rfl (aA rfl ?_)))
  refine aF (aC (fun h0=>?_) (fun h0=>?_))
  rotate_left
  refine aF (aC (fun h1=>pG ?_) (fun h1=>?_))
  rotate_left
  refine aF (aC (fun h2=>fJ ?_) (fun h2=>?_))
  rotate_left
  refine aF (aC (fun h3=>aF ?_) (fun h3=>?_))
  rotate_left
  refine aF (aC (fun h4=>fK hr ?_) (fun h4=>?_))
  rotate_left
  refine aF (aC (fun h5=>fK hn ?_) (fun h5=>aB ?_))
  rotate_right 5
  · refine aHz (a:=v) (b:=⟨0,0,bs []⟩) (aB ?_)
    unfold bN
    cases hse : kK v.s (bs []) with
    | false=>rw [if_pos ⟨by omega,rfl⟩];simp [hse]
    | true=>rw [if_neg (by simp),if_pos h0];simp [h0,hse]
  all_goals unfold bN
  · cases hse : kK v.s (bs []) with
    | false=>
      rw [if_pos ⟨by omega,rfl⟩]
      cases cD v.n
      · exact aQ (aB rfl)
      · exact bB (qZ (aB (by rw [hse])))
    | true=>
      rw [if_neg (by simp),if_neg h0,if_pos h1]
      cases cD v.n
      · exact aQ (aB rfl)
      · exact bB (qZ (aB (by rw [hse])))
  · cases hse : kK v.s (bs []) with
    | false=>
      rw [if_pos ⟨by omega,rfl⟩]
      cases lG v.n 0 1
      · exact aQ (aB rfl)
      · exact bB (qZ (aB (by rw [hse])))
    | true=>
      rw [if_neg (by simp),if_neg h0,if_neg h1,if_pos h2]
      cases lG v.n 0 1
      · exact aQ (aB rfl)
      · exact bB (qZ (aB (by rw [hse])))
  · rw [if_neg (fun h=>h.1 h3),if_neg h0,if_neg h1,if_neg h2,if_pos h3]
    refine aC (fun h6=>aMR hs (aB ?_)) (fun h6=>aB ?_)
    · rw [decide_eq_true h6];rfl
    · rw [decide_eq_false h6];rfl
  · have e : lG v.n 0 (recs - 1)=(decide (0≤v.n)&&decide (v.n<recs)):=by
      unfold lG
      congr 1
      exact decide_eq_decide.2 (by omega)
    rw [e]
    cases hse : kK v.s (bs []) with
    | false=>
      rw [if_pos ⟨by omega,rfl⟩]
      cases (decide (0≤v.n)&&decide (v.n<recs))
      · exact aQ (aB rfl)
      · exact bB (qZ (aB (by rw [hse])))
    | true=>
      rw [if_neg (by simp),if_neg h0,if_neg h1,if_neg h2,if_neg h3,if_pos h4]
      cases (decide (0≤v.n)&&decide (v.n<recs))
      · exact aQ (aB rfl)
      · exact bB (qZ (aB (by rw [hse])))
  · cases hse : kK v.s (bs []) with
    | false=>
      rw [if_pos ⟨by omega,rfl⟩]
      cases lG v.n 0 (nf - 1)
      · exact aQ (aB rfl)
      · exact bB (qZ (aB (by rw [hse])))
    | true=>
      rw [if_neg (by simp),if_neg h0,if_neg h1,if_neg h2,if_neg h3,if_neg h4,if_pos h5]
      cases lG v.n 0 (nf - 1)
      · exact aQ (aB rfl)
      · exact bB (qZ (aB (by rw [hse])))
  · by_cases hse : kK v.s (bs [])=false
    · rw [if_pos ⟨by omega,hse⟩]
    · rw [if_neg (fun h=>hse h.2),if_neg h0,if_neg h1,if_neg h2,if_neg h3,if_neg h4,if_neg h5]
theorem aHB {v : cS} {hp : List (List cS)} {nf : Int} (hnf : nf≤1000) (hh : hp.length≤1000) (hr : ∀ r∈hp,r.length≤1000) (hv : bN nf hp.length v=true) :
    Ok (fun r=>r = [.str (gC v hp)]) (sA v.pv (.lst (hp.map bM))):=by
  have hn : -1000000000≤v.n∧v.n≤1000000000∧(v.k=4→0≤v.n∧v.n<hp.length)∧0≤v.k∧v.k≤5:=by
    unfold bN at hv
    repeat' split at hv
    all_goals first
      | (cases hv;done)
      | (simp only [cD,bI,Bool.and_eq_true,decide_eq_true_eq] at hv;omega)
  rw [aB7]
  unfold gC
  have hdig:=rA v.n
  refine aD rfl (aA rfl (aA rfl (aA rfl ?_)))
  refine aF (aC (fun h0=>aB ?_) (fun h0=>?_))
  · rw [if_pos h0]
  refine aF (aC (fun h1=>aHA (by omega) (aB ?_)) (fun h1=>?_))
  · rw [if_neg h0,if_pos h1];rfl
  refine aF (aC (fun h2=>aF (aJL (aB ?_))) (fun h2=>?_))
  · rw [if_neg h0,if_neg h1,if_pos h2]
    by_cases h : v.n=1
    · rw [decide_eq_true h,if_pos h,if_pos rfl];rfl
    · rw [decide_eq_false h,if_neg h,if_neg (by simp)];rfl
  refine aF (aC (fun h3=>aB ?_) (fun h3=>?_))
  · rw [if_neg h0,if_neg h1,if_neg h2,if_pos h3]
  refine aF (aC (fun h5=>aHA (by omega) (mX ?_ (aB ?_))) (fun h5=>?_))
  · have : (bs [102,117,110]).size=3:=rfl
    omega
  · rw [if_neg h0,if_neg h1,if_neg h2,if_neg h3,if_pos h5]
  refine aF (aC (fun h4=>aG (fK (by omega) ?_)) (fun h4=>aB ?_))
  · have h6:=hn.2.2.1 h4
    rw [bI.2 (by omega),if_neg h0,if_neg h1,if_neg h2,if_neg h3,if_neg h5,if_pos h4]
    have hlen : (hp[v.n.toNat]?.getD []).length≤1000:=by
      cases hg : hp[v.n.toNat]? with
      | none=>simp
      | some r=>exact hr r (List.mem_of_getElem? hg)
    have hd:=rA (hp[v.n.toNat]?.getD []).length
    have e1 : (bs [123]).size=1:=rfl
    have e2 : (bs [125]).size=1:=rfl
    refine bB (dE h6.1 h6.2 (aA rfl (aG (aHA (by omega) (mX ?_ (mX ?_ (aB rfl)))))))
    · omega
    · rw [ByteArray.size_append]
      omega
  · rw [if_neg h0,if_neg h1,if_neg h2,if_neg h3,if_neg h5,if_neg h4]
end
structure qG where
  fr : List cF
  hp : List (List cS)
  made : Int
  out : List ByteArray
  st : Int
  tr : Int
  val : cS
  steps : Int
def qG.pv (v : qG) : PV:=.agg [.lst (v.fr.map cF.pv),.lst (v.hp.map bM),.int .i64 v.made,.lst (v.out.map PV.str),.int .i64 v.st,.int .i64 v.tr,.int .i64 v.val.k,.int .i64 v.val.n,.str v.val.s,.int .i64 v.steps]
def lY (v : qG) : R:=[.int .i64 v.made,.int .i64 v.st,.int .i64 v.tr,.int .i64 v.val.k,.int .i64 v.val.n,.str v.val.s,.int .i64 v.steps,.lst (v.fr.map cF.pv),.lst (v.hp.map bM),.lst (v.out.map PV.str)]
structure Sz (v : qG) : Prop where
  f : v.fr.length≤1000
  h : v.hp.length≤1000
  o : v.out.length≤1000
  fl : ∀ f∈v.fr,f.loc.length≤1000∧f.stk.length≤1000
  hl : ∀ r∈v.hp,r.length≤1000
theorem aC2 (l : List cS) : PV.flatEs true [] (l.map cS.pv)=true:=by
  induction l with
  | nil=>simp [PV.flatEs]
  | cons x r ih=>simp [PV.flatEs,PV.flatE,PV.flatCs,PV.flat,cS.pv,ih]
theorem eL (l : List cS) : PV.flatO (.own 3 32 true []) (aV l)=true:=aC2 l
theorem zB (l : List cF) : PV.flatO (.own 4 64 true [.leaf,.leaf,(.own 3 32 true []),(.own 3 32 true [])]) (.lst (l.map cF.pv))=true:=by
  show PV.flatEs true _ (l.map cF.pv)=true
  induction l with
  | nil=>simp [PV.flatEs]
  | cons x r ih=>
    simp only [List.map_cons,PV.flatEs,Bool.and_eq_true]
    refine ⟨?_,ih⟩
    simp [cF.pv,PV.flatE,PV.flatCs,PV.flat,aV,aC2]
theorem zW (l : List (List cS)) : PV.flatO (.own 1 24 true [(.own 3 32 true [])]) (.lst (l.map bM))=true:=by
  show PV.flatEs true _ (l.map bM)=true
  induction l with
  | nil=>simp [PV.flatEs]
  | cons x r ih=>
    simp only [List.map_cons,PV.flatEs,Bool.and_eq_true]
    refine ⟨?_,ih⟩
    simp [bM,PV.flatE,PV.flatCs,aV,aC2]
theorem aC3 (l : List ByteArray) : PV.flatO (.own 1 16 false []) (.lst (l.map PV.str))=true:=by
  show PV.flatEs false [] (l.map PV.str)=true
  induction l with
  | nil=>simp [PV.flatEs]
  | cons x r ih=>simp [PV.flatEs,PV.flatE,PV.flat,ih]
theorem aKs {l : List ByteArray} : ∀ x∈l.map PV.str,x.isEl 1 false=true:=by
  intro x hx
  obtain ⟨a,_,rfl⟩:=List.mem_map.1 hx
  rfl
theorem aF7 {hp : List (List cS)} (h : hp.length≤1000) (hl : ∀ r∈hp,r.length≤1000) : Ok (fun r=>r = [.lst (hp.map bM)]) (oS (.lst (hp.map bM))):=by
  rw [aAi]
  refine dS (n:=hp.length) (P:=fun _ r=>r = [.lst (hp.map bM)]) (F:=fun i=>iQ (.lst (hp.map bM)) (.int .i64 i) (.lst ((hp.take i).map bM))) ?_ ?_ 0 (by omega)
  · rw [nZ]
    refine aG (aJ (aC (fun h=>by omega) (fun _=>aB ?_)))
    rw [List.take_length]
  · intro i hi ih
    rw [nZ]
    have:=hl _ (List.getElem_mem hi)
    refine aG (aJ (aC (fun _=>?_) (fun h=>by omega)))
    refine aU hi (fun _=>rfl) (aA rfl (jH (by rw [List.length_map];omega) pF ?_))
    refine fA (by simp;omega) (fun x hx=>by simp only [List.mem_singleton] at hx;subst hx;rfl) (aR (by omega) ?_)
    have e : (hp.take i).map bM++[PV.agg [.lst (hp[i].map cS.pv)]]=(hp.take (i+1)).map bM:=by
      rw [List.take_add_one,List.getElem?_eq_getElem hi,List.map_append];rfl
    rw [e]
    exact ih
theorem aFp {f : cF} (h : f.loc.length≤1000∧f.stk.length≤1000) : Ok (fun r=>r = [.int .i64 f.f,.int .i64 f.pc,aV f.loc,aV f.stk]) (nW f.pv):=by
  rw [yU]
  refine aD rfl (aA rfl (aA rfl (aA rfl (aA rfl ?_))))
  exact jH (by rw [List.length_map];omega) pF (jH (by rw [List.length_map];omega) pF (aB rfl))
theorem aLi {v : qG} (z : Sz v) : Ok (fun r=>r=lY v) (jJ v.pv):=by
  obtain ⟨zf,zh,zo,zfl,zhl⟩:=z
  rw [aDW]
  refine aD rfl (aA rfl (aA rfl (aA rfl (aA rfl (aA rfl (aA rfl (aA rfl (aA rfl (aA rfl (aA rfl ?_))))))))))
  refine dS (n:=v.fr.length) (P:=fun _ r=>r=lY v) (F:=fun i=>mW (.int .i64 i) (.lst (v.fr.map cF.pv)) (.lst (v.hp.map bM)) (.int .i64 v.made) (.lst (v.out.map PV.str)) (.int .i64 v.st) (.int .i64 v.tr) (.int .i64 v.val.k) (.int .i64 v.val.n) (.str v.val.s) (.int .i64 v.steps) (.int .i64 0) (.int .i64 0) (.int .i64 0) (.int .i64 0) (.int .i64 0) (.str (bs [])) (.int .i64 0) (.lst []) (.lst []) (.lst []) (.lst ((v.fr.take i).map cF.pv))) ?_ ?_ 0 (by omega)
  · rw [sJ]
    refine aG (aJ (aC (fun h=>by omega) (fun _=>?_)))
    refine aH (aF7 zh zhl) (fun r hr=>?_)
    subst hr
    refine fB (zW _) (jH (by rw [List.length_map];omega) aKs (aB ?_))
    rw [List.take_length]
    rfl
  · intro i hi ih
    rw [sJ]
    refine aG (aJ (aC (fun _=>?_) (fun h=>by omega)))
    refine aU hi (fun _=>rfl) (aH (aFp (zfl _ (List.getElem_mem hi))) (fun r hr=>?_))
    subst hr
    refine dU rfl (dU rfl (fB (eL _) (fB (eL _) ?_)))
    refine fA (by simp;omega) (fun x hx=>by simp only [List.mem_singleton] at hx;subst hx;rfl) (aR (by omega) ?_)
    have e : (v.fr.take i).map cF.pv++[PV.agg [.int .i64 v.fr[i].f,.int .i64 v.fr[i].pc,aV v.fr[i].loc,aV v.fr[i].stk]]=(v.fr.take (i+1)).map cF.pv:=by
      rw [List.take_add_one,List.getElem?_eq_getElem hi,List.map_append];rfl
    exact e▸ih
theorem aEb {P : R→Prop} {k : R→Option R} {v : qG} (z : Sz v) (h : Ok P (k (lY v))) : Ok P (bd (jJ v.pv) k):=aH (aLi z) (fun r hr=>by rw [hr];exact h)
theorem nK {P : R→Prop} {v : qG} {o : Option R} (h : Ok P o) :
    Ok P (PV.guardFlat (gd (lY v) 0) (PV.guardFlat (gd (lY v) 1) (PV.guardFlat (gd (lY v) 2) (PV.guardFlat (gd (lY v) 3) (PV.guardFlat (gd (lY v) 4) (PV.guardFlat (gd (lY v) 5) (PV.guardFlat (gd (lY v) 6)
      (PV.guardOwn (.own 4 64 true [.leaf,.leaf,(.own 3 32 true []),(.own 3 32 true [])]) (gd (lY v) 7) (PV.guardOwn (.own 1 24 true [(.own 3 32 true [])]) (gd (lY v) 8) (PV.guardOwn (.own 1 16 false []) (gd (lY v) 9) o)))))))))):=
  dU rfl (dU rfl (dU rfl (dU rfl (dU rfl (dU rfl (dU rfl (fB (zB _) (fB (zW _) (fB (aC3 _) h)))))))))
def cM (fs : List cZ) (i : Int) : List bY:=(fs[i.toNat]?.map cZ.code).getD []
def jE (fs : List cZ) (f : cF) : bY:=(cM fs f.f)[f.pc.toNat]?.getD ⟨0,0⟩
def aBu (_m : fI) (v : qG) (fs0 : List cF) : aHv→qG
  | .trap c=>⟨v.fr,v.hp,v.made,v.out,2,c,v.val,v.steps+1⟩
  | .next fr hp made out=>⟨fs0++[fr],hp,made,out,v.st,v.tr,v.val,v.steps+1⟩
  | .call fr g=>⟨fs0++[fr,g],v.hp,v.made,v.out,v.st,v.tr,v.val,v.steps+1⟩
  | .ret a=>if fs0 = [] then ⟨[],v.hp,v.made,v.out,1,v.tr,a,v.steps+1⟩ else ⟨aAG a fs0,v.hp,v.made,v.out,v.st,v.tr,v.val,v.steps+1⟩
def xE (m : fI) (v : qG) (fs0 : List cF) (f : cF) : aHv:=
  let x:=jE m.funcs f
  let b:=f.stk.length - (bA m.funcs x).1.toNat
  dG m ⟨f.f,f.pc+1,f.loc,f.stk.take b⟩ (f.stk.drop b) (fs0.length+1) v.hp v.made v.out x
def lE (m : fI) (v : qG) : qG:=
  if v.st≠0 then v else if v.steps=50000 then v
  else match v.fr.getLast? with
  | none=>v
  | some f=>aBu m v v.fr.dropLast (xE m v v.fr.dropLast f)
theorem zX {m : fI} {v : qG} {fs0 : List cF} {f : cF} (h1 : v.st=0) (h2 : v.steps≠50000) (h3 : v.fr=fs0++[f]) : lE m v=aBu m v fs0 (xE m v fs0 f):=by
  unfold lE
  rw [if_neg (by omega),if_neg h2,h3]
  simp
structure aMe (m : fI) (v : qG) (fs0 : List cF) (f : cF) : Prop where
  fr : v.fr=fs0++[f]
  fi : 0≤f.f∧f.f<m.funcs.length
  pc : 0≤f.pc∧f.pc<(cM m.funcs f.f).length
  nc : (cM m.funcs f.f).length≤120
  ins : cB m.texts.length m.funcs.length f.loc.length (cM m.funcs f.f).length (jE m.funcs f).o (jE m.funcs f).a=true
  us : 0≤(bA m.funcs (jE m.funcs f)).1∧(bA m.funcs (jE m.funcs f)).1≤f.stk.length
  small : ∀ b,aMd m fs0 ⟨f.f,f.pc+1,f.loc,f.stk.take b⟩ (f.stk.drop b) v.hp v.made v.out
theorem aLj {m : fI} {v : qG} (z : Sz v) (hst : 0≤v.steps∧v.steps≤50000) (hg : v.st=0→v.steps≠50000→∃ fs0 f,aMe m v fs0 f) : Ok (fun r=>r = [(lE m v).pv]) (vS m.pv v.pv):=by
  rw [aDI]
  refine aD rfl (aA rfl (aA rfl (aD rfl (aA rfl (aA rfl (aA rfl (aA rfl (aA rfl (aA rfl (aA rfl (aA rfl (aA rfl (aA rfl ?_)))))))))))))
  refine bC (aK (fun h=>?_) (fun h=>?_))
  · refine aEb z (nK (aB ?_))
    unfold lE
    rw [if_pos h];rfl
  have h0 : v.st=0:=by simpa using h
  refine aF (aC (fun h=>?_) (fun h5=>?_))
  · refine aEb z (nK (aB ?_))
    unfold lE
    rw [if_neg (by omega),if_pos h];rfl
  obtain ⟨fs0,f,G⟩:=hg h0 h5
  rw [zX h0 h5 G.fr]
  obtain ⟨gfr,gfi,gpc,gnc,gins,gus,gsm⟩:=G
  obtain ⟨fi,hfi⟩:=Int.eq_ofNat_of_zero_le gfi.1
  obtain ⟨pi,hpi⟩:=Int.eq_ofNat_of_zero_le gpc.1
  have hfl : fi<m.funcs.length:=by omega
  have hco : cM m.funcs f.f=m.funcs[fi].code:=by simp [cM,hfi,List.getElem?_eq_getElem hfl]
  have hpl : pi<m.funcs[fi].code.length:=by rw [← hco];omega
  have hin : jE m.funcs f=m.funcs[fi].code[pi]:=by simp [jE,hco,hpi,List.getElem?_eq_getElem hpl]
  have n0:=(gsm 0).n0
  have nA : (fs0.map cF.pv).length≤23:=by rw [List.length_map];exact n0
  refine aEb z (nK ?_)
  have efr : v.fr.map cF.pv=fs0.map cF.pv++[f.pv]:=by rw [gfr,List.map_append];rfl
  show Ok _ (bd (dV _ _ _ _ _ _ _ _ _ _ (.lst (v.fr.map cF.pv)) _ _) _)
  rw [efr]
  refine zA (by omega) ?_
  refine bX rfl rfl (aA rfl ?_)
  rw [hfi]
  refine aU hfl (fun _=>rfl) (aA (y:=.lst (m.funcs[fi].code.map bY.pv)) rfl (bX rfl rfl (aA rfl ?_)))
  rw [hpi]
  refine aU hpl (fun _=>rfl) (aD rfl (aA rfl (aA rfl (bX rfl rfl (aA rfl ?_)))))
  refine aR (by omega) (aW rfl (cH rfl rfl (by omega) rfl ?_))
  generalize hb : f.stk.length - (bA m.funcs (jE m.funcs f)).1.toNat=b
  have hsplit : f.stk=f.stk.take b++f.stk.drop b:=(List.take_append_drop b f.stk).symm
  have hdo:=aMQ (nc:=(cM m.funcs f.f).length) (a3:=.int .i64 v.st) (a4:=.int .i64 v.tr) (a5:=.int .i64 v.val.k) (a6:=.int .i64 v.val.n) (a7:=.str v.val.s) (a8:=.int .i64 v.steps) (gsm b) gins (by rw [List.length_drop];omega)
  rw [hin] at hdo hb
  have hnx : xE m v fs0 f=dG m ⟨f.f,f.pc+1,f.loc,f.stk.take b⟩ (f.stk.drop b) (fs0.length+1) v.hp v.made v.out m.funcs[fi].code[pi]:=by
    simp only [xE]
    rw [hin,hb]
  rw [← hnx] at hdo
  rw [← hsplit] at hdo
  refine aH hdo (fun r hr=>?_)
  cases ha : xE m v fs0 f with
  | trap c=>
    rw [ha] at hr
    obtain ⟨hc,hr⟩:=hr
    rw [hr]
    refine bC (aK (fun _=>?_) (fun h=>absurd (by simpa using h) hc))
    rw [← efr]
    refine aEb z ?_
    refine nK ?_
    refine aW rfl ?_
    refine aR (by omega) ?_
    refine aW rfl (aB rfl)
  | next fr hp made out=>
    rw [ha] at hr
    have hr : r=_:=hr
    subst hr
    refine bC (aK (fun h=>absurd rfl h) (fun _=>aR (by omega) (aW rfl (aB ?_))))
    simp only [aBu,qG.pv,List.map_append]
    rfl
  | call fr g=>
    rw [ha] at hr
    have hr : r=_:=hr
    subst hr
    refine bC (aK (fun h=>absurd rfl h) (fun _=>aR (by omega) (aW rfl (aB ?_))))
    simp only [aBu,qG.pv,List.map_append,List.append_assoc]
    rfl
  | ret a=>
    rw [ha] at hr
    have hr : r=_:=hr
    by_cases hf : fs0 = []
    · rw [if_pos hf] at hr
      subst hr
      refine bC (aK (fun h=>absurd rfl h) (fun _=>aR (by omega) (aW rfl (aB ?_))))
      simp only [aBu,if_pos hf,qG.pv]
      rfl
    · rw [if_neg hf] at hr
      subst hr
      refine bC (aK (fun h=>absurd rfl h) (fun _=>aR (by omega) (aW rfl (aB ?_))))
      simp only [aBu,if_neg hf,qG.pv]
      rfl
section
variable {P : R → Prop} {k : R → Option R}
theorem wM {l : List cS} (hl : l.length≤1000000) (h : Ok P (k [aV l])) : Ok P (bd (bW (aV l)) k):=by
  refine aH (Q:=fun r=>r = [aV l]) ?_ (fun r hr=>by rw [hr];exact h)
  rw [lV]
  refine aIy (aKm (fun e=>aB ?_) ?_)
  · have : l = []:=List.map_eq_nil_iff.1 e
    subst this;rfl
  · exact iG (l:=[]) (m:=l) (by simp;omega) (aB (by simp))
theorem aJM {l : List ByteArray} (hl : l.length≤1000000) (h : Ok P (k [.lst (l.map PV.str)])) : Ok P (bd (gQ (.lst (l.map PV.str))) k):=by
  refine aH (Q:=fun r=>r = [.lst (l.map PV.str)]) ?_ (fun r hr=>by rw [hr];exact h)
  rw [pS]
  refine aIy (aKm (fun e=>aB ?_) ?_)
  · have : l = []:=List.map_eq_nil_iff.1 e
    subst this;rfl
  · exact jH (by simp;omega) aKs (aB rfl)
theorem aKt {n : Int} (h0 : 0≤n) (h1 : n≤1000000000) (h : Ok P (k [aV (List.replicate n.toNat cX)])) : Ok P (bd (zQ (.int .i64 n)) k):=by
  refine aH (Q:=fun r=>r = [aV (List.replicate n.toNat cX)]) ?_ (fun r hr=>by rw [hr];exact h)
  rw [aHl]
  refine tR h0 h1 (dZ ?_)
  rw [decide_eq_true (Int.le_refl n)]
  exact bB (tR h0 h1 (aB rfl))
theorem aMS {n : Int} (h0 : 0≤n) (h1 : n≤1000000) (h : Ok P (k [.lst []])) : Ok P (bd (eJ (.int .i64 n)) k):=by
  refine aH (Q:=fun r=>r = [.lst []]) ?_ (fun r hr=>by rw [hr];exact h)
  rw [mC]
  unfold rK
  simp only
  rw [if_pos (by omega)]
  exact aB rfl
theorem aKu {a b : List cS} (ha : a.length≤1000) (hb : b.length≤1000) (h : Ok P (k [aV (a++b)])) : Ok P (bd (cV (.lst [aV a,aV b])) k):=by
  refine aH (Q:=fun r=>r = [aV (a++b)]) ?_ (fun r hr=>by rw [hr];exact h)
  have at0 : ∀ {P : R→Prop} {k : PV→Option R},Ok P (k (aV a))→Ok P (bd (PV.at_ 1 false (.lst [aV a,aV b]) (.int .i64 0)) k):=fun h=>vQ (by omega) rfl rfl h
  have at1 : ∀ {P : R→Prop} {k : PV→Option R},Ok P (k (aV b))→Ok P (bd (PV.at_ 1 false (.lst [aV a,aV b]) (.int .i64 1)) k):=fun h=>vQ (by omega) rfl rfl h
  rw [lB]
  refine cJ ?_
  show Ok _ (bP _ (.int .i64 0) _ (.int .i64 2) (.int .i64 0))
  rw [dB]
  refine aJ (bB (at0 (bJ (aR (by omega) (aJ (aC (fun h=>by omega) (fun _=>aR (by omega) ?_)))))))
  show Ok _ (bP _ _ _ (.int .i64 2) (.int .i64 1))
  rw [dB]
  refine aJ (bB (at1 (bJ (aR (by omega) (aJ (aC (fun h=>by omega) (fun _=>aR (by omega) ?_)))))))
  show Ok _ (bP _ _ _ (.int .i64 2) (.int .i64 2))
  rw [dB]
  refine aJ (aQ (aMS (by omega) (by omega) (cJ ?_)))
  show Ok _ (bO _ (.int .i64 2) (.int .i64 0) (aV []))
  rw [cY]
  refine aJ (bB (at0 (iG (by simp;omega) (aR (by omega) ?_))))
  show Ok _ (bO _ (.int .i64 2) (.int .i64 1) _)
  rw [cY]
  refine aJ (bB (at1 (iG (by simp;omega) (aR (by omega) ?_))))
  show Ok _ (bO _ (.int .i64 2) (.int .i64 2) _)
  rw [cY]
  refine aJ (aQ (aB ?_))
  simp
theorem aBv {fs : List cZ} {i : Int} {k : PV→Option R} (h0 : 0≤i) (h1 : i<fs.length) (h : ∀ f : cZ,fs[i.toNat]? = some f→Ok P (k f.pv)) : Ok P (bd (PV.at_ 3 true (.lst (fs.map cZ.pv)) (.int .i64 i)) k):=by
  obtain ⟨n,rfl⟩:=Int.eq_ofNat_of_zero_le h0
  refine aU (by omega) (fun _=>rfl) (h _ ?_)
  rw [Int.toNat_natCast,List.getElem?_eq_getElem (by omega)]
theorem aFq {T : PV} {fs : List cZ} {g : Int} {args : List cS} (h0 : 0≤g) (h1 : g<fs.length) (hl : (args.length : Int)≤uZ fs g) (hl2 : uZ fs g≤12) (h : Ok P (k [.int .i64 g,.int .i64 0,aV (qE fs g args).loc,aV []])) :
    Ok P (bd (qU (.agg [T,.lst (fs.map cZ.pv)]) (.int .i64 g) (aV args)) k):=by
  refine aH (Q:=fun r=>r = [.int .i64 g,.int .i64 0,aV (qE fs g args).loc,aV []]) ?_ (fun r hr=>by rw [hr];exact h)
  rw [aDX]
  refine aD rfl (aA rfl (aA rfl (aBv h0 h1 (fun f hf=>?_))))
  have e : uZ fs g=f.lc:=by unfold uZ;rw [hf];rfl
  rw [e] at hl hl2
  refine aA rfl (bJ (bG (by omega) (aKt (by omega) (by omega) (fB (eL _) ?_))))
  refine jH (by simp) (fun x hx=>?_) (aKu (by omega) (by simp;omega) (fB (eL _) (aW rfl (aB ?_))))
  · simp at hx
    rcases hx with rfl | rfl<;>rfl
  · unfold qE
    rw [e]
    simp only
    rw [show (f.lc - (args.length : Int)).toNat=f.lc.toNat - args.length by omega]
    rfl
theorem aIM {hp : List (List cS)} (h : hp.length≤1000) (hl : ∀ r∈hp,r.length≤1000) : Ok (fun r=>r = [.lst (hp.map bM)]) (uC (.lst (hp.map bM))):=by
  rw [aCV]
  have e : (hp.map bM).length=hp.length:=List.length_map ..
  refine cJ ?_
  rw [e]
  refine (dS (n:=hp.length) (F:=fun i=>lO (.lst (hp.map bM)) (.int .i64 hp.length) (.int .i64 i) (.lst ((hp.take i).map bM))) (P:=fun _ r=>r = [.lst (hp.map bM)]) ?_ (fun i hi ih=>?_) 0 (Nat.zero_le _))
  · rw [qN]
    refine aJ ?_
    rw [decide_eq_false (by omega)]
    refine aQ (aB ?_)
    rw [List.take_length]
  · rw [qN]
    refine aJ ?_
    rw [decide_eq_true (by omega)]
    refine bB (aU hi (fun _=>rfl) (aD rfl (aA rfl (wM (by have:=hl _ (List.getElem_mem hi);omega) (fB (eL _) ?_)))))
    refine fA (by simp;omega) (fun x hx=>by simp at hx;subst hx;rfl) (aR (by omega) ?_)
    have e : (hp.take (i+1)).map bM=(hp.take i).map bM++[PV.agg [aV hp[i]]]:=by
      rw [List.take_add_one,List.getElem?_eq_getElem hi,List.map_append];rfl
    rw [e] at ih
    exact ih
theorem aF8 {fr : List cF} (h : fr.length≤1000) (hl : ∀ f∈fr,f.loc.length≤1000∧f.stk.length≤1000) : Ok (fun r=>r = [.lst (fr.map cF.pv)]) (qC (.lst (fr.map cF.pv))):=by
  rw [aBo]
  have e : (fr.map cF.pv).length=fr.length:=List.length_map ..
  refine cJ ?_
  rw [e]
  refine (dS (n:=fr.length) (F:=fun i=>jK (.lst (fr.map cF.pv)) (.int .i64 fr.length) (.int .i64 i) (.lst ((fr.take i).map cF.pv))) (P:=fun _ r=>r = [.lst (fr.map cF.pv)]) ?_ (fun i hi ih=>?_) 0 (Nat.zero_le _))
  · rw [oJ]
    refine aJ ?_
    rw [decide_eq_false (by omega)]
    refine aQ (aB ?_)
    rw [List.take_length]
  · rw [oJ]
    refine aJ ?_
    rw [decide_eq_true (by omega)]
    have hb:=hl _ (List.getElem_mem hi)
    refine bB (aU hi (fun _=>rfl) (aD rfl (aA rfl (aA rfl (aA rfl (aA rfl (wM (by omega) (fB (eL _) (wM (by omega) (fB (eL _) ?_))))))))))
    refine fA (by simp;omega) (fun x hx=>by simp at hx;subst hx;rfl) (aR (by omega) ?_)
    have e : (fr.take (i+1)).map cF.pv=(fr.take i).map cF.pv++[fr[i].pv]:=by
      rw [List.take_add_one,List.getElem?_eq_getElem hi,List.map_append];rfl
    rw [e] at ih
    exact ih
theorem aCh {v : qG} (z : Sz v) (h : Ok P (k (lY v))) : Ok P (bd (jX v.pv) k):=by
  refine aH (Q:=fun r=>r=lY v) ?_ (fun r hr=>by rw [hr];exact h)
  rw [aCR]
  refine aD rfl (aA rfl (aA rfl (aA rfl (aA rfl (aA rfl (aA rfl (aA rfl (aA rfl (aA rfl (aA rfl ?_))))))))))
  refine aH (aF8 z.f z.fl) (fun r hr=>?_)
  rw [hr]
  refine fB (zB _) (aH (aIM z.h z.hl) (fun r hr=>?_))
  rw [hr]
  refine fB (zW _) (aJM (by have:=z.o;omega) (fB (aC3 _) (aB rfl)))
end
def DoI (made a3 a4 a5 a6 a7 a8 F H O : PV) (fs0 : List cF) : aHv→R→Prop
  | .trap c,r=>c≠0∧r = [.int .i64 c,made,a3,a4,a5,a6,a7,a8,F,H,O]
  | .next fr hp made' out,r=>r = [.int .i64 0,.int .i64 made',a3,a4,a5,a6,a7,a8,.lst (fs0.map cF.pv++[fr.pv]),.lst (hp.map bM),.lst (out.map PV.str)]
  | .call fr g,r=>r = [.int .i64 0,made,a3,a4,a5,a6,a7,a8,.lst (fs0.map cF.pv++[fr.pv]++[g.pv]),H,O]
  | .ret v,r=>r=if fs0 = [] then [.int .i64 0,made,.int .i64 1,a4,.int .i64 v.k,.int .i64 v.n,.str v.s,a8,.lst [],H,O]
      else [.int .i64 0,made,a3,a4,a5,a6,a7,a8,.lst ((aAG v fs0).map cF.pv),H,O]
section
variable {P : R → Prop} {k : R → Option R} {A : List PV}
theorem jF {A : List PV} {f pc : Int} {loc s : List cS} {i : Int} {j : Nat} {y : PV} {k : PV→Option R} (hi : i=A.length) (hy : [PV.int .i64 f,.int .i64 pc,aV loc,aV s][j]? = some y) (h : Ok P (k y)) :
    Ok P (bd (PV.at_ 4 true (.lst (A++[cF.pv ⟨f,pc,loc,s⟩])) (.int .i64 i)) fun x=>bd (PV.cell x j) k):=bX hi rfl (aA hy h)
theorem wN {A : List PV} {f : cF} {i : Int} {k : PV→Option R} (hi : i=A.length) (h : ∀ x,Ok P (k x)) : Ok P (bd (PV.at_ 4 true (.lst (A++[f.pv])) (.int .i64 i)) k):=bX hi rfl (h _)
theorem fW {f pc next base i : Int} {loc s t laid : List cS} {k : PV→Option R} (hi : i=A.length) (hb : base=s.length) (hs : s.length≤1000) (hl : laid.length≤1000) (h : Ok P (k (.lst (A++[cF.pv ⟨f,next,loc,s++laid⟩])))) :
    Ok P (bd (PV.at_ 4 true (.lst (A++[cF.pv ⟨f,pc,loc,s++t⟩])) (.int .i64 i)) fun _=>
      bd (PV.at_ 4 true (.lst (A++[cF.pv ⟨f,pc,loc,s++t⟩])) (.int .i64 i)) fun v1=>
      bd (PV.cell v1 3) fun v2=>
      bd (PV.cut 3 true v2 (.int .i64 0) (.int .i64 base)) fun _=>
      bd (PV.at_ 4 true (.lst (A++[cF.pv ⟨f,pc,loc,s++t⟩])) (.int .i64 i)) fun v4=>
      bd (PV.cell v4 3) fun v5=>
      bd (PV.cut 3 true v5 (.int .i64 0) (.int .i64 base)) fun v6=>
      bd (PV.at_ 4 true (.lst (A++[cF.pv ⟨f,pc,loc,s++t⟩])) (.int .i64 i)) fun v7=>
      bd (PV.cell v7 3) fun _=>
      bd (PV.setCell 4 (.lst (A++[cF.pv ⟨f,pc,loc,s++t⟩])) (.int .i64 i) 3 .hole) fun v9=>
      bd (PV.cat 3 32 true v6 (aV laid)) fun v10=>
      bd (PV.setCell 4 v9 (.int .i64 i) 3 v10) fun v11=>
      bd (PV.one (.int .i64 next)) fun v12=>
      bd (PV.setCell 4 v11 (.int .i64 i) 1 v12) k):=by
  subst hb
  refine wN hi (fun _=>jF hi rfl (gI (by omega) (by omega) (by simp;omega) (jF hi rfl (gI (by omega) (by omega) (by simp;omega) (jF hi rfl ?_)))))
  have e : (((s++t).take (s.length : Int).toNat).drop (0 : Int).toNat)=s:=by simp
  rw [e]
  exact cH hi rfl (by omega) rfl (iG (by omega) (cH hi rfl (by omega) rfl (aW rfl (cH hi rfl (by omega) rfl h))))
theorem aKv {l : List cS} {i : Nat} {v : cS} {k : PV→Option R} (hv : l[i]? = some v) (h : Ok P (k v.pv)) : Ok P (bd (PV.inb (aV l) (.int .i64 (i : Int))) fun _=>bd (PV.at_ 3 true (aV l) (.int .i64 (i : Int))) k):=by
  have hi:=(List.getElem?_eq_some_iff.1 hv).1
  refine eH (by omega) (by omega) (nE (by omega) (by omega) (fun w hw=>?_))
  rw [Int.toNat_natCast,hv] at hw
  cases hw
  exact h
theorem wO {l : List cS} {k : PV→Option R} (hl : l.length≤1000) (h : Ok P (k (aV l))) : Ok P (bd (PV.cat 3 32 true (.lst []) (.lst (l.map cS.pv))) fun v=>bd (PV.cat 3 32 true (.lst []) v) k):=
  iG (l:=[]) (m:=l) (by simp;omega) (iG (l:=[]) (m:=l) (by simp;omega) (by simpa using h))
theorem zY {f : Nat} {x y : PV} {g : PV→PV→Option R} {Q : R→Prop} (hg : aN f [x,y]=g x y) (h : Ok Q (g x y)) (hk : ∀ r,Q r→Ok P (k r)) : Ok P (bd (PV.apply aN (.fn f []) [x,y]) k):=rT hg h hk
theorem aIN {v : cS} {x : Int} {hp : List (List cS)} {c0 c1 c2 c3 c4 c5 c6 F O : PV} (hx : 0≤x∧x≤1000) (hh : hp.length≤1000) (hr : ∀ r∈hp,r.length≤1000) (hv : v.k=4→0≤v.n∧v.n<hp.length)
    (h1 : v.k≠4→Ok P (k [.nil,.nil,.int .i64 1,c0,c1,c2,c3,c4,c5,c6,F,.lst (hp.map bM),O]))
    (h2 : v.k=4→(hp[v.n.toNat]?.getD []).length≤x→Ok P (k [.nil,.nil,.int .i64 4,c0,c1,c2,c3,c4,c5,c6,F,.lst (hp.map bM),O]))
    (h3 : v.k=4→x<(hp[v.n.toNat]?.getD []).length→Ok P (k [.int .i64 v.n,.int .i64 x,.int .i64 0,c0,c1,c2,c3,c4,c5,c6,F,.lst (hp.map bM),O])) :
    Ok P (bd (pE v.pv (.int .i64 x) c0 c1 c2 c3 c4 c5 c6 F (.lst (hp.map bM)) O) k):=by
  refine aH (Q:=fun r=>(v.k≠4∧r = [.nil,.nil,.int .i64 1,c0,c1,c2,c3,c4,c5,c6,F,.lst (hp.map bM),O])∨(v.k=4∧(hp[v.n.toNat]?.getD []).length≤x∧r = [.nil,.nil,.int .i64 4,c0,c1,c2,c3,c4,c5,c6,F,.lst (hp.map bM),O])∨
    (v.k=4∧x<(hp[v.n.toNat]?.getD []).length∧r = [.int .i64 v.n,.int .i64 x,.int .i64 0,c0,c1,c2,c3,c4,c5,c6,F,.lst (hp.map bM),O])) ?_ ?_
  rotate_left
  · rintro r (⟨g1,rfl⟩ | ⟨g1,g2,rfl⟩ | ⟨g1,g2,rfl⟩)
    · exact h1 g1
    · exact h2 g1 g2
    · exact h3 g1 g2
  rw [aCX]
  refine aD rfl (aA rfl (aA rfl (aA rfl (bC (aK (fun g=>aB (.inl ⟨g,rfl⟩)) (fun g=>?_))))))
  obtain ⟨g1,g2⟩:=hv g
  have hlen : (hp[v.n.toNat]?.getD []).length≤1000:=by
    cases hg : hp[v.n.toNat]? with
    | none=>simp
    | some r=>exact hr r (List.mem_of_getElem? hg)
  refine oW g1 g2 (dE g1 g2 (dE g1 g2 (aA rfl (bJ (dP (aC (fun q=>aB (.inr (.inl ⟨g,q,rfl⟩))) (fun q=>?_)))))))
  exact oW g1 g2 (dE g1 g2 (dE g1 g2 (aA rfl (eH (by omega) (by omega) (aB (.inr (.inr ⟨g,by omega,rfl⟩)))))))
theorem aLk {v : cS} {fs0 : List cF} {f : cF} {c0 c1 c2 c3 c4 c5 c6 H O : PV} (hn : fs0.length≤1000) (hs : ∀ g∈fs0,g.stk.length≤1000)
    (h : Ok P (k (if fs0 = [] then [c0,.int .i64 1,c2,.int .i64 v.k,.int .i64 v.n,.str v.s,c6,.lst [],H,O] else [c0,c1,c2,c3,c4,c5,c6,.lst ((aAG v fs0).map cF.pv),H,O]))) :
    Ok P (bd (sB v.pv c0 c1 c2 c3 c4 c5 c6 (.lst (fs0.map cF.pv++[f.pv])) H O) k):=by
  refine aH (Q:=fun r=>r=(if fs0 = [] then [c0,.int .i64 1,c2,.int .i64 v.k,.int .i64 v.n,.str v.s,c6,.lst [],H,O] else [c0,c1,c2,c3,c4,c5,c6,.lst ((aAG v fs0).map cF.pv),H,O])) ?_ (fun r hr=>by rw [hr];exact h)
  rw [aB8]
  have e : ((fs0.map cF.pv++[f.pv]).length : Int) - 1=fs0.length:=by simp
  have el : ∀ x∈fs0.map cF.pv++[f.pv],x.isEl 4 true=true:=by
    intro x hx
    rcases List.mem_append.1 hx with hx | hx
    · exact aGE x hx
    · simp at hx;subst hx;rfl
  have et : (((fs0.map cF.pv++[f.pv]).take ((fs0.length : Int)).toNat).drop ((0 : Int)).toNat)=fs0.map cF.pv:=by simp
  refine aD rfl (aA rfl (aA rfl (aA rfl (cJ (bG (by simp;omega) ?_)))))
  rw [e]
  refine vP (by omega) (by omega) (by simp;omega) el (vP (by omega) (by omega) (by simp;omega) el ?_)
  rw [et]
  refine aF (aC (fun h0=>aB ?_) (fun h0=>?_))
  · have : fs0 = []:=List.eq_nil_of_length_eq_zero (by omega)
    subst this
    rfl
  · obtain ⟨gs,g,rfl⟩ : ∃ gs g,fs0=gs++[g]:=by
      rcases List.eq_nil_or_concat fs0 with rfl | ⟨gs,g,rfl⟩
      · simp at h0
      · exact ⟨gs,g,by simp⟩
    have e2 : ((gs++[g]).length : Int) - 1=gs.length:=by simp
    have em : (gs++[g]).map cF.pv=gs.map cF.pv++[g.pv]:=by simp
    refine bG (by omega) ?_
    rw [e2,em]
    have hi : (gs.length : Int)=(gs.map cF.pv).length:=by simp
    have hg:=hs g (by simp)
    obtain ⟨gf,gp,gl,gk⟩:=g
    have hg : gk.length≤1000:=hg
    refine cR (by omega) (by simp;omega) (wN hi (fun _=>jF hi rfl (jF hi rfl ?_)))
    refine cH hi rfl (by omega) rfl (iG (m:=[v]) (by simp;omega) (cH hi rfl (by omega) rfl (aB ?_)))
    rw [if_neg (by simp),wK]
    simp
    rfl
end
theorem eC {P : R→Prop} {l : List cS} {v : cS} {k : PV→Option R} (hv : l[0]? = some v) (h : Ok P (k v.pv)) : Ok P (bd (PV.inb (aV l) (.int .i64 0)) fun _=>bd (PV.at_ 3 true (aV l) (.int .i64 0)) k):=aKv (i:=0) hv h
theorem sN {P : R→Prop} {l : List cS} {v : cS} {k : PV→Option R} (hv : l[1]? = some v) (h : Ok P (k v.pv)) : Ok P (bd (PV.inb (aV l) (.int .i64 1)) fun _=>bd (PV.at_ 3 true (aV l) (.int .i64 1)) k):=aKv (i:=1) hv h
theorem aEc {o : Int} {a b : cS} (ho : 11≤o∧o≤14) (hs : a.s.size≤1000000∧b.s.size≤1000000) : Ok (fun r=>∀ {P : R→Prop} {k : R→Option R},Ok P (k (opR (nM o a b)))→Ok P (bd (PV.apply aN (hd r) [a.pv,b.pv]) k)) (hU (.int .i64 o)):=by
  rw [aBp]
  refine bG (by omega) ?_
  have : o=11∨o=12∨o=13∨o=14:=by omega
  rcases this with rfl | rfl | rfl | rfl
  · exact aKl (by decide) rfl rfl (aB (fun h=>zY (g:=aA6) rfl (aL8 hs) (fun r hr=>by rw [hr];exact h)))
  · exact aKl (by decide) rfl rfl (aB (fun h=>zY (g:=aA7) rfl aL9 (fun r hr=>by rw [hr];exact h)))
  · exact aKl (by decide) rfl rfl (aB (fun h=>zY (g:=aA8) rfl aMa (fun r hr=>by rw [hr];exact h)))
  · exact aKl (by decide) rfl rfl (aB (fun h=>zY (g:=yR) rfl aLg (fun r hr=>by rw [hr];exact h)))
theorem aMf {m : fI} {A : List PV} {made a3 a4 a5 a6 a7 a8 T H O : PV} {f pc base g next i : Int} {loc s t args : List cS} (hi : i=A.length) (hb : base=s.length) (hs : s.length≤1000) (hA : A.length≤23) (hg : 0≤g∧g<m.funcs.length) (hargs : (args.length : Int)=eK m.funcs g)
    (par : ∀ f∈m.funcs,0≤f.p∧f.p≤6∧f.p≤f.lc∧f.lc≤12) :
    Ok (fun r=>(A.length=23∧r = [.int .i64 6,made,a3,a4,a5,a6,a7,a8,.lst (A++[cF.pv ⟨f,pc,loc,s++t⟩]),H,O])∨(A.length≠23∧r = [.int .i64 0,made,a3,a4,a5,a6,a7,a8,.lst (A++[cF.pv ⟨f,next,loc,s⟩]++[(qE m.funcs g args).pv]),H,O]))
      (jA (.int .i64 i) (.int .i64 base) (.int .i64 next) (.int .i64 g) made a3 a4 a5 a6 a7 a8 T (.lst (m.funcs.map cZ.pv)) (.lst (A++[cF.pv ⟨f,pc,loc,s++t⟩])) H O (aV args)):=by
  subst hb
  rw [aB6]
  refine cJ (aF (aC (fun h=>aB (.inl ⟨by simp at h;omega,rfl⟩)) (fun h=>?_)))
  refine wN hi (fun _=>jF hi rfl (gI (by omega) (by omega) (by simp;omega) (jF hi rfl (gI (by omega) (by omega) (by simp;omega) (jF hi rfl ?_)))))
  have e : (((s++t).take (s.length : Int).toNat).drop (0 : Int).toNat)=s:=by simp
  rw [e]
  refine cH hi rfl (by omega) rfl (cH hi rfl (by omega) rfl (aW rfl (cH hi rfl (by omega) rfl ?_)))
  obtain ⟨q,rfl⟩:=Int.eq_ofNat_of_zero_le hg.1
  have hq : q<m.funcs.length:=by omega
  have hf:=par _ (List.getElem_mem hq)
  have hlc : uZ m.funcs q=m.funcs[q].lc:=by unfold uZ;rw [Int.toNat_natCast,List.getElem?_eq_getElem hq];rfl
  have hpa : eK m.funcs q=m.funcs[q].p:=by unfold eK;rw [Int.toNat_natCast,List.getElem?_eq_getElem hq];rfl
  refine aFq (by omega) (by omega) (by rw [hlc];omega) (by rw [hlc];omega) (dU rfl (dU rfl (fB (eL _) (fB (eL []) ?_))))
  refine fA (by simp;omega) (fun x hx=>by simp at hx;subst hx;rfl) (aB (.inr ⟨?_,rfl⟩))
  intro h0
  exact h (by simp;omega)
set_option maxHeartbeats 8000000 in
theorem aMT {m : fI} {fs0 : List cF} {took : List cS} {hp : List (List cS)} {made ff fpc : Int} {floc fstk : List cS} {out : List ByteArray} {x : bY} {nc : Int} {a3 a4 a5 a6 a7 a8 : PV}
    (S : aMd m fs0 ⟨ff,fpc+1,floc,fstk⟩ took hp made out) (hx : cB m.texts.length m.funcs.length floc.length nc x.o x.a=true) (hu : (took.length : Int)=(bA m.funcs x).1)
    (hff : 0≤ff∧ff<m.funcs.length) (hpc : 0≤fpc∧fpc≤1000) (hcode : (cM m.funcs ff)[fpc.toNat]? = some x) :
    Ok (DoI (.int .i64 made) a3 a4 a5 a6 a7 a8 (.lst (fs0.map cF.pv++[cF.pv ⟨ff,fpc,floc,fstk++took⟩])) (.lst (hp.map bM)) (.lst (out.map PV.str)) fs0 (dG m ⟨ff,fpc+1,floc,fstk⟩ took (fs0.length+1) hp made out x))
      (aA4 (.lst (m.texts.map PV.str)) (.lst (m.funcs.map cZ.pv)) (.int .i64 made) a3 a4 a5 a6 a7 a8
        (.lst (fs0.map cF.pv++[cF.pv ⟨ff,fpc,floc,fstk++took⟩])) (.lst (hp.map bM)) (.lst (out.map PV.str))):=by
  obtain ⟨q26,q3,q67,q20,q2122,q23,q524,qj,q1⟩:=zU hx
  obtain ⟨nf,nt,par,n0,stks,nl,ns,recs,nh,nm,no,vals0⟩:=S
  simp only at *
  have hsz : ∀ v∈took,v.s.size≤1000000:=fun v hv=>by have:=bU (vals0 v hv);omega
  have hrec : ∀ r∈hp,r.length≤1000:=fun r hr=>by have:=recs r hr;omega
  rw [aFZ]
  have hA : (fs0.map cF.pv).length=fs0.length:=List.length_map ..
  have hi : (fs0.length : Int)=(fs0.map cF.pv).length:=by rw [hA]
  have e : ((fs0.map cF.pv++[cF.pv ⟨ff,fpc,floc,fstk++took⟩]).length : Int) - 1=fs0.length:=by simp
  refine cJ (bG (by simp;omega) ?_)
  rw [e]
  refine cR (by omega) (by simp;omega) (jF hi rfl (aBv hff.1 hff.2 (fun fn hfn=>aA rfl (jF hi rfl ?_))))
  have hcd : (fn.code.map bY.pv)[fpc.toNat]? = some x.pv:=by
    have : cM m.funcs ff=fn.code:=by unfold cM;rw [hfn];rfl
    rw [List.getElem?_map,← this,hcode];rfl
  refine vQ (by omega) hcd rfl (aD rfl (aA rfl (aA rfl (aH (aGy (by omega)) (fun r hr=>?_)))))
  rw [hr]
  refine aS rfl (aS rfl (wN hi (fun _=>jF hi rfl (bJ (bG (by simp;omega) ?_)))))
  have e2 : ((fstk++took).length : Int) - (bA m.funcs x).1=fstk.length:=by rw [← hu];simp
  rw [e2]
  refine wN hi (fun _=>jF hi rfl (bJ (gI (by omega) (by simp;omega) (by omega) (jF hi rfl (gI (by omega) (by simp;omega) (by omega) ?_)))))
  have e3 : (((fstk++took).take ((fstk++took).length : Int).toNat).drop (fstk.length : Int).toNat)=took:=by rw [Int.toNat_natCast,Int.toNat_natCast,List.take_length,List.drop_left]
  rw [e3]
  refine wM (by omega) (fB (eL _) (jF hi rfl (aR (by omega) ?_)))
  have hfs : fstk.length≤1000:=by omega
  refine aF (aC (fun ho=>?_) (fun n1=>?_))
  · have e0 : bA m.funcs x=(0,1):=by unfold bA;repeat (first | rfl | rw [if_pos (by omega)] | rw [if_neg (by omega)])
    rw [e0] at hu
    obtain rfl:=List.eq_nil_of_length_eq_zero (show took.length=0 by omega)
    have e : dG m ⟨ff,fpc+1,floc,fstk⟩ [] (fs0.length+1) hp made out x = .next ⟨ff,fpc+1,floc,fstk++[qY x.a]⟩ hp made out:=by simp only [dG,List.headD,List.tail];(repeat (first | rfl | refine (if_pos (by omega)).trans ?_ | refine (if_neg (by omega)).trans ?_))
    exact aAF (wO (l:=[qY x.a]) (by simp) (fW (laid:=[qY x.a]) hi rfl hfs (by simp) (aB (by rw [e];rfl))))
  refine aF (aC (fun ho=>?_) (fun n2=>?_))
  · have e0 : bA m.funcs x=(0,1):=by unfold bA;repeat (first | rfl | rw [if_pos (by omega)] | rw [if_neg (by omega)])
    rw [e0] at hu
    obtain rfl:=List.eq_nil_of_length_eq_zero (show took.length=0 by omega)
    have e : dG m ⟨ff,fpc+1,floc,fstk⟩ [] (fs0.length+1) hp made out x = .next ⟨ff,fpc+1,floc,fstk++[lC (decide (x.a=1))]⟩ hp made out:=by simp only [dG,List.headD,List.tail];(repeat (first | rfl | refine (if_pos (by omega)).trans ?_ | refine (if_neg (by omega)).trans ?_))
    exact aF (lD (wO (l:=[lC (decide (x.a=1))]) (by simp) (fW (laid:=[lC (decide (x.a=1))]) hi rfl hfs (by simp) (aB (by rw [e];rfl)))))
  refine aF (aC (fun ho=>?_) (fun n3=>?_))
  · have e0 : bA m.funcs x=(0,1):=by unfold bA;repeat (first | rfl | rw [if_pos (by omega)] | rw [if_neg (by omega)])
    rw [e0] at hu
    obtain rfl:=List.eq_nil_of_length_eq_zero (show took.length=0 by omega)
    obtain ⟨xa,hxa⟩:=Int.eq_ofNat_of_zero_le (q3 ho).1
    have hlt : xa<m.texts.length:=by have:=q3 ho;omega
    have e : dG m ⟨ff,fpc+1,floc,fstk⟩ [] (fs0.length+1) hp made out x = .next ⟨ff,fpc+1,floc,fstk++[xD m.texts[xa]]⟩ hp made out:=by
      have et : m.texts[x.a.toNat]?.getD (bs [])=m.texts[xa]:=by rw [hxa,Int.toNat_natCast,List.getElem?_eq_getElem hlt];rfl
      simp only [dG,List.headD,List.tail,et];(repeat (first | rfl | refine (if_pos (by omega)).trans ?_ | refine (if_neg (by omega)).trans ?_))
    rw [hxa]
    refine aU hlt (fun _=>rfl) (aW rfl (fW (laid:=[xD m.texts[xa]]) hi rfl hfs (by simp) (aB (by rw [e];rfl))))
  refine aF (aC (fun ho=>?_) (fun n4=>?_))
  · have e0 : bA m.funcs x=(0,1):=by unfold bA;repeat (first | rfl | rw [if_pos (by omega)] | rw [if_neg (by omega)])
    rw [e0] at hu
    obtain rfl:=List.eq_nil_of_length_eq_zero (show took.length=0 by omega)
    have e : dG m ⟨ff,fpc+1,floc,fstk⟩ [] (fs0.length+1) hp made out x = .next ⟨ff,fpc+1,floc,fstk++[cX]⟩ hp made out:=by simp only [dG,List.headD,List.tail];(repeat (first | rfl | refine (if_pos (by omega)).trans ?_ | refine (if_neg (by omega)).trans ?_))
    exact fW (laid:=[cX]) hi rfl hfs (by simp) (aB (by rw [e];rfl))
  refine aF (aC (fun ho=>?_) (fun n5=>?_))
  · have e0 : bA m.funcs x=(0,1):=by unfold bA;repeat (first | rfl | rw [if_pos (by omega)] | rw [if_neg (by omega)])
    rw [e0] at hu
    obtain rfl:=List.eq_nil_of_length_eq_zero (show took.length=0 by omega)
    have e : dG m ⟨ff,fpc+1,floc,fstk⟩ [] (fs0.length+1) hp made out x = .next ⟨ff,fpc+1,floc,fstk++[aHr x.a]⟩ hp made out:=by simp only [dG,List.headD,List.tail];(repeat (first | rfl | refine (if_pos (by omega)).trans ?_ | refine (if_neg (by omega)).trans ?_))
    exact aW rfl (fW (laid:=[aHr x.a]) hi rfl hfs (by simp) (aB (by rw [e];rfl)))
  refine aF (aC (fun ho=>?_) (fun n6=>?_))
  · have e0 : bA m.funcs x=(0,1):=by unfold bA;repeat (first | rfl | rw [if_pos (by omega)] | rw [if_neg (by omega)])
    rw [e0] at hu
    obtain rfl:=List.eq_nil_of_length_eq_zero (show took.length=0 by omega)
    have hq:=q67 (.inl ho)
    obtain ⟨v,hv⟩ : ∃ v,floc[x.a.toNat]? = some v:=⟨_,List.getElem?_eq_getElem (show x.a.toNat<floc.length by omega)⟩
    have e : dG m ⟨ff,fpc+1,floc,fstk⟩ [] (fs0.length+1) hp made out x = .next ⟨ff,fpc+1,floc,fstk++[v]⟩ hp made out:=by
      have et : floc[x.a.toNat]?.getD cX=v:=by rw [hv];rfl
      simp only [dG,List.headD,List.tail,et];(repeat (first | rfl | refine (if_pos (by omega)).trans ?_ | refine (if_neg (by omega)).trans ?_))
    refine wN hi (fun _=>jF hi rfl (eH (by omega) (by omega) (jF hi rfl (nE (by omega) (by omega) (fun v' hv'=>?_)))))
    rw [hv] at hv';cases hv'
    exact wO (l:=[v]) (by simp) (fW (laid:=[v]) hi rfl hfs (by simp) (aB (by rw [e];rfl)))
  refine aF (aC (fun ho=>?_) (fun n7=>?_))
  · have e0 : bA m.funcs x=(1,0):=by unfold bA;repeat (first | rfl | rw [if_pos (by omega)] | rw [if_neg (by omega)])
    rw [e0] at hu
    obtain ⟨a,rfl⟩:=List.length_eq_one_iff.1 (show took.length=1 by omega)
    have hq:=q67 (.inr ho)
    have e : dG m ⟨ff,fpc+1,floc,fstk⟩ [a] (fs0.length+1) hp made out x = .next ⟨ff,fpc+1,floc.set x.a.toNat a,fstk⟩ hp made out:=by simp only [dG,List.headD,List.tail];(repeat (first | rfl | refine (if_pos (by omega)).trans ?_ | refine (if_neg (by omega)).trans ?_))
    refine wN hi (fun _=>eC rfl (jF hi rfl (eH (by omega) (by omega) (jF hi rfl (jF hi rfl (nJ (by omega) (by omega) (jF hi rfl (cH hi rfl (by omega) rfl ?_))))))))
    exact fW (loc:=floc.set x.a.toNat a) (laid:=[]) hi rfl hfs (by simp) (aB (by rw [e];simp [DoI]))
  refine aF (aC (fun ho=>?_) (fun n8=>?_))
  · have e0 : bA m.funcs x=(1,2):=by unfold bA;repeat (first | rfl | rw [if_pos (by omega)] | rw [if_neg (by omega)])
    rw [e0] at hu
    obtain ⟨a,rfl⟩:=List.length_eq_one_iff.1 (show took.length=1 by omega)
    have e : dG m ⟨ff,fpc+1,floc,fstk⟩ [a] (fs0.length+1) hp made out x = .next ⟨ff,fpc+1,floc,fstk++[a,a]⟩ hp made out:=by simp only [dG,List.headD,List.tail];(repeat (first | rfl | refine (if_pos (by omega)).trans ?_ | refine (if_neg (by omega)).trans ?_))
    exact eC rfl (eC rfl (wO (l:=[a,a]) (by simp) (fW (laid:=[a,a]) hi rfl hfs (by simp) (aB (by rw [e];rfl)))))
  refine aF (aC (fun ho=>?_) (fun n10=>?_))
  · have e0 : bA m.funcs x=(2,2):=by unfold bA;repeat (first | rfl | rw [if_pos (by omega)] | rw [if_neg (by omega)])
    rw [e0] at hu
    obtain ⟨a,b,rfl⟩:=oB (show took.length=2 by omega)
    have e : dG m ⟨ff,fpc+1,floc,fstk⟩ [a,b] (fs0.length+1) hp made out x = .next ⟨ff,fpc+1,floc,fstk++[b,a]⟩ hp made out:=by simp only [dG,List.headD,List.tail];(repeat (first | rfl | refine (if_pos (by omega)).trans ?_ | refine (if_neg (by omega)).trans ?_))
    exact sN rfl (eC rfl (wO (l:=[b,a]) (by simp) (fW (laid:=[b,a]) hi rfl hfs (by simp) (aB (by rw [e];rfl)))))
  refine aF (aC (fun ho=>?_) (fun n11=>?_))
  · have e0 : bA m.funcs x=(2,1):=by unfold bA;repeat (first | rfl | rw [if_pos (by omega)] | rw [if_neg (by omega)])
    rw [e0] at hu
    obtain ⟨a,b,rfl⟩:=oB (show took.length=2 by omega)
    have hab:=hsz a (by simp);have hbb:=hsz b (by simp)
    refine aH (aEc (a:=a) (b:=b) (by omega) ⟨hab,hbb⟩) (fun r hr=>eC rfl (sN rfl (hr (aS rfl (aS rfl (aD rfl (aA rfl (aA rfl (aA rfl (bC (aK (fun ht=>aB ?_) (fun ht=>?_))))))))))))
    · have e : dG m ⟨ff,fpc+1,floc,fstk⟩ [a,b] (fs0.length+1) hp made out x = .trap (nM x.o a b).2:=by simp only [dG,List.headD,List.tail];(repeat (first | rfl | refine (if_pos (by omega)).trans ?_ | refine (if_neg (by omega)).trans ?_))
      rw [e];exact ⟨ht,rfl⟩
    · have e : dG m ⟨ff,fpc+1,floc,fstk⟩ [a,b] (fs0.length+1) hp made out x = .next ⟨ff,fpc+1,floc,fstk++[(nM x.o a b).1]⟩ hp made out:=by simp only [dG,List.headD,List.tail];(repeat (first | rfl | refine (if_pos (by omega)).trans ?_ | refine (if_neg (by omega)).trans ?_))
      exact fW (laid:=[(nM x.o a b).1]) hi rfl hfs (by simp) (aB (by rw [e];rfl))
  refine aF (aC (fun ho=>?_) (fun n12=>?_))
  · have e0 : bA m.funcs x=(2,1):=by unfold bA;repeat (first | rfl | rw [if_pos (by omega)] | rw [if_neg (by omega)])
    rw [e0] at hu
    obtain ⟨a,b,rfl⟩:=oB (show took.length=2 by omega)
    have hab:=hsz a (by simp);have hbb:=hsz b (by simp)
    refine aH (aEc (a:=a) (b:=b) (by omega) ⟨hab,hbb⟩) (fun r hr=>eC rfl (sN rfl (hr (aS rfl (aS rfl (aD rfl (aA rfl (aA rfl (aA rfl (bC (aK (fun ht=>aB ?_) (fun ht=>?_))))))))))))
    · have e : dG m ⟨ff,fpc+1,floc,fstk⟩ [a,b] (fs0.length+1) hp made out x = .trap (nM x.o a b).2:=by simp only [dG,List.headD,List.tail];(repeat (first | rfl | refine (if_pos (by omega)).trans ?_ | refine (if_neg (by omega)).trans ?_))
      rw [e];exact ⟨ht,rfl⟩
    · have e : dG m ⟨ff,fpc+1,floc,fstk⟩ [a,b] (fs0.length+1) hp made out x = .next ⟨ff,fpc+1,floc,fstk++[(nM x.o a b).1]⟩ hp made out:=by simp only [dG,List.headD,List.tail];(repeat (first | rfl | refine (if_pos (by omega)).trans ?_ | refine (if_neg (by omega)).trans ?_))
      exact fW (laid:=[(nM x.o a b).1]) hi rfl hfs (by simp) (aB (by rw [e];rfl))
  refine aF (aC (fun ho=>?_) (fun n13=>?_))
  · have e0 : bA m.funcs x=(2,1):=by unfold bA;repeat (first | rfl | rw [if_pos (by omega)] | rw [if_neg (by omega)])
    rw [e0] at hu
    obtain ⟨a,b,rfl⟩:=oB (show took.length=2 by omega)
    have hab:=hsz a (by simp);have hbb:=hsz b (by simp)
    refine aH (aEc (a:=a) (b:=b) (by omega) ⟨hab,hbb⟩) (fun r hr=>eC rfl (sN rfl (hr (aS rfl (aS rfl (aD rfl (aA rfl (aA rfl (aA rfl (bC (aK (fun ht=>aB ?_) (fun ht=>?_))))))))))))
    · have e : dG m ⟨ff,fpc+1,floc,fstk⟩ [a,b] (fs0.length+1) hp made out x = .trap (nM x.o a b).2:=by simp only [dG,List.headD,List.tail];(repeat (first | rfl | refine (if_pos (by omega)).trans ?_ | refine (if_neg (by omega)).trans ?_))
      rw [e];exact ⟨ht,rfl⟩
    · have e : dG m ⟨ff,fpc+1,floc,fstk⟩ [a,b] (fs0.length+1) hp made out x = .next ⟨ff,fpc+1,floc,fstk++[(nM x.o a b).1]⟩ hp made out:=by simp only [dG,List.headD,List.tail];(repeat (first | rfl | refine (if_pos (by omega)).trans ?_ | refine (if_neg (by omega)).trans ?_))
      exact fW (laid:=[(nM x.o a b).1]) hi rfl hfs (by simp) (aB (by rw [e];rfl))
  refine aF (aC (fun ho=>?_) (fun n14=>?_))
  · have e0 : bA m.funcs x=(2,1):=by unfold bA;repeat (first | rfl | rw [if_pos (by omega)] | rw [if_neg (by omega)])
    rw [e0] at hu
    obtain ⟨a,b,rfl⟩:=oB (show took.length=2 by omega)
    have hab:=hsz a (by simp);have hbb:=hsz b (by simp)
    refine aH (aEc (a:=a) (b:=b) (by omega) ⟨hab,hbb⟩) (fun r hr=>eC rfl (sN rfl (hr (aS rfl (aS rfl (aD rfl (aA rfl (aA rfl (aA rfl (bC (aK (fun ht=>aB ?_) (fun ht=>?_))))))))))))
    · have e : dG m ⟨ff,fpc+1,floc,fstk⟩ [a,b] (fs0.length+1) hp made out x = .trap (nM x.o a b).2:=by simp only [dG,List.headD,List.tail];(repeat (first | rfl | refine (if_pos (by omega)).trans ?_ | refine (if_neg (by omega)).trans ?_))
      rw [e];exact ⟨ht,rfl⟩
    · have e : dG m ⟨ff,fpc+1,floc,fstk⟩ [a,b] (fs0.length+1) hp made out x = .next ⟨ff,fpc+1,floc,fstk++[(nM x.o a b).1]⟩ hp made out:=by simp only [dG,List.headD,List.tail];(repeat (first | rfl | refine (if_pos (by omega)).trans ?_ | refine (if_neg (by omega)).trans ?_))
      exact fW (laid:=[(nM x.o a b).1]) hi rfl hfs (by simp) (aB (by rw [e];rfl))
  refine aF (aC (fun ho=>?_) (fun n15=>?_))
  · have e0 : bA m.funcs x=(2,1):=by unfold bA;repeat (first | rfl | rw [if_pos (by omega)] | rw [if_neg (by omega)])
    rw [e0] at hu
    obtain ⟨a,b,rfl⟩:=oB (show took.length=2 by omega)
    have e4 : (nM x.o a b)=(aAE a b,0):=by unfold nM;repeat (first | rfl | rw [if_pos (by omega)] | rw [if_neg (by omega)])
    have e : dG m ⟨ff,fpc+1,floc,fstk⟩ [a,b] (fs0.length+1) hp made out x = .next ⟨ff,fpc+1,floc,fstk++[aAE a b]⟩ hp made out:=by simp only [dG,List.headD,List.tail,e4];(repeat (first | rfl | exact if_neg (fun h=>h rfl) | refine (if_pos (by omega)).trans ?_ | refine (if_neg (by omega)).trans ?_))
    exact eC rfl (sN rfl (aH aLh (fun r hr=>by rw [hr];exact wO (l:=[aAE a b]) (by simp) (fW (laid:=[aAE a b]) hi rfl hfs (by simp) (aB (by rw [e];rfl))))))
  refine aF (aC (fun ho=>?_) (fun n16=>?_))
  · have e0 : bA m.funcs x=(1,1):=by unfold bA;repeat (first | rfl | rw [if_pos (by omega)] | rw [if_neg (by omega)])
    rw [e0] at hu
    obtain ⟨a,rfl⟩:=List.length_eq_one_iff.1 (show took.length=1 by omega)
    refine eC rfl (nD aMc (aS rfl (aS rfl (aD rfl (aA rfl (aA rfl (aA rfl (bC (aK (fun ht=>aB ?_) (fun ht=>?_))))))))))
    · have e : dG m ⟨ff,fpc+1,floc,fstk⟩ [a] (fs0.length+1) hp made out x = .trap (uY a).2:=by simp only [dG,List.headD,List.tail];(repeat (first | rfl | refine (if_pos (by omega)).trans ?_ | refine (if_neg (by omega)).trans ?_))
      rw [e];exact ⟨ht,rfl⟩
    · have e : dG m ⟨ff,fpc+1,floc,fstk⟩ [a] (fs0.length+1) hp made out x = .next ⟨ff,fpc+1,floc,fstk++[(uY a).1]⟩ hp made out:=by simp only [dG,List.headD,List.tail];(repeat (first | rfl | refine (if_pos (by omega)).trans ?_ | refine (if_neg (by omega)).trans ?_))
      exact fW (laid:=[(uY a).1]) hi rfl hfs (by simp) (aB (by rw [e];rfl))
  refine aF (aC (fun ho=>?_) (fun n17=>?_))
  · have e0 : bA m.funcs x=(0,0):=by unfold bA;repeat (first | rfl | rw [if_pos (by omega)] | rw [if_neg (by omega)])
    rw [e0] at hu
    obtain rfl:=List.eq_nil_of_length_eq_zero (show took.length=0 by omega)
    have e : dG m ⟨ff,fpc+1,floc,fstk⟩ [] (fs0.length+1) hp made out x = .next ⟨ff,x.a,floc,fstk⟩ hp made out:=by simp only [dG,List.headD,List.tail];(repeat (first | rfl | refine (if_pos (by omega)).trans ?_ | refine (if_neg (by omega)).trans ?_))
    exact fW (next:=x.a) (laid:=[]) hi rfl hfs (by simp) (aB (by rw [e];simp [DoI]))
  refine aF (aC (fun ho=>?_) (fun n18=>?_))
  · have e0 : bA m.funcs x=(1,0):=by unfold bA;repeat (first | rfl | rw [if_pos (by omega)] | rw [if_neg (by omega)])
    rw [e0] at hu
    obtain ⟨a,rfl⟩:=List.length_eq_one_iff.1 (show took.length=1 by omega)
    have hd : decide (x.o=18)=true:=by simp [ho]
    refine eC rfl (aA rfl (bC (aK (fun h1=>aB ?_) (fun h1=>?_))))
    · have e : dG m ⟨ff,fpc+1,floc,fstk⟩ [a] (fs0.length+1) hp made out x = .trap 1:=by simp only [dG,List.headD,List.tail];(repeat (first | rfl | refine (if_pos (by omega)).trans ?_ | refine (if_neg (by omega)).trans ?_))
      rw [e];exact ⟨by omega,rfl⟩
    refine eC rfl (aA rfl (aF (aF (vO (aZ (fun h2=>?_) (fun h2=>?_))))))
    · have e : dG m ⟨ff,fpc+1,floc,fstk⟩ [a] (fs0.length+1) hp made out x = .next ⟨ff,x.a,floc,fstk⟩ hp made out:=by simp only [dG,List.headD,List.tail];(repeat (first | rfl | refine (if_pos (by omega)).trans ?_ | refine (if_neg (by omega)).trans ?_ | refine (if_pos h2).trans ?_))
      exact fW (next:=x.a) (laid:=[]) hi rfl hfs (by simp) (aB (by rw [e];simp [DoI]))
    · have e : dG m ⟨ff,fpc+1,floc,fstk⟩ [a] (fs0.length+1) hp made out x = .next ⟨ff,fpc+1,floc,fstk++[]⟩ hp made out:=by simp only [dG,List.headD,List.tail];(repeat (first | rfl | refine (if_pos (by omega)).trans ?_ | refine (if_neg (by omega)).trans ?_ | exact if_neg (fun h=>Bool.noConfusion (h2.symm.trans h))))
      exact fW (laid:=[]) hi rfl hfs (by simp) (aB (by rw [e];rfl))
  refine aF (aC (fun ho=>?_) (fun n19=>?_))
  · have e0 : bA m.funcs x=(1,0):=by unfold bA;repeat (first | rfl | rw [if_pos (by omega)] | rw [if_neg (by omega)])
    rw [e0] at hu
    obtain ⟨a,rfl⟩:=List.length_eq_one_iff.1 (show took.length=1 by omega)
    have hd : decide (x.o=18)=false:=by simp [ho]
    refine eC rfl (aA rfl (bC (aK (fun h1=>aB ?_) (fun h1=>?_))))
    · have e : dG m ⟨ff,fpc+1,floc,fstk⟩ [a] (fs0.length+1) hp made out x = .trap 1:=by simp only [dG,List.headD,List.tail];(repeat (first | rfl | refine (if_pos (by omega)).trans ?_ | refine (if_neg (by omega)).trans ?_))
      rw [e];exact ⟨by omega,rfl⟩
    refine eC rfl (aA rfl (aF (aF (vO (aZ (fun h2=>?_) (fun h2=>?_))))))
    · have e : dG m ⟨ff,fpc+1,floc,fstk⟩ [a] (fs0.length+1) hp made out x = .next ⟨ff,x.a,floc,fstk⟩ hp made out:=by simp only [dG,List.headD,List.tail];(repeat (first | rfl | refine (if_pos (by omega)).trans ?_ | refine (if_neg (by omega)).trans ?_ | refine (if_pos h2).trans ?_))
      exact fW (next:=x.a) (laid:=[]) hi rfl hfs (by simp) (aB (by rw [e];simp [DoI]))
    · have e : dG m ⟨ff,fpc+1,floc,fstk⟩ [a] (fs0.length+1) hp made out x = .next ⟨ff,fpc+1,floc,fstk++[]⟩ hp made out:=by simp only [dG,List.headD,List.tail];(repeat (first | rfl | refine (if_pos (by omega)).trans ?_ | refine (if_neg (by omega)).trans ?_ | exact if_neg (fun h=>Bool.noConfusion (h2.symm.trans h))))
      exact fW (laid:=[]) hi rfl hfs (by simp) (aB (by rw [e];rfl))
  refine aF (aC (fun ho=>?_) (fun n20=>?_))
  · have e0 : bA m.funcs x=(0,1):=by unfold bA;repeat (first | rfl | rw [if_pos (by omega)] | rw [if_neg (by omega)])
    rw [e0] at hu
    obtain rfl:=List.eq_nil_of_length_eq_zero (show took.length=0 by omega)
    have hq:=q20 ho
    refine aF (aC (fun h1=>aB ?_) (fun h1=>?_))
    · have e : dG m ⟨ff,fpc+1,floc,fstk⟩ [] (fs0.length+1) hp made out x = .trap 7:=by simp only [dG,List.headD,List.tail];(repeat (first | rfl | refine (if_pos (by omega)).trans ?_ | refine (if_neg (by omega)).trans ?_))
      rw [e];exact ⟨by omega,rfl⟩
    have e : dG m ⟨ff,fpc+1,floc,fstk⟩ [] (fs0.length+1) hp made out x = .next ⟨ff,fpc+1,floc,fstk++[aK9 hp.length]⟩ (hp++[List.replicate x.a.toNat cX]) (made+1) out:=by simp only [dG,List.headD,List.tail];(repeat (first | rfl | refine (if_pos (by omega)).trans ?_ | refine (if_neg (by omega)).trans ?_))
    refine aG (aW rfl (aKt (by omega) (by omega) (fB (eL _) (fA (by simp;omega) (fun y hy=>by simp at hy;subst hy;rfl) (aR (by omega) (aW rfl ?_))))))
    exact fW (laid:=[aK9 hp.length]) hi rfl hfs (by simp) (aB (by rw [e];simp [DoI];rfl))
  refine aF (aC (fun ho=>?_) (fun n21=>?_))
  · have e0 : bA m.funcs x=(1,1):=by unfold bA;repeat (first | rfl | rw [if_pos (by omega)] | rw [if_neg (by omega)])
    rw [e0] at hu
    obtain ⟨a,rfl⟩:=List.length_eq_one_iff.1 (show took.length=1 by omega)
    have hq:=q2122 (.inl ho)
    refine eC rfl (aIN (by omega) (by omega) hrec (rJ (vals0 a (by simp))) (fun h1=>?_) (fun h1 h2=>?_) (fun h1 h2=>?_))
    · have e : dG m ⟨ff,fpc+1,floc,fstk⟩ [a] (fs0.length+1) hp made out x = .trap 1:=by simp only [dG,List.headD,List.tail];(repeat (first | rfl | refine (if_pos (by omega)).trans ?_ | refine (if_neg (by omega)).trans ?_))
      refine bC (aK (fun _=>aB ?_) (fun h=>absurd h (by decide)))
      rw [e];exact ⟨by omega,rfl⟩
    · have e : dG m ⟨ff,fpc+1,floc,fstk⟩ [a] (fs0.length+1) hp made out x = .trap 4:=by simp only [dG,List.headD,List.tail];(repeat (first | rfl | refine (if_pos (by omega)).trans ?_ | refine (if_neg (by omega)).trans ?_))
      refine bC (aK (fun _=>aB ?_) (fun h=>absurd h (by decide)))
      rw [e];exact ⟨by omega,rfl⟩
    · have hr4:=rJ (vals0 a (by simp)) h1
      obtain ⟨v,hv⟩ : ∃ v,(hp[a.n.toNat]?.getD [])[x.a.toNat]? = some v:=⟨_,List.getElem?_eq_getElem (show x.a.toNat<(hp[a.n.toNat]?.getD []).length by omega)⟩
      have et : (hp[a.n.toNat]?.getD [])[x.a.toNat]?.getD cX=v:=by rw [hv];rfl
      have e : dG m ⟨ff,fpc+1,floc,fstk⟩ [a] (fs0.length+1) hp made out x = .next ⟨ff,fpc+1,floc,fstk++[v]⟩ hp made out:=by simp only [dG,List.headD,List.tail,et];(repeat (first | rfl | refine (if_pos (by omega)).trans ?_ | refine (if_neg (by omega)).trans ?_))
      refine bC (aK (fun h=>absurd rfl h) (fun _=>aIz (dE hr4.1 hr4.2 (aA rfl (nE (by omega) (by omega) (fun v' hv'=>?_))))))
      rw [hv] at hv';cases hv'
      exact wO (l:=[v]) (by simp) (fW (laid:=[v]) hi rfl hfs (by simp) (aB (by rw [e];rfl)))
  refine aF (aC (fun ho=>?_) (fun n22=>?_))
  · have e0 : bA m.funcs x=(2,0):=by unfold bA;repeat (first | rfl | rw [if_pos (by omega)] | rw [if_neg (by omega)])
    rw [e0] at hu
    obtain ⟨a,b,rfl⟩:=oB (show took.length=2 by omega)
    have hq:=q2122 (.inr ho)
    refine eC rfl (aIN (by omega) (by omega) hrec (rJ (vals0 a (by simp))) (fun h1=>?_) (fun h1 h2=>?_) (fun h1 h2=>?_))
    · have e : dG m ⟨ff,fpc+1,floc,fstk⟩ [a,b] (fs0.length+1) hp made out x = .trap 1:=by simp only [dG,List.headD,List.tail];(repeat (first | rfl | refine (if_pos (by omega)).trans ?_ | refine (if_neg (by omega)).trans ?_))
      refine bC (aK (fun _=>aB ?_) (fun h=>absurd h (by decide)))
      rw [e];exact ⟨by omega,rfl⟩
    · have e : dG m ⟨ff,fpc+1,floc,fstk⟩ [a,b] (fs0.length+1) hp made out x = .trap 4:=by simp only [dG,List.headD,List.tail];(repeat (first | rfl | refine (if_pos (by omega)).trans ?_ | refine (if_neg (by omega)).trans ?_))
      refine bC (aK (fun _=>aB ?_) (fun h=>absurd h (by decide)))
      rw [e];exact ⟨by omega,rfl⟩
    · have hr4:=rJ (vals0 a (by simp)) h1
      have e : dG m ⟨ff,fpc+1,floc,fstk⟩ [a,b] (fs0.length+1) hp made out x = .next ⟨ff,fpc+1,floc,fstk⟩ (hp.set a.n.toNat ((hp[a.n.toNat]?.getD []).set x.a.toNat b)) made out:=by simp only [dG,List.headD,List.tail];(repeat (first | rfl | refine (if_pos (by omega)).trans ?_ | refine (if_neg (by omega)).trans ?_))
      refine bC (aK (fun h=>absurd rfl h) (fun _=>sN rfl (aIz (dE hr4.1 hr4.2 (aA rfl (dE hr4.1 hr4.2 (aA rfl (nJ (by omega) (by omega) (dE hr4.1 hr4.2 (aA rfl (aFn hr4.1 hr4.2 ?_)))))))))))
      exact fW (laid:=[]) hi rfl hfs (by simp) (aB (by rw [e,List.append_nil];rfl))
  refine aF (aC (fun ho=>?_) (fun n23=>?_))
  · have e0 : bA m.funcs x=(x.a+1,1):=by unfold bA;repeat (first | rfl | rw [if_pos (by omega)] | rw [if_neg (by omega)])
    rw [e0] at hu
    have hq:=q23 ho
    obtain ⟨a,args,rfl⟩ : ∃ a args,took=a::args:=by
      cases took with
      | nil=>simp at hu;omega
      | cons a args=>exact ⟨a,args,rfl⟩
    simp only [List.length_cons] at hu
    have hk:=vals0 a (by simp)
    refine aF ?_
    rw [decide_eq_true ho]
    refine bB (eC rfl (aA rfl (bC (aK (fun h1=>aB ?_) (fun h1=>?_)))))
    · have e : dG m ⟨ff,fpc+1,floc,fstk⟩ (a::args) (fs0.length+1) hp made out x = .trap 1:=by simp only [dG,List.headD,List.tail];(repeat (first | rfl | refine (if_pos (by omega)).trans ?_ | refine (if_neg (by omega)).trans ?_))
      rw [e];exact ⟨by omega,rfl⟩
    have h5:=aC1 hk h1
    obtain ⟨q,hqn⟩:=Int.eq_ofNat_of_zero_le h5.1
    have hql : q<m.funcs.length:=by omega
    have hpa : eK m.funcs a.n=m.funcs[q].p:=by unfold eK;rw [hqn,Int.toNat_natCast,List.getElem?_eq_getElem hql];rfl
    refine eC rfl (aA rfl (aBv h5.1 h5.2 (fun fn2 hfn2=>aA rfl ?_)))
    have hp2 : fn2.p=eK m.funcs a.n:=by unfold eK;rw [hfn2];rfl
    rw [hp2]
    refine bC (aK (fun h2=>aB ?_) (fun h2=>?_))
    · have e : dG m ⟨ff,fpc+1,floc,fstk⟩ (a::args) (fs0.length+1) hp made out x = .trap 5:=by simp only [dG,List.headD,List.tail];(repeat (first | rfl | refine (if_pos (by omega)).trans ?_ | refine (if_neg (by omega)).trans ?_))
      rw [e];exact ⟨by omega,rfl⟩
    refine eC rfl (aA rfl (bJ (gI (by omega) (by simp;omega) (by omega) (gI (by omega) (by simp;omega) (by omega) ?_))))
    have et : (((a::args).take ((a::args).length : Int).toNat).drop (1 : Int).toNat)=args:=by rw [Int.toNat_natCast,List.take_length];rfl
    rw [et]
    refine (aMf (t:=a::args) hi rfl hfs (by rw [hA];omega) h5 (by omega) par).mono (fun r hr=>?_)
    rcases hr with ⟨h6,rfl⟩ | ⟨h6,rfl⟩
    · have e : dG m ⟨ff,fpc+1,floc,fstk⟩ (a::args) (fs0.length+1) hp made out x = .trap 6:=by simp only [dG,List.headD,List.tail];(repeat (first | rfl | refine (if_pos (by omega)).trans ?_ | refine (if_neg (by omega)).trans ?_))
      rw [e];exact ⟨by omega,rfl⟩
    · have e : dG m ⟨ff,fpc+1,floc,fstk⟩ (a::args) (fs0.length+1) hp made out x = .call ⟨ff,fpc+1,floc,fstk⟩ (qE m.funcs a.n args):=by simp only [dG,List.headD,List.tail];(repeat (first | rfl | refine (if_pos (by omega)).trans ?_ | refine (if_neg (by omega)).trans ?_))
      rw [e];rfl
  refine aF (aC (fun ho=>?_) (fun n24=>?_))
  · have e0 : bA m.funcs x=(eK m.funcs x.a,1):=by unfold bA;repeat (first | rfl | rw [if_pos (by omega)] | rw [if_neg (by omega)])
    rw [e0] at hu
    have hq:=q524 (.inr ho)
    refine aF ?_
    rw [decide_eq_false n23]
    refine aQ ((aMf (t:=took) hi rfl hfs (by rw [hA];omega) hq hu par).mono (fun r hr=>?_))
    rcases hr with ⟨h6,rfl⟩ | ⟨h6,rfl⟩
    · have e : dG m ⟨ff,fpc+1,floc,fstk⟩ took (fs0.length+1) hp made out x = .trap 6:=by simp only [dG];(repeat (first | rfl | refine (if_pos (by omega)).trans ?_ | refine (if_neg (by omega)).trans ?_))
      rw [e];exact ⟨by omega,rfl⟩
    · have e : dG m ⟨ff,fpc+1,floc,fstk⟩ took (fs0.length+1) hp made out x = .call ⟨ff,fpc+1,floc,fstk⟩ (qE m.funcs x.a took):=by simp only [dG];(repeat (first | rfl | refine (if_pos (by omega)).trans ?_ | refine (if_neg (by omega)).trans ?_))
      rw [e];rfl
  refine aF (aC (fun ho=>?_) (fun n25=>?_))
  · have e0 : bA m.funcs x=(1,0):=by unfold bA;repeat (first | rfl | rw [if_pos (by omega)] | rw [if_neg (by omega)])
    rw [e0] at hu
    obtain ⟨a,rfl⟩:=List.length_eq_one_iff.1 (show took.length=1 by omega)
    have e : dG m ⟨ff,fpc+1,floc,fstk⟩ [a] (fs0.length+1) hp made out x = .ret a:=by simp only [dG,List.headD,List.tail];(repeat (first | rfl | refine (if_pos (by omega)).trans ?_ | refine (if_neg (by omega)).trans ?_))
    refine eC rfl (aLk (by omega) (fun g hg=>by have:=stks g hg;omega) (aB ?_))
    rw [e]
    show _=_
    by_cases h0 : fs0 = []
    · rw [if_pos h0,if_pos h0];rfl
    · rw [if_neg h0,if_neg h0];rfl
  refine aF (aC (fun ho=>?_) (fun n26=>?_))
  · have e0 : bA m.funcs x=(1,0):=by unfold bA;repeat (first | rfl | rw [if_pos (by omega)] | rw [if_neg (by omega)])
    rw [e0] at hu
    obtain ⟨a,rfl⟩:=List.length_eq_one_iff.1 (show took.length=1 by omega)
    refine aG (aF (aC (fun h1=>aB ?_) (fun h1=>?_)))
    · have e : dG m ⟨ff,fpc+1,floc,fstk⟩ [a] (fs0.length+1) hp made out x = .trap 8:=by simp only [dG,List.headD,List.tail];(repeat (first | rfl | refine (if_pos (by omega)).trans ?_ | refine (if_neg (by omega)).trans ?_))
      rw [e];exact ⟨by omega,rfl⟩
    have e : dG m ⟨ff,fpc+1,floc,fstk⟩ [a] (fs0.length+1) hp made out x = .next ⟨ff,fpc+1,floc,fstk⟩ hp made (out++[gC a hp]):=by simp only [dG,List.headD,List.tail];(repeat (first | rfl | refine (if_pos (by omega)).trans ?_ | refine (if_neg (by omega)).trans ?_))
    refine eC rfl (aH (aHB (nf:=m.funcs.length) (by omega) (by omega) hrec (vals0 a (by simp))) (fun r hr=>?_))
    rw [hr]
    refine dU rfl (fA (by simp) (fun y hy=>by simp at hy;subst hy;rfl) (fA (by simp;omega) (fun y hy=>by simp at hy;subst hy;rfl) ?_))
    exact fW (laid:=[]) hi rfl hfs (by simp) (aB (by rw [e];simp [DoI];rfl))
  have h9 : x.o=9:=by omega
  have e0 : bA m.funcs x=(1,0):=by unfold bA;repeat (first | rfl | rw [if_pos (by omega)] | rw [if_neg (by omega)])
  rw [e0] at hu
  obtain ⟨a,rfl⟩:=List.length_eq_one_iff.1 (show took.length=1 by omega)
  have e : dG m ⟨ff,fpc+1,floc,fstk⟩ [a] (fs0.length+1) hp made out x = .next ⟨ff,fpc+1,floc,fstk++[]⟩ hp made out:=by simp only [dG,List.headD,List.tail];(repeat (first | rfl | refine (if_pos (by omega)).trans ?_ | refine (if_neg (by omega)).trans ?_))
  exact fW (laid:=[]) hi rfl hfs (by simp) (aB (by rw [e];rfl))
def aCi (fs : List cZ) (code : List bY) (d : List Int) (pc : Nat) : Option Int:=
  match code[pc]? with
  | none=>none
  | some x=>
    if d[pc]?.getD 0<0 then none
    else if can fs x (d[pc]?.getD 0)=false then some 2
    else if (fQ x pc).any (fun t=>decide ((code.length : Int)≤t))=true then some 3
    else if (fQ x pc).any (fun t=>!decide (d[t.toNat]?.getD 0=gX fs x (d[pc]?.getD 0)))=true then some 4
    else none
def aAH (fs : List cZ) (code : List bY) (f pc : Nat) : Option (Int × Nat × Nat):=(aCi fs code (gZ fs code) pc).map fun c=>(c,f,pc)
def aGF (fs : List cZ) (f : Nat) : Option (Int × Nat × Nat):=match fs[f]? with
  | some x=>(List.range' 0 x.code.length).findSome? (aAH fs x.code f)
  | none=>none
def bad (fs : List cZ) : Option (Int × Nat × Nat):=(List.range' 0 fs.length).findSome? (aGF fs)
def aJN : Option (Int × Nat × Nat)→PV
  | some (c,f,pc)=>.agg [.int .i64 c,.int .i64 f,.int .i64 pc]
  | none=>.agg [.int .i64 0,.int .i64 0,.int .i64 0]
def fI.verify (m : fI) : PV:=if m.okB then aJN (bad m.funcs) else .agg [.int .i64 1,.int .i64 0,.int .i64 0]
theorem aEd {n : Nat} {F : Nat→Option R} {P : R→Prop} (I : Nat→Prop) (he : I n→Ok P (F n)) (hs : ∀ i,i<n→I i→(I (i+1)→Ok P (F (i+1)))→Ok P (F i)) (h0 : I 0) : Ok P (F 0):=
  aFj (σ:=Unit) (F:=fun i _=>F i) (fun i _=>I i) (fun _ h=>he h) (fun i _ hi hI ih=>hs i hi hI (fun h=>ih () h)) 0 () (by omega) h0
theorem aCj {α : Type} {xs : List α} {i : Nat} (hi : i<xs.length) (p : α→Bool) : (xs.drop i).any p=(p xs[i]||(xs.drop (i+1)).any p):=by
  rw [List.drop_eq_getElem_cons hi,List.any_cons]
section
variable {fs : List cZ} {code : List bY} {T x3 x4 x5 : PV} (F : Fit fs code) {f : Nat} (hf : f < fs.length)
include F hf
theorem aJO {P : R→Prop} {pc : Nat} (hpc : pc<code.length) {d : List Int} (hd : d.length=code.length) {left : Int} {ts : List Int} (hts : ∀ t∈ts,0≤t∧t<code.length) (hn : ts.length≤10)
    (h4 : ts.any (fun t=>!decide (d[t.toNat]?.getD 0=left))=true→P [.agg [.int .i64 4,.int .i64 f,.int .i64 pc]])
    (hgo : ts.any (fun t=>!decide (d[t.toNat]?.getD 0=left))=false→Ok P (iV (.int .i64 f) (.lst (code.map bY.pv)) (dF d) (.int .i64 ((pc : Int)+1)) T (.lst (fs.map cZ.pv)) x3 x4 x5)) :
    Ok P (hH (.int .i64 f) (.lst (code.map bY.pv)) (dF d) (.int .i64 pc) (.int .i64 left) (dF ts) (.int .i64 0) T (.lst (fs.map cZ.pv)) x3 x4 x5):=by
  have hn2:=F.n2
  refine aEd (n:=ts.length) (F:=fun i=>hH (.int .i64 f) (.lst (code.map bY.pv)) (dF d) (.int .i64 pc) (.int .i64 left) (dF ts) (.int .i64 i) T (.lst (fs.map cZ.pv)) x3 x4 x5)
    (fun i=>(ts.drop i).any (fun t=>!decide (d[t.toNat]?.getD 0=left))=ts.any (fun t=>!decide (d[t.toNat]?.getD 0=left))) ?_ ?_ (by rw [List.drop_zero])
  · intro hI
    rw [List.drop_length] at hI
    rw [sD]
    exact dW (aJ (aC (fun h=>by omega) (fun _=>aR (by omega) (hgo hI.symm))))
  · intro i hi hI ih
    rw [aCj hi] at hI
    have ht:=hts ts[i] (List.getElem_mem _)
    rw [sD]
    refine dW (aJ (aC (fun _=>?_) (fun h=>by omega)))
    refine dK hi (pW (by omega) (by omega) (fun v hv=>?_))
    have hv' : d[ts[i].toNat]?.getD 0=v:=by rw [hv];rfl
    rw [hv'] at hI
    refine bC (aK (fun h=>?_) (fun h=>?_))
    · rw [decide_eq_false h] at hI
      exact aW rfl (aW rfl (aB (h4 hI.symm)))
    · rw [decide_eq_true h] at hI
      exact aR (by omega) (ih hI)
theorem aLl {P : R→Prop} {pc : Nat} (hpc : pc<code.length) {d : List Int} (hd : d.length=code.length) {left : Int} {ts : List Int} (hts : ∀ t∈ts,0≤t∧t≤code.length) (hn : ts.length≤10)
    (h3 : ts.any (fun t=>decide ((code.length : Int)≤t))=true→P [.agg [.int .i64 3,.int .i64 f,.int .i64 pc]])
    (hgo : ts.any (fun t=>decide ((code.length : Int)≤t))=false→Ok P (hH (.int .i64 f) (.lst (code.map bY.pv)) (dF d) (.int .i64 pc) (.int .i64 left) (dF ts) (.int .i64 0) T (.lst (fs.map cZ.pv)) x3 x4 x5)) :
    Ok P (jR (.int .i64 f) (.lst (code.map bY.pv)) (dF d) (.int .i64 pc) (.int .i64 left) (dF ts) (.int .i64 0) T (.lst (fs.map cZ.pv)) x3 x4 x5):=by
  have hn2:=F.n2
  refine aEd (n:=ts.length) (F:=fun i=>jR (.int .i64 f) (.lst (code.map bY.pv)) (dF d) (.int .i64 pc) (.int .i64 left) (dF ts) (.int .i64 i) T (.lst (fs.map cZ.pv)) x3 x4 x5)
    (fun i=>(ts.drop i).any (fun t=>decide ((code.length : Int)≤t))=ts.any (fun t=>decide ((code.length : Int)≤t))) ?_ ?_ (by rw [List.drop_zero])
  · intro hI
    rw [List.drop_length] at hI
    rw [sC]
    exact dW (aJ (aC (fun h=>by omega) (fun _=>hgo hI.symm)))
  · intro i hi hI ih
    rw [aCj hi] at hI
    rw [sC]
    refine dW (aJ (aC (fun _=>?_) (fun h=>by omega)))
    refine dK hi (aG (dP (aC (fun h=>?_) (fun h=>?_))))
    · rw [decide_eq_true h] at hI
      exact aW rfl (aW rfl (aB (h3 hI.symm)))
    · rw [decide_eq_false h] at hI
      exact aR (by omega) (ih hI)
theorem aKw {ts : List Int} {n : Int} (h : ts.any (fun t=>decide (n≤t))=false) : ∀ t∈ts,t<n:=by
  clear F hf
  intro t ht
  rw [List.any_eq_false] at h
  have:=h t ht
  simp at this
  omega
theorem aJP {rest : Option (Int × Nat × Nat)} (hnext : Ok (fun r=>r = [aJN rest]) (kT (.int .i64 ((f : Int)+1)) T (.lst (fs.map cZ.pv)) x3 x4 x5)) : ∀ pc,pc≤code.length→
    Ok (fun r=>r = [aJN (((List.range' pc (code.length - pc)).findSome? (aAH fs code f)).or rest)]) (iV (.int .i64 f) (.lst (code.map bY.pv)) (dF (gZ fs code)) (.int .i64 pc) T (.lst (fs.map cZ.pv)) x3 x4 x5):=by
  have hn2:=F.n2
  have hnf:=F.nf
  have hg:=sL F
  generalize hd : gZ fs code=d at hg
  refine dS ?_ ?_
  · rw [tN,aB9]
    exact aG (aJ (aC (fun h=>by omega) (fun _=>aR (by omega) hnext)))
  · intro pc hpc ih
    have hx : code[pc]? = some code[pc]:=List.getElem?_eq_getElem hpc
    have hm : code[pc]∈code:=List.getElem_mem _
    have hu:=F.u code[pc] hm
    have hil : pc<d.length:=by rw [hg.1];exact hpc
    have hv:=hg.at pc
    have e2 : d[pc]=d[pc]?.getD 0:=aD9 hil
    rw [zR hpc]
    have eb : aAH fs code f pc=(aCi fs code d pc).map fun c=>(c,f,pc):=by unfold aAH;rw [hd]
    rw [eb]
    have ec : aCi fs code d pc=if d[pc]?.getD 0<0 then none
      else if can fs code[pc] (d[pc]?.getD 0)=false then some 2
      else if (fQ code[pc] pc).any (fun t=>decide ((code.length : Int)≤t))=true then some 3
      else if (fQ code[pc] pc).any (fun t=>!decide (d[t.toNat]?.getD 0=gX fs code[pc] (d[pc]?.getD 0)))=true then some 4
      else none:=by
      conv=>lhs;unfold aCi
      rw [hx]
    generalize hw : d[pc]?.getD 0=w at *
    generalize aCi fs code d pc=ch at *
    rw [tN]
    refine aG (aJ (aC (fun _=>?_) (fun h=>by omega)))
    refine dK hil ?_
    rw [e2]
    refine aJ (aC (fun h1=>?_) (fun h1=>?_))
    · rw [if_pos h1] at ec
      subst ec
      exact aR (by omega) ih
    rw [if_neg h1] at ec
    refine aU hpc (fun _=>rfl) (aH (aGx (T:=T) (by omega)) (fun r hr=>?_))
    subst hr
    refine aS rfl (aS rfl (dK hil ?_))
    rw [e2]
    refine bG (by omega) (aR (by omega) (dK hil ?_))
    rw [e2]
    refine aJ (aC (fun h2=>?_) (fun h2=>?_))
    · have hc : can fs code[pc] w=false:=by simp only [can];rw [decide_eq_false (by omega)];rfl
      rw [if_pos hc] at ec
      subst ec
      exact aW rfl (aW rfl (aB rfl))
    refine cO (aC (fun h3=>?_) (fun h3=>?_))
    · have hc : can fs code[pc] w=false:=by simp only [can];rw [decide_eq_false (p:=gX fs code[pc] w≤16) (by unfold gX;omega),Bool.and_false]
      rw [if_pos hc] at ec
      subst ec
      exact aW rfl (aW rfl (aB rfl))
    have hc : can fs code[pc] w=true:=by simp only [can];rw [decide_eq_true (by omega),decide_eq_true (p:=gX fs code[pc] w≤16) (by unfold gX;omega)];rfl
    rw [hc,if_neg (by simp)] at ec
    refine aU hpc (fun _=>rfl) (aH (aGz (by omega)) (fun r hr=>?_))
    subst hr
    have hnx:=yX F hm hpc
    have hl10 : (fQ code[pc] pc).length≤10:=by unfold fQ;repeat' split<;>simp
    refine aLl F hf hpc hg.1 (left:=gX fs code[pc] w) hnx hl10 (fun h=>?_) (fun h=>?_)
    · rw [if_pos h] at ec
      subst ec
      rfl
    rw [if_neg (by rw [h];simp)] at ec
    refine aJO F hf hpc hg.1 (left:=gX fs code[pc] w) (fun t ht=>⟨(hnx t ht).1,aKw F hf h t ht⟩) hl10 (fun h=>?_) (fun h=>?_)
    · rw [if_pos h] at ec
      subst ec
      rfl
    · rw [if_neg (by rw [h];simp)] at ec
      subst ec
      exact ih
end
theorem aFr {fs : List cZ} {f : Nat} (hf : f<fs.length) : aGF fs f=(List.range' 0 fs[f].code.length).findSome? (aAH fs fs[f].code f):=by
  unfold aGF
  rw [List.getElem?_eq_getElem hf]
theorem aDz {m : fI} (h : m.sized) : Ok (fun r=>r = [m.verify]) (tC m.pv):=by
  rw [aEZ]
  refine aD rfl (aA rfl (aA rfl (aH (aF6 h) (fun r hr=>?_))))
  subst hr
  unfold fI.verify
  refine bE (aZ (fun hb=>aB ?_) (fun hb=>?_))
  · have : m.okB=false:=by simpa using hb
    rw [this];rfl
  have hb : m.okB=true:=by simpa using hb
  rw [hb,if_pos rfl]
  obtain ⟨h1,h2,h3⟩:=fI.okB_fit hb
  have key:=dS (n:=m.funcs.length) (P:=fun f r=>r = [aJN ((List.range' f (m.funcs.length - f)).findSome? (aGF m.funcs))])
    (F:=fun f=>kT (.int .i64 f) (.lst (m.texts.map PV.str)) (.lst (m.funcs.map cZ.pv)) (.int .i64 0) (.int .i64 0) (.int .i64 0)) ?_ ?_ 0 (by omega)
  · exact key
  · rw [tM,aB9]
    exact aG (aJ (aC (fun h=>by omega) (fun _=>aB rfl)))
  · intro f hf ih
    have F:=(h3 m.funcs[f] (List.getElem_mem _)).1
    rw [tM,zR hf,aFr hf]
    refine aG (aJ (aC (fun _=>?_) (fun h=>by omega)))
    refine aU hf (fun _=>rfl) (aA rfl (aH (aDy F hf rfl) (fun r hr=>?_)))
    subst hr
    exact aJP F hf ih 0 (by omega)
section
variable {P : R → Prop} {k : R → Option R}
theorem aLm {xs : List Int} (hx : xs.length≤1000000000) (y : Int) : Ok (fun r=>∃ n : Int,r = [.int .i64 n]∧(0≤n↔xs.any (fun x=>decide (y=x))=true)) (kW (dF xs) (.int .i64 y)):=by
  rw [uT]
  refine dW ?_
  refine aEd (n:=xs.length) (F:=fun i=>fO (dF xs) (.int .i64 y) (.int .i64 xs.length) (.int .i64 i)) (fun i=>(xs.drop i).any (fun x=>decide (y=x))=xs.any (fun x=>decide (y=x))) ?_ ?_ (by rw [List.drop_zero])
  · intro hI
    rw [List.drop_length] at hI
    rw [lA]
    refine aJ (aC (fun h=>by omega) (fun _=>aB ⟨-1,rfl,?_⟩))
    rw [← hI];simp
  · intro i hi hI ih
    rw [aCj hi] at hI
    rw [lA]
    refine aJ (aC (fun _=>?_) (fun h=>by omega))
    refine dK hi (aF (aC (fun h=>aB ⟨i,rfl,?_⟩) (fun h=>?_)))
    · rw [← hI,decide_eq_true h];simp
    · rw [decide_eq_false h] at hI
      exact aR (by omega) (ih hI)
theorem aLn {xs : List Int} (hx : xs.length≤1000000000) {y : Int} (h : Ok P (k [.bool (xs.any (fun x=>decide (y=x)))])) : Ok P (bd (iW (dF xs) (.int .i64 y)) k):=by
  refine aH (Q:=fun r=>r = [.bool (xs.any (fun x=>decide (y=x)))]) ?_ (fun r hr=>by rw [hr];exact h)
  rw [sF]
  refine aH (aLm hx y) ?_
  rintro r ⟨n,rfl,hn⟩
  refine dP (aB ?_)
  by_cases h0 : 0≤n
  · rw [decide_eq_true h0,hn.1 h0]
  · rw [decide_eq_false h0]
    cases h2 : xs.any (fun x=>decide (y=x)) with
    | false=>rfl
    | true=>exact absurd (hn.2 h2) h0
theorem aLo {f : Nat} {caps : List PV} {xs : List Int} (hx : xs.length≤1000000000) (p : Int→Bool) (hp : ∀ x∈xs,Ok (fun r=>r = [.bool (p x)]) (aN f ([.int .i64 x]++caps))) (h : Ok P (k [.bool (xs.any p)])) :
    Ok P (bd (gD (dF xs) (.fn f caps)) k):=by
  refine aH (Q:=fun r=>r = [.bool (xs.any p)]) ?_ (fun r hr=>by rw [hr];exact h)
  rw [oU]
  refine aH (Q:=fun r=>∃ n : Int,r = [.int .i64 n]∧(0≤n↔xs.any p=true)) ?_ ?_
  · rw [qV]
    refine dW ?_
    refine aEd (n:=xs.length) (F:=fun i=>eI (dF xs) (.fn f caps) (.int .i64 xs.length) (.int .i64 i)) (fun i=>(xs.drop i).any p=xs.any p) ?_ ?_ (by rw [List.drop_zero])
    · intro hI
      rw [List.drop_length] at hI
      rw [jC]
      refine aJ (aC (fun h=>by omega) (fun _=>aB ⟨-1,rfl,?_⟩))
      rw [← hI];simp
    · intro i hi hI ih
      rw [aCj hi] at hI
      rw [jC]
      refine aJ (aC (fun _=>?_) (fun h=>by omega))
      refine dK hi (rT rfl (hp _ (List.getElem_mem _)) (fun r hr=>?_))
      subst hr
      refine aZ (fun h=>aB ⟨i,rfl,?_⟩) (fun h=>?_)
      · rw [← hI,h];simp
      · rw [h,Bool.false_or] at hI
        exact aR (by omega) (ih hI)
  · rintro r ⟨n,rfl,hn⟩
    refine dP (aB ?_)
    by_cases h0 : 0≤n
    · rw [decide_eq_true h0,hn.1 h0]
    · rw [decide_eq_false h0]
      cases h2 : xs.any p with
      | false=>rfl
      | true=>exact absurd (hn.2 h2) h0
end
theorem aMU {ts : List Int} {n : Int} (h : ∀ t∈ts,t≤n) : ts.any (fun x=>decide (n=x))=ts.any (fun t=>decide (n≤t)):=by
  induction ts with
  | nil=>rfl
  | cons t r ih=>
    rw [List.any_cons,List.any_cons,ih (fun x hx=>h x (List.mem_cons_of_mem _ hx))]
    have:=h t List.mem_cons_self
    congr 1
    by_cases h1 : n=t
    · rw [decide_eq_true h1,decide_eq_true (by omega)]
    · rw [decide_eq_false h1,decide_eq_false (by omega)]
section
variable {fs : List cZ} {code : List bY} {T x3 x4 x5 : PV} (F : Fit fs code) {f : Nat} (hf : f < fs.length)
include F hf
theorem aJQ {rest : Option (Int × Nat × Nat)} (hnext : Ok (fun r=>r = [aJN rest]) (kR (.int .i64 fs.length) (.int .i64 ((f : Int)+1)) T (.lst (fs.map cZ.pv)) x3 x4 x5)) : ∀ pc,pc≤code.length→
    Ok (fun r=>r = [aJN (((List.range' pc (code.length - pc)).findSome? (aAH fs code f)).or rest)])
      (kS (.int .i64 f) (.int .i64 fs.length) (.int .i64 f) (.lst (code.map bY.pv)) (.int .i64 code.length) (.int .i64 pc) T (.lst (fs.map cZ.pv)) x3 x4 x5 (dF (gZ fs code))):=by
  have hn2:=F.n2
  have hnf:=F.nf
  have hg:=sL F
  generalize hd : gZ fs code=d at hg
  refine dS ?_ ?_
  · rw [tL,aB9]
    exact aJ (aC (fun h=>by omega) (fun _=>aR (by omega) hnext))
  · intro pc hpc ih
    have hx : code[pc]? = some code[pc]:=List.getElem?_eq_getElem hpc
    have hm : code[pc]∈code:=List.getElem_mem _
    have hu:=F.u code[pc] hm
    have hil : pc<d.length:=by rw [hg.1];exact hpc
    have hv:=hg.at pc
    have e2 : d[pc]=d[pc]?.getD 0:=aD9 hil
    rw [zR hpc]
    have eb : aAH fs code f pc=(aCi fs code d pc).map fun c=>(c,f,pc):=by unfold aAH;rw [hd]
    rw [eb]
    have ec : aCi fs code d pc=if d[pc]?.getD 0<0 then none
      else if can fs code[pc] (d[pc]?.getD 0)=false then some 2
      else if (fQ code[pc] pc).any (fun t=>decide ((code.length : Int)≤t))=true then some 3
      else if (fQ code[pc] pc).any (fun t=>!decide (d[t.toNat]?.getD 0=gX fs code[pc] (d[pc]?.getD 0)))=true then some 4
      else none:=by
      conv=>lhs;unfold aCi
      rw [hx]
    generalize hw : d[pc]?.getD 0=w at *
    generalize aCi fs code d pc=ch at *
    rw [tL]
    refine aJ (aC (fun _=>?_) (fun h=>by omega))
    refine aU hpc (fun _=>rfl) (aD rfl (aA rfl (aA rfl (dK hil ?_))))
    rw [e2]
    refine aJ (aC (fun h1=>?_) (fun h1=>?_))
    · rw [if_pos h1] at ec
      subst ec
      exact aR (by omega) ih
    rw [if_neg h1] at ec
    refine dK hil ?_
    rw [e2]
    refine aH (aGD (T:=T) F hm hv) (fun r hr=>?_)
    subst hr
    refine aS rfl (aS rfl (aW rfl (bE (aZ (fun hc=>?_) (fun hc=>?_)))))
    · have hc : can fs code[pc] w=false:=by simpa using hc
      rw [if_pos hc] at ec
      subst ec
      exact aW rfl (aW rfl (aB rfl))
    have hc : can fs code[pc] w=true:=by simpa using hc
    rw [hc,if_neg (by simp)] at ec
    refine aH (aGA (x:=code[pc]) (by omega)) (fun r hr=>?_)
    subst hr
    have hnx:=yX F hm hpc
    have hl10 : (fQ code[pc] pc).length≤10:=by unfold fQ;repeat' split<;>simp
    refine dW (aLn (by omega) ?_)
    rw [hg.1,aMU (fun t ht=>(hnx t ht).2)]
    refine aZ (fun h=>?_) (fun h=>?_)
    · rw [if_pos h] at ec
      subst ec
      exact aW rfl (aW rfl (aB rfl))
    rw [if_neg (by rw [h];simp)] at ec
    refine aLo (by omega) (fun t=>!decide (d[t.toNat]?.getD 0=gX fs code[pc] w)) (fun t ht=>?_) ?_
    · have:=hnx t ht
      have:=aKw F hf h t ht
      show Ok _ (aAx _ _ _)
      rw [aCN]
      refine pH rfl (pW (by omega) (by rw [hg.1];omega) (fun v hv=>pH rfl (bC (aB ?_))))
      rw [hv];rfl
    · refine dU rfl (aZ (fun h=>?_) (fun h=>?_))
      · rw [if_pos h] at ec
        subst ec
        exact aW rfl (aW rfl (aB rfl))
      · rw [if_neg (by rw [h];simp)] at ec
        subst ec
        exact aR (by omega) ih
end
theorem aDA {m : fI} (h : m.sized) : Ok (fun r=>r = [m.verify]) (tB m.pv):=by
  rw [aEY]
  refine aD rfl (aA rfl (aA rfl (aH (aAD h) (fun r hr=>?_))))
  subst hr
  unfold fI.verify
  refine bE (aZ (fun hb=>aB ?_) (fun hb=>?_))
  · have : m.okB=false:=by simpa using hb
    rw [this];rfl
  have hb : m.okB=true:=by simpa using hb
  rw [hb,if_pos rfl]
  obtain ⟨h1,h2,h3⟩:=fI.okB_fit hb
  refine aG ?_
  have key:=dS (n:=m.funcs.length) (P:=fun f r=>r = [aJN ((List.range' f (m.funcs.length - f)).findSome? (aGF m.funcs))])
    (F:=fun f=>kR (.int .i64 m.funcs.length) (.int .i64 f) (.lst (m.texts.map PV.str)) (.lst (m.funcs.map cZ.pv)) (.int .i64 0) (.int .i64 0) (.int .i64 0)) ?_ ?_ 0 (by omega)
  · exact key
  · rw [tK,aB9]
    exact aJ (aC (fun h=>by omega) (fun _=>aB rfl))
  · intro f hf ih
    have F:=(h3 m.funcs[f] (List.getElem_mem _)).1
    rw [tK,zR hf,aFr hf]
    refine aJ (aC (fun _=>?_) (fun h=>by omega))
    refine aH (sM F hf rfl) (fun r hr=>?_)
    subst hr
    refine aW rfl (aU hf (fun _=>rfl) (aA rfl (aG ?_)))
    exact aJQ F hf ih 0 (by omega)
theorem aLp {fs : List cZ} {code : List bY} {d : List Int} {pc : Nat} (hpc : pc<code.length) (h : aCi fs code d pc=none) (h0 : ¬ d[pc]?.getD 0<0) :
    can fs code[pc] (d[pc]?.getD 0)=true∧∀ t∈fQ code[pc] pc,t<code.length∧d[t.toNat]?.getD 0=gX fs code[pc] (d[pc]?.getD 0):=by
  unfold aCi at h
  rw [List.getElem?_eq_getElem hpc] at h
  simp only at h
  rw [if_neg h0] at h
  split at h
  · cases h
  rename_i h1
  split at h
  · cases h
  rename_i h2
  split at h
  · cases h
  rename_i h3
  refine ⟨by simpa using h1,fun t ht=>?_⟩
  rw [Bool.not_eq_true,List.any_eq_false] at h2 h3
  have g2:=h2 t ht
  have g3:=h3 t ht
  simp at g2 g3
  exact ⟨by omega,g3⟩
theorem aMg {fs : List cZ} (h : bad fs=none) {f : Nat} (hf : f<fs.length) {pc : Nat} (hpc : pc<fs[f].code.length) : aCi fs fs[f].code (gZ fs fs[f].code) pc=none:=by
  unfold bad at h
  rw [List.findSome?_eq_none_iff] at h
  have h1:=h f (by rw [List.mem_range'_1];omega)
  rw [aFr hf,List.findSome?_eq_none_iff] at h1
  have h2:=h1 pc (by rw [List.mem_range'_1];omega)
  simpa [aAH] using h2
structure fL (m : fI) : Prop where
  sz : m.sized
  ok : m.okB=true
  bad : bad m.funcs=none
def dAt (m : fI) (f pc : Int) : Int:=(gZ m.funcs (cM m.funcs f))[pc.toNat]?.getD 0
def sS (m : fI) (f pc : Int) : bY:=(cM m.funcs f)[pc.toNat]?.getD ⟨0,0⟩
abbrev xP (m : fI) (n : Int) (v : cS) : Prop:=bN m.funcs.length n v=true
theorem zC : kK (bs []) (bs [])=true:=aFk _
theorem lW {nf n : Int} : bN nf n cX=true:=by simp [bN,cX,zC]
theorem aKx {nf n x : Int} (h : cD x=true) : bN nf n (qY x)=true:=by simp [bN,qY,zC,h]
theorem aCk {nf n : Int} {b : Bool} : bN nf n (lC b)=true:=by cases b<;>simp [bN,lC,zC,lG]
theorem aIO {nf n : Int} {s : ByteArray} (h : dR s=true) : bN nf n (xD s)=true:=by simp [bN,xD,h]
theorem aMV {nf n i : Int} (h : 0≤i∧i<n) : bN nf n (aK9 i)=true:=by simp [bN,aK9,zC,h]
theorem aMW {nf n i : Int} (h : 0≤i∧i<nf) : bN nf n (aHr i)=true:=by
  have : i≤nf - 1:=by omega
  simp [bN,aHr,zC,lG,h,this]
theorem oX {nf n n' : Int} (hn : n≤n') {v : cS} (h : bN nf n v=true) : bN nf n' v=true:=by
  unfold bN at *
  split at h
  · cases h
  rename_i h0
  rw [if_neg h0]
  split at h
  · rename_i h1;rw [if_pos h1];exact h
  rename_i h1
  rw [if_neg h1]
  split at h
  · rename_i h1;rw [if_pos h1];exact h
  rename_i h2
  rw [if_neg h2]
  split at h
  · rename_i h1;rw [if_pos h1];exact h
  rename_i h3
  rw [if_neg h3]
  split at h
  · rename_i h1;rw [if_pos h1];exact h
  rename_i h4
  rw [if_neg h4]
  split at h
  · rename_i h1
    rw [if_pos h1]
    simp only [Bool.and_eq_true,decide_eq_true_eq] at *
    omega
  rename_i h5
  rw [if_neg h5]
  exact h
theorem aMX {a b : ByteArray} (ha : dR a=true) (hb : dR b=true) (h : ¬ (60 : Int)<a.size+b.size) : dR (a++b)=true:=by
  simp only [dR,Bool.and_eq_true,decide_eq_true_eq,List.all_eq_true] at *
  refine ⟨by rw [ByteArray.size_append];omega,fun x hx=>?_⟩
  rw [ByteArray.data_append,Array.toList_append,List.mem_append] at hx
  rcases hx with hx | hx
  · exact ha.2 x hx
  · exact hb.2 x hx
theorem aC4 {nf n : Int} {v : cS} (h : bN nf n v=true) (hk : v.k=3) : dR v.s=true:=by
  unfold bN at h
  rw [if_neg (fun e=>e.1 hk),if_neg (by omega),if_neg (by omega),if_neg (by omega),if_pos hk] at h
  simp only [Bool.and_eq_true] at h
  exact h.2
theorem aHC {nf n o : Int} {a b : cS} : bN nf n (xM o a b).1=true:=by
  unfold xM
  repeat' split
  all_goals first
    | exact lW
    | (rename_i h;exact aKx (by simpa using h))
theorem aNv {nf n o : Int} {a b : cS} (ha : bN nf n a=true) (hb : bN nf n b=true) : bN nf n (nM o a b).1=true:=by
  unfold nM
  split
  · split
    · rename_i h
      split
      · exact lW
      · rename_i h2
        exact aIO (aMX (aC4 ha h.1) (aC4 hb h.2) h2)
    · exact aHC
  split
  · exact aHC
  split
  · exact aHC
  split
  · repeat' split
    all_goals first
      | exact lW
      | exact aCk
  · exact aCk
theorem fL.fit {m : fI} (g : fL m) : 1≤m.funcs.length∧m.funcs.length≤12∧∀ f∈m.funcs,Fit m.funcs f.code∧0≤f.p∧f.p≤6∧f.p≤f.lc∧f.lc≤12:=fI.okB_fit g.ok
theorem fL.code {m : fI} (g : fL m) {f : Int} (h : 0≤f∧f<m.funcs.length) : ∃ i : Nat,∃ hi : i<m.funcs.length,f=i∧cM m.funcs f=m.funcs[i].code∧Fit m.funcs m.funcs[i].code∧0≤m.funcs[i].p∧m.funcs[i].p≤6∧m.funcs[i].p≤m.funcs[i].lc∧m.funcs[i].lc≤12∧uZ m.funcs f=m.funcs[i].lc∧eK m.funcs f=m.funcs[i].p∧
    ∀ x∈m.funcs[i].code,cB m.texts.length m.funcs.length m.funcs[i].lc m.funcs[i].code.length x.o x.a=true:=by
  obtain ⟨i,hi⟩:=Int.eq_ofNat_of_zero_le h.1
  have hl : i<m.funcs.length:=by omega
  have hm : m.funcs[i]∈m.funcs:=List.getElem_mem _
  obtain ⟨F,p1,p2,p3,p4⟩:=g.fit.2.2 _ hm
  refine ⟨i,hl,hi,by simp [cM,hi,List.getElem?_eq_getElem hl],F,p1,p2,p3,p4,by simp [uZ,hi,List.getElem?_eq_getElem hl],by simp [eK,hi,List.getElem?_eq_getElem hl],fun x hx=>?_⟩
  have h:=g.ok
  simp only [fI.okB,Bool.and_eq_true,bI,decide_eq_true_eq,List.all_eq_true,sK] at h
  exact (h.2.2.2 _ hm).2.2.2 x hx
theorem fL.at_ {m : fI} (g : fL m) {f pc : Int} (h : 0≤f∧f<m.funcs.length) (hp : 0≤pc∧pc<(cM m.funcs f).length) (hd : 0≤dAt m f pc) :
    cB m.texts.length m.funcs.length (uZ m.funcs f) (cM m.funcs f).length (sS m f pc).o (sS m f pc).a=true∧
    (0≤(bA m.funcs (sS m f pc)).1∧(bA m.funcs (sS m f pc)).1≤dAt m f pc∧0≤(bA m.funcs (sS m f pc)).2∧(bA m.funcs (sS m f pc)).2≤2)∧dAt m f pc≤16∧gX m.funcs (sS m f pc) (dAt m f pc)≤16∧
    ∀ t∈fQ (sS m f pc) pc,(0≤t∧t<(cM m.funcs f).length)∧dAt m f t=gX m.funcs (sS m f pc) (dAt m f pc):=by
  obtain ⟨i,hi,rfl,hc,F,p1,p2,p3,p4,hlc,hpar,hins⟩:=g.code h
  obtain ⟨j,rfl⟩:=Int.eq_ofNat_of_zero_le hp.1
  have hj : j<m.funcs[i].code.length:=by rw [hc] at hp;omega
  have hx : sS m i j=m.funcs[i].code[j]:=by simp [sS,hc,List.getElem?_eq_getElem hj]
  have hm : m.funcs[i].code[j]∈m.funcs[i].code:=List.getElem_mem _
  have hu:=F.u _ hm
  have hdd : ∀ t : Int,dAt m i t=(gZ m.funcs m.funcs[i].code)[t.toNat]?.getD 0:=fun t=>by rw [dAt,hc]
  have hb:=(sL F).at j
  have hck:=aLp hj (aMg g.bad hi hj)
  have hnx:=yX F hm hj
  rw [hx,hc,hlc]
  rw [hdd,Int.toNat_natCast] at hd ⊢
  obtain ⟨hcan,hall⟩:=hck (by omega)
  simp only [can,Bool.and_eq_true,decide_eq_true_eq] at hcan
  refine ⟨hins _ hm,⟨hu.1,hcan.1,hu.2.2⟩,hb.2,hcan.2,fun t ht=>?_⟩
  obtain ⟨q1,q2⟩:=hall t ht
  exact ⟨⟨(hnx t ht).1,q1⟩,by rw [hdd];exact q2⟩
structure FrI (m : fI) (n : Int) (f : cF) : Prop where
  fi : 0≤f.f∧f.f<m.funcs.length
  pc : 0≤f.pc∧f.pc<(cM m.funcs f.f).length
  loc : (f.loc.length : Int)=uZ m.funcs f.f
  d : 0≤dAt m f.f f.pc
  vl : ∀ v∈f.loc,xP m n v
  vs : ∀ v∈f.stk,xP m n v
structure aLq (m : fI) (n : Int) (f : cF) : Prop extends FrI m n f where
  h : (f.stk.length : Int)=dAt m f.f f.pc
structure aIP (m : fI) (n : Int) (f : cF) : Prop extends FrI m n f where
  low : 1≤f.pc∧0≤dAt m f.f (f.pc - 1)∧((sS m f.f (f.pc - 1)).o=23∨(sS m f.f (f.pc - 1)).o=24)
  h : (f.stk.length : Int)=dAt m f.f f.pc - 1
structure HpI (m : fI) (hp : List (List cS)) (made : Int) (out : List ByteArray) : Prop where
  made : hp.length≤made∧made≤120
  recs : ∀ r∈hp,r.length≤6∧∀ v∈r,xP m hp.length v
  out : out.length≤200
structure VmI (m : fI) (v : qG) : Prop where
  hp : HpI m v.hp v.made v.out
  steps : 0≤v.steps∧v.steps≤50000
  nfr : v.fr.length≤24
  run : v.st=0→v.fr≠[]
  top : ∀ fs0 f,v.fr=fs0++[f]→aLq m v.hp.length f∧∀ g∈fs0,aIP m v.hp.length g
theorem FrI.mono {m : fI} {n n' : Int} (hn : n≤n') {f : cF} (h : FrI m n f) : FrI m n' f:=
  ⟨h.fi,h.pc,h.loc,h.d,fun v hv=>oX hn (h.vl v hv),fun v hv=>oX hn (h.vs v hv)⟩
theorem aIP.mono {m : fI} {n n' : Int} (hn : n≤n') {f : cF} (h : aIP m n f) : aIP m n' f:=⟨h.toFrI.mono hn,h.low,h.h⟩
theorem FrI.small {m : fI} (g : fL m) {n : Int} {f : cF} (h : FrI m n f) : f.loc.length≤12:=by
  obtain ⟨i,hi,he,hc,F,p1,p2,p3,p4,hlc,hpar,hins⟩:=g.code h.fi
  have:=h.loc
  omega
theorem FrI.dle {m : fI} (g : fL m) {n : Int} {f : cF} (h : FrI m n f) : dAt m f.f f.pc≤16:=(g.at_ h.fi h.pc h.d).2.2.1
theorem VmI.sz {m : fI} (g : fL m) {v : qG} (h : VmI m v) : Sz v:=by
  have:=h.hp.made
  have:=h.hp.out
  have:=h.nfr
  refine ⟨by omega,by omega,by omega,fun f hf=>?_,fun r hr=>by have:=(h.hp.recs r hr).1;omega⟩
  rcases List.eq_nil_or_concat v.fr with h0 | ⟨fs0,f0,h0⟩
  · rw [h0] at hf;cases hf
  · obtain ⟨t,l⟩:=h.top fs0 f0 (by rw [h0];simp)
    rw [h0] at hf
    simp only [List.concat_eq_append,List.mem_append,List.mem_singleton] at hf
    rcases hf with hf | rfl
    · have:=(l f hf).toFrI.small g
      have:=(l f hf).toFrI.dle g
      have:=(l f hf).h
      omega
    · have:=t.toFrI.small g
      have:=t.toFrI.dle g
      have:=t.h
      omega
theorem VmI.goes {m : fI} (g : fL m) {v : qG} (h : VmI m v) (h0 : v.st=0) : ∃ fs0 f,aMe m v fs0 f:=by
  rcases List.eq_nil_or_concat v.fr with e | ⟨fs0,f,e⟩
  · exact absurd e (h.run h0)
  rw [List.concat_eq_append] at e
  refine ⟨fs0,f,?_⟩
  obtain ⟨t,l⟩:=h.top fs0 f e
  obtain ⟨i,hi,he,hc,F,p1,p2,p3,p4,hlc,hpar,hins⟩:=g.code t.fi
  obtain ⟨a1,a2,a3,a4,a5⟩:=g.at_ t.fi t.pc t.d
  have hx : jE m.funcs f=sS m f.f f.pc:=rfl
  have hh:=t.h
  have hm:=h.hp.made
  have hn:=h.nfr
  rw [e,List.length_append,List.length_singleton] at hn
  refine ⟨e,t.fi,t.pc,by rw [hc];exact F.n2,by rw [hx,t.loc];exact a1,by rw [hx,hh];exact ⟨a2.1,a2.2.1⟩,fun b=>?_⟩
  refine ⟨g.fit.2.1,?_,fun f hf=>?_,by omega,fun f hf=>?_,by have:=t.toFrI.small g;exact this,?_,fun r hr=>(h.hp.recs r hr).1,by omega,by omega,h.hp.out,fun v hv=>t.vs v (List.mem_of_mem_drop hv)⟩
  · have h:=g.ok
    simp only [fI.okB,Bool.and_eq_true,bI,decide_eq_true_eq] at h
    omega
  · have:=g.fit.2.2 f hf
    exact this.2
  · have:=(l f hf).toFrI.dle g
    have:=(l f hf).h
    omega
  · simp only [List.length_take,List.length_drop]
    omega
structure aIQ (m : fI) (v : qG) (f : cF) (x : bY) (fr : cF) (hp : List (List cS)) (made : Int) (out : List ByteArray) : Prop where
  ff : fr.f=f.f
  pc : fr.pc∈fQ x f.pc
  loc : fr.loc.length=f.loc.length
  len : (fr.stk.length : Int)=gX m.funcs x f.stk.length
  vl : ∀ y∈fr.loc,xP m hp.length y
  vs : ∀ y∈fr.stk,xP m hp.length y
  n : v.hp.length≤hp.length
  hpI : HpI m hp made out
structure aNe (m : fI) (v : qG) (fs0 : List cF) (f : cF) (x : bY) (fr g : cF) : Prop where
  n : fs0.length+1<24
  o : x.o=23∨x.o=24
  frr : fr=⟨f.f,f.pc+1,f.loc,f.stk.take (f.stk.length - (bA m.funcs x).1.toNat)⟩
  gg : ∃ i args,g=qE m.funcs i args∧(0≤i∧i<m.funcs.length)∧(args.length : Int)=eK m.funcs i∧∀ y∈args,xP m v.hp.length y
def aNJ (m : fI) (v : qG) (fs0 : List cF) (f : cF) (x : bY) : aHv→Prop
  | .trap _=>True
  | .next fr hp made out=>aIQ m v f x fr hp made out
  | .call fr g=>aNe m v fs0 f x fr g
  | .ret a=>xP m v.hp.length a
theorem aKy {m : fI} {n : Int} {l : List cS} (h : ∀ y∈l,xP m n y) (i : Nat) : xP m n (l[i]?.getD cX):=by
  cases hx : l[i]? with
  | none=>exact lW
  | some y=>exact h y (List.mem_of_getElem? hx)
theorem aHD {m : fI} {v : qG} (h : HpI m v.hp v.made v.out) (i : Nat) : (v.hp[i]?.getD []).length≤6∧∀ y∈v.hp[i]?.getD [],xP m v.hp.length y:=by
  cases hx : v.hp[i]? with
  | none=>simp
  | some y=>exact h.recs y (List.mem_of_getElem? hx)
theorem aMi {m : fI} {n : Int} {l : List cS} (h : ∀ y∈l,xP m n y) {y : cS} (hy : xP m n y) (i : Nat) : ∀ z∈l.set i y,xP m n z:=by
  intro z hz
  rcases List.mem_or_eq_of_mem_set hz with h1 | rfl
  · exact h z h1
  · exact hy
theorem aHE {m : fI} {n : Int} {a b : List cS} (h : ∀ y∈a,xP m n y) (h' : ∀ y∈b,xP m n y) : ∀ y∈a++b,xP m n y:=by
  intro y hy
  rcases List.mem_append.1 hy with h1 | h1
  · exact h y h1
  · exact h' y h1
theorem aGG {x : bY} {pc : Int} (h : x.o≠17∧x.o≠25) : pc+1∈fQ x pc:=by simp [fQ,h]
theorem aFs {x : bY} {pc : Int} (h : x.o=17∨x.o=18∨x.o=19) : x.a∈fQ x pc:=by unfold fQ;rw [if_pos h];simp
section
variable {m : fI} {v : qG} {fs0 : List cF} {f : cF} {x : bY}
theorem aMj (g : fL m) (h : VmI m v) (t : aLq m v.hp.length f) (hx : jE m.funcs f=x) (hn : fs0.length+1≤24) : aNJ m v fs0 f x (xE m v fs0 f):=by
  obtain ⟨a1,a2,a3,a4,a5⟩:=g.at_ t.fi t.pc t.d
  have hi : sS m f.f f.pc=x:=hx
  rw [hi] at a1 a2 a4 a5
  have hh:=t.h
  rw [← hh] at a2 a3 a4
  rw [← t.loc] at a1
  have ib:=zU a1
  show aNJ m v fs0 f x (dG m ⟨f.f,f.pc+1,f.loc,f.stk.take (f.stk.length - (bA m.funcs (jE m.funcs f)).1.toNat)⟩ (f.stk.drop (f.stk.length - (bA m.funcs (jE m.funcs f)).1.toNat)) (fs0.length+1) v.hp v.made v.out (jE m.funcs f))
  rw [hx]
  generalize hb : f.stk.length - (bA m.funcs x).1.toNat=b
  have hlt : ((f.stk.take b).length : Int)=f.stk.length - (bA m.funcs x).1:=by rw [List.length_take];omega
  have hld : ((f.stk.drop b).length : Int)=(bA m.funcs x).1:=by rw [List.length_drop];omega
  have kt : ∀ y∈f.stk.take b,xP m v.hp.length y:=fun y hy=>t.vs y (List.mem_of_mem_take hy)
  have kd : ∀ y∈f.stk.drop b,xP m v.hp.length y:=fun y hy=>t.vs y (List.mem_of_mem_drop hy)
  have hlef : gX m.funcs x f.stk.length=f.stk.length - (bA m.funcs x).1+(bA m.funcs x).2:=rfl
  generalize htk : f.stk.take b=T at *
  generalize hdr : f.stk.drop b=D at *
  have ka : xP m v.hp.length (D.headD cX):=by
    cases D with
    | nil=>exact lW
    | cons y r=>exact kd y (by simp)
  have kb : xP m v.hp.length (D.tail.headD cX):=by
    cases D with
    | nil=>exact lW
    | cons y r=>cases r with
      | nil=>exact lW
      | cons z r=>exact kd z (by simp)
  have ktl : ∀ y∈D.tail,xP m v.hp.length y:=fun y hy=>kd y (List.mem_of_mem_tail hy)
  have go : ∀ (l : List cS) (pc : Int),pc∈fQ x f.pc→(∀ y∈l,xP m v.hp.length y)→(l.length : Int)=(bA m.funcs x).2→aIQ m v f x ⟨f.f,pc,f.loc,T++l⟩ v.hp v.made v.out:=fun l pc hpc hl hn=>
    ⟨rfl,hpc,rfl,by rw [hlef,List.length_append];omega,t.vl,aHE kt hl,Nat.le_refl _,h.hp⟩
  have go0 : ∀ pc : Int,pc∈fQ x f.pc→(bA m.funcs x).2=0→aIQ m v f x ⟨f.f,pc,f.loc,T⟩ v.hp v.made v.out:=fun pc hpc hn=>by
    have:=go [] pc hpc (by simp) (by simp [hn])
    simpa using this
  have one : ∀ y,xP m v.hp.length y→∀ z∈[y],xP m v.hp.length z:=fun y hy z hz=>by rw [List.mem_singleton] at hz;rw [hz];exact hy
  have two : ∀ y y',xP m v.hp.length y→xP m v.hp.length y'→∀ z∈[y,y'],xP m v.hp.length z:=fun y y' hy hy' z hz=>by
    simp only [List.mem_cons,List.not_mem_nil,or_false] at hz
    rcases hz with rfl | rfl
    · exact hy
    · exact hy'
  obtain ⟨⟨o1,o2⟩,i3,i67,i20,i21,i23,i5,ij,i1⟩:=ib
  have inc : x.o≠17→x.o≠25→f.pc+1∈fQ x f.pc:=fun h1 h2=>aGG ⟨h1,h2⟩
  unfold dG
  simp only
  by_cases h1 : x.o=1
  · rw [if_pos h1]
    exact go _ _ (inc (by omega) (by omega)) (one _ (aKx (i1 h1))) (by simp [bA,h1])
  rw [if_neg h1]
  by_cases h2 : x.o=2
  · rw [if_pos h2]
    exact go _ _ (inc (by omega) (by omega)) (one _ aCk) (by simp [bA,h2])
  rw [if_neg h2]
  by_cases h3 : x.o=3
  · rw [if_pos h3]
    refine go _ _ (inc (by omega) (by omega)) (one _ (aIO ?_)) (by simp [bA,h3])
    have hok:=g.ok
    simp only [fI.okB,Bool.and_eq_true,bI,decide_eq_true_eq,List.all_eq_true] at hok
    have:=i3 h3
    rw [List.getElem?_eq_getElem (by omega)]
    exact hok.2.2.1 _ (List.getElem_mem _)
  rw [if_neg h3]
  by_cases h4 : x.o=4
  · rw [if_pos h4]
    exact go _ _ (inc (by omega) (by omega)) (one _ lW) (by simp [bA,h4])
  rw [if_neg h4]
  by_cases h5 : x.o=5
  · rw [if_pos h5]
    exact go _ _ (inc (by omega) (by omega)) (one _ (aMW (i5 (.inl h5)))) (by simp [bA,h5])
  rw [if_neg h5]
  by_cases h6 : x.o=6
  · rw [if_pos h6]
    exact go _ _ (inc (by omega) (by omega)) (one _ (aKy t.vl _)) (by simp [bA,h6])
  rw [if_neg h6]
  by_cases h7 : x.o=7
  · rw [if_pos h7]
    exact ⟨rfl,inc (by omega) (by omega),by simp,by rw [hlef];simp only;rw [hlt];simp [bA,h7],aMi t.vl ka _,kt,Nat.le_refl _,h.hp⟩
  rw [if_neg h7]
  by_cases h8 : x.o=8
  · rw [if_pos h8]
    exact go _ _ (inc (by omega) (by omega)) (two _ _ ka ka) (by simp [bA,h8])
  rw [if_neg h8]
  by_cases h9 : x.o=9
  · rw [if_pos h9]
    exact go _ _ (inc (by omega) (by omega)) (by simp) (by simp [bA,h9])
  rw [if_neg h9]
  by_cases h10 : x.o=10
  · rw [if_pos h10]
    exact go _ _ (inc (by omega) (by omega)) (two _ _ kb ka) (by simp [bA,h10])
  rw [if_neg h10]
  by_cases h15 : x.o≤15
  · rw [if_pos h15]
    have hu : (bA m.funcs x).2=1:=by
      have : x.o=11∨x.o=12∨x.o=13∨x.o=14∨x.o=15:=by omega
      rcases this with h | h | h | h | h<;>simp [bA,h]
    split
    · trivial
    · exact go _ _ (inc (by omega) (by omega)) (one _ (aNv ka kb)) (by rw [hu];rfl)
  rw [if_neg h15]
  by_cases h16 : x.o=16
  · rw [if_pos h16]
    split
    · trivial
    · refine go _ _ (inc (by omega) (by omega)) (one _ ?_) (by simp [bA,h16])
      unfold uY
      split
      · exact lW
      · exact aCk
  rw [if_neg h16]
  by_cases h17 : x.o=17
  · rw [if_pos h17]
    exact go0 _ (aFs (.inl h17)) (by simp [bA,h17])
  rw [if_neg h17]
  by_cases h19 : x.o≤19
  · rw [if_pos h19]
    have h89 : x.o=18∨x.o=19:=by omega
    have hu : (bA m.funcs x).2=0:=by rcases h89 with h | h<;>simp [bA,h]
    split
    · trivial
    split
    · exact go0 _ (aFs (.inr h89)) hu
    · exact go _ _ (inc (by omega) (by omega)) (by simp) (by rw [hu];rfl)
  rw [if_neg h19]
  by_cases h20 : x.o=20
  · rw [if_pos h20]
    split
    · trivial
    rename_i hm
    have hm0:=h.hp.made
    have hl : (v.hp++[List.replicate x.a.toNat cX]).length=v.hp.length+1:=by simp
    refine ⟨rfl,inc (by omega) (by omega),rfl,?_,fun y hy=>oX (by rw [hl];omega) (t.vl y hy),aHE (fun y hy=>oX (by rw [hl];omega) (kt y hy)) (fun y hy=>?_),by rw [hl];omega,⟨by rw [hl];omega,fun r hr=>?_,h.hp.out⟩⟩
    · rw [hlef];simp only [List.length_append,List.length_singleton]
      have hu : (bA m.funcs x).2=1:=by simp [bA,h20]
      omega
    · rw [List.mem_singleton] at hy
      rw [hy]
      exact aMV (by rw [hl];omega)
    · rcases List.mem_append.1 hr with hr | hr
      · exact ⟨(h.hp.recs r hr).1,fun y hy=>oX (by rw [hl];omega) ((h.hp.recs r hr).2 y hy)⟩
      · rw [List.mem_singleton] at hr
        rw [hr]
        have:=i20 h20
        refine ⟨by rw [List.length_replicate];omega,fun y hy=>?_⟩
        rw [List.eq_of_mem_replicate hy]
        exact lW
  rw [if_neg h20]
  by_cases h21 : x.o=21
  · rw [if_pos h21]
    split
    · trivial
    split
    · trivial
    exact go _ _ (inc (by omega) (by omega)) (one _ (aKy (aHD h.hp _).2 _)) (by simp [bA,h21])
  rw [if_neg h21]
  by_cases h22 : x.o=22
  · rw [if_pos h22]
    split
    · trivial
    split
    · trivial
    have hl : ∀ r,(v.hp.set (D.headD cX).n.toNat r).length=v.hp.length:=fun r=>List.length_set
    refine ⟨rfl,inc (by omega) (by omega),rfl,by rw [hlef];simp only;rw [hlt];simp [bA,h22],fun y hy=>by rw [xP,hl];exact t.vl y hy,fun y hy=>by rw [xP,hl];exact kt y hy,by rw [hl];omega,⟨by rw [hl];exact h.hp.made,fun r hr=>?_,h.hp.out⟩⟩
    rw [hl]
    rcases List.mem_or_eq_of_mem_set hr with hr | hr
    · exact h.hp.recs r hr
    · rw [hr]
      exact ⟨by rw [List.length_set];exact (aHD h.hp _).1,aMi (aHD h.hp _).2 kb _⟩
  rw [if_neg h22]
  by_cases h23 : x.o=23
  · rw [if_pos h23]
    have hxa:=i23 h23
    have hu : bA m.funcs x=(x.a+1,1):=by
      have : 0≤x.a∧x.a≤6:=hxa
      simp [bA,h23,this]
    rw [hu] at hld hb
    simp only at hld hb
    split
    · trivial
    rename_i hk
    have hk : (D.headD cX).k=5:=by omega
    split
    · trivial
    rename_i hp
    have hp : eK m.funcs (D.headD cX).n=x.a:=by omega
    split
    · trivial
    rename_i hd
    refine ⟨?_,.inl h23,?_,_,_,rfl,aC1 ka hk,by rw [List.length_tail,hp];omega,ktl⟩
    · omega
    · rw [← htk,← hb,hu]
  rw [if_neg h23]
  by_cases h24 : x.o=24
  · rw [if_pos h24]
    have hxa:=i5 (.inr h24)
    have hu : bA m.funcs x=(eK m.funcs x.a,1):=by
      have : 0≤x.a∧x.a<m.funcs.length:=hxa
      simp [bA,h24,this]
    rw [hu] at hld hb
    simp only at hld hb
    split
    · trivial
    rename_i hd
    refine ⟨?_,.inr h24,?_,_,_,rfl,hxa,hld,kd⟩
    · omega
    · rw [← htk,← hb,hu]
  rw [if_neg h24]
  by_cases h25 : x.o=25
  · rw [if_pos h25]
    exact ka
  rw [if_neg h25]
  have h26 : x.o=26:=by omega
  split
  · trivial
  rename_i ho
  have:=h.hp.out
  exact ⟨rfl,inc (by omega) (by omega),rfl,by rw [hlef];simp only;rw [hlt];simp [bA,h26],t.vl,kt,Nat.le_refl _,⟨h.hp.made,h.hp.recs,by simp;omega⟩⟩
end
theorem aCl {α : Type} {a b : List α} {x y : α} (h : a++[x]=b++[y]) : a=b∧x=y:=by
  have:=List.append_inj' h rfl
  exact ⟨this.1,by simpa using this.2⟩
theorem aIP.top {m : fI} {n : Int} {f : cF} {a : cS} (h : aIP m n f) (ha : xP m n a) : aLq m n ⟨f.f,f.pc,f.loc,f.stk++[a]⟩:=
  ⟨⟨h.fi,h.pc,h.loc,h.d,h.vl,aHE h.vs (fun y hy=>by rw [List.mem_singleton] at hy;rw [hy];exact ha)⟩,by
    have:=h.h
    simp only [List.length_append,List.length_singleton]
    omega⟩
theorem aIR {m : fI} (g : fL m) {n i : Int} {args : List cS} (hi : 0≤i∧i<m.funcs.length) (hn : (args.length : Int)=eK m.funcs i) (ha : ∀ y∈args,xP m n y) : aLq m n (qE m.funcs i args):=by
  obtain ⟨k,hk,he,hc,F,p1,p2,p3,p4,hlc,hpar,hins⟩:=g.code hi
  have h0 : dAt m i 0=0:=by
    rw [dAt,hc,Int.toNat_zero,aIF F];rfl
  refine ⟨⟨hi,?_,?_,?_,?_,fun y hy=>by cases hy⟩,?_⟩
  · show (0 : Int)≤0∧0<((cM m.funcs i).length : Int)
    have:=F.n1
    rw [hc];omega
  · show ((args++List.replicate ((uZ m.funcs i).toNat - args.length) cX).length : Int)=uZ m.funcs i
    rw [List.length_append,List.length_replicate]
    omega
  · show 0≤dAt m i 0
    omega
  · refine aHE ha (fun y hy=>?_)
    rw [List.eq_of_mem_replicate hy]
    exact lW
  · show ((0 : Nat) : Int)=dAt m i 0
    omega
theorem VmI.step {m : fI} (g : fL m) {v : qG} (h : VmI m v) : VmI m (lE m v):=by
  by_cases h0 : v.st≠0
  · have : lE m v=v:=by unfold lE;rw [if_pos h0]
    rw [this];exact h
  have h0 : v.st=0:=by omega
  by_cases h5 : v.steps=50000
  · have : lE m v=v:=by unfold lE;rw [if_neg (by omega),if_pos h5]
    rw [this];exact h
  obtain ⟨fs0,f,G⟩:=h.goes g h0
  obtain ⟨t,low⟩:=h.top fs0 f G.fr
  have hnf:=h.nfr
  rw [G.fr,List.length_append,List.length_singleton] at hnf
  have hst:=h.steps
  rw [zX h0 h5 G.fr]
  have A:=aMj (fs0:=fs0) g h t rfl hnf
  obtain ⟨a1,a2,a3,a4,a5⟩:=g.at_ t.fi t.pc t.d
  have hh:=t.h
  have hx : sS m f.f f.pc=jE m.funcs f:=rfl
  rw [hx] at a1 a2 a4 a5
  cases ha : xE m v fs0 f with
  | trap c=>
    exact ⟨h.hp,by show 0≤v.steps+1∧v.steps+1≤50000;omega,h.nfr,fun h=>absurd h (by show (2 : Int)≠0;omega),h.top⟩
  | next fr hp made out=>
    rw [ha] at A
    have A : aIQ m v f (jE m.funcs f) fr hp made out:=A
    obtain ⟨b1,b2⟩:=a5 _ A.pc
    refine ⟨A.hpI,by show 0≤v.steps+1∧v.steps+1≤50000;omega,by show (fs0++[fr]).length≤24;rw [List.length_append,List.length_singleton];exact hnf,fun _=>by show fs0++[fr]≠[];simp,fun fs1 f1 he=>?_⟩
    obtain ⟨rfl,rfl⟩:=aCl (show fs0++[fr]=fs1++[f1] from he)
    refine ⟨⟨⟨by rw [A.ff];exact t.fi,by rw [A.ff];exact b1,by rw [A.ff,A.loc];exact t.loc,by rw [A.ff,b2];have:=A.len;rw [hh] at this;omega,A.vl,A.vs⟩,by rw [A.len,A.ff,b2,hh]⟩,fun f hf=>(low f hf).mono (n':=(hp.length : Int)) (by have:=A.n;omega)⟩
  | call fr gg=>
    rw [ha] at A
    have A : aNe m v fs0 f (jE m.funcs f) fr gg:=A
    obtain ⟨i,args,rfl,hi,hn,hv⟩:=A.gg
    have hnx : f.pc+1∈fQ (jE m.funcs f) f.pc:=aGG (by have:=A.o;omega)
    obtain ⟨b1,b2⟩:=a5 _ hnx
    have hu2 : (bA m.funcs (jE m.funcs f)).2=1:=by
      have ib:=zU a1
      rcases A.o with ho | ho
      · have:=ib.2.2.2.2.2.1 ho
        simp [bA,ho,this]
      · have:=ib.2.2.2.2.2.2.1 (.inr ho)
        simp [bA,ho,this]
    have hlef : gX m.funcs (jE m.funcs f) (dAt m f.f f.pc)=dAt m f.f f.pc - (bA m.funcs (jE m.funcs f)).1+(bA m.funcs (jE m.funcs f)).2:=rfl
    refine ⟨h.hp,by show 0≤v.steps+1∧v.steps+1≤50000;omega,by show (fs0++[fr,qE m.funcs i args]).length≤24;rw [List.length_append];have:=A.n;simp only [List.length_cons,List.length_nil];omega,fun _=>by show fs0++[fr,qE m.funcs i args]≠[];simp,fun fs1 f1 he=>?_⟩
    have he : fs0++[fr,qE m.funcs i args]=fs1++[f1]:=he
    rw [show fs0++[fr,qE m.funcs i args]=(fs0++[fr])++[qE m.funcs i args] by simp] at he
    obtain ⟨rfl,rfl⟩:=aCl he
    refine ⟨aIR g hi hn hv,fun y hy=>?_⟩
    rcases List.mem_append.1 hy with hy | hy
    · exact low y hy
    · rw [List.mem_singleton] at hy
      rw [hy,A.frr]
      refine ⟨⟨t.fi,b1,t.loc,by show 0≤dAt m f.f (f.pc+1);rw [b2];omega,t.vl,fun y hy=>t.vs y (List.mem_of_mem_take hy)⟩,?_,?_⟩
      · show 1≤f.pc+1∧0≤dAt m f.f (f.pc+1 - 1)∧((sS m f.f (f.pc+1 - 1)).o=23∨(sS m f.f (f.pc+1 - 1)).o=24)
        rw [show f.pc+1 - 1=f.pc by omega]
        exact ⟨by have:=t.pc;omega,t.d,A.o⟩
      · show ((f.stk.take (f.stk.length - (bA m.funcs (jE m.funcs f)).1.toNat)).length : Int)=dAt m f.f (f.pc+1) - 1
        rw [b2,List.length_take]
        omega
  | ret a=>
    rw [ha] at A
    have A : xP m v.hp.length a:=A
    by_cases hf : fs0 = []
    · have e : aBu m v fs0 (.ret a)=⟨[],v.hp,v.made,v.out,1,v.tr,a,v.steps+1⟩:=if_pos hf
      rw [e]
      exact ⟨h.hp,by show 0≤v.steps+1∧v.steps+1≤50000;omega,by simp,fun h=>absurd h (by show (1 : Int)≠0;omega),fun fs1 f1 he=>by simp at he⟩
    · have e : aBu m v fs0 (.ret a)=⟨aAG a fs0,v.hp,v.made,v.out,v.st,v.tr,v.val,v.steps+1⟩:=if_neg hf
      rw [e]
      rcases List.eq_nil_or_concat fs0 with e0 | ⟨fs1,f1,e1⟩
      · exact absurd e0 hf
      rw [List.concat_eq_append] at e1
      subst e1
      rw [wK]
      simp only [List.length_append,List.length_singleton] at hnf
      refine ⟨h.hp,by show 0≤v.steps+1∧v.steps+1≤50000;omega,by simp only [List.length_append,List.length_singleton];omega,fun _=>by simp,fun fs2 f2 he=>?_⟩
      obtain ⟨rfl,rfl⟩:=aCl he
      exact ⟨(low f1 (by simp)).top A,fun y hy=>low y (by simp [hy])⟩
end Go.Proofs.YtjgleeamiclokaaGreatDoor
