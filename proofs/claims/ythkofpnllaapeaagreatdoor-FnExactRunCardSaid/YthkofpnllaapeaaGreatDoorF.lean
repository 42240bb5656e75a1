/-
  Texts of the proof, part 6: a value-level evaluator and its soundness, what the functions compute, laws about it.
  Conditions: none.
-/
import Derived.Test.YthkofpnllaapeaaGreatDoorE
import Derived.Calls
import Derived.KernelRfl
import Derived.Orders
import Derived.Test.YthkofpnllaapeaaGreatDoorProg
import Derived.Lib.AppendIntMem
import Derived.Lib.ItoaNum
import Derived.Laws.IdiomCopy
import Derived.Laws.Cells
import Derived.Below
import Derived.Laws.StructEq
import Derived.Laws.BytesString
import Derived.Laws.NewFold
import Derived.Laws.Tables
import Derived.Great.FillDense
import Derived.Shelf.Spec.SlicesGrow
import Derived.Shelf.Strconv.Itoa3
import Derived.Shelf.SlGeneric
import Derived.Ground.NamesProg
import Derived.Ground.Names8Prog
import Derived.IntWalk
import Derived.WalkKit
import Derived.ProofKit
import Derived.OpenShut
import Derived.ShutString
import Derived.ChangeOld
import Derived.Lib.Strings
set_option linter.all false
namespace Go.Proofs.YthkofpnllaapeaaGreatDoor
open Go Go.IntWalk
attribute [local irreducible] bd PV.ite PV.guardFlat PV.guardOwn PV.whole PV.one PV.cell PV.sub PV.at_ PV.len PV.slen PV.chr PV.beq PV.peq PV.ceq PV.bin PV.neg PV.not PV.conv PV.cut PV.scut PV.cat PV.setAt PV.setCell PV.ncopy PV.copyIn PV.zeros PV.toStr PV.toBytes PV.deref PV.isPtr PV.comp PV.inb PV.off PV.imin PV.imax PV.sel PV.apply PV.isLst PV.isInt PV.ix PV.nilT
structure cB where
  k : Int
  n : Int
  s : ByteArray
def cB.pv (v : cB) : PV:=.agg [.int .i64 v.k,.int .i64 v.n,.str v.s]
def dV : cB:=⟨0,0,bs []⟩
def aB5 (n : Int) : cB:=⟨1,n,bs []⟩
def lW (b : Bool) : cB:=⟨2,if b then 1 else 0,bs []⟩
def aB6 (s : ByteArray) : cB:=⟨3,0,s⟩
def aKS (n : Int) : cB:=⟨4,n,bs []⟩
def aKT (n : Int) : cB:=⟨5,n,bs []⟩
def bX (n : Int) : Bool:=jG n (-1000000000) 1000000000
def jS (a b : ByteArray) : Bool:=a.toList==b.toList
theorem aJA (a : ByteArray) : jS a a=true:=by simp [jS]
def I64 (n : Int) : Prop:=-9223372036854775808≤n∧n≤9223372036854775807
section
variable {P : R → Prop} {k : PV → Option R} {kr : R → Option R} {a b : ByteArray}
theorem aMy (h : Ok P (k (.bool (!jS a b)))) : Ok P (bd (PV.bin .neq (.str a) (.str b)) k):=cY _ (by simp only [PV.bin,PV.strBin];rfl) h
theorem qF (h : Ok P (k (.bool (jS a b)))) : Ok P (bd (PV.bin .eql (.str a) (.str b)) k):=cY _ (by simp only [PV.bin,PV.strBin];rfl) h
theorem aKb (h : Ok P (k (.bool (PV.bytesLt a.toList b.toList)))) : Ok P (bd (PV.bin .lss (.str a) (.str b)) k):=cY _ (by simp only [PV.bin,PV.strBin]) h
theorem iJ (hb : a.size+b.size≤4611686018427387904) (h : Ok P (k (.str (a++b)))) : Ok P (bd (PV.bin .add (.str a) (.str b)) k):=cY _ (by simp only [PV.bin,PV.strBin];rw [if_pos (by omega)]) h
theorem aB7 {n : Int} (h : Ok P (kr [.bool (bX n)])) : Ok P (bd (fH (.int .i64 n)) kr):=by
  refine aF (Q:=fun r=>r = [.bool (bX n)]) ?_ (fun r hr=>by rw [hr];exact h)
  rw [aFb]
  exact eR (aB rfl)
theorem aIC {n : Int} (h : Ok P (kr [(aB5 n).pv])) : Ok P (bd (oM (.int .i64 n)) kr):=by
  refine aF (Q:=fun r=>r = [(aB5 n).pv]) ?_ (fun r hr=>by rw [hr];exact h)
  rw [aFj]
  exact bA rfl (aB rfl)
theorem nZ {c : Bool} (h : Ok P (kr [(lW c).pv])) : Ok P (bd (fE (.bool c)) kr):=by
  refine aF (Q:=fun r=>r = [(lW c).pv]) ?_ (fun r hr=>by rw [hr];exact h)
  rw [aDY]
  exact bU (fun h=>aB (by rw [h];rfl)) (fun h=>aB (by rw [h];rfl))
end
def bI (nf recs : Int) (v : cB) : Bool:=
  if v.k≠3∧jS v.s (bs [])=false then false
  else if v.k=0 then decide (v.n=0)
  else if v.k=1 then bX v.n
  else if v.k=2 then jG v.n 0 1
  else if v.k=3 then decide (v.n=0)&&fU v.s
  else if v.k=4 then decide (0≤v.n)&&decide (v.n<recs)
  else if v.k=5 then jG v.n 0 (nf - 1)
  else false
theorem aJB {fs : List cW} {T : PV} {v : cB} {recs : Int} (hf : fs.length≤2097152) (hs : v.s.size≤2097152) : Ok (fun r=>r = [.bool (bI fs.length recs v)]) (aAJ (.agg [T,.lst (fs.map cW.pv)]) v.pv (.int .i64 recs)):=by
  rw [aFX]
  refine aD rfl (aA rfl (aA rfl (aD rfl (aA rfl (aA rfl (aA rfl ?_))))))
  refine bC (aJ (fun h3=>?_) (fun h3=>?_))
  · refine aMy (bU (fun h=>aB ?_) (fun h=>?_))
    · have h : jS v.s (bs [])=false:=by simpa using h
      unfold bI
      rw [if_pos ⟨h3,h⟩]
    have h : jS v.s (bs [])=true:=by simpa using h
    repeat' (first
      | refine aH (aC (fun heq=>?_) (fun heq=>?_))
      | refine nU (aC (fun hge=>?_) (fun hge=>?_))
      | exact aB7 (aB (by unfold bI;rw [if_neg (by rw [h];simp)];repeat (first | rfl | rw [if_pos (by assumption)] | rw [if_neg (by assumption)])))
      | exact eR (aB (by unfold bI;rw [if_neg (by rw [h];simp)];repeat (first | rfl | rw [if_pos (by assumption)] | rw [if_neg (by assumption)])))
      | exact aE (cQ (by omega) (eR (aB (by unfold bI;rw [if_neg (by rw [h];simp)];repeat (first | rfl | rw [if_pos (by assumption)] | rw [if_neg (by assumption)])))))
      | (exfalso;omega)
      | exact aH (aB (by unfold bI;rw [if_neg (by rw [h];simp)];repeat (first | rfl | rw [if_pos (by assumption)] | rw [if_neg (by assumption)])))
      | exact aG (aB (by unfold bI;rw [if_neg (by rw [h];simp)];repeat (first | rfl | rw [decide_eq_true hge,Bool.true_and] | rw [if_pos (by assumption)] | rw [if_neg (by assumption)])))
      | exact aB (by unfold bI;rw [if_neg (by rw [h];simp)];repeat (first | rfl | rw [decide_eq_false hge,Bool.false_and] | rw [if_pos (by assumption)] | rw [if_neg (by assumption)])))
  · have hk : ¬ (v.k≠3∧jS v.s (bs [])=false):=fun h=>h.1 h3
    repeat' (first
      | refine aH (aC (fun heq=>?_) (fun heq=>?_))
      | (exfalso;omega)
      | exact aJ9 hs (aB (by unfold bI;rw [if_neg hk];repeat (first | rfl | rw [if_pos (by assumption)] | rw [if_neg (by omega)] | rw [decide_eq_true heq,Bool.true_and])))
      | exact aB (by unfold bI;rw [if_neg hk];repeat (first | rfl | rw [if_pos (by assumption)] | rw [if_neg (by omega)] | rw [decide_eq_false heq,Bool.false_and])))
def vH (o a b : Int) : Int:=if o=12 then a - b else if o=13 then a*b else a+b
def aBk (o : Int) (a b : cB) : cB × Int:=
  if a.k≠1 then (dV,1) else if b.k≠1 then (dV,1) else if bX a.n=false then (dV,2) else if bX b.n=false then (dV,2)
  else if bX (vH o a.n b.n)=false then (dV,2) else (aB5 (vH o a.n b.n),0)
def aAm (a b : cB) : cB:=lW (decide (a.k=b.k)&&(decide (a.n=b.n)&&jS a.s b.s))
def nG (o : Int) (a b : cB) : cB × Int:=
  if o=11 then (if a.k=3∧b.k=3 then (if (60 : Int)<a.s.size+b.s.size then (dV,3) else (aB6 (a.s++b.s),0)) else aBk 11 a b)
  else if o=12 then aBk 12 a b
  else if o=13 then aBk 13 a b
  else if o=14 then (if a.k=3∧b.k=3 then (lW (PV.bytesLt a.s.toList b.s.toList),0) else if a.k=1∧b.k=1 then (lW (decide (a.n<b.n)),0) else (dV,1))
  else (aAm a b,0)
def opR (p : cB × Int) : R:=[.tup [p.1.pv,.int .i64 p.2]]
theorem aLK {a b : Int} (ha : bX a=true) (hb : bX b=true) : -1000000000000000000≤a*b∧a*b≤1000000000000000000:=by
  have ha:=bN.1 ha
  have hb:=bN.1 hb
  have h : (a*b).natAbs≤1000000000*1000000000:=by
    rw [Int.natAbs_mul]
    exact Nat.mul_le_mul (by omega) (by omega)
  omega
theorem aJC {o a b : Int} (ho : o=11∨o=12∨o=13) : Ok (fun r=>r=(if bX a=false then [.tup [.int .i64 0,.int .i64 2]] else if bX b=false then [.tup [.int .i64 0,.int .i64 2]]
    else if bX (vH o a b)=false then [.tup [.int .i64 0,.int .i64 2]] else [.tup [.int .i64 (vH o a b),.int .i64 0]])) (tL (.int .i64 o) (.int .i64 a) (.int .i64 b)):=by
  rw [aCY]
  refine aB7 (bW (bU (fun h=>aB ?_) (fun h1=>?_)))
  · rw [if_pos (by simpa using h)]
  have h1 : bX a=true:=by simpa using h1
  rw [if_neg (by rw [h1];simp)]
  refine aB7 (bW (bU (fun h=>aB ?_) (fun h2=>?_)))
  · rw [if_pos (by simpa using h)]
  have h2 : bX b=true:=by simpa using h2
  rw [if_neg (by rw [h2];simp)]
  have ga:=bN.1 h1
  have gb:=bN.1 h2
  have gm:=aLK h1 h2
  have fin : ∀ n : Int,n=vH o a b→Ok (fun r=>r=(if bX (vH o a b)=false then [.tup [.int .i64 0,.int .i64 2]] else [.tup [.int .i64 (vH o a b),.int .i64 0]]))
      (bd (fH (.int .i64 n)) fun r=>bd (PV.not (hd r)) fun v=>PV.ite v (some [.tup [.int .i64 0,.int .i64 2]]) (some [.tup [.int .i64 n,.int .i64 0]])):=by
    intro n hn
    subst hn
    refine aB7 (bW (bU (fun h=>aB ?_) (fun h=>aB ?_)))
    · rw [if_pos (by simpa using h)]
    · rw [if_neg (by simpa using h)]
  refine aN (by omega) (aH (aC (fun h=>cQ (by omega) ?_) (fun h12=>aH (aC (fun h=>aLC (by omega) ?_) (fun h13=>?_)))))
  · exact fin _ (by unfold vH;rw [if_pos h])
  · exact fin _ (by unfold vH;rw [if_neg h12,if_pos h])
  · exact fin _ (by unfold vH;rw [if_neg h12,if_neg h13])
theorem vI {o : Int} {a b : cB} (ho : o=11∨o=12∨o=13) : Ok (fun r=>r=opR (aBk o a b)) (fX (.int .i64 o) a.pv b.pv):=by
  rw [aBe]
  refine aD rfl (aA rfl (aA rfl (aA rfl (aD rfl (aA rfl (aA rfl (aA rfl ?_)))))))
  refine bC (aJ (fun h=>aB ?_) (fun h1=>bC (aJ (fun h=>aB ?_) (fun h2=>?_))))
  · unfold aBk;rw [if_pos h];rfl
  · unfold aBk;rw [if_neg (by simpa using h1),if_pos h];rfl
  refine aF (aJC ho) (fun r hr=>?_)
  have e : aBk o a b=if bX a.n=false then (dV,2) else if bX b.n=false then (dV,2) else if bX (vH o a.n b.n)=false then (dV,2) else (aB5 (vH o a.n b.n),0):=by
    unfold aBk;rw [if_neg (by simpa using h1),if_neg (by simpa using h2)]
  rw [e]
  have trap : ∀ {x : R},x = [.tup [.int .i64 0,.int .i64 2]]→r=x→Ok (fun r=>r=opR (dV,2)) (bd (PV.comp (hd r) 0) fun v2185=>bd (PV.comp (hd r) 1) fun v2186=>bd (PV.bin .neq v2186 (.int .i64 0)) fun v2187=>PV.ite v2187 (some [(.tup [(.agg [(.int .i64 0),(.int .i64 0),(.str (bs []))]),v2186])]) (bd (oM v2185) fun r2188=>bd (PV.whole 3 (hd r2188)) fun v2189=>bd (PV.cell v2189 0) fun v2190=>bd (PV.cell v2189 1) fun v2191=>bd (PV.cell v2189 2) fun v2192=>some [(.tup [(.agg [v2190,v2191,v2192]),(.int .i64 0)])])):=by
    intro x hx hr
    subst hx;subst hr
    exact aW rfl (aW rfl (bC (aJ (fun _=>aB rfl) (fun h=>by omega))))
  split at hr
  · rename_i h;rw [if_pos h];exact trap rfl hr
  rename_i h3
  rw [if_neg h3]
  split at hr
  · rename_i h;rw [if_pos h];exact trap rfl hr
  rename_i h4
  rw [if_neg h4]
  split at hr
  · rename_i h;rw [if_pos h];exact trap rfl hr
  rename_i h5
  rw [if_neg h5]
  subst hr
  refine aW rfl (aW rfl (bC (aJ (fun h=>absurd rfl h) (fun _=>?_))))
  exact aIC (aD rfl (aA rfl (aA rfl (aA rfl (aB rfl)))))
theorem lO {P : R→Prop} {k : R→Option R} {o : Option R} {p : cB × Int} (h : Ok (fun r=>r=opR p) o) (hk : Ok P (k [.tup [.agg [.int .i64 p.1.k,.int .i64 p.1.n,.str p.1.s],.int .i64 p.2]])) : Ok P (bd o k):=
  aF h (fun r hr=>by subst hr;exact hk)
set_option maxRecDepth 100000 in
theorem aB8 {o : Int} {a b : cB} (ho : 11≤o∧o≤15) (hs : a.s.size≤2097152∧b.s.size≤2097152) : Ok (fun r=>r=opR (nG o a b)) (lJ (.int .i64 o) a.pv b.pv):=by
  have less3 : ¬ (a.k=3∧b.k=3)→Ok (fun r=>r=opR (if a.k=1∧b.k=1 then (lW (decide (a.n<b.n)),0) else (dV,1))) (mP (.int .i64 a.k) (.int .i64 a.n) (.str a.s) (.int .i64 b.k) (.int .i64 b.n) (.str b.s) (.int .i64 0) (.int .i64 0) (.str (bs []))):=by
    intro _
    rw [aBZ]
    refine aH (aC (fun h1=>aH (aC (fun h2=>?_) (fun h2=>aB ?_))) (fun h1=>aB ?_))
    · rw [aB0,if_pos ⟨h1,h2⟩]
      exact aG (nZ (aD rfl (aA rfl (aA rfl (aA rfl (aB rfl))))))
    · rw [if_neg (fun h=>h2 h.2)];rfl
    · rw [if_neg (fun h=>h1 h.1)];rfl
  have less : Ok (fun r=>r=opR (nG 14 a b)) (xU a.pv b.pv):=by
    rw [aFk]
    refine aD rfl (aA rfl (aA rfl (aA rfl (aD rfl (aA rfl (aA rfl (aA rfl ?_)))))))
    have e : nG 14 a b=(if a.k=3∧b.k=3 then (lW (PV.bytesLt a.s.toList b.s.toList),0) else if a.k=1∧b.k=1 then (lW (decide (a.n<b.n)),0) else (dV,1)):=rfl
    rw [e]
    refine aH (aC (fun h1=>aH (aC (fun h2=>?_) (fun h2=>?_))) (fun h1=>?_))
    · rw [aBY,if_pos ⟨h1,h2⟩]
      exact aKb (nZ (aD rfl (aA rfl (aA rfl (aA rfl (aB rfl))))))
    · rw [if_neg (fun h=>h2 h.2)];exact less3 (fun h=>h2 h.2)
    · rw [if_neg (fun h=>h1 h.1)];exact less3 (fun h=>h1 h.1)
  have add : Ok (fun r=>r=opR (nG 11 a b)) (aAO a.pv b.pv):=by
    rw [aF4]
    refine aD rfl (aA rfl (aA rfl (aA rfl (aD rfl (aA rfl (aA rfl (aA rfl ?_)))))))
    have e : nG 11 a b=(if a.k=3∧b.k=3 then (if (60 : Int)<a.s.size+b.s.size then (dV,3) else (aB6 (a.s++b.s),0)) else aBk 11 a b):=rfl
    rw [e]
    have hn:=vI (o:=11) (a:=a) (b:=b) (by omega)
    refine aH (aC (fun h1=>aH (aC (fun h2=>?_) (fun h2=>?_))) (fun h1=>?_))
    · rw [aCX,if_pos ⟨h1,h2⟩]
      refine mG (mG (cQ (by omega) (nT (aC (fun h=>aB ?_) (fun h=>?_)))))
      · rw [if_pos (by omega)];rfl
      · rw [if_neg (by omega)]
        exact iJ (by omega) (bA rfl (aB rfl))
    · rw [if_neg (fun h=>h2 h.2)]
      exact lO hn (aW rfl (aW rfl (aD rfl (aA rfl (aA rfl (aA rfl (aB rfl)))))))
    · rw [if_neg (fun h=>h1 h.1)]
      exact lO hn (aW rfl (aW rfl (aD rfl (aA rfl (aA rfl (aA rfl (aB rfl)))))))
  rw [aF2]
  refine aD rfl (aA rfl (aA rfl (aA rfl (aD rfl (aA rfl (aA rfl (aA rfl ?_)))))))
  refine aH (aC (fun h=>?_) (fun h11=>aH (aC (fun h=>?_) (fun h12=>aH (aC (fun h=>?_) (fun h13=>aH (aC (fun h=>?_) (fun h14=>?_))))))))
  · subst h
    exact lO add (aW rfl (aW rfl (aD rfl (aA rfl (aA rfl (aA rfl (aB rfl)))))))
  · subst h
    have : Ok (fun r=>r=opR (nG 12 a b)) (aAP a.pv b.pv):=by
      rw [aF5]
      refine aD rfl (aA rfl (aA rfl (aA rfl (aD rfl (aA rfl (aA rfl (aA rfl ?_)))))))
      exact lO (vI (o:=12) (by omega)) (aW rfl (aW rfl (aD rfl (aA rfl (aA rfl (aA rfl (aB rfl)))))))
    exact lO this (aW rfl (aW rfl (aD rfl (aA rfl (aA rfl (aA rfl (aB rfl)))))))
  · subst h
    have : Ok (fun r=>r=opR (nG 13 a b)) (aAQ a.pv b.pv):=by
      rw [aF6]
      refine aD rfl (aA rfl (aA rfl (aA rfl (aD rfl (aA rfl (aA rfl (aA rfl ?_)))))))
      exact lO (vI (o:=13) (by omega)) (aW rfl (aW rfl (aD rfl (aA rfl (aA rfl (aA rfl (aB rfl)))))))
    exact lO this (aW rfl (aW rfl (aD rfl (aA rfl (aA rfl (aA rfl (aB rfl)))))))
  · subst h
    exact lO less (aW rfl (aW rfl (aD rfl (aA rfl (aA rfl (aA rfl (aB rfl)))))))
  · have h15 : o=15:=by omega
    subst h15
    have same : Ok (fun r=>r = [(aAm a b).pv]) (xX a.pv b.pv):=by
      rw [aFl]
      refine aD rfl (aA rfl (aA rfl (aA rfl (aD rfl (aA rfl (aA rfl (aA rfl ?_)))))))
      refine aH (aC (fun h1=>aH (aC (fun h2=>qF ?_) (fun h2=>?_))) (fun h1=>?_))
      · refine nZ (aD rfl (aA rfl (aA rfl (aA rfl (aB ?_)))))
        unfold aAm;rw [decide_eq_true h1,decide_eq_true h2];rfl
      · refine nZ (aD rfl (aA rfl (aA rfl (aA rfl (aB ?_)))))
        unfold aAm;rw [decide_eq_true h1,decide_eq_false h2];rfl
      · refine nZ (aD rfl (aA rfl (aA rfl (aA rfl (aB ?_)))))
        unfold aAm;rw [decide_eq_false h1];rfl
    refine aF same (fun r hr=>?_)
    subst hr
    exact aD rfl (aA rfl (aA rfl (aA rfl (aB rfl))))
def yH (v : cB) : cB × Int:=if v.k≠2 then (dV,1) else (lW (!decide (v.n=1)),0)
theorem aLL {v : cB} : Ok (fun r=>r=opR (yH v)) (aAN v.pv):=by
  rw [aF3]
  refine aD rfl (aA rfl (aA rfl (aA rfl ?_)))
  refine bC (aJ (fun h=>aB ?_) (fun h=>?_))
  · unfold yH;rw [if_pos h];rfl
  · refine bC (nZ (aD rfl (aA rfl (aA rfl (aA rfl (aB ?_))))))
    unfold yH;rw [if_neg (by simpa using h)];rfl
def dig (n : Int) : ByteArray:=⟨#[UInt8.ofNat (48+n).toNat]⟩
def zW : Nat→Int→ByteArray
  | 0,n=>dig n
  | j+1,n=>if n<10 then dig n else zW j (n / 10)++dig (n % 10)
def jF (n : Int) : ByteArray:=
  if n<0 then (if n < -9 then bs [45]++zW 18 (-(n.tdiv 10))++zW 18 (-(n.tmod 10)) else bs [45]++zW 18 (-n)) else zW 18 n
theorem aB9 (n : Int) : (dig n).size=1:=rfl
theorem kN : ∀ (j : Nat) (n : Int),(zW j n).size≤j+1
  | 0,n=>by simp [zW,aB9]
  | j+1,n=>by
    unfold zW
    split
    · rw [aB9];omega
    · rw [ByteArray.size_append,aB9]
      have:=kN j (n / 10)
      omega
theorem zD : ∀ (j : Nat) (n : Int),0≤n→n<10 ^ (j+1)→n≤9223372036854775807→j≤100→Ok (fun r=>r = [.str (zW j n)]) (dO (.int .i64 n)):=by
  have one : ∀ {P : R→Prop} {k : PV→Option R} {n : Int},0≤n→n<10→Ok P (k (.str (dig n)))→Ok P (bd (PV.bin .add (.int .i64 48) (.int .i64 n)) fun v=>bd (PV.conv .u8 v) fun v=>bd (PV.cat 1 1 false (.lst []) (.lst [v])) fun v=>bd (PV.toStr v) k):=by
    intro P k n h1 h2 h
    refine aN (by omega) (aM9 (by omega) ?_)
    refine pX (by simp) (fun x hx=>by simp only [List.mem_singleton] at hx;subst hx;rfl) ?_
    exact aIu (l:=[48+n]) h
  intro j
  induction j with
  | zero=>
    intro n h1 h2 _ _
    rw [mY]
    refine aG (aC (fun h=>by omega) (fun _=>aG (aC (fun h=>?_) (fun h=>by omega))))
    exact one h1 h (aB rfl)
  | succ j ih=>
    intro n h1 h2 hj hjj
    rw [mY]
    have hp2 : (10 : Int) ^ (j+1+1)=10 ^ (j+1)*10:=Int.pow_succ _ _
    refine aG (aC (fun h=>by omega) (fun _=>aG (aC (fun h=>?_) (fun h=>?_))))
    · refine one h1 h (aB ?_)
      unfold zW;rw [if_pos h]
    · refine aLE h1 (by omega) hj ?_
      refine aF (ih (n / 10) (by omega) (by omega) (by omega) (by omega)) (fun r hr=>?_)
      subst hr
      refine aLD h1 (by omega) (one (by omega) (by omega) ?_)
      have:=kN j (n / 10)
      refine iJ (by rw [aB9];omega) (aB ?_)
      show _ = [PV.str (zW (j+1) n)]
      rw [show zW (j+1) n=zW j (n / 10)++dig (n % 10) by conv=>lhs;unfold zW
                                                         rw [if_neg h]]
theorem aMz {P : R→Prop} {k : PV→Option R} {a b : Int} (hb : b≠0) (hr : I64 (a.tdiv b)) (h : Ok P (k (.int .i64 (a.tdiv b)))) : Ok P (bd (PV.bin .quo (.int .i64 a) (.int .i64 b)) k):=
  cY _ (by rw [gP (by simp) (by simp)];simp only [PV.intBin];rw [if_neg hb,i64_in _ hr]) h
theorem aMA {P : R→Prop} {k : PV→Option R} {a b : Int} (hb : b≠0) (h : Ok P (k (.int .i64 (a.tmod b)))) : Ok P (bd (PV.bin .rem (.int .i64 a) (.int .i64 b)) k):=
  cY _ (by rw [gP (by simp) (by simp)];simp only [PV.intBin];rw [if_neg hb]) h
theorem aID {n : Int} (h : n<0) : n.tdiv 10 = -((-n) / 10)∧n.tmod 10 = -((-n) % 10):=by
  have e : n = -(-n):=by omega
  constructor
  · rw [e,Int.neg_tdiv,Int.tdiv_eq_ediv_of_nonneg (by omega)]
    simp
  · rw [e,Int.neg_tmod,Int.tmod_eq_emod_of_nonneg (by omega)]
    simp
theorem qG (n : Int) : (jF n).size≤40:=by
  have h45 : (bs [45]).size=1:=rfl
  unfold jF
  split
  · split
    · rw [ByteArray.size_append,ByteArray.size_append,h45]
      have h1:=kN 18 (-(n.tdiv 10))
      have h2:=kN 18 (-(n.tmod 10))
      omega
    · rw [ByteArray.size_append,h45]
      have h1:=kN 18 (-n)
      omega
  · have h1:=kN 18 n
    omega
theorem yI {n : Int} (hn : -9223372036854775807≤n∧n≤9223372036854775807) : Ok (fun r=>r = [.str (jF n)]) (dO (.int .i64 n)):=by
  have big : ∀ {x : Int},x≤9223372036854775807→x<10 ^ (18+1):=fun h=>by
    have : (10 : Int) ^ (18+1)=10000000000000000000:=by decide
    omega
  have h45 : (bs [45]).size=1:=rfl
  by_cases h : n<0
  · obtain ⟨e1,e2⟩:=aID h
    rw [mY]
    refine aG (aC (fun _=>?_) (fun h'=>absurd h h'))
    refine aG (aC (fun h9=>?_) (fun h9=>?_))
    · refine aMz (by omega) (by unfold I64;omega) (aJx (by omega) ?_)
      have z1 : 0 - n.tdiv 10 = -(n.tdiv 10):=by omega
      have z2 : 0 - n.tmod 10 = -(n.tmod 10):=by omega
      rw [z1]
      have s1:=kN 18 (-(n.tdiv 10))
      have s2:=kN 18 (-(n.tmod 10))
      refine aF (zD 18 (-(n.tdiv 10)) (by omega) (big (by omega)) (by omega) (by omega)) (fun r hr=>?_)
      subst hr
      refine iJ (by omega) (aMA (by omega) (aJx (by omega) ?_))
      rw [z2]
      refine aF (zD 18 (-(n.tmod 10)) (by omega) (big (by omega)) (by omega) (by omega)) (fun r hr=>?_)
      subst hr
      refine iJ (by rw [ByteArray.size_append];omega) (aB ?_)
      unfold jF
      rw [if_pos h,if_pos h9]
    · refine aJx (by omega) ?_
      have z1 : 0 - n = -n:=by omega
      rw [z1]
      have s1:=kN 18 (-n)
      refine aF (zD 18 (-n) (by omega) (big (by omega)) (by omega) (by omega)) (fun r hr=>?_)
      subst hr
      refine iJ (by omega) (aB ?_)
      unfold jF
      rw [if_pos h,if_neg h9]
  · refine (zD 18 n (by omega) (big hn.2) hn.2 (by omega)).mono ?_
    rintro r rfl
    unfold jF
    rw [if_neg h]
open Go
def fT (fs : List cW) (x : bF) (h : Int) : Int:=h - (aV fs x).1+(aV fs x).2
def can (fs : List cW) (x : bF) (h : Int) : Bool:=decide ((aV fs x).1≤h)&&decide (fT fs x h≤16)
abbrev Hs:=List Int × Bool
def qH (l : Int) (s : Hs) (t : Int) : Hs:=if t<s.1.length∧s.1[t.toNat]?.getD 0<0 then (s.1.set t.toNat l,true) else s
def wH (fs : List cW) (code : List bF) (s : Hs) (pc : Nat) : Hs:=
  match code[pc]? with
  | some x=>if can fs x (s.1[pc]?.getD 0) then (eU x pc).foldl (qH (fT fs x (s.1[pc]?.getD 0))) s else s
  | none=>s
def oV (fs : List cW) (code : List bF) (s : List Int) : Hs:=(List.range' 0 code.length).foldl (wH fs code) (s,false)
def aCb (fs : List cW) (code : List bF) : Nat→List Int→List Int
  | 0,s=>s
  | n+1,s=>if (oV fs code s).2 then aCb fs code n (oV fs code s).1 else (oV fs code s).1
def aHt (n : Nat) : List Int:=(List.replicate n (-1)).set 0 0
def oA (fs : List cW) (code : List bF) : List Int:=aCb fs code (code.length+1) (aHt code.length)
structure Fit (fs : List cW) (code : List bF) : Prop where
  n1 : 1≤code.length
  n2 : code.length≤120
  nf : fs.length≤12
  u : ∀ x∈code,0≤(aV fs x).1∧(aV fs x).1≤7∧0≤(aV fs x).2∧(aV fs x).2≤2
  j : ∀ x∈code,(x.o=17∨x.o=18∨x.o=19)→0≤x.a∧x.a<code.length
def wI (n : Nat) (s : List Int) : Prop:=s.length=n∧∀ v∈s,-1≤v∧v≤16
theorem wI.at {n : Nat} {s : List Int} (h : wI n s) (i : Nat) : -1≤s[i]?.getD 0∧s[i]?.getD 0≤16:=by
  cases hx : s[i]? with
  | none=>simp
  | some v=>exact h.2 v (List.mem_of_getElem? hx)
theorem wI.put {n : Nat} {s : Hs} (h : wI n s.1) {l : Int} (hl : -1≤l∧l≤16) (t : Int) : wI n (qH l s t).1:=by
  unfold qH
  split
  · refine ⟨by simp only [List.length_set];exact h.1,fun v hv=>?_⟩
    rcases List.mem_or_eq_of_mem_set hv with h1 | h1
    · exact h.2 v h1
    · omega
  · exact h
theorem wI.puts {n : Nat} {l : Int} (hl : -1≤l∧l≤16) : ∀ (ts : List Int) (s : Hs),wI n s.1→wI n (ts.foldl (qH l) s).1
  | [],_,h=>h
  | t::r,s,h=>wI.puts hl r _ (h.put hl t)
theorem aIE {fs : List cW} {x : bF} {h : Int} (hu : 0≤(aV fs x).1∧(aV fs x).1≤7∧0≤(aV fs x).2∧(aV fs x).2≤2) (hc : can fs x h=true) : 0≤fT fs x h∧fT fs x h≤16:=by
  simp only [can,Bool.and_eq_true,decide_eq_true_eq] at hc
  unfold fT at *
  omega
theorem wI.one {fs : List cW} {code : List bF} (F : Fit fs code) {n : Nat} {s : Hs} (h : wI n s.1) (pc : Nat) : wI n (wH fs code s pc).1:=by
  unfold wH
  split
  · rename_i x hx
    split
    · rename_i hc
      have:=aIE (F.u x (List.mem_of_getElem? hx)) hc
      exact wI.puts (by omega) _ _ h
    · exact h
  · exact h
theorem wI.ones {fs : List cW} {code : List bF} (F : Fit fs code) {n : Nat} : ∀ (l : List Nat) (s : Hs),wI n s.1→wI n (l.foldl (wH fs code) s).1
  | [],_,h=>h
  | t::r,s,h=>wI.ones F r _ (h.one F t)
theorem wI.pass {fs : List cW} {code : List bF} (F : Fit fs code) {n : Nat} {s : List Int} (h : wI n s) : wI n (oV fs code s).1:=wI.ones F _ _ h
theorem wI.start {n : Nat} : wI n (aHt n):=by
  refine ⟨by simp [aHt],fun v hv=>?_⟩
  rcases List.mem_or_eq_of_mem_set hv with h1 | h1
  · have:=List.eq_of_mem_replicate h1;omega
  · omega
def nn (s : List Int) : Nat:=s.countP (· < 0)
def Dec (s s' : Hs) : Prop:=s'=s∨(s'.2=true∧nn s'.1<nn s.1)
theorem Dec.trans {a b c : Hs} (h : Dec a b) (k : Dec b c) : Dec a c:=by
  rcases h with rfl | h
  · exact k
  · rcases k with rfl | k
    · exact .inr h
    · exact .inr ⟨k.1,by omega⟩
theorem aLM : ∀ (s : List Int) (i : Nat) (l : Int),0≤l→s[i]?.getD 0<0→nn (s.set i l)<nn s
  | [],i,l,_,h=>by simp at h
  | x::r,0,l,hl,h=>by
    simp only [List.getElem?_cons_zero,Option.getD_some] at h
    simp only [nn,List.set_cons_zero,List.countP_cons]
    rw [if_neg (by simp;omega),if_pos (by simpa using h)]
    omega
  | x::r,i+1,l,hl,h=>by
    simp only [List.getElem?_cons_succ] at h
    have:=aLM r i l hl h
    simp only [nn,List.set_cons_succ,List.countP_cons] at *
    omega
theorem Dec.put {l : Int} (hl : 0≤l) (s : Hs) (t : Int) : Dec s (qH l s t):=by
  unfold qH
  split
  · rename_i h
    exact .inr ⟨rfl,aLM _ _ _ hl h.2⟩
  · exact .inl rfl
theorem Dec.puts {l : Int} (hl : 0≤l) : ∀ (ts : List Int) (s : Hs),Dec s (ts.foldl (qH l) s)
  | [],_=>.inl rfl
  | t::r,s=>(Dec.put hl s t).trans (Dec.puts hl r _)
theorem Dec.one {fs : List cW} {code : List bF} (F : Fit fs code) (s : Hs) (pc : Nat) : Dec s (wH fs code s pc):=by
  unfold wH
  split
  · rename_i x hx
    split
    · rename_i hc
      exact Dec.puts (aIE (F.u x (List.mem_of_getElem? hx)) hc).1 _ _
    · exact .inl rfl
  · exact .inl rfl
theorem Dec.ones {fs : List cW} {code : List bF} (F : Fit fs code) : ∀ (l : List Nat) (s : Hs),Dec s (l.foldl (wH fs code) s)
  | [],_=>.inl rfl
  | t::r,s=>(Dec.one F s t).trans (Dec.ones F r _)
theorem Dec.pass {fs : List cW} {code : List bF} (F : Fit fs code) (s : List Int) : Dec (s,false) (oV fs code s):=Dec.ones F _ _
theorem aLN {l : Int} {s : Hs} {t : Int} (h : s.1[0]? = some 0) : (qH l s t).1[0]? = some 0:=by
  unfold qH
  split
  · rename_i hc
    rw [List.getElem?_set]
    split
    · rename_i h0
      rw [h0] at hc
      rw [h] at hc
      simp at hc
    · exact h
  · exact h
theorem aGJ {l : Int} : ∀ (ts : List Int) (s : Hs),s.1[0]? = some 0→(ts.foldl (qH l) s).1[0]? = some 0
  | [],_,h=>h
  | t::r,s,h=>aGJ r _ (aLN h)
theorem aLO {fs : List cW} {code : List bF} {s : Hs} (pc : Nat) (h : s.1[0]? = some 0) : (wH fs code s pc).1[0]? = some 0:=by
  unfold wH
  split
  · split
    · exact aGJ _ _ h
    · exact h
  · exact h
theorem aC4 {fs : List cW} {code : List bF} : ∀ (l : List Nat) (s : Hs),s.1[0]? = some 0→(l.foldl (wH fs code) s).1[0]? = some 0
  | [],_,h=>h
  | t::r,s,h=>aC4 r _ (aLO t h)
theorem aIF {fs : List cW} {code : List bF} : ∀ (n : Nat) (s : List Int),s[0]? = some 0→(aCb fs code n s)[0]? = some 0
  | 0,_,h=>h
  | n+1,s,h=>by
    unfold aCb
    split
    · exact aIF n _ (aC4 _ _ h)
    · exact aC4 _ _ h
theorem aKc {fs : List cW} {code : List bF} (F : Fit fs code) {m : Nat} : ∀ (n : Nat) (s : List Int),wI m s→wI m (aCb fs code n s)
  | 0,_,h=>h
  | n+1,s,h=>by
    unfold aCb
    split
    · exact aKc F n _ (h.pass F)
    · exact h.pass F
theorem aBl {fs : List cW} {code : List bF} (F : Fit fs code) : wI code.length (oA fs code):=aKc F _ _ wI.start
theorem aIG {fs : List cW} {code : List bF} (F : Fit fs code) : (oA fs code)[0]? = some 0:=by
  refine aIF _ _ ?_
  have:=F.n1
  rw [aHt,List.getElem?_set_self (by rw [List.length_replicate];omega)]
theorem aEc {s : List Int} {i : Nat} (h : i<s.length) : s[i]=s[i]?.getD 0:=by rw [List.getElem?_eq_getElem h];rfl
theorem yJ {fs : List cW} {code : List bF} (F : Fit fs code) {x : bF} (hx : x∈code) {pc : Nat} (hp : pc<code.length) : ∀ t∈eU x pc,0≤t∧t≤code.length:=by
  intro t ht
  unfold eU at ht
  rcases List.mem_append.1 ht with h | h
  · split at h
    · simp only [List.mem_singleton] at h;omega
    · cases h
  · split at h
    · rename_i hj
      simp only [List.mem_singleton] at h
      have:=F.j x hx hj
      omega
    · cases h
theorem aKd {l : Int} {s : Hs} {t : Int} (h1 : t<s.1.length) (h2 : s.1[t.toNat]?.getD 0<0) : qH l s t=(s.1.set t.toNat l,true):=if_pos ⟨h1,h2⟩
theorem aHu {l : Int} {s : Hs} {t : Int} (h : ¬ (t<s.1.length∧s.1[t.toNat]?.getD 0<0)) : qH l s t=s:=if_neg h
section
variable {fs : List cW} {code : List bF} {T : PV} (F : Fit fs code)
include F
theorem aKU {P : R→Prop} {pc : Nat} (hpc : pc<code.length) {left : Int} {ts : List Int} (hts : ∀ t∈ts,0≤t∧t≤code.length) (hn : ts.length≤10) {s : Hs} (hs : s.1.length=code.length)
    (h : Ok P (dG (.lst (code.map bF.pv)) (.bool (ts.foldl (qH left) s).2) (.int .i64 ((pc : Int)+1)) T (.lst (fs.map cW.pv)) (dL (ts.foldl (qH left) s).1))) :
    Ok P (dU (.lst (code.map bF.pv)) (.bool s.2) (.int .i64 pc) (.int .i64 left) (dL ts) (.int .i64 0) T (.lst (fs.map cW.pv)) (dL s.1)):=by
  have hn2:=F.n2
  refine aFt (n:=ts.length) (F:=fun i (q : Hs)=>dU (.lst (code.map bF.pv)) (.bool q.2) (.int .i64 pc) (.int .i64 left) (dL ts) (.int .i64 i) T (.lst (fs.map cW.pv)) (dL q.1))
    (fun i q=>q.1.length=code.length∧(ts.drop i).foldl (qH left) q=ts.foldl (qH left) s) ?_ ?_ 0 s (by omega) ⟨hs,by rw [List.drop_zero]⟩
  · rintro q ⟨hq,he⟩
    rw [List.drop_length] at he
    have he : q=ts.foldl (qH left) s:=he
    subst he
    rw [nL]
    exact dX (aG (aC (fun h=>by omega) (fun _=>aN (by omega) h)))
  · rintro i q hi ⟨hq,he⟩ ih
    have ht:=hts ts[i] (List.getElem_mem _)
    rw [List.drop_eq_getElem_cons hi,List.foldl_cons] at he
    have ih:=fun s'=>ih s'
    rw [nL]
    refine dX (aG (aC (fun _=>?_) (fun h=>by omega)))
    refine dH hi (aE (aG (aC (fun h1=>?_) (fun h1=>?_))))
    · refine dH hi (fI (by omega) (by omega) (sX (by omega) (by omega) (fun v hv=>?_)))
      refine aG (aC (fun h2=>?_) (fun h2=>?_))
      · rw [wC]
        refine dH hi (fI (by omega) (by omega) ?_)
        obtain ⟨t,et⟩:=Int.eq_ofNat_of_zero_le ht.1
        rw [et]
        refine sW (by omega) (aN (by omega) ?_)
        refine ih (q.1.set t left,true) ⟨by simpa using hq,?_⟩
        rw [aKd (by omega) (by rw [hv];exact h2),et] at he
        exact he
      · refine aN (by omega) (ih q ⟨hq,?_⟩)
        rw [aHu (by rw [hv];simp only [Option.getD_some];omega)] at he
        exact he
    · refine aN (by omega) (ih q ⟨hq,?_⟩)
      rw [aHu (by omega)] at he
      exact he
theorem aFu {P : R→Prop} {s : List Int} (hs : wI code.length s)
    (h : Ok P (gC (.lst (code.map bF.pv)) (.bool (oV fs code s).2) T (.lst (fs.map cW.pv)) (dL (oV fs code s).1))) :
    Ok P (dG (.lst (code.map bF.pv)) (.bool false) (.int .i64 0) T (.lst (fs.map cW.pv)) (dL s)):=by
  have hn2:=F.n2
  have hnf:=F.nf
  refine aFt (n:=code.length) (F:=fun i (q : Hs)=>dG (.lst (code.map bF.pv)) (.bool q.2) (.int .i64 i) T (.lst (fs.map cW.pv)) (dL q.1))
    (fun i q=>wI code.length q.1∧(List.range' i (code.length - i)).foldl (wH fs code) q=oV fs code s) ?_ ?_ 0 (s,false) (by omega) ⟨hs,rfl⟩
  · rintro q ⟨hq,he⟩
    rw [Nat.sub_self] at he
    have he : q=oV fs code s:=he
    subst he
    rw [nK]
    exact aE (aG (aC (fun h=>by omega) (fun _=>h)))
  · rintro i q hi ⟨hq,he⟩ ih
    have e1 : code.length - i=(code.length - (i+1))+1:=by omega
    rw [e1,List.range'_succ,List.foldl_cons] at he
    have hx : code[i]? = some code[i]:=List.getElem?_eq_getElem hi
    have hu:=F.u code[i] (List.getElem_mem _)
    have hil : i<q.1.length:=by rw [hq.1];exact hi
    have hv:=hq.at i
    have e2 : q.1[i]=q.1[i]?.getD 0:=aEc hil
    have hone:=hq.one F i
    have hgo:=ih (wH fs code q i) ⟨hone,he⟩
    have eo : wH fs code q i=if can fs code[i] (q.1[i]?.getD 0) then (eU code[i] i).foldl (qH (fT fs code[i] (q.1[i]?.getD 0))) q else q:=by
      conv=>lhs;unfold wH
      rw [hx]
    generalize hw : q.1[i]?.getD 0=w at *
    rw [nK]
    refine aE (aG (aC (fun _=>?_) (fun h=>by omega)))
    refine bD hi (fun _=>rfl) (aF (aGF (T:=T) (by omega)) (fun r hr=>?_))
    subst hr
    refine aW rfl (aW rfl ?_)
    refine fI (by omega) (by omega) (dH hil (cQ (by omega) (aN (by omega) (fI (by omega) (by omega) (dH hil ?_)))))
    rw [e2]
    refine aG (aC (fun h1=>?_) (fun h1=>?_))
    · have hc : can fs code[i] w=false:=by simp only [can];rw [decide_eq_false (by omega)];rfl
      rw [hc,if_neg (by simp)] at eo
      rw [eo] at hgo
      exact aN (by omega) hgo
    refine nT (aC (fun h2=>?_) (fun h2=>?_))
    · have hc : can fs code[i] w=false:=by simp only [can];rw [decide_eq_false (p:=fT fs code[i] w≤16) (by unfold fT;omega),Bool.and_false]
      rw [hc,if_neg (by simp)] at eo
      rw [eo] at hgo
      exact aN (by omega) hgo
    · have hc : can fs code[i] w=true:=by simp only [can];rw [decide_eq_true (by omega),decide_eq_true (p:=fT fs code[i] w≤16) (by unfold fT;omega)];rfl
      rw [hc,if_pos rfl] at eo
      rw [eo] at hgo
      refine bD hi (fun _=>rfl) (aF (aGH (by omega)) (fun r hr=>?_))
      subst hr
      exact aKU F hi (yJ F (List.getElem_mem _) hi) (by unfold eU;repeat' split<;>simp) hq.1 hgo
theorem aKV : ∀ (j : Nat) (s : List Int),nn s≤j→wI code.length s→Ok (fun r=>r = [dL (aCb fs code (j+1) s)]) (gC (.lst (code.map bF.pv)) (.bool true) T (.lst (fs.map cW.pv)) (dL s)):=by
  intro j
  induction j with
  | zero=>
    intro s hs hg
    rw [gH]
    refine bB (aFu F hg ?_)
    rcases Dec.pass F s with h | ⟨h,h2⟩
    · unfold aCb
      rw [h,gH]
      exact aS (aB rfl)
    · have h3 : nn (oV fs code s).1<nn s:=h2
      omega
  | succ j ih=>
    intro s hs hg
    rw [gH]
    refine bB (aFu F hg ?_)
    rcases Dec.pass F s with h | ⟨h,h2⟩
    · unfold aCb
      rw [h,gH]
      exact aS (aB rfl)
    · rw [aCb,h,if_pos rfl]
      exact ih _ (by have h3 : nn (oV fs code s).1<nn s:=h2;omega) (hg.pass F)
end
section
variable {fs : List cW} {code : List bF} {T : PV} (F : Fit fs code)
include F
theorem aIH {f : Nat} (hf : f<fs.length) (hc : fs[f].code=code) : Ok (fun r=>r = [dL (oA fs code)]) (rC (.agg [T,.lst (fs.map cW.pv)]) (.int .i64 f)):=by
  have hn2:=F.n2
  have hn1:=F.n1
  rw [aBT]
  refine aD rfl (aA rfl (aA rfl (bD hf (fun _=>rfl) (aA (y:=.lst (code.map bF.pv)) (by rw [← hc];rfl) ?_))))
  have key:=lI (n:=code.length) (P:=fun _ r=>r = [dL (oA fs code)])
    (F:=fun i=>iZ (.lst (code.map bF.pv)) (.int .i64 i) T (.lst (fs.map cW.pv)) (dL (List.replicate i (-1)))) ?_ ?_ 0 (by omega)
  · exact key
  · rw [oQ]
    refine aE (aG (aC (fun h=>by omega) (fun _=>?_)))
    refine fI (by omega) (by rw [List.length_replicate];omega) (sW (i:=0) (by rw [List.length_replicate];omega) ?_)
    exact aKV F code.length _ (by have:=(wI.start (n:=code.length)).1;unfold nn;exact Nat.le_trans List.countP_le_length (by omega)) wI.start
  · intro i hi ih
    rw [oQ]
    refine aE (aG (aC (fun h=>?_) (fun h=>by omega)))
    refine oU (ys:=[-1]) (by rw [List.length_replicate];simp only [List.length_cons,List.length_nil];omega) (aN (by omega) ?_)
    rw [← List.replicate_succ']
    exact ih
end
section
variable {P : R → Prop} {k : PV → Option R}
theorem zE {m n : Nat} {kk : IntKind} (h : n≤m) : PV.bound m (.int kk (n : Int))=some n:=by
  simp only [PV.bound]
  rw [if_pos (by omega),Int.toNat_natCast]
theorem aII {xs ys : List PV} {lo hi : Nat} {k1 k2 : IntKind} (h1 : lo≤hi) (h2 : hi≤xs.length) (h3 : xs.length≤1000000000) (h : Ok P (k (.int .i64 (min (hi - lo) ys.length : Nat)))) :
    Ok P (bd (PV.ncopy (.lst xs) (.int k1 (lo : Int)) (.int k2 (hi : Int)) (.lst ys)) k):=
  cY _ (by
    simp only [PV.ncopy]
    rw [zE (by omega),zE (by omega)]
    simp only [PV.elems]
    rw [if_pos ⟨h1,h2⟩]) h
theorem aGK {s : Nat} {g : Bool} {xs ys : List PV} {lo hi : Nat} {k1 k2 : IntKind} (h1 : lo≤hi) (h2 : hi≤xs.length) (h3 : xs.length≤1000000000) (he : ∀ y∈ys,y.isEl s g=true)
    (h : Ok P (k (.lst (xs.take lo++ys.take (hi - lo)++xs.drop (lo+min (hi - lo) ys.length))))) :
    Ok P (bd (PV.copyIn s g (.lst xs) (.int k1 (lo : Int)) (.int k2 (hi : Int)) (.lst ys)) k):=
  cY _ (by
    simp only [PV.copyIn]
    rw [zE (by omega),zE (by omega)]
    simp only [PV.elems]
    rw [if_pos ⟨h1,h2,List.all_eq_true.2 he⟩]) h
theorem aIJ {e n : Nat} {z : PV} {kk : IntKind} (h1 : n*e≤140737488355328) (h2 : n≤1000000000) (h : Ok P (k (.lst (List.replicate n z)))) : Ok P (bd (PV.zeros e z (.int kk (n : Int))) k):=
  cY _ (by
    simp only [PV.zeros]
    rw [if_pos ⟨by omega,by rw [Int.toNat_natCast];exact h1,by omega⟩,Int.toNat_natCast]) h
theorem aCc {l : List Int} : ∀ x∈l.map (PV.int .i64),x.isEl 1 false=true:=by
  intro x hx
  obtain ⟨a,_,rfl⟩:=List.mem_map.1 hx
  rfl
end
theorem aIK {n : Nat} (hn : n≤1000) : ∀ (j a : Nat),n - a≤j→1≤a→a≤n→
    Ok (fun r=>r = [dL (List.replicate n (-1))]) (eP (.int .i64 a) (dL (List.replicate a (-1)++List.replicate (n - a) 0))):=by
  intro j
  induction j with
  | zero=>
    intro a h1 h2 h3
    have : a=n:=by omega
    subst this
    rw [jE]
    refine dX (aG (aC (fun h=>?_) (fun _=>aB ?_)))
    · simp at h
    · simp
  | succ j ih=>
    intro a h1 h2 h3
    rw [jE]
    have hl : (List.replicate a (-1 : Int)++List.replicate (n - a) 0).length=n:=by simp;omega
    have hlm : ((List.replicate a (-1 : Int)++List.replicate (n - a) 0).map (PV.int .i64)).length=n:=by rw [List.length_map,hl]
    have ht : (List.replicate a (-1 : Int)++List.replicate (n - a) 0).take a=List.replicate a (-1):=by
      rw [List.take_left' (by simp)]
    refine dX (aG (aC (fun h=>?_) (fun h=>aB ?_)))
    · rw [hl] at h
      refine dX ?_
      rw [hl]
      refine xH (by omega) (by omega) (by omega) aCc ?_
      refine xH (by omega) (by omega) (by omega) aCc ?_
      refine xH (by omega) (by omega) (by omega) aCc ?_
      simp only [Int.toNat_natCast,Int.toNat_zero,List.drop_zero,← List.map_take]
      rw [ht]
      refine aII (by omega) (by omega) (by omega) (aGK (by omega) (by omega) (by omega) aCc ?_)
      rw [← List.map_take,ht,← List.map_take,← List.map_drop,← List.map_append,← List.map_append,List.length_map,List.length_replicate]
      have e : List.replicate a (-1 : Int)++(List.replicate a (-1)).take (n - a)++(List.replicate a (-1)++List.replicate (n - a) 0).drop (a+min (n - a) a)=List.replicate (a+min (n - a) a) (-1)++List.replicate (n - (a+min (n - a) a)) 0:=by
        rw [List.take_replicate,List.replicate_append_replicate,List.drop_append,List.length_replicate,List.drop_eq_nil_of_le (by simp),List.nil_append,List.drop_replicate]
        congr 2
        omega
      rw [e]
      exact aN (by omega) (ih (a+min (n - a) a) (by omega) (by omega) (by omega))
    · have : a=n:=by rw [hl] at h;omega
      subst this
      simp
theorem aHv {P : R→Prop} {k : PV→Option R} {a : Int} (h1 : 0≤a∧a≤2097152) (h : Ok P (k (.int .u64 a))) : Ok P (bd (PV.bin .and (.int .u64 a) (.int .u64 4294967295)) k):=
  cY _ (by
    obtain ⟨n,rfl⟩:=Int.eq_ofNat_of_zero_le h1.1
    rw [gP (by simp) (by simp)]
    simp only [PV.intBin]
    have hb : IntKind.u64.bits=64:=rfl
    have e : (BitVec.ofInt 64 (n : Int)&&& BitVec.ofInt 64 4294967295).toNat=n:=by
      rw [BitVec.toNat_and,BitVec.ofInt_natCast,BitVec.toNat_ofNat]
      have : (BitVec.ofInt 64 4294967295).toNat=2 ^ 32 - 1:=by decide
      rw [this,Nat.and_two_pow_sub_one_eq_mod,Nat.mod_eq_of_lt (by omega),Nat.mod_eq_of_lt (by omega)]
    rw [hb,e,u64_in _ (by omega)]) h
theorem yK {P : R→Prop} {k : PV→Option R} {a : Int} (h1 : 0≤a∧a≤2097152) (h : Ok P (k (.int .u64 0))) : Ok P (bd (PV.bin .shr (.int .u64 a) (.int .u64 32)) k):=
  cY _ (by
    simp only [PV.bin]
    rw [if_neg (by omega)]
    have : a.fdiv (2 ^ min (Int.toNat 32) IntKind.u64.bits)=0:=by
      have e : (2 : Int) ^ min (Int.toNat 32) IntKind.u64.bits=4294967296:=by decide
      rw [e,Int.fdiv_eq_ediv_of_nonneg _ (by omega)]
      omega
    rw [this]) h
theorem yL {P : R→Prop} {k : PV→Option R} {a b : Int} (h1 : 0≤a*b∧a*b≤2097152) (h : Ok P (k (.int .u64 (a*b)))) : Ok P (bd (PV.bin .mul (.int .u64 a) (.int .u64 b)) k):=
  cY _ (by rw [gP (by simp) (by simp)];simp only [PV.intBin];rw [u64_in _ (by omega)]) h
theorem aCd {P : R→Prop} {k : PV→Option R} {a b : Int} (h1 : 0≤a+b∧a+b≤2097152) (h : Ok P (k (.int .u64 (a+b)))) : Ok P (bd (PV.bin .add (.int .u64 a) (.int .u64 b)) k):=
  cY _ (by rw [gP (by simp) (by simp)];simp only [PV.intBin];rw [u64_in _ (by omega)]) h
theorem aLP {P : R→Prop} {k : PV→Option R} {a : Int} {kk : IntKind} (h1 : 0≤a∧a≤2097152) (h : Ok P (k (.int .u64 a))) : Ok P (bd (PV.conv .u64 (.int kk a)) k):=cY _ (by simp only [PV.conv];rw [u64_in _ (by omega)]) h
theorem aKW {n : Nat} (h1 : 1≤n) (hn : n≤1000) : Ok (fun r=>r = [dL (List.replicate n (-1))]) (iV (.lst [.int .i64 (-1)]) (.int .i64 n)):=by
  rw [tO]
  refine aG (aC (fun h=>by omega) (fun _=>?_))
  rw [qD]
  refine bE (aLP (by simp) (aLP (by omega) ?_))
  refine aF (Q:=fun r=>r = [.tup [.int .u64 0,.int .u64 n]]) ?_ (fun r hr=>?_)
  · rw [aCW,aBd]
    simp only [List.length_cons,List.length_nil]
    refine aF (Q:=fun r=>r = [.tup [.int .u64 0,.int .u64 n]]) ?_ (fun r hr=>?_)
    · refine aHv (by omega) (yK (by omega) (aHv (by omega) (yK (by omega) ?_)))
      refine yL (by omega) (yL (by omega) (yK (by omega) (aCd (by omega) ?_)))
      refine aHv (by omega) (yK (by omega) (yL (by omega) (aCd (by omega) ?_)))
      refine yL (by omega) (aCd (by omega) (yK (by omega) (aCd (by omega) (yL (by omega) (aB ?_)))))
      simp
    · subst hr
      exact aW rfl (aW rfl (aB rfl))
  subst hr
  refine aW rfl (aW rfl (nT (aC (fun h=>by omega) (fun _=>nT (aC (fun h=>by omega) (fun _=>?_))))))
  rw [qE]
  refine aNo (by omega) (aIJ (by omega) (by omega) (kQ (aC (fun _=>?_) (fun h=>by omega))))
  refine aIJ (by omega) (by omega) (bE ?_)
  rw [List.length_replicate]
  refine aII (lo:=0) (by omega) (by simp) (by simp;omega) (aGK (lo:=0) (by omega) (by simp) (by simp;omega) (aCc (l:=[-1])) ?_)
  have:=aIK hn n 1 (by omega) (by omega) h1
  have e : (min (n - 0) [PV.int .i64 (-1)].length : Nat)=1:=by simp;omega
  rw [e]
  have e2 : (List.replicate n (PV.int .i64 0)).take 0++[PV.int .i64 (-1)].take (n - 0)++(List.replicate n (PV.int .i64 0)).drop (0+1)=(List.replicate 1 (-1 : Int)++List.replicate (n - 1) 0).map (PV.int .i64):=by
    rw [List.take_zero,List.nil_append,List.take_of_length_le (by simp;omega),List.drop_replicate]
    simp
  rw [e2]
  exact this
section
variable {fs : List cW} {code : List bF} {T : PV} (F : Fit fs code)
include F
theorem aGL {x : bF} (hx : x∈code) {h : Int} (hh : -1≤h∧h≤16) : Ok (fun r=>r = [.tup [.int .i64 (fT fs x h),.bool (can fs x h)]]) (sJ (.agg [T,.lst (fs.map cW.pv)]) x.pv (.int .i64 h)):=by
  have hu:=F.u x hx
  have hnf:=F.nf
  rw [aFf]
  refine aD rfl (aA rfl (aA rfl (aD rfl (aA rfl (aA rfl ?_)))))
  refine aF (aGG (x:=x) (T:=T) (by omega)) (fun r hr=>?_)
  subst hr
  refine aW rfl (aW rfl (cQ (by omega) (aN (by omega) (kQ (aC (fun h1=>?_) (fun h1=>aB ?_))))))
  · refine kQ (aB ?_)
    unfold can fT
    rw [decide_eq_true h1];rfl
  · unfold can fT
    rw [decide_eq_false h1];rfl
theorem aKX {P : R→Prop} {pc : Nat} (hpc : pc<code.length) {left : Int} {b : Bool} {ts : List Int} (hts : ∀ t∈ts,0≤t∧t≤code.length) (hn : ts.length≤10) {s : Hs} (hs : s.1.length=code.length)
    (h : Ok P (fN (.lst (code.map bF.pv)) (.bool (if b then ts.foldl (qH left) s else s).2) (.lst (code.map bF.pv)) (.int .i64 code.length) (.int .i64 ((pc : Int)+1)) T (.lst (fs.map cW.pv)) (dL (if b then ts.foldl (qH left) s else s).1))) :
    Ok P (eD (.lst (code.map bF.pv)) (.bool s.2) (.int .i64 left) (.bool b) (.lst (code.map bF.pv)) (.int .i64 code.length) (.int .i64 pc) (dL ts) (.int .i64 ts.length) (.int .i64 0) T (.lst (fs.map cW.pv)) (dL s.1)):=by
  have hn2:=F.n2
  refine aFt (n:=ts.length) (F:=fun i (q : Hs)=>eD (.lst (code.map bF.pv)) (.bool q.2) (.int .i64 left) (.bool b) (.lst (code.map bF.pv)) (.int .i64 code.length) (.int .i64 pc) (dL ts) (.int .i64 ts.length) (.int .i64 i) T (.lst (fs.map cW.pv)) (dL q.1))
    (fun i q=>q.1.length=code.length∧(if b then (ts.drop i).foldl (qH left) q else q)=(if b then ts.foldl (qH left) s else s)) ?_ ?_ 0 s (by omega) ⟨hs,by rw [List.drop_zero]⟩
  · rintro q ⟨hq,he⟩
    rw [List.drop_length] at he
    have he : q=(if b then ts.foldl (qH left) s else s):=by rw [← he];split<;>rfl
    subst he
    rw [rP]
    exact aG (aC (fun h=>by omega) (fun _=>aN (by omega) h))
  · rintro i q hi ⟨hq,he⟩ ih
    have ht:=hts ts[i] (List.getElem_mem _)
    rw [List.drop_eq_getElem_cons hi,List.foldl_cons] at he
    rw [rP]
    refine aG (aC (fun _=>?_) (fun h=>by omega))
    refine dH hi (bU (fun hb=>?_) (fun hb=>?_))
    · subst hb
      simp only [if_true] at he ih
      refine aE (aG (aC (fun h1=>?_) (fun h1=>?_)))
      · refine fI (by omega) (by omega) (sX (by omega) (by omega) (fun v hv=>?_))
        refine aG (aC (fun h2=>?_) (fun h2=>?_))
        · rw [aA7]
          refine fI (by omega) (by omega) ?_
          obtain ⟨t,et⟩:=Int.eq_ofNat_of_zero_le ht.1
          rw [et]
          refine sW (by omega) (aN (by omega) ?_)
          refine ih (q.1.set t left,true) ⟨by simpa using hq,?_⟩
          rw [aKd (by omega) (by rw [hv];exact h2),et] at he
          exact he
        · refine aN (by omega) (ih q ⟨hq,?_⟩)
          rw [aHu (by rw [hv];simp only [Option.getD_some];omega)] at he
          exact he
      · refine aN (by omega) (ih q ⟨hq,?_⟩)
        rw [aHu (by omega)] at he
        exact he
    · subst hb
      exact aN (by omega) (ih q ⟨hq,he⟩)
theorem aMB {x : bF} (hx : x∈code) {h : Int} (hh : h<0) : can fs x h=false:=by
  have hu:=F.u x hx
  simp only [can]
  rw [decide_eq_false (by omega)];rfl
theorem aFv {P : R→Prop} {s : List Int} (hs : wI code.length s)
    (h : Ok P (jL (.lst (code.map bF.pv)) (.bool (oV fs code s).2) T (.lst (fs.map cW.pv)) (dL (oV fs code s).1))) :
    Ok P (fN (.lst (code.map bF.pv)) (.bool false) (.lst (code.map bF.pv)) (.int .i64 code.length) (.int .i64 0) T (.lst (fs.map cW.pv)) (dL s)):=by
  have hn2:=F.n2
  have hnf:=F.nf
  refine aFt (n:=code.length) (F:=fun i (q : Hs)=>fN (.lst (code.map bF.pv)) (.bool q.2) (.lst (code.map bF.pv)) (.int .i64 code.length) (.int .i64 i) T (.lst (fs.map cW.pv)) (dL q.1))
    (fun i q=>wI code.length q.1∧(List.range' i (code.length - i)).foldl (wH fs code) q=oV fs code s) ?_ ?_ 0 (s,false) (by omega) ⟨hs,rfl⟩
  · rintro q ⟨hq,he⟩
    rw [Nat.sub_self] at he
    have he : q=oV fs code s:=he
    subst he
    rw [sS]
    exact aG (aC (fun h=>by omega) (fun _=>h))
  · rintro i q hi ⟨hq,he⟩ ih
    have e1 : code.length - i=(code.length - (i+1))+1:=by omega
    rw [e1,List.range'_succ,List.foldl_cons] at he
    have hx : code[i]? = some code[i]:=List.getElem?_eq_getElem hi
    have hm : code[i]∈code:=List.getElem_mem _
    have hil : i<q.1.length:=by rw [hq.1];exact hi
    have hv:=hq.at i
    have e2 : q.1[i]=q.1[i]?.getD 0:=aEc hil
    have hone:=hq.one F i
    have hgo:=ih (wH fs code q i) ⟨hone,he⟩
    have eo : wH fs code q i=if can fs code[i] (q.1[i]?.getD 0) then (eU code[i] i).foldl (qH (fT fs code[i] (q.1[i]?.getD 0))) q else q:=by
      conv=>lhs;unfold wH
      rw [hx]
    generalize hw : q.1[i]?.getD 0=w at *
    rw [sS]
    refine aG (aC (fun _=>?_) (fun h=>by omega))
    refine bD hi (fun _=>rfl) (aD rfl (aA rfl (aA rfl ?_)))
    refine fI (by omega) (by omega) (dH hil ?_)
    rw [e2]
    refine aG (aC (fun h1=>?_) (fun h1=>?_))
    · rw [aMB F hm h1,if_neg (by simp)] at eo
      rw [eo] at hgo
      exact aN (by omega) hgo
    refine fI (by omega) (by omega) (dH hil ?_)
    rw [e2]
    refine aF (aGL (T:=T) F hm hv) (fun r hr=>?_)
    subst hr
    refine aW rfl (aW rfl (aF (aGI (x:=code[i]) (by omega)) (fun r hr=>?_)))
    subst hr
    refine dX ?_
    refine aKX F hi (yJ F hm hi) (by unfold eU;repeat' split<;>simp) hq.1 ?_
    rw [← eo]
    exact hgo
theorem aKY : ∀ (j : Nat) (s : List Int),nn s≤j→wI code.length s→Ok (fun r=>r = [dL (aCb fs code (j+1) s)]) (jL (.lst (code.map bF.pv)) (.bool true) T (.lst (fs.map cW.pv)) (dL s)):=by
  intro j
  induction j with
  | zero=>
    intro s hs hg
    rw [jD]
    refine bB (aE (aFv F hg ?_))
    rcases Dec.pass F s with h | ⟨h,h2⟩
    · unfold aCb
      rw [h,jD]
      exact aS (aB rfl)
    · have h3 : nn (oV fs code s).1<nn s:=h2
      omega
  | succ j ih=>
    intro s hs hg
    rw [jD]
    refine bB (aE (aFv F hg ?_))
    rcases Dec.pass F s with h | ⟨h,h2⟩
    · unfold aCb
      rw [h,jD]
      exact aS (aB rfl)
    · rw [aCb,h,if_pos rfl]
      exact ih _ (by have h3 : nn (oV fs code s).1<nn s:=h2;omega) (hg.pass F)
theorem aKZ (l : List Int) : PV.flatO (.own 1 8 false []) (dL l)=true:=by
  clear F
  show PV.flatEs false [] (l.map (PV.int .i64))=true
  induction l with
  | nil=>simp [PV.flatEs]
  | cons x r ih=>simp [PV.flatEs,PV.flatE,PV.flat,ih]
theorem aFw {f : Nat} (hf : f<fs.length) (hc : fs[f].code=code) : Ok (fun r=>r = [dL (oA fs code)]) (xS (.agg [T,.lst (fs.map cW.pv)]) (.int .i64 f)):=by
  have hn2:=F.n2
  have hn1:=F.n1
  rw [aFe]
  refine aD rfl (aA rfl (aA rfl (bD hf (fun _=>rfl) (aA (y:=.lst (code.map bF.pv)) (by rw [← hc];rfl) (aE ?_)))))
  refine aF (aKW hn1 (by omega)) (fun r hr=>?_)
  subst hr
  refine dT (aKZ F _) (fI (by omega) (by rw [List.length_replicate];omega) (sW (i:=0) (by rw [List.length_replicate];omega) ?_))
  exact aKY F code.length _ (by have:=(wI.start (n:=code.length)).1;unfold nn;exact Nat.le_trans List.countP_le_length (by omega)) wI.start
end
theorem eG.okB_fit {m : eG} (h : m.okB=true) : 1≤m.funcs.length∧m.funcs.length≤12∧∀ f∈m.funcs,Fit m.funcs f.code∧0≤f.p∧f.p≤6∧f.p≤f.lc∧f.lc≤12:=by
  simp only [eG.okB,Bool.and_eq_true,bN,decide_eq_true_eq,List.all_eq_true,rT] at h
  obtain ⟨⟨h1,h2⟩,_,_,h3⟩:=h
  have hp : ∀ i : Int,0≤eJ m.funcs i∧eJ m.funcs i≤6:=by
    intro i
    unfold eJ
    cases hx : m.funcs[i.toNat]? with
    | none=>simp
    | some f=>exact (h3 f (List.mem_of_getElem? hx)).1
  refine ⟨by omega,by omega,fun f hf=>?_⟩
  obtain ⟨p1,p2,p3,p4⟩:=h3 f hf
  refine ⟨⟨by omega,by omega,by omega,fun x hx=>?_,fun x hx hj=>?_⟩,p1.1,p1.2,p2.1,p2.2⟩
  · have:=hp x.a
    unfold aV
    repeat' split
    all_goals (simp only;omega)
  · have:=p4 x hx
    unfold bV at this
    rcases hj with hj | hj | hj<;>simp [hj,jG] at this<;>omega
structure cL where
  f : Int
  pc : Int
  loc : List cB
  stk : List cB
def aP (l : List cB) : PV:=.lst (l.map cB.pv)
def cL.pv (f : cL) : PV:=.agg [.int .i64 f.f,.int .i64 f.pc,aP f.loc,aP f.stk]
def cD (r : List cB) : PV:=.agg [aP r]
theorem zF {l : List cB} : ∀ x∈l.map cB.pv,x.isEl 3 true=true:=by
  intro x hx
  obtain ⟨a,_,rfl⟩:=List.mem_map.1 hx
  rfl
section
variable {P : R → Prop} {k : PV → Option R}
theorem bS {A cs : List PV} {s : Nat} {i : Int} (hi : i=A.length) (hs : cs.length=s) (h : Ok P (k (.agg cs))) : Ok P (bd (PV.at_ s true (.lst (A++[.agg cs])) (.int .i64 i)) k):=
  cY _ (by
    subst hi
    simp only [PV.at_]
    rw [if_pos (by omega),Int.toNat_natCast,List.getElem?_append_right (Nat.le_refl _),Nat.sub_self]
    simp only [List.getElem?_cons_zero]
    rw [if_pos (by simp [PV.isEl,hs])]) h
theorem bZ {A cs : List PV} {s off : Nat} {i : Int} {v : PV} (hi : i=A.length) (hs : cs.length=s) (ho : off<s) (hv : v.isEl 1 false=true) (h : Ok P (k (.lst (A++[.agg (cs.set off v)])))) :
    Ok P (bd (PV.setCell s (.lst (A++[.agg cs])) (.int .i64 i) off v) k):=by
  subst hi
  refine aAG (by omega) (cs:=cs) (by rw [Int.toNat_natCast,List.getElem?_append_right (Nat.le_refl _),Nat.sub_self];rfl) hs ho hv ?_
  rw [Int.toNat_natCast,List.set_append_right _ _ (Nat.le_refl _),Nat.sub_self]
  exact h
theorem lP {l : List cB} {i : Int} (h0 : 0≤i) (h1 : i<l.length) (h : ∀ v,l[i.toNat]? = some v→Ok P (k v.pv)) : Ok P (bd (PV.at_ 3 true (aP l) (.int .i64 i)) k):=by
  refine aLF h0 (by rw [List.length_map];exact h1) zF (fun x _ hx=>?_)
  rw [List.getElem?_map] at hx
  cases hl : l[i.toNat]? with
  | none=>rw [hl] at hx;cases hx
  | some v=>rw [hl] at hx;cases hx;exact h v hl
theorem dI {l : List cB} (h : Ok P (k (.int .i64 l.length))) : Ok P (bd (PV.len (aP l)) k):=aE h
theorem eF {l : List cB} {i : Int} (h0 : 0≤i) (h1 : i<l.length) (h : Ok P (k (aP l))) : Ok P (bd (PV.inb (aP l) (.int .i64 i)) k):=aAF h0 (by rw [List.length_map];exact h1) h
theorem fJ {l : List cB} {m n : Int} (h0 : 0≤m) (h1 : m≤n) (h2 : n≤l.length) (h : Ok P (k (aP ((l.take n.toNat).drop m.toNat)))) : Ok P (bd (PV.cut 3 true (aP l) (.int .i64 m) (.int .i64 n)) k):=by
  refine xH h0 h1 (by rw [List.length_map];exact h2) zF ?_
  rw [← List.map_take,← List.map_drop]
  exact h
theorem gK {l m : List cB} (hb : l.length+m.length≤1000000000) (h : Ok P (k (aP (l++m)))) : Ok P (bd (PV.cat 3 32 true (aP l) (.lst (m.map cB.pv))) k):=by
  refine mH (by simp only [List.length_map];omega) zF ?_
  rw [← List.map_append]
  exact h
theorem lX {l : List cB} {i : Int} {v : cB} (h0 : 0≤i) (h1 : i<l.length) (h : Ok P (k (aP (l.set i.toNat v)))) : Ok P (bd (PV.setAt 3 true (aP l) (.int .i64 i) v.pv) k):=by
  refine aEZ h0 (by rw [List.length_map];exact h1) rfl ?_
  rw [← List.map_set]
  exact h
theorem sY {n : Int} (h0 : 0≤n) (h1 : n≤1000000000) (h : Ok P (k (aP (List.replicate n.toNat dV)))) : Ok P (bd (PV.zeros 32 (.agg [.int .i64 0,.int .i64 0,.str (bs [])]) (.int .i64 n)) k):=by
  obtain ⟨m,rfl⟩:=Int.eq_ofNat_of_zero_le h0
  refine cY _ ?_ h
  simp only [PV.zeros]
  rw [if_pos ⟨by omega,by omega,by omega⟩,Int.toNat_natCast,aP,List.map_replicate]
  rfl
end
section
variable {P : R → Prop} {k : R → Option R} {a0 a1 a2 a3 a4 a5 a6 a7 a8 a9 H O : PV} {A : List PV}
theorem yM {x : PV} (hA : A.length≤2097152) (h : Ok P (k [.int .i64 A.length,a0,a1,a2,a3,a4,a5,a6,a7,a8,a9,.lst (A++[x]),H,O])) :
    Ok P (bd (dN a0 a1 a2 a3 a4 a5 a6 a7 a8 a9 (.lst (A++[x])) H O) k):=by
  refine aF (Q:=fun r=>r = [.int .i64 A.length,a0,a1,a2,a3,a4,a5,a6,a7,a8,a9,.lst (A++[x]),H,O]) ?_ (fun r hr=>by rw [hr];exact h)
  rw [yE]
  have e : ((A++[x]).length : Int) - 1=A.length:=by simp
  refine bE (cQ (by simp;omega) ?_)
  rw [e]
  exact aAF (by omega) (by simp;omega) (aB rfl)
theorem eX {f pc : Int} {loc s : List cB} {v : cB} (hA : A.length≤2097152) (hs : s.length≤2097152)
    (h : Ok P (k [v.pv,a0,a1,a2,a3,a4,a5,a6,a7,a8,a9,.lst (A++[cL.pv ⟨f,pc,loc,s⟩]),H,O])) :
    Ok P (bd (aT a0 a1 a2 a3 a4 a5 a6 a7 a8 a9 (.lst (A++[cL.pv ⟨f,pc,loc,s++[v]⟩])) H O) k):=by
  refine aF (Q:=fun r=>r = [v.pv,a0,a1,a2,a3,a4,a5,a6,a7,a8,a9,.lst (A++[cL.pv ⟨f,pc,loc,s⟩]),H,O]) ?_ (fun r hr=>by rw [hr];exact h)
  rw [aBi]
  have e : ((s++[v]).length : Int) - 1=s.length:=by simp
  have hl : (s++[v]).length=s.length+1:=by simp
  have at3 : ∀ {P : R→Prop} {k : PV→Option R},Ok P (k (aP (s++[v])))→Ok P (bd (PV.at_ 4 true (.lst (A++[cL.pv ⟨f,pc,loc,s++[v]⟩])) (.int .i64 A.length)) fun x=>bd (PV.cell x 3) k):=
    fun h=>bS rfl rfl (aA rfl h)
  have at_ : ∀ {P : R→Prop} {k : PV→Option R},(∀ x,Ok P (k x))→Ok P (bd (PV.at_ 4 true (.lst (A++[cL.pv ⟨f,pc,loc,s++[v]⟩])) (.int .i64 A.length)) k):=
    fun h=>bS rfl rfl (h _)
  have el : (s++[v])[(s.length : Int).toNat]? = some v:=by rw [Int.toNat_natCast,List.getElem?_append_right (Nat.le_refl _),Nat.sub_self];rfl
  refine yM hA (at_ (fun _=>at_ (fun _=>at3 (dI (cQ (by omega) ?_)))))
  rw [e]
  refine at3 (eF (by omega) (by omega) (at3 (lP (by omega) (by omega) (fun w hw=>?_))))
  rw [el] at hw
  cases hw
  refine aD rfl (aA rfl (aA rfl (aA rfl (at_ (fun _=>at_ (fun _=>at3 (dI (cQ (by omega) ?_))))))))
  rw [e]
  refine at3 (fJ (by omega) (by omega) (by omega) (at3 (fJ (by omega) (by omega) (by omega) (at3 ?_))))
  refine bZ rfl rfl (by omega) rfl (bZ rfl rfl (by omega) rfl (aB ?_))
  simp only [Int.toNat_natCast,Int.toNat_zero,List.drop_zero,List.take_left']
  rfl
theorem aEd {f pc : Int} {loc s : List cB} {v : cB} (hA : A.length≤2097152) (hs : s.length≤2097152)
    (h : Ok P (k [a0,a1,a2,a3,a4,a5,a6,a7,a8,a9,.lst (A++[cL.pv ⟨f,pc,loc,s++[v]⟩]),H,O])) :
    Ok P (bd (fK v.pv a0 a1 a2 a3 a4 a5 a6 a7 a8 a9 (.lst (A++[cL.pv ⟨f,pc,loc,s⟩])) H O) k):=by
  refine aF (Q:=fun r=>r = [a0,a1,a2,a3,a4,a5,a6,a7,a8,a9,.lst (A++[cL.pv ⟨f,pc,loc,s++[v]⟩]),H,O]) ?_ (fun r hr=>by rw [hr];exact h)
  rw [zU]
  refine aD rfl (aA rfl (aA rfl (aA rfl (yM hA ?_))))
  refine bS rfl rfl (bS rfl rfl (aA rfl (bS rfl rfl (aA rfl ?_))))
  refine bZ rfl rfl (by omega) rfl (gK (m:=[v]) (by simp;omega) (bZ rfl rfl (by omega) rfl (aB rfl)))
theorem fQ {f pc : Int} {loc s : List cB} {vk vn : Int} {vs : ByteArray} (hA : A.length≤2097152) (hs : s.length≤2097152)
    (h : Ok P (k [a0,a1,a2,a3,a4,a5,a6,a7,a8,a9,.lst (A++[cL.pv ⟨f,pc,loc,s++[⟨vk,vn,vs⟩]⟩]),H,O])) :
    Ok P (bd (aZ (.int .i64 vk) (.int .i64 vn) (.str vs) a0 a1 a2 a3 a4 a5 a6 a7 a8 a9 (.lst (A++[cL.pv ⟨f,pc,loc,s⟩])) H O) k):=by
  refine aF (Q:=fun r=>r = [a0,a1,a2,a3,a4,a5,a6,a7,a8,a9,.lst (A++[cL.pv ⟨f,pc,loc,s++[⟨vk,vn,vs⟩]⟩]),H,O]) ?_ (fun r hr=>by rw [hr];exact h)
  rw [vG]
  refine yM hA ?_
  refine bS rfl rfl (bS rfl rfl (aA rfl (bS rfl rfl (aA rfl ?_))))
  refine bZ rfl rfl (by omega) rfl (gK (m:=[⟨vk,vn,vs⟩]) (by simp;omega) (bZ rfl rfl (by omega) rfl (aB rfl)))
end
inductive aIL where
  | trap (c : Int)
  | next (fr : cL) (hp : List (List cB)) (made : Int) (out : List ByteArray)
  | call (fr : cL) (g : cL)
  | ret (v : cB)
def hX (v : cB) (hp : List (List cB)) : ByteArray:=
  if v.k=0 then bs [110,105,108] else if v.k=1 then jF v.n else if v.k=2 then (if v.n=1 then bs [116,114,117,101] else bs [102,97,108,115,101]) else if v.k=3 then v.s
  else if v.k=5 then bs [102,117,110]++jF v.n
  else if v.k=4 then bs [123]++jF ((hp[v.n.toNat]?.getD []).length)++bs [125] else bs []
def vJ (fs : List cW) (i : Int) : Int:=(fs[i.toNat]?.map cW.lc).getD 0
def pG (fs : List cW) (g : Int) (args : List cB) : cL:=⟨g,0,args++List.replicate ((vJ fs g).toNat - args.length) dV,[]⟩
def dE (m : eG) (fr : cL) (took : List cB) (depth : Nat) (hp : List (List cB)) (made : Int) (out : List ByteArray) (x : bF) : aIL:=
  let a:=took.headD dV
  let b:=took.tail.headD dV
  let go : List cB→aIL:=fun l=>.next ⟨fr.f,fr.pc,fr.loc,fr.stk++l⟩ hp made out
  let rec_ : List cB:=hp[a.n.toNat]?.getD []
  if x.o=1 then go [aB5 x.a]
  else if x.o=2 then go [lW (decide (x.a=1))]
  else if x.o=3 then go [aB6 (m.texts[x.a.toNat]?.getD (bs []))]
  else if x.o=4 then go [dV]
  else if x.o=5 then go [aKT x.a]
  else if x.o=6 then go [fr.loc[x.a.toNat]?.getD dV]
  else if x.o=7 then .next ⟨fr.f,fr.pc,fr.loc.set x.a.toNat a,fr.stk⟩ hp made out
  else if x.o=8 then go [a,a]
  else if x.o=9 then go []
  else if x.o=10 then go [b,a]
  else if x.o≤15 then (if (nG x.o a b).2≠0 then .trap (nG x.o a b).2 else go [(nG x.o a b).1])
  else if x.o=16 then (if (yH a).2≠0 then .trap (yH a).2 else go [(yH a).1])
  else if x.o=17 then .next ⟨fr.f,x.a,fr.loc,fr.stk⟩ hp made out
  else if x.o≤19 then (if a.k≠2 then .trap 1 else if (decide (a.n=1)==decide (x.o=18))=true then .next ⟨fr.f,x.a,fr.loc,fr.stk⟩ hp made out else go [])
  else if x.o=20 then (if made=120 then .trap 7 else .next ⟨fr.f,fr.pc,fr.loc,fr.stk++[aKS hp.length]⟩ (hp++[List.replicate x.a.toNat dV]) (made+1) out)
  else if x.o=21 then (if a.k≠4 then .trap 1 else if rec_.length≤x.a then .trap 4 else go [rec_[x.a.toNat]?.getD dV])
  else if x.o=22 then (if a.k≠4 then .trap 1 else if rec_.length≤x.a then .trap 4 else .next fr (hp.set a.n.toNat (rec_.set x.a.toNat b)) made out)
  else if x.o=23 then (if a.k≠5 then .trap 1 else if eJ m.funcs a.n≠x.a then .trap 5 else if depth=24 then .trap 6 else .call fr (pG m.funcs a.n took.tail))
  else if x.o=24 then (if depth=24 then .trap 6 else .call fr (pG m.funcs x.a took))
  else if x.o=25 then .ret a
  else if out.length=200 then .trap 8 else .next fr hp made (out++[hX a hp])
theorem aHw {v : cB} {hp : List (List cB)} {nf : Int} (hnf : nf≤1000) (hh : hp.length≤1000) (hr : ∀ r∈hp,r.length≤1000) (hv : bI nf hp.length v=true) :
    Ok (fun r=>r = [.str (hX v hp)]) (rH v.pv (.lst (hp.map cD))):=by
  have hn : -1000000000≤v.n∧v.n≤1000000000∧(v.k=4→0≤v.n∧v.n<hp.length)∧0≤v.k∧v.k≤5:=by
    unfold bI at hv
    repeat' split at hv
    all_goals first
      | (cases hv;done)
      | (simp only [bX,bN,Bool.and_eq_true,decide_eq_true_eq] at hv;omega)
  rw [aBX]
  refine aD rfl (aA rfl (aA rfl (aA rfl ?_)))
  refine aH (aC (fun h=>aB ?_) (fun h0=>aH (aC (fun h=>?_) (fun h1=>aH (aC (fun h=>?_) (fun h2=>aH (aC (fun h=>aB ?_) (fun h3=>aH (aC (fun h=>?_) (fun h5=>?_))))))))))
  · unfold hX;rw [if_pos h]
  · refine aF (yI (by omega)) (fun r hr=>?_)
    subst hr
    refine aB ?_
    unfold hX;rw [if_neg h0,if_pos h];rfl
  · refine aH (aC (fun h'=>aB ?_) (fun h'=>aB ?_))
    · unfold hX;rw [if_neg h0,if_neg h1,if_pos h,if_pos h']
    · unfold hX;rw [if_neg h0,if_neg h1,if_pos h,if_neg h']
  · unfold hX;rw [if_neg h0,if_neg h1,if_neg h2,if_pos h]
  · refine aF (yI (by omega)) (fun r hr=>?_)
    subst hr
    have:=qG v.n
    refine iJ (by have e : (bs [102,117,110]).size=3:=rfl
                  omega) (aB ?_)
    unfold hX;rw [if_neg h0,if_neg h1,if_neg h2,if_neg h3,if_pos h]
  · refine aH (aC (fun h4=>?_) (fun h4=>by omega))
    refine aE (cQ (by omega) (eR ?_))
    rw [show jG v.n 0 (hp.length - 1)=true from bN.2 (by omega)]
    refine bB ?_
    obtain ⟨i,hi⟩:=Int.eq_ofNat_of_zero_le (hn.2.2.1 h4).1
    have hil : i<hp.length:=by omega
    rw [hi]
    have hrl:=hr _ (List.getElem_mem hil)
    refine bD hil (fun _=>rfl) (aA rfl (dI ?_))
    refine aF (yI (by omega)) (fun r hr=>?_)
    subst hr
    have:=qG ((hp[i].length : Nat) : Int)
    have e1 : (bs [123]).size=1:=rfl
    have e2 : (bs [125]).size=1:=rfl
    refine iJ (by omega) (iJ (by rw [ByteArray.size_append];omega) (aB ?_))
    unfold hX;rw [if_neg h0,if_neg h1,if_neg h2,if_neg h3,if_neg h5,if_pos h4,hi,Int.toNat_natCast,List.getElem?_eq_getElem hil]
    rfl
section
variable {a2 a3 a4 a5 a6 a7 a8 H O T : PV} {A : List PV} {fs : List cW}
theorem aIM {P : R→Prop} {g : Int} {loc : List cB} (hA : A.length≤1000) (h : P [T,.lst (fs.map cW.pv),a2,a3,a4,a5,a6,a7,a8,.int .i64 0,.lst (A++[cL.pv ⟨g,0,loc,[]⟩]),H,O]) :
    Ok P (gG (.int .i64 g) T (.lst (fs.map cW.pv)) a2 a3 a4 a5 a6 a7 a8 (.int .i64 0) (.lst A) H O (aP loc)):=by
  rw [uC]
  refine bA rfl (mH (by simp;omega) (fun x hx=>by simp only [List.mem_singleton] at hx;subst hx;rfl) (aB h))
theorem aMC {P : R→Prop} {g f pc : Int} {under : Bool} {loc s s1 : List cB} (hA : A.length≤100) (hs : s.length≤100) (hu : (under=true∧∃ w,s=s1++[w])∨(under=false∧s=s1)) :
    ∀ (j : Nat) (args post pre : List cB),args.length=j→pre.length=j→j+post.length≤50→
    P [T,.lst (fs.map cW.pv),a2,a3,a4,a5,a6,a7,a8,.int .i64 0,.lst (A++[cL.pv ⟨f,pc,loc,s1⟩]++[cL.pv ⟨g,0,args++post,[]⟩]),H,O]→
    Ok P (gT (.int .i64 g) (.bool under) (.int .i64 ((j : Int) - 1)) T (.lst (fs.map cW.pv)) a2 a3 a4 a5 a6 a7 a8 (.int .i64 0) (.lst (A++[cL.pv ⟨f,pc,loc,s++args⟩])) H O (aP (pre++post))):=by
  intro j
  induction j with
  | zero=>
    intro args post pre h1 h2 h3 h
    rw [List.eq_nil_of_length_eq_zero h1,List.nil_append] at h
    rw [List.eq_nil_of_length_eq_zero h1,List.eq_nil_of_length_eq_zero h2,List.append_nil,List.nil_append,nB]
    refine nU (aC (fun h=>by omega) (fun _=>?_))
    rcases hu with ⟨rfl,w,rfl⟩ | ⟨rfl,rfl⟩
    · refine bB (eX (by omega) (by simp at hs;omega) ?_)
      exact aIM (by simp;omega) h
    · exact aS (aIM (by simp;omega) h)
  | succ j ih=>
    intro args post pre h1 h2 h3 h
    obtain ⟨args',v,rfl⟩ : ∃ l v,args=l++[v]:=⟨args.dropLast,args.getLast (fun e=>by rw [e] at h1;simp at h1),(List.dropLast_concat_getLast _).symm⟩
    obtain ⟨pre',u,rfl⟩ : ∃ l v,pre=l++[v]:=⟨pre.dropLast,pre.getLast (fun e=>by rw [e] at h2;simp at h2),(List.dropLast_concat_getLast _).symm⟩
    simp only [List.length_append,List.length_cons,List.length_nil,Nat.zero_add,Nat.add_right_cancel_iff] at h1 h2
    have ej : ((j+1 : Nat) : Int) - 1=j:=by omega
    rw [ej,nB,← List.append_assoc]
    refine nU (aC (fun _=>?_) (fun h=>by omega))
    refine eX (by omega) (by simp;omega) ?_
    have hlen : (pre'++[u]++post).length=j+1+post.length:=by simp;omega
    refine eF (by omega) (by omega) (lX (by omega) (by omega) (cQ (by omega) ?_))
    have e : (pre'++[u]++post).set (j : Int).toNat v=pre'++(v::post):=by
      rw [Int.toNat_natCast,← h2,List.append_assoc,List.set_append_right _ _ (Nat.le_refl _),Nat.sub_self]
      rfl
    rw [e]
    refine ih args' (v::post) pre' h1 h2 (by simp;omega) ?_
    rw [show args'++v::post=args'++[v]++post by simp]
    exact h
theorem aIN {P : R→Prop} {k : R→Option R} {g f pc : Int} {under : Bool} {loc s s1 args : List cB} (hF : fs.length≤1000) (hpar : ∀ f∈fs,0≤f.p∧f.p≤6∧f.p≤f.lc∧f.lc≤12) (hA : A.length≤23) (hs : s.length≤100)
    (hu : (under=true∧∃ w,s=s1++[w])∨(under=false∧s=s1)) (hg : 0≤g∧g<fs.length) (ha : args.length=eJ fs g)
    (h1 : A.length=23→Ok P (k [T,.lst (fs.map cW.pv),a2,a3,a4,a5,a6,a7,a8,.int .i64 6,.lst (A++[cL.pv ⟨f,pc,loc,s++args⟩]),H,O]))
    (h2 : A.length≠23→Ok P (k [T,.lst (fs.map cW.pv),a2,a3,a4,a5,a6,a7,a8,.int .i64 0,.lst (A++[cL.pv ⟨f,pc,loc,s1⟩]++[cL.pv (pG fs g args)]),H,O])) :
    Ok P (bd (kK (.int .i64 g) (.bool under) T (.lst (fs.map cW.pv)) a2 a3 a4 a5 a6 a7 a8 (.int .i64 0) (.lst (A++[cL.pv ⟨f,pc,loc,s++args⟩])) H O) k):=by
  obtain ⟨n,rfl⟩:=Int.eq_ofNat_of_zero_le hg.1
  have hn : n<fs.length:=by omega
  have hp:=hpar _ (List.getElem_mem hn)
  have ep : eJ fs (n : Int)=fs[n].p:=by simp [eJ,List.getElem?_eq_getElem hn]
  have el : vJ fs (n : Int)=fs[n].lc:=by simp [vJ,List.getElem?_eq_getElem hn]
  rw [ep] at ha
  have hl : ((A++[cL.pv ⟨f,pc,loc,s++args⟩]).length : Int)=A.length+1:=by simp
  refine aF (Q:=fun r=>(A.length=23∧r = [T,.lst (fs.map cW.pv),a2,a3,a4,a5,a6,a7,a8,.int .i64 6,.lst (A++[cL.pv ⟨f,pc,loc,s++args⟩]),H,O])∨
    (A.length≠23∧r = [T,.lst (fs.map cW.pv),a2,a3,a4,a5,a6,a7,a8,.int .i64 0,.lst (A++[cL.pv ⟨f,pc,loc,s1⟩]++[cL.pv (pG fs n args)]),H,O])) ?_ ?_
  · rw [zV]
    refine bD hn (fun _=>rfl) (aD rfl (aA rfl (aA rfl (aA rfl (bE ?_)))))
    refine aH (aC (fun h=>aB (.inl ⟨by omega,rfl⟩)) (fun h=>?_))
    refine sY (by omega) (by omega) (kQ (aC (fun _=>?_) (fun h=>by omega)))
    refine sY (by omega) (by omega) (cQ (by omega) ?_)
    have e1 : fs[n].p - 1=((args.length : Int)) - 1:=by omega
    have e2 : List.replicate fs[n].lc.toNat dV=List.replicate args.length dV++List.replicate (fs[n].lc.toNat - args.length) dV:=by
      rw [List.replicate_append_replicate];congr 1;omega
    rw [e1,e2]
    refine aMC (by omega) hs hu args.length args _ _ rfl (by simp) (by simp;omega) (.inr ⟨by omega,?_⟩)
    simp only [pG,el]
  · rintro r (⟨h,rfl⟩ | ⟨h,rfl⟩)
    · exact h1 h
    · exact h2 h
end
section
variable {P : R → Prop} {k : R → Option R}
theorem qI {a b : cB} {q : Int} (h : Ok P (k [.bool (decide (a.k=q)&&decide (b.k=q))])) : Ok P (bd (qP a.pv b.pv (.int .i64 q)) k):=by
  refine aF (Q:=fun r=>r = [.bool (decide (a.k=q)&&decide (b.k=q))]) ?_ (fun r hr=>by rw [hr];exact h)
  rw [aHn]
  refine aD rfl (aA rfl (aA rfl (aA rfl (aD rfl (aA rfl (aA rfl (aA rfl (aH ?_))))))))
  refine aC (fun h1=>aH (aB ?_)) (fun h1=>aB ?_)
  · rw [decide_eq_true h1];rfl
  · rw [decide_eq_false h1];rfl
theorem oJ {n : Int} (h : Ok P (k [.bool (bX n)])) : Ok P (bd (jN (.int .i64 n)) k):=by
  refine aF (Q:=fun r=>r = [.bool (bX n)]) ?_ (fun r hr=>by rw [hr];exact h)
  rw [aAl]
  exact gI (aB rfl)
theorem aAn {n : Int} (h : Ok P (k [(aB5 n).pv])) : Ok P (bd (vC (.int .i64 n)) k):=by
  refine aF (Q:=fun r=>r = [(aB5 n).pv]) ?_ (fun r hr=>by rw [hr];exact h)
  rw [aF9]
  exact bA rfl (aB rfl)
theorem jT {c : Bool} (h : Ok P (k [(lW c).pv])) : Ok P (bd (jP (.bool c)) k):=by
  refine aF (Q:=fun r=>r = [(lW c).pv]) ?_ (fun r hr=>by rw [hr];exact h)
  rw [aFn]
  cases c
  · exact aS (aB rfl)
  · exact bB (aB rfl)
def aLQ (f : PV) (g : Int→Int→Int) : Prop:=∀ {a b : Int} {P : R→Prop} {k : R→Option R},bX a=true→bX b=true→Ok P (k [.int .i64 (g a b)])→Ok P (bd (PV.apply aK f [.int .i64 a,.int .i64 b]) k)
theorem aHx {a : Int} (h : bX a=true) : -1000000000≤a∧a≤1000000000:=bN.1 h
theorem pH {a b : cB} {o : Int} {f : PV} (hf : aLQ f (vH o)) (h : Ok P (k (opR (aBk o a b)))) : Ok P (bd (mQ a.pv b.pv f) k):=by
  refine aF (Q:=fun r=>r=opR (aBk o a b)) ?_ (fun r hr=>by rw [hr];exact h)
  rw [aD1]
  unfold aBk
  refine aD rfl (aA rfl (aA rfl (aA rfl (aD rfl (aA rfl (aA rfl (aA rfl (qI (bW ?_)))))))))
  by_cases h1 : a.k=1∧b.k=1
  · rw [decide_eq_true h1.1,decide_eq_true h1.2,if_neg (by omega),if_neg (by omega)]
    refine aS (oJ (bW ?_))
    cases h2 : bX a.n with
    | false=>exact bB (aB (by simp [opR,cB.pv,dV]))
    | true=>
      refine aS (oJ (bW ?_))
      cases h3 : bX b.n with
      | false=>exact bB (aB (by simp [opR,cB.pv,dV]))
      | true=>
        refine aS (hf h2 h3 (oJ (bW ?_)))
        cases h4 : bX (vH o a.n b.n) with
        | false=>exact bB (aB (by simp [opR,cB.pv,dV,h4]))
        | true=>
          refine aS (hf h2 h3 (aAn ?_))
          exact aD rfl (aA rfl (aA rfl (aA rfl (aB (by simp [opR,cB.pv,aB5,h4])))))
  · have h5 : (decide (a.k=1)&&decide (b.k=1))=false:=by
      cases h : (decide (a.k=1)&&decide (b.k=1))
      · rfl
      · simp only [Bool.and_eq_true,decide_eq_true_eq] at h;exact absurd h h1
    rw [h5]
    refine bB (aB ?_)
    by_cases h6 : a.k=1
    · rw [if_neg (by omega),if_pos (fun h7=>h1 ⟨h6,h7⟩)];rfl
    · rw [if_pos h6];rfl
theorem aHy {f : Nat} {o : Int} {g : PV→PV→Option R} (hg : ∀ x y,aK f [x,y]=g x y) (h : ∀ {a b : Int},bX a=true→bX b=true→Ok (fun r=>r = [.int .i64 (vH o a b)]) (g (.int .i64 a) (.int .i64 b))) : aLQ (.fn f []) (vH o):=
  fun ha hb hk=>rA (f:=f) (hg _ _) (h ha hb) (fun r hr=>by rw [hr];exact hk)
theorem aLR {s : ByteArray} (h : Ok P (k [.bool false])) : Ok P (bd (kJ (.str s)) k):=by
  refine aF (Q:=fun r=>r = [.bool false]) ?_ (fun r hr=>by rw [hr];exact h)
  rw [zS]
  exact tZ (aB rfl)
theorem aJD {s t : ByteArray} (h : Ok P (k [.bool (PV.bytesLt s.toList t.toList)])) : Ok P (bd (pF (.str s) (.str t)) k):=by
  refine aF (Q:=fun r=>r = [.bool (PV.bytesLt s.toList t.toList)]) ?_ (fun r hr=>by rw [hr];exact h)
  rw [aBh]
  exact aLR (aS (aKb (aB rfl)))
theorem aNt {f : Nat} (hg : ∀ x y,aK f [x,y]=vD x y) : aLQ (.fn f []) (vH 11):=aHy (g:=vD) hg (fun ha hb=>by
  have:=aHx ha;have:=aHx hb
  rw [aD2]
  exact aN (by omega) (aB rfl))
theorem aNu {f : Nat} (hg : ∀ x y,aK f [x,y]=vE x y) : aLQ (.fn f []) (vH 12):=aHy (g:=vE) hg (fun ha hb=>by
  have:=aHx ha;have:=aHx hb
  rw [aD3]
  exact cQ (by omega) (aB rfl))
theorem aNv {f : Nat} (hg : ∀ x y,aK f [x,y]=vF x y) : aLQ (.fn f []) (vH 13):=aHy (g:=vF) hg (fun ha hb=>by
  have:=aLK ha hb
  rw [aD4]
  exact aLC (by omega) (aB rfl))
theorem aLS {a b : cB} (hs : a.s.size≤2097152∧b.s.size≤2097152) : Ok (fun r=>r=opR (nG 11 a b)) (aAU a.pv b.pv):=by
  rw [aGb]
  refine aD rfl (aA rfl (aA rfl (aA rfl (aD rfl (aA rfl (aA rfl (aA rfl (qI ?_))))))))
  have e : nG 11 a b=(if a.k=3∧b.k=3 then (if (60 : Int)<a.s.size+b.s.size then (dV,3) else (aB6 (a.s++b.s),0)) else aBk 11 a b):=rfl
  rw [e]
  by_cases h1 : a.k=3∧b.k=3
  · rw [if_pos h1,decide_eq_true h1.1,decide_eq_true h1.2]
    refine bB (mG (mG (aN (by omega) (nT (aC (fun h2=>aB ?_) (fun h2=>iJ (by omega) (bA rfl (aB ?_))))))))
    · rw [if_pos h2];rfl
    · rw [if_neg h2];rfl
  · have h5 : (decide (a.k=3)&&decide (b.k=3))=false:=by
      cases h : (decide (a.k=3)&&decide (b.k=3))
      · rfl
      · simp only [Bool.and_eq_true,decide_eq_true_eq] at h;exact absurd h h1
    rw [if_neg h1,h5]
    refine aS (pH (aNt (fun _ _=>rfl)) (aW rfl (aW rfl (aD rfl (aA rfl (aA rfl (aA rfl (aB rfl))))))))
theorem aLT {a b : cB} : Ok (fun r=>r=opR (nG 12 a b)) (aAV a.pv b.pv):=by
  rw [aGc]
  exact aD rfl (aA rfl (aA rfl (aA rfl (aD rfl (aA rfl (aA rfl (aA rfl (pH (aNu (fun _ _=>rfl)) (aW rfl (aW rfl (aD rfl (aA rfl (aA rfl (aA rfl (aB rfl)))))))))))))))
theorem aLU {a b : cB} : Ok (fun r=>r=opR (nG 13 a b)) (aAW a.pv b.pv):=by
  rw [aGd]
  exact aD rfl (aA rfl (aA rfl (aA rfl (aD rfl (aA rfl (aA rfl (aA rfl (pH (aNv (fun _ _=>rfl)) (aW rfl (aW rfl (aD rfl (aA rfl (aA rfl (aA rfl (aB rfl)))))))))))))))
theorem aLV {p q : Prop} [Decidable p] [Decidable q] (h : ¬ (p∧q)) : (decide p&&decide q)=false:=by
  cases h' : (decide p&&decide q)
  · rfl
  · simp only [Bool.and_eq_true,decide_eq_true_eq] at h';exact absurd h' h
theorem aK0 {a b : cB} : Ok (fun r=>r=opR (nG 14 a b)) (yA a.pv b.pv):=by
  rw [aFp]
  have e : nG 14 a b=(if a.k=3∧b.k=3 then (lW (PV.bytesLt a.s.toList b.s.toList),0) else if a.k=1∧b.k=1 then (lW (decide (a.n<b.n)),0) else (dV,1)):=rfl
  rw [e]
  refine aD rfl (aA rfl (aA rfl (aA rfl (aD rfl (aA rfl (aA rfl (aA rfl (qI ?_))))))))
  by_cases h1 : a.k=1∧b.k=1
  · rw [if_neg (by omega),if_pos h1,decide_eq_true h1.1,decide_eq_true h1.2]
    exact bB (aG (jT (aD rfl (aA rfl (aA rfl (aA rfl (aB rfl)))))))
  · rw [aLV h1]
    refine aS (qI ?_)
    by_cases h2 : a.k=3∧b.k=3
    · rw [if_pos h2,decide_eq_true h2.1,decide_eq_true h2.2]
      exact bB (aJD (jT (aD rfl (aA rfl (aA rfl (aA rfl (aB rfl)))))))
    · rw [if_neg h2,if_neg h1,aLV h2]
      exact aS (aB rfl)
theorem aKe {a b : cB} {k : PV→Option R} (h : Ok P (k (.bool (decide (a.k=b.k)&&(decide (a.n=b.n)&&jS a.s b.s))))) : Ok P (bd (PV.ceq [1,1,2] .eql (.agg [.int .i64 a.k,.int .i64 a.n,.str a.s]) (.agg [.int .i64 b.k,.int .i64 b.n,.str b.s])) k):=
  cY _ (by simp [PV.ceq,PV.eqCells,PV.eqScalar,PV.eqOr,jS];rfl) h
theorem aK1 {a b : cB} : Ok (fun r=>r = [(aAm a b).pv]) (xZ a.pv b.pv):=by
  rw [aFo]
  exact aD rfl (aA rfl (aA rfl (aA rfl (aD rfl (aA rfl (aA rfl (aA rfl (aKe (jT (aD rfl (aA rfl (aA rfl (aA rfl (aB rfl))))))))))))))
theorem aLW {v : cB} : Ok (fun r=>r=opR (yH v)) (aAT v.pv):=by
  rw [aGa]
  unfold yH
  refine aD rfl (aA rfl (aA rfl (aA rfl (bC (aJ (fun h=>aB ?_) (fun h=>bC (jT (aD rfl (aA rfl (aA rfl (aA rfl (aB ?_))))))))))))
  · rw [if_pos h];rfl
  · rw [if_neg (by omega)];rfl
end
def aCe (v : cB) : List cL→List cL
  | []=>[]
  | [f]=>[⟨f.f,f.pc,f.loc,f.stk++[v]⟩]
  | f::g::r=>f::aCe v (g::r)
theorem vK (v : cB) : ∀ (l : List cL) (f : cL),aCe v (l++[f])=l++[⟨f.f,f.pc,f.loc,f.stk++[v]⟩]
  | [],_=>rfl
  | [a],f=>rfl
  | a::b::l,f=>by
    show a::aCe v (b::l++[f])=_
    rw [vK v (b::l) f]
    rfl
def DoR (a0 a1 made a3 a4 a5 a6 a7 a8 H O : PV) (fs0 : List cL) : aIL→R→Prop
  | .trap c,r=>c≠0∧gd r 9 = .int .i64 c
  | .next fr hp made' out,r=>r = [a0,a1,.int .i64 made',a3,a4,a5,a6,a7,a8,.int .i64 0,.lst (fs0.map cL.pv++[fr.pv]),.lst (hp.map cD),.lst (out.map PV.str)]
  | .call fr g,r=>r = [a0,a1,made,a3,a4,a5,a6,a7,a8,.int .i64 0,.lst (fs0.map cL.pv++[fr.pv]++[g.pv]),H,O]
  | .ret v,r=>r=if fs0 = [] then [a0,a1,made,.int .i64 1,a4,.int .i64 v.k,.int .i64 v.n,.str v.s,a8,.int .i64 0,.lst [],H,O]
      else [a0,a1,made,a3,a4,a5,a6,a7,a8,.int .i64 0,.lst ((aCe v fs0).map cL.pv),H,O]
structure aLX (m : eG) (fs0 : List cL) (fr : cL) (took : List cB) (hp : List (List cB)) (made : Int) (out : List ByteArray) : Prop where
  nf : m.funcs.length≤12
  nt : m.texts.length≤20
  par : ∀ f∈m.funcs,0≤f.p∧f.p≤6∧f.p≤f.lc∧f.lc≤12
  n0 : fs0.length≤23
  stks : ∀ f∈fs0,f.stk.length≤16
  nl : fr.loc.length≤12
  ns : fr.stk.length+took.length≤16
  recs : ∀ r∈hp,r.length≤6
  nh : hp.length≤120
  nm : 0≤made∧made≤120
  no : out.length≤200
  aP : ∀ v∈took,bI m.funcs.length hp.length v=true
theorem bT {nf recs : Int} {v : cB} (h : bI nf recs v=true) : v.s.size≤60:=by
  by_cases h3 : v.k=3
  · unfold bI at h
    rw [if_neg (fun e=>e.1 h3),if_neg (by omega),if_neg (by omega),if_neg (by omega),if_pos h3] at h
    simp only [Bool.and_eq_true,fU,decide_eq_true_eq] at h
    omega
  · unfold bI at h
    split at h
    · cases h
    · rename_i hn
      have he : jS v.s (bs [])=true:=by
        cases hs : jS v.s (bs []) with
        | true=>rfl
        | false=>exact absurd ⟨h3,hs⟩ hn
      have e0 : (bs []).toList = []:=by rw [Lib.toList_data];rfl
      unfold jS at he
      rw [e0] at he
      have hl : v.s.toList = []:=by simpa using he
      have hsz : v.s.size=v.s.toList.length:=by
        rw [Lib.toList_data,Array.length_toList]
        rfl
      rw [hsz,hl]
      simp
theorem qQ {nf recs : Int} {v : cB} (h : bI nf recs v=true) (hk : v.k=4) : 0≤v.n∧v.n<recs:=by
  unfold bI at h
  by_cases hc : v.k≠3∧jS v.s (bs [])=false
  · rw [if_pos hc] at h;cases h
  · rw [if_neg hc,if_neg (by omega),if_neg (by omega),if_neg (by omega),if_neg (by omega),if_pos hk] at h
    simp only [Bool.and_eq_true,decide_eq_true_eq] at h
    exact h
theorem aC5 {nf recs : Int} {v : cB} (h : bI nf recs v=true) (hk : v.k=5) : 0≤v.n∧v.n<nf:=by
  unfold bI at h
  by_cases hc : v.k≠3∧jS v.s (bs [])=false
  · rw [if_pos hc] at h;cases h
  · rw [if_neg hc,if_neg (by omega),if_neg (by omega),if_neg (by omega),if_neg (by omega),if_neg (by omega),if_pos hk] at h
    have:=bN.1 h
    omega
theorem zG {nt nf lc nc : Int} {x : bF} (h : bV nt nf lc nc x.o x.a=true) : (1≤x.o∧x.o≤26)∧(x.o=3→0≤x.a∧x.a<nt)∧((x.o=6∨x.o=7)→0≤x.a∧x.a<lc)∧(x.o=20→0≤x.a∧x.a≤6)∧
    ((x.o=21∨x.o=22)→0≤x.a∧x.a≤5)∧(x.o=23→0≤x.a∧x.a≤6)∧((x.o=5∨x.o=24)→0≤x.a∧x.a<nf)∧((x.o=17∨x.o=18∨x.o=19)→0≤x.a∧x.a<nc)∧(x.o=1→bX x.a=true):=by
  unfold bV at h
  by_cases h1 : x.o=1
  · rw [if_pos h1] at h
    have h:=bN.1 h
    exact ⟨by omega,fun _=>by omega,fun _=>by omega,fun _=>by omega,fun _=>by omega,fun _=>by omega,fun _=>by omega,fun _=>by omega,fun _=>by first | (unfold bX;exact bN.2 (by omega)) | (exfalso;omega)⟩
  rw [if_neg h1] at h
  by_cases h2 : x.o=2
  · rw [if_pos h2] at h
    have h:=bN.1 h
    exact ⟨by omega,fun _=>by omega,fun _=>by omega,fun _=>by omega,fun _=>by omega,fun _=>by omega,fun _=>by omega,fun _=>by omega,fun _=>by first | (unfold bX;exact bN.2 (by omega)) | (exfalso;omega)⟩
  rw [if_neg h2] at h
  by_cases h3 : x.o=3
  · rw [if_pos h3] at h
    have h:=bN.1 h
    exact ⟨by omega,fun _=>by omega,fun _=>by omega,fun _=>by omega,fun _=>by omega,fun _=>by omega,fun _=>by omega,fun _=>by omega,fun _=>by first | (unfold bX;exact bN.2 (by omega)) | (exfalso;omega)⟩
  rw [if_neg h3] at h
  by_cases h5 : x.o=5
  · rw [if_pos h5] at h
    have h:=bN.1 h
    exact ⟨by omega,fun _=>by omega,fun _=>by omega,fun _=>by omega,fun _=>by omega,fun _=>by omega,fun _=>by omega,fun _=>by omega,fun _=>by first | (unfold bX;exact bN.2 (by omega)) | (exfalso;omega)⟩
  rw [if_neg h5] at h
  by_cases h24 : x.o=24
  · rw [if_pos h24] at h
    have h:=bN.1 h
    exact ⟨by omega,fun _=>by omega,fun _=>by omega,fun _=>by omega,fun _=>by omega,fun _=>by omega,fun _=>by omega,fun _=>by omega,fun _=>by first | (unfold bX;exact bN.2 (by omega)) | (exfalso;omega)⟩
  rw [if_neg h24] at h
  by_cases h6 : x.o=6
  · rw [if_pos h6] at h
    have h:=bN.1 h
    exact ⟨by omega,fun _=>by omega,fun _=>by omega,fun _=>by omega,fun _=>by omega,fun _=>by omega,fun _=>by omega,fun _=>by omega,fun _=>by first | (unfold bX;exact bN.2 (by omega)) | (exfalso;omega)⟩
  rw [if_neg h6] at h
  by_cases h7 : x.o=7
  · rw [if_pos h7] at h
    have h:=bN.1 h
    exact ⟨by omega,fun _=>by omega,fun _=>by omega,fun _=>by omega,fun _=>by omega,fun _=>by omega,fun _=>by omega,fun _=>by omega,fun _=>by first | (unfold bX;exact bN.2 (by omega)) | (exfalso;omega)⟩
  rw [if_neg h7] at h
  by_cases h17 : x.o=17
  · rw [if_pos h17] at h
    have h:=bN.1 h
    exact ⟨by omega,fun _=>by omega,fun _=>by omega,fun _=>by omega,fun _=>by omega,fun _=>by omega,fun _=>by omega,fun _=>by omega,fun _=>by first | (unfold bX;exact bN.2 (by omega)) | (exfalso;omega)⟩
  rw [if_neg h17] at h
  by_cases h18 : x.o=18
  · rw [if_pos h18] at h
    have h:=bN.1 h
    exact ⟨by omega,fun _=>by omega,fun _=>by omega,fun _=>by omega,fun _=>by omega,fun _=>by omega,fun _=>by omega,fun _=>by omega,fun _=>by first | (unfold bX;exact bN.2 (by omega)) | (exfalso;omega)⟩
  rw [if_neg h18] at h
  by_cases h19 : x.o=19
  · rw [if_pos h19] at h
    have h:=bN.1 h
    exact ⟨by omega,fun _=>by omega,fun _=>by omega,fun _=>by omega,fun _=>by omega,fun _=>by omega,fun _=>by omega,fun _=>by omega,fun _=>by first | (unfold bX;exact bN.2 (by omega)) | (exfalso;omega)⟩
  rw [if_neg h19] at h
  by_cases h20 : x.o=20
  · rw [if_pos h20] at h
    have h:=bN.1 h
    exact ⟨by omega,fun _=>by omega,fun _=>by omega,fun _=>by omega,fun _=>by omega,fun _=>by omega,fun _=>by omega,fun _=>by omega,fun _=>by first | (unfold bX;exact bN.2 (by omega)) | (exfalso;omega)⟩
  rw [if_neg h20] at h
  by_cases h21 : x.o=21
  · rw [if_pos h21] at h
    have h:=bN.1 h
    exact ⟨by omega,fun _=>by omega,fun _=>by omega,fun _=>by omega,fun _=>by omega,fun _=>by omega,fun _=>by omega,fun _=>by omega,fun _=>by first | (unfold bX;exact bN.2 (by omega)) | (exfalso;omega)⟩
  rw [if_neg h21] at h
  by_cases h22 : x.o=22
  · rw [if_pos h22] at h
    have h:=bN.1 h
    exact ⟨by omega,fun _=>by omega,fun _=>by omega,fun _=>by omega,fun _=>by omega,fun _=>by omega,fun _=>by omega,fun _=>by omega,fun _=>by first | (unfold bX;exact bN.2 (by omega)) | (exfalso;omega)⟩
  rw [if_neg h22] at h
  by_cases h23 : x.o=23
  · rw [if_pos h23] at h
    have h:=bN.1 h
    exact ⟨by omega,fun _=>by omega,fun _=>by omega,fun _=>by omega,fun _=>by omega,fun _=>by omega,fun _=>by omega,fun _=>by omega,fun _=>by first | (unfold bX;exact bN.2 (by omega)) | (exfalso;omega)⟩
  rw [if_neg h23] at h
  simp only [Bool.and_eq_true,decide_eq_true_eq,bN] at h
  exact ⟨by omega,fun _=>by omega,fun _=>by omega,fun _=>by omega,fun _=>by omega,fun _=>by omega,fun _=>by omega,fun _=>by omega,fun _=>by first | (unfold bX;exact bN.2 (by omega)) | (exfalso;omega)⟩
section
variable {P : R → Prop} {k : PV → Option R} {hp : List (List cB)}
theorem dB {i : Int} (h0 : 0≤i) (h1 : i<hp.length) (h : Ok P (k (cD (hp[i.toNat]?.getD [])))) : Ok P (bd (PV.at_ 1 true (.lst (hp.map cD)) (.int .i64 i)) k):=by
  obtain ⟨n,rfl⟩:=Int.eq_ofNat_of_zero_le h0
  have hn : n<hp.length:=by omega
  rw [Int.toNat_natCast,List.getElem?_eq_getElem hn] at h
  exact bD hn (fun _=>rfl) h
theorem oB {i : Int} (h0 : 0≤i) (h1 : i<hp.length) (h : Ok P (k (.lst (hp.map cD)))) : Ok P (bd (PV.inb (.lst (hp.map cD)) (.int .i64 i)) k):=aAF h0 (by rw [List.length_map];exact h1) h
theorem aFx {i : Int} {r : List cB} (h0 : 0≤i) (h1 : i<hp.length) (h : Ok P (k (.lst ((hp.set i.toNat r).map cD)))) : Ok P (bd (PV.setCell 1 (.lst (hp.map cD)) (.int .i64 i) 0 (aP r)) k):=by
  obtain ⟨n,rfl⟩:=Int.eq_ofNat_of_zero_le h0
  have hn : n<hp.length:=by omega
  refine aAG (cs:=[aP hp[n]]) (by omega) (by rw [Int.toNat_natCast,List.getElem?_map,List.getElem?_eq_getElem hn];rfl) rfl (by omega) rfl ?_
  rw [List.map_set] at h
  exact h
theorem aKf {hp : List (List cB)} (h : ∀ r∈hp,r.length≤6) (i : Nat) : (hp[i]?.getD []).length≤6:=by
  cases hx : hp[i]? with
  | none=>simp
  | some r=>exact h r (List.mem_of_getElem? hx)
end
theorem nC {α : Type} {l : List α} (h : l.length=2) : ∃ a b,l = [a,b]:=by
  match l,h with
  | [a,b],_=>exact ⟨a,b,rfl⟩
theorem aGM {l : List cL} : ∀ x∈l.map cL.pv,x.isEl 4 true=true:=by
  intro x hx
  obtain ⟨a,_,rfl⟩:=List.mem_map.1 hx
  rfl
set_option maxRecDepth 100000 in
set_option maxHeartbeats 4000000 in
theorem aMD {m : eG} {fs0 : List cL} {fr : cL} {took : List cB} {hp : List (List cB)} {made : Int} {out : List ByteArray} {x : bF} {nc : Int} {a3 a4 a5 a6 a7 a8 : PV}
    (S : aLX m fs0 fr took hp made out) (hx : bV m.texts.length m.funcs.length fr.loc.length nc x.o x.a=true) (hu : (took.length : Int)=(aV m.funcs x).1) :
    Ok (DoR (.lst (m.texts.map PV.str)) (.lst (m.funcs.map cW.pv)) (.int .i64 made) a3 a4 a5 a6 a7 a8 (.lst (hp.map cD)) (.lst (out.map PV.str)) fs0 (dE m fr took (fs0.length+1) hp made out x))
      (rG (.int .i64 x.o) (.int .i64 x.a) (.lst (m.texts.map PV.str)) (.lst (m.funcs.map cW.pv)) (.int .i64 made) a3 a4 a5 a6 a7 a8 (.int .i64 0)
        (.lst (fs0.map cL.pv++[cL.pv ⟨fr.f,fr.pc,fr.loc,fr.stk++took⟩])) (.lst (hp.map cD)) (.lst (out.map PV.str))):=by
  obtain ⟨q26,q3,q67,q20,q2122,q23,q524,qj,q1⟩:=zG hx
  obtain ⟨nf,nt,par,n0,stks,nl,ns,recs,nh,nm,no,vals0⟩:=S
  have nA : (fs0.map cL.pv).length≤23:=by rw [List.length_map];exact n0
  obtain ⟨ff,fpc,floc,fstk⟩:=fr
  simp only at *
  rw [aBW]
  refine yM (by omega) ?_
  refine aH (aC (fun ho=>?_) (fun n1=>?_))
  · have e0 : aV m.funcs x=(0,1):=by unfold aV;repeat (first | rfl | rw [if_pos (by omega)] | rw [if_neg (by omega)])
    rw [e0] at hu
    obtain rfl:=List.eq_nil_of_length_eq_zero (show took.length=0 by omega)
    simp only [List.length_nil,Nat.add_zero,List.append_nil] at ns ⊢
    have e : dE m ⟨ff,fpc,floc,fstk⟩ [] (fs0.length+1) hp made out x = .next ⟨ff,fpc,floc,fstk++[aB5 x.a]⟩ hp made out:=by simp only [dE];repeat (first | rfl | rw [if_pos (by omega)] | rw [if_neg (by omega)])
    exact aIC (aEd (by omega) (by omega) (aB (by rw [e];rfl)))
  refine aH (aC (fun ho=>?_) (fun n2=>?_))
  · have e0 : aV m.funcs x=(0,1):=by unfold aV;repeat (first | rfl | rw [if_pos (by omega)] | rw [if_neg (by omega)])
    rw [e0] at hu
    obtain rfl:=List.eq_nil_of_length_eq_zero (show took.length=0 by omega)
    simp only [List.length_nil,Nat.add_zero,List.append_nil] at ns ⊢
    have e : dE m ⟨ff,fpc,floc,fstk⟩ [] (fs0.length+1) hp made out x = .next ⟨ff,fpc,floc,fstk++[lW (decide (x.a=1))]⟩ hp made out:=by simp only [dE];repeat (first | rfl | rw [if_pos (by omega)] | rw [if_neg (by omega)])
    exact aH (nZ (aEd (by omega) (by omega) (aB (by rw [e];rfl))))
  refine aH (aC (fun ho=>?_) (fun n3=>?_))
  · have e0 : aV m.funcs x=(0,1):=by unfold aV;repeat (first | rfl | rw [if_pos (by omega)] | rw [if_neg (by omega)])
    rw [e0] at hu
    obtain rfl:=List.eq_nil_of_length_eq_zero (show took.length=0 by omega)
    simp only [List.length_nil,Nat.add_zero,List.append_nil] at ns ⊢
    have e : dE m ⟨ff,fpc,floc,fstk⟩ [] (fs0.length+1) hp made out x = .next ⟨ff,fpc,floc,fstk++[aB6 (m.texts[x.a.toNat]?.getD (bs []))]⟩ hp made out:=by simp only [dE];repeat (first | rfl | rw [if_pos (by omega)] | rw [if_neg (by omega)])
    obtain ⟨i,hi⟩:=Int.eq_ofNat_of_zero_le (q3 ho).1
    have hil : i<m.texts.length:=by have:=q3 ho;omega
    rw [hi] at e ⊢
    rw [Int.toNat_natCast,List.getElem?_eq_getElem hil] at e
    exact bD hil (fun _=>rfl) (bA rfl (fQ (by omega) (by omega) (aB (by rw [e];rfl))))
  refine aH (aC (fun ho=>?_) (fun n4=>?_))
  · have e0 : aV m.funcs x=(0,1):=by unfold aV;repeat (first | rfl | rw [if_pos (by omega)] | rw [if_neg (by omega)])
    rw [e0] at hu
    obtain rfl:=List.eq_nil_of_length_eq_zero (show took.length=0 by omega)
    simp only [List.length_nil,Nat.add_zero,List.append_nil] at ns ⊢
    have e : dE m ⟨ff,fpc,floc,fstk⟩ [] (fs0.length+1) hp made out x = .next ⟨ff,fpc,floc,fstk++[dV]⟩ hp made out:=by simp only [dE];repeat (first | rfl | rw [if_pos (by omega)] | rw [if_neg (by omega)])
    exact fQ (by omega) (by omega) (aB (by rw [e];rfl))
  refine aH (aC (fun ho=>?_) (fun n5=>?_))
  · have e0 : aV m.funcs x=(0,1):=by unfold aV;repeat (first | rfl | rw [if_pos (by omega)] | rw [if_neg (by omega)])
    rw [e0] at hu
    obtain rfl:=List.eq_nil_of_length_eq_zero (show took.length=0 by omega)
    simp only [List.length_nil,Nat.add_zero,List.append_nil] at ns ⊢
    have e : dE m ⟨ff,fpc,floc,fstk⟩ [] (fs0.length+1) hp made out x = .next ⟨ff,fpc,floc,fstk++[aKT x.a]⟩ hp made out:=by simp only [dE];repeat (first | rfl | rw [if_pos (by omega)] | rw [if_neg (by omega)])
    exact bA rfl (fQ (by omega) (by omega) (aB (by rw [e];rfl)))
  refine aH (aC (fun ho=>?_) (fun n6=>?_))
  · have e0 : aV m.funcs x=(0,1):=by unfold aV;repeat (first | rfl | rw [if_pos (by omega)] | rw [if_neg (by omega)])
    rw [e0] at hu
    obtain rfl:=List.eq_nil_of_length_eq_zero (show took.length=0 by omega)
    simp only [List.length_nil,Nat.add_zero,List.append_nil] at ns ⊢
    have e : dE m ⟨ff,fpc,floc,fstk⟩ [] (fs0.length+1) hp made out x = .next ⟨ff,fpc,floc,fstk++[floc[x.a.toNat]?.getD dV]⟩ hp made out:=by simp only [dE];repeat (first | rfl | rw [if_pos (by omega)] | rw [if_neg (by omega)])
    have hq:=q67 (.inl ho)
    refine bS rfl rfl (bS rfl rfl (aA (y:=aP floc) rfl (eF (by omega) (by omega) (bS rfl rfl (aA (y:=aP floc) rfl (lP (by omega) (by omega) (fun v hv=>?_)))))))
    rw [hv] at e
    exact aEd (by omega) (by omega) (aB (by rw [e];rfl))
  refine aH (aC (fun ho=>?_) (fun n7=>?_))
  · have e0 : aV m.funcs x=(1,0):=by unfold aV;repeat (first | rfl | rw [if_pos (by omega)] | rw [if_neg (by omega)])
    rw [e0] at hu
    obtain ⟨a,rfl⟩:=List.length_eq_one_iff.1 (show took.length=1 by omega)
    have va:=vals0 a (by simp)
    have sa:=bT va
    have ns : fstk.length+1≤16:=ns
    have e : dE m ⟨ff,fpc,floc,fstk⟩ [a] (fs0.length+1) hp made out x = .next ⟨ff,fpc,floc.set x.a.toNat a,fstk⟩ hp made out:=by simp only [dE];repeat (first | rfl | rw [if_pos (by omega)] | rw [if_neg (by omega)])
    have hq:=q67 (.inr ho)
    refine eX (by omega) (by first | omega | (simp;omega)) (aD rfl (aA rfl (aA rfl (aA rfl (?_)))))
    refine bS rfl rfl (bS rfl rfl (aA (y:=aP floc) rfl (eF (by omega) (by omega) (bS rfl rfl (aA (y:=aP floc) rfl (bS rfl rfl (aA (y:=aP floc) rfl ?_)))))))
    refine lX (v:=a) (by omega) (by omega) (bS rfl rfl (aA (y:=aP floc) rfl (bZ rfl rfl (by omega) rfl (aB (by rw [e];rfl)))))
  refine aH (aC (fun ho=>?_) (fun n8=>?_))
  · have e0 : aV m.funcs x=(1,2):=by unfold aV;repeat (first | rfl | rw [if_pos (by omega)] | rw [if_neg (by omega)])
    rw [e0] at hu
    obtain ⟨a,rfl⟩:=List.length_eq_one_iff.1 (show took.length=1 by omega)
    have va:=vals0 a (by simp)
    have sa:=bT va
    have ns : fstk.length+1≤16:=ns
    have e : dE m ⟨ff,fpc,floc,fstk⟩ [a] (fs0.length+1) hp made out x = .next ⟨ff,fpc,floc,fstk++[a,a]⟩ hp made out:=by simp only [dE];repeat (first | rfl | rw [if_pos (by omega)] | rw [if_neg (by omega)])
    refine eX (by omega) (by first | omega | (simp;omega)) (aD rfl (aA rfl (aA rfl (aA rfl (?_)))))
    refine fQ (by omega) (by omega) (fQ (by omega) (by simp;omega) (aB ?_))
    rw [e]
    show _=_
    simp only [List.append_assoc]
    rfl
  refine aH (aC (fun ho=>?_) (fun n9=>?_))
  · have e0 : aV m.funcs x=(1,0):=by unfold aV;repeat (first | rfl | rw [if_pos (by omega)] | rw [if_neg (by omega)])
    rw [e0] at hu
    obtain ⟨a,rfl⟩:=List.length_eq_one_iff.1 (show took.length=1 by omega)
    have va:=vals0 a (by simp)
    have sa:=bT va
    have ns : fstk.length+1≤16:=ns
    have e : dE m ⟨ff,fpc,floc,fstk⟩ [a] (fs0.length+1) hp made out x = .next ⟨ff,fpc,floc,fstk++[]⟩ hp made out:=by simp only [dE];repeat (first | rfl | rw [if_pos (by omega)] | rw [if_neg (by omega)])
    refine eX (by omega) (by first | omega | (simp;omega)) (aB ?_)
    rw [e,List.append_nil]
    rfl
  refine aH (aC (fun ho=>?_) (fun n10=>?_))
  · have e0 : aV m.funcs x=(2,2):=by unfold aV;repeat (first | rfl | rw [if_pos (by omega)] | rw [if_neg (by omega)])
    rw [e0] at hu
    obtain ⟨a,b,rfl⟩:=nC (show took.length=2 by omega)
    have va:=vals0 a (by simp)
    have vb:=vals0 b (by simp)
    have sa:=bT va
    have sb:=bT vb
    rw [show fstk++[a,b]=fstk++[a]++[b] by simp]
    have ns : fstk.length+2≤16:=ns
    have e : dE m ⟨ff,fpc,floc,fstk⟩ [a,b] (fs0.length+1) hp made out x = .next ⟨ff,fpc,floc,fstk++[b,a]⟩ hp made out:=by simp only [dE];repeat (first | rfl | rw [if_pos (by omega)] | rw [if_neg (by omega)])
    refine eX (by omega) (by first | omega | (simp;omega)) (aD rfl (aA rfl (aA rfl (aA rfl (?_)))))
    refine eX (by omega) (by first | omega | (simp;omega)) (aD rfl (aA rfl (aA rfl (aA rfl (?_)))))
    refine fQ (by omega) (by omega) (fQ (by omega) (by simp;omega) (aB ?_))
    rw [e]
    show _=_
    simp only [List.append_assoc]
    rfl
  refine aH (aC (fun ho=>?_) (fun n11=>?_))
  · have e0 : aV m.funcs x=(2,1):=by unfold aV;repeat (first | rfl | rw [if_pos (by omega)] | rw [if_neg (by omega)])
    rw [e0] at hu
    obtain ⟨a,b,rfl⟩:=nC (show took.length=2 by omega)
    have va:=vals0 a (by simp)
    have vb:=vals0 b (by simp)
    have sa:=bT va
    have sb:=bT vb
    rw [show fstk++[a,b]=fstk++[a]++[b] by simp]
    have ns : fstk.length+2≤16:=ns
    have e : dE m ⟨ff,fpc,floc,fstk⟩ [a,b] (fs0.length+1) hp made out x=if (nG x.o a b).2≠0 then .trap (nG x.o a b).2 else .next ⟨ff,fpc,floc,fstk++[(nG x.o a b).1]⟩ hp made out:=by simp only [dE];repeat (first | rfl | rw [if_pos (by omega)] | rw [if_neg (by omega)])
    refine eX (by omega) (by first | omega | (simp;omega)) (aD rfl (aA rfl (aA rfl (aA rfl (?_)))))
    refine eX (by omega) (by first | omega | (simp;omega)) (aD rfl (aA rfl (aA rfl (aA rfl (?_)))))
    refine lO (aB8 (o:=x.o) (a:=a) (b:=b) (by omega) ⟨by omega,by omega⟩) (aW rfl (aW rfl (aD rfl (aA rfl (aA rfl (aA rfl (bA rfl (fQ (by omega) (by omega) (aB ?_)))))))))
    by_cases ht : (nG x.o a b).2≠0
    · rw [e,if_pos ht];exact ⟨ht,rfl⟩
    · rw [e,if_neg ht]
      have ht : (nG x.o a b).2=0:=by simpa using ht
      rw [ht];rfl
  refine aH (aC (fun ho=>?_) (fun n12=>?_))
  · have e0 : aV m.funcs x=(2,1):=by unfold aV;repeat (first | rfl | rw [if_pos (by omega)] | rw [if_neg (by omega)])
    rw [e0] at hu
    obtain ⟨a,b,rfl⟩:=nC (show took.length=2 by omega)
    have va:=vals0 a (by simp)
    have vb:=vals0 b (by simp)
    have sa:=bT va
    have sb:=bT vb
    rw [show fstk++[a,b]=fstk++[a]++[b] by simp]
    have ns : fstk.length+2≤16:=ns
    have e : dE m ⟨ff,fpc,floc,fstk⟩ [a,b] (fs0.length+1) hp made out x=if (nG x.o a b).2≠0 then .trap (nG x.o a b).2 else .next ⟨ff,fpc,floc,fstk++[(nG x.o a b).1]⟩ hp made out:=by simp only [dE];repeat (first | rfl | rw [if_pos (by omega)] | rw [if_neg (by omega)])
    refine eX (by omega) (by first | omega | (simp;omega)) (aD rfl (aA rfl (aA rfl (aA rfl (?_)))))
    refine eX (by omega) (by first | omega | (simp;omega)) (aD rfl (aA rfl (aA rfl (aA rfl (?_)))))
    refine lO (aB8 (o:=x.o) (a:=a) (b:=b) (by omega) ⟨by omega,by omega⟩) (aW rfl (aW rfl (aD rfl (aA rfl (aA rfl (aA rfl (bA rfl (fQ (by omega) (by omega) (aB ?_)))))))))
    by_cases ht : (nG x.o a b).2≠0
    · rw [e,if_pos ht];exact ⟨ht,rfl⟩
    · rw [e,if_neg ht]
      have ht : (nG x.o a b).2=0:=by simpa using ht
      rw [ht];rfl
  refine aH (aC (fun ho=>?_) (fun n13=>?_))
  · have e0 : aV m.funcs x=(2,1):=by unfold aV;repeat (first | rfl | rw [if_pos (by omega)] | rw [if_neg (by omega)])
    rw [e0] at hu
    obtain ⟨a,b,rfl⟩:=nC (show took.length=2 by omega)
    have va:=vals0 a (by simp)
    have vb:=vals0 b (by simp)
    have sa:=bT va
    have sb:=bT vb
    rw [show fstk++[a,b]=fstk++[a]++[b] by simp]
    have ns : fstk.length+2≤16:=ns
    have e : dE m ⟨ff,fpc,floc,fstk⟩ [a,b] (fs0.length+1) hp made out x=if (nG x.o a b).2≠0 then .trap (nG x.o a b).2 else .next ⟨ff,fpc,floc,fstk++[(nG x.o a b).1]⟩ hp made out:=by simp only [dE];repeat (first | rfl | rw [if_pos (by omega)] | rw [if_neg (by omega)])
    refine eX (by omega) (by first | omega | (simp;omega)) (aD rfl (aA rfl (aA rfl (aA rfl (?_)))))
    refine eX (by omega) (by first | omega | (simp;omega)) (aD rfl (aA rfl (aA rfl (aA rfl (?_)))))
    refine lO (aB8 (o:=x.o) (a:=a) (b:=b) (by omega) ⟨by omega,by omega⟩) (aW rfl (aW rfl (aD rfl (aA rfl (aA rfl (aA rfl (bA rfl (fQ (by omega) (by omega) (aB ?_)))))))))
    by_cases ht : (nG x.o a b).2≠0
    · rw [e,if_pos ht];exact ⟨ht,rfl⟩
    · rw [e,if_neg ht]
      have ht : (nG x.o a b).2=0:=by simpa using ht
      rw [ht];rfl
  refine aH (aC (fun ho=>?_) (fun n14=>?_))
  · have e0 : aV m.funcs x=(2,1):=by unfold aV;repeat (first | rfl | rw [if_pos (by omega)] | rw [if_neg (by omega)])
    rw [e0] at hu
    obtain ⟨a,b,rfl⟩:=nC (show took.length=2 by omega)
    have va:=vals0 a (by simp)
    have vb:=vals0 b (by simp)
    have sa:=bT va
    have sb:=bT vb
    rw [show fstk++[a,b]=fstk++[a]++[b] by simp]
    have ns : fstk.length+2≤16:=ns
    have e : dE m ⟨ff,fpc,floc,fstk⟩ [a,b] (fs0.length+1) hp made out x=if (nG x.o a b).2≠0 then .trap (nG x.o a b).2 else .next ⟨ff,fpc,floc,fstk++[(nG x.o a b).1]⟩ hp made out:=by simp only [dE];repeat (first | rfl | rw [if_pos (by omega)] | rw [if_neg (by omega)])
    refine eX (by omega) (by first | omega | (simp;omega)) (aD rfl (aA rfl (aA rfl (aA rfl (?_)))))
    refine eX (by omega) (by first | omega | (simp;omega)) (aD rfl (aA rfl (aA rfl (aA rfl (?_)))))
    refine lO (aB8 (o:=x.o) (a:=a) (b:=b) (by omega) ⟨by omega,by omega⟩) (aW rfl (aW rfl (aD rfl (aA rfl (aA rfl (aA rfl (bA rfl (fQ (by omega) (by omega) (aB ?_)))))))))
    by_cases ht : (nG x.o a b).2≠0
    · rw [e,if_pos ht];exact ⟨ht,rfl⟩
    · rw [e,if_neg ht]
      have ht : (nG x.o a b).2=0:=by simpa using ht
      rw [ht];rfl
  refine aH (aC (fun ho=>?_) (fun n15=>?_))
  · have e0 : aV m.funcs x=(2,1):=by unfold aV;repeat (first | rfl | rw [if_pos (by omega)] | rw [if_neg (by omega)])
    rw [e0] at hu
    obtain ⟨a,b,rfl⟩:=nC (show took.length=2 by omega)
    have va:=vals0 a (by simp)
    have vb:=vals0 b (by simp)
    have sa:=bT va
    have sb:=bT vb
    rw [show fstk++[a,b]=fstk++[a]++[b] by simp]
    have ns : fstk.length+2≤16:=ns
    have e : dE m ⟨ff,fpc,floc,fstk⟩ [a,b] (fs0.length+1) hp made out x=if (nG x.o a b).2≠0 then .trap (nG x.o a b).2 else .next ⟨ff,fpc,floc,fstk++[(nG x.o a b).1]⟩ hp made out:=by simp only [dE];repeat (first | rfl | rw [if_pos (by omega)] | rw [if_neg (by omega)])
    refine eX (by omega) (by first | omega | (simp;omega)) (aD rfl (aA rfl (aA rfl (aA rfl (?_)))))
    refine eX (by omega) (by first | omega | (simp;omega)) (aD rfl (aA rfl (aA rfl (aA rfl (?_)))))
    refine lO (aB8 (o:=x.o) (a:=a) (b:=b) (by omega) ⟨by omega,by omega⟩) (aW rfl (aW rfl (aD rfl (aA rfl (aA rfl (aA rfl (bA rfl (fQ (by omega) (by omega) (aB ?_)))))))))
    by_cases ht : (nG x.o a b).2≠0
    · rw [e,if_pos ht];exact ⟨ht,rfl⟩
    · rw [e,if_neg ht]
      have ht : (nG x.o a b).2=0:=by simpa using ht
      rw [ht];rfl
  refine aH (aC (fun ho=>?_) (fun n16=>?_))
  · have e0 : aV m.funcs x=(1,1):=by unfold aV;repeat (first | rfl | rw [if_pos (by omega)] | rw [if_neg (by omega)])
    rw [e0] at hu
    obtain ⟨a,rfl⟩:=List.length_eq_one_iff.1 (show took.length=1 by omega)
    have va:=vals0 a (by simp)
    have sa:=bT va
    have ns : fstk.length+1≤16:=ns
    have e : dE m ⟨ff,fpc,floc,fstk⟩ [a] (fs0.length+1) hp made out x=if (yH a).2≠0 then .trap (yH a).2 else .next ⟨ff,fpc,floc,fstk++[(yH a).1]⟩ hp made out:=by simp only [dE];repeat (first | rfl | rw [if_pos (by omega)] | rw [if_neg (by omega)])
    refine eX (by omega) (by first | omega | (simp;omega)) (?_)
    refine lO (aLL (v:=a)) (aW rfl (aW rfl (aD rfl (aA rfl (aA rfl (aA rfl (bA rfl (fQ (by omega) (by omega) (aB ?_)))))))))
    by_cases ht : (yH a).2≠0
    · rw [e,if_pos ht];exact ⟨ht,rfl⟩
    · rw [e,if_neg ht]
      have ht : (yH a).2=0:=by simpa using ht
      rw [ht];rfl
  refine aH (aC (fun ho=>?_) (fun n17=>?_))
  · have e0 : aV m.funcs x=(0,0):=by unfold aV;repeat (first | rfl | rw [if_pos (by omega)] | rw [if_neg (by omega)])
    rw [e0] at hu
    obtain rfl:=List.eq_nil_of_length_eq_zero (show took.length=0 by omega)
    simp only [List.length_nil,Nat.add_zero,List.append_nil] at ns ⊢
    have e : dE m ⟨ff,fpc,floc,fstk⟩ [] (fs0.length+1) hp made out x = .next ⟨ff,x.a,floc,fstk⟩ hp made out:=by simp only [dE];repeat (first | rfl | rw [if_pos (by omega)] | rw [if_neg (by omega)])
    exact bA rfl (bZ rfl rfl (by omega) rfl (aB (by rw [e];rfl)))
  refine aH (aC (fun ho=>?_) (fun n18=>?_))
  · have e0 : aV m.funcs x=(1,0):=by unfold aV;repeat (first | rfl | rw [if_pos (by omega)] | rw [if_neg (by omega)])
    rw [e0] at hu
    obtain ⟨a,rfl⟩:=List.length_eq_one_iff.1 (show took.length=1 by omega)
    have va:=vals0 a (by simp)
    have sa:=bT va
    have ns : fstk.length+1≤16:=ns
    have e : dE m ⟨ff,fpc,floc,fstk⟩ [a] (fs0.length+1) hp made out x=if a.k≠2 then .trap 1 else if (decide (a.n=1)==decide (x.o=18))=true then .next ⟨ff,x.a,floc,fstk⟩ hp made out else .next ⟨ff,fpc,floc,fstk++[]⟩ hp made out:=by simp only [dE];repeat (first | rfl | rw [if_pos (by omega)] | rw [if_neg (by omega)])
    refine eX (by omega) (by first | omega | (simp;omega)) (aD rfl (aA rfl (aA rfl (aA rfl (?_)))))
    refine bC (aJ (fun h=>aB (by rw [e,if_pos h];exact ⟨by omega,rfl⟩)) (fun h=>?_))
    rw [if_neg (by simpa using h)] at e
    refine aH (aH (uQ (bU (fun hb=>?_) (fun hb=>?_))))
    · rw [if_pos hb] at e
      exact bA rfl (bZ rfl rfl (by omega) rfl (aB (by rw [e];rfl)))
    · rw [if_neg (by rw [hb];simp)] at e
      exact aB (by rw [e,List.append_nil];rfl)
  refine aH (aC (fun ho=>?_) (fun n19=>?_))
  · have e0 : aV m.funcs x=(1,0):=by unfold aV;repeat (first | rfl | rw [if_pos (by omega)] | rw [if_neg (by omega)])
    rw [e0] at hu
    obtain ⟨a,rfl⟩:=List.length_eq_one_iff.1 (show took.length=1 by omega)
    have va:=vals0 a (by simp)
    have sa:=bT va
    have ns : fstk.length+1≤16:=ns
    have e : dE m ⟨ff,fpc,floc,fstk⟩ [a] (fs0.length+1) hp made out x=if a.k≠2 then .trap 1 else if (decide (a.n=1)==decide (x.o=18))=true then .next ⟨ff,x.a,floc,fstk⟩ hp made out else .next ⟨ff,fpc,floc,fstk++[]⟩ hp made out:=by simp only [dE];repeat (first | rfl | rw [if_pos (by omega)] | rw [if_neg (by omega)])
    refine eX (by omega) (by first | omega | (simp;omega)) (aD rfl (aA rfl (aA rfl (aA rfl (?_)))))
    refine bC (aJ (fun h=>aB (by rw [e,if_pos h];exact ⟨by omega,rfl⟩)) (fun h=>?_))
    rw [if_neg (by simpa using h)] at e
    refine aH (aH (uQ (bU (fun hb=>?_) (fun hb=>?_))))
    · rw [if_pos hb] at e
      exact bA rfl (bZ rfl rfl (by omega) rfl (aB (by rw [e];rfl)))
    · rw [if_neg (by rw [hb];simp)] at e
      exact aB (by rw [e,List.append_nil];rfl)
  refine aH (aC (fun ho=>?_) (fun n20=>?_))
  · have e0 : aV m.funcs x=(0,1):=by unfold aV;repeat (first | rfl | rw [if_pos (by omega)] | rw [if_neg (by omega)])
    rw [e0] at hu
    obtain rfl:=List.eq_nil_of_length_eq_zero (show took.length=0 by omega)
    simp only [List.length_nil,Nat.add_zero,List.append_nil] at ns ⊢
    have e : dE m ⟨ff,fpc,floc,fstk⟩ [] (fs0.length+1) hp made out x=if made=120 then .trap 7 else .next ⟨ff,fpc,floc,fstk++[aKS hp.length]⟩ (hp++[List.replicate x.a.toNat dV]) (made+1) out:=by simp only [dE];repeat (first | rfl | rw [if_pos (by omega)] | rw [if_neg (by omega)])
    have hq:=q20 ho
    refine aH (aC (fun h=>aB (by rw [e,if_pos h];exact ⟨by omega,rfl⟩)) (fun h=>?_))
    rw [if_neg h] at e
    refine aE (bA rfl (fQ (by omega) (by omega) (?_)))
    refine sY (by omega) (by omega) (kQ (aC (fun _=>?_) (fun h=>by omega)))
    refine sY (by omega) (by omega) (mH (by simp;omega) (fun x hx=>by simp only [List.mem_singleton] at hx;subst hx;rfl) (aN (by omega) (bA rfl (aB ?_))))
    rw [e]
    show _=_
    rw [List.map_append]
    rfl
  refine aH (aC (fun ho=>?_) (fun n21=>?_))
  · have e0 : aV m.funcs x=(1,1):=by unfold aV;repeat (first | rfl | rw [if_pos (by omega)] | rw [if_neg (by omega)])
    rw [e0] at hu
    obtain ⟨a,rfl⟩:=List.length_eq_one_iff.1 (show took.length=1 by omega)
    have va:=vals0 a (by simp)
    have sa:=bT va
    have ns : fstk.length+1≤16:=ns
    have e : dE m ⟨ff,fpc,floc,fstk⟩ [a] (fs0.length+1) hp made out x=if a.k≠4 then .trap 1 else if (hp[a.n.toNat]?.getD []).length≤x.a then .trap 4 else .next ⟨ff,fpc,floc,fstk++[(hp[a.n.toNat]?.getD [])[x.a.toNat]?.getD dV]⟩ hp made out:=by simp only [dE];repeat (first | rfl | rw [if_pos (by omega)] | rw [if_neg (by omega)])
    refine eX (by omega) (by first | omega | (simp;omega)) (aD rfl (aA rfl (aA rfl (aA rfl (?_)))))
    have hq:=q2122 (.inl ho)
    refine bC (aJ (fun h=>aB (by rw [e,if_pos h];exact ⟨by omega,rfl⟩)) (fun h=>?_))
    rw [if_neg (by simpa using h)] at e
    have hr:=qQ va h
    have hlen:=aKf recs a.n.toNat
    refine oB (by omega) (by omega) (dB (by omega) (by omega) (dB (by omega) (by omega) (aA rfl (dI ?_))))
    refine nU (aC (fun h=>aB (by rw [e,if_pos h];exact ⟨by omega,rfl⟩)) (fun h=>?_))
    rw [if_neg h] at e
    refine oB (by omega) (by omega) (dB (by omega) (by omega) (dB (by omega) (by omega) (aA rfl (eF (by omega) (by omega) (dB (by omega) (by omega) (aA rfl ?_))))))
    refine lP (by omega) (by omega) (fun v hv=>?_)
    rw [hv] at e
    exact aEd (by omega) (by omega) (aB (by rw [e];rfl))
  refine aH (aC (fun ho=>?_) (fun n22=>?_))
  · have e0 : aV m.funcs x=(2,0):=by unfold aV;repeat (first | rfl | rw [if_pos (by omega)] | rw [if_neg (by omega)])
    rw [e0] at hu
    obtain ⟨a,b,rfl⟩:=nC (show took.length=2 by omega)
    have va:=vals0 a (by simp)
    have vb:=vals0 b (by simp)
    have sa:=bT va
    have sb:=bT vb
    rw [show fstk++[a,b]=fstk++[a]++[b] by simp]
    have ns : fstk.length+2≤16:=ns
    have e : dE m ⟨ff,fpc,floc,fstk⟩ [a,b] (fs0.length+1) hp made out x=if a.k≠4 then .trap 1 else if (hp[a.n.toNat]?.getD []).length≤x.a then .trap 4 else .next ⟨ff,fpc,floc,fstk⟩ (hp.set a.n.toNat ((hp[a.n.toNat]?.getD []).set x.a.toNat b)) made out:=by simp only [dE];repeat (first | rfl | rw [if_pos (by omega)] | rw [if_neg (by omega)])
    refine eX (by omega) (by first | omega | (simp;omega)) (aD rfl (aA rfl (aA rfl (aA rfl (?_)))))
    refine eX (by omega) (by first | omega | (simp;omega)) (aD rfl (aA rfl (aA rfl (aA rfl (?_)))))
    have hq:=q2122 (.inr ho)
    refine bC (aJ (fun h=>aB (by rw [e,if_pos h];exact ⟨by omega,rfl⟩)) (fun h=>?_))
    rw [if_neg (by simpa using h)] at e
    have hr:=qQ va h
    have hlen:=aKf recs a.n.toNat
    refine oB (by omega) (by omega) (dB (by omega) (by omega) (dB (by omega) (by omega) (aA rfl (dI ?_))))
    refine nU (aC (fun h=>aB (by rw [e,if_pos h];exact ⟨by omega,rfl⟩)) (fun h=>?_))
    rw [if_neg h] at e
    refine oB (by omega) (by omega) (dB (by omega) (by omega) (dB (by omega) (by omega) (aA rfl (eF (by omega) (by omega) (dB (by omega) (by omega) (aA rfl ?_))))))
    refine dB (by omega) (by omega) (aA rfl (lX (v:=b) (by omega) (by omega) (dB (by omega) (by omega) (aA rfl (aFx (by omega) (by omega) (aB (by rw [e];rfl)))))))
  refine aH (aC (fun ho=>?_) (fun n23=>?_))
  · have hq:=q23 ho
    have e0 : aV m.funcs x=(x.a+1,1):=by unfold aV;repeat (first | rfl | rw [if_pos (by omega)] | rw [if_neg (by omega)])
    rw [e0] at hu
    obtain ⟨a,args,rfl⟩ : ∃ a l,took=a::l:=by
      cases took with
      | nil=>simp at hu;omega
      | cons a l=>exact ⟨a,l,rfl⟩
    have va:=vals0 a (by simp)
    have sa:=bT va
    have ns : fstk.length+(args.length+1)≤16:=ns
    have hu : ((args.length+1 : Nat) : Int)=x.a+1:=hu
    have e : dE m ⟨ff,fpc,floc,fstk⟩ (a::args) (fs0.length+1) hp made out x=if a.k≠5 then .trap 1 else if eJ m.funcs a.n≠x.a then .trap 5 else if fs0.length+1=24 then .trap 6 else .call ⟨ff,fpc,floc,fstk⟩ (pG m.funcs a.n args):=by simp only [dE];repeat (first | rfl | rw [if_pos (by omega)] | rw [if_neg (by omega)])
    have hlen : (fstk++a::args).length=fstk.length+args.length+1:=by simp;omega
    refine bS rfl rfl (bS rfl rfl (bS rfl rfl (aA (y:=aP (fstk++a::args)) rfl (dI (cQ (by omega) (cQ (by omega) ?_))))))
    have ei : ((fstk++a::args).length : Int) - 1 - x.a=fstk.length:=by omega
    rw [ei]
    refine bS rfl rfl (aA (y:=aP (fstk++a::args)) rfl (eF (by omega) (by omega) (bS rfl rfl (aA (y:=aP (fstk++a::args)) rfl (lP (by omega) (by omega) (fun v hv=>?_))))))
    rw [Int.toNat_natCast,List.getElem?_append_right (Nat.le_refl _),Nat.sub_self] at hv
    cases hv
    refine aD rfl (aA rfl (aA rfl (aA rfl (?_))))
    refine bC (aJ (fun h=>aB (by rw [e,if_pos h];exact ⟨by omega,rfl⟩)) (fun h=>?_))
    rw [if_neg (by simpa using h)] at e
    have hr:=aC5 va h
    refine aJz (by omega) (by omega) (by omega) (fun _ _=>aA rfl ?_)
    refine bC (aJ (fun h=>aB (by rw [e,if_pos h];exact ⟨by omega,rfl⟩)) (fun h=>?_))
    rw [if_neg (by simpa using h)] at e
    rw [show fstk++a::args=fstk++[a]++args by simp]
    refine aIN (under:=true) (s1:=fstk) (by omega) par nA (by simp;omega) (.inl ⟨rfl,a,rfl⟩) hr (by omega) (fun hd=>aB ?_) (fun hd=>aB ?_)
    · rw [e,if_pos (by rw [List.length_map] at hd;omega)];exact ⟨by omega,rfl⟩
    · rw [e,if_neg (by rw [List.length_map] at hd;omega)];rfl
  refine aH (aC (fun ho=>?_) (fun n24=>?_))
  · have hq:=q524 (.inr ho)
    have e0 : aV m.funcs x=(eJ m.funcs x.a,1):=by unfold aV;repeat (first | rfl | rw [if_pos (by omega)] | rw [if_neg (by omega)])
    rw [e0] at hu
    have e : dE m ⟨ff,fpc,floc,fstk⟩ took (fs0.length+1) hp made out x=if fs0.length+1=24 then .trap 6 else .call ⟨ff,fpc,floc,fstk⟩ (pG m.funcs x.a took):=by simp only [dE];repeat (first | rfl | rw [if_pos (by omega)] | rw [if_neg (by omega)])
    refine aIN (under:=false) (s1:=fstk) (by omega) par nA (by omega) (.inr ⟨rfl,rfl⟩) hq (by omega) (fun hd=>aB ?_) (fun hd=>aB ?_)
    · rw [e,if_pos (by rw [List.length_map] at hd;omega)];exact ⟨by omega,rfl⟩
    · rw [e,if_neg (by rw [List.length_map] at hd;omega)];rfl
  refine aH (aC (fun ho=>?_) (fun n25=>?_))
  · have e0 : aV m.funcs x=(1,0):=by unfold aV;repeat (first | rfl | rw [if_pos (by omega)] | rw [if_neg (by omega)])
    rw [e0] at hu
    obtain ⟨a,rfl⟩:=List.length_eq_one_iff.1 (show took.length=1 by omega)
    have va:=vals0 a (by simp)
    have sa:=bT va
    have ns : fstk.length+1≤16:=ns
    have e : dE m ⟨ff,fpc,floc,fstk⟩ [a] (fs0.length+1) hp made out x = .ret a:=by simp only [dE];repeat (first | rfl | rw [if_pos (by omega)] | rw [if_neg (by omega)])
    refine eX (by omega) (by first | omega | (simp;omega)) (aD rfl (aA rfl (aA rfl (aA rfl (?_)))))
    have e1 : ((fs0.map cL.pv++[cL.pv ⟨ff,fpc,floc,fstk⟩]).length : Int) - 1=fs0.length:=by simp
    have hel : ∀ y∈fs0.map cL.pv++[cL.pv ⟨ff,fpc,floc,fstk⟩],y.isEl 4 true=true:=fun y hy=>(List.mem_append.1 hy).elim (aGM y) (fun h=>by simp only [List.mem_singleton] at h;subst h;rfl)
    refine bE (cQ (by simp;omega) ?_)
    rw [e1]
    have e2 : ((fs0.map cL.pv++[cL.pv ⟨ff,fpc,floc,fstk⟩]).take (fs0.length : Int).toNat).drop (0 : Int).toNat=fs0.map cL.pv:=by
      rw [Int.toNat_natCast,Int.toNat_zero,List.drop_zero,List.take_left' (by simp)]
    refine xH (by omega) (by omega) (by simp;omega) hel ?_
    refine xH (by omega) (by omega) (by simp;omega) hel ?_
    rw [e2]
    refine aE (aH (aC (fun h=>aB ?_) (fun h=>?_)))
    · rw [e]
      have : fs0 = []:=List.eq_nil_of_length_eq_zero (by omega)
      subst this
      rfl
    · obtain ⟨l,g,rfl⟩ : ∃ l g,fs0=l++[g]:=⟨fs0.dropLast,fs0.getLast (fun e=>by rw [e] at h;simp at h),(List.dropLast_concat_getLast _).symm⟩
      have hg:=stks g (by simp)
      obtain ⟨gf,gpc,gloc,gstk⟩:=g
      simp only at hg
      rw [List.map_append]
      refine fQ (by rw [List.length_map];simp at n0;omega) (by omega) (aB ?_)
      rw [e]
      show _=_
      rw [if_neg (by simp),vK,List.map_append]
      rfl
  refine aH (aC (fun ho=>?_) (fun n26=>?_))
  · have e0 : aV m.funcs x=(1,0):=by unfold aV;repeat (first | rfl | rw [if_pos (by omega)] | rw [if_neg (by omega)])
    rw [e0] at hu
    obtain ⟨a,rfl⟩:=List.length_eq_one_iff.1 (show took.length=1 by omega)
    have va:=vals0 a (by simp)
    have sa:=bT va
    have ns : fstk.length+1≤16:=ns
    have e : dE m ⟨ff,fpc,floc,fstk⟩ [a] (fs0.length+1) hp made out x=if out.length=200 then .trap 8 else .next ⟨ff,fpc,floc,fstk⟩ hp made (out++[hX a hp]):=by simp only [dE];repeat (first | rfl | rw [if_pos (by omega)] | rw [if_neg (by omega)])
    refine eX (by omega) (by first | omega | (simp;omega)) (aD rfl (aA rfl (aA rfl (aA rfl (?_)))))
    refine aE (aH (aC (fun h=>aB (by rw [e,if_pos (by omega)];exact ⟨by omega,rfl⟩)) (fun h=>?_)))
    rw [if_neg (by omega)] at e
    refine aF (aHw (v:=a) (hp:=hp) (nf:=m.funcs.length) (by omega) (by omega) (fun r hr=>by have:=recs r hr;omega) va) (fun r hr=>?_)
    subst hr
    refine cN rfl (pX (by simp) (fun x hx=>by simp only [List.mem_singleton] at hx;subst hx;rfl) (mH (by simp;omega) (fun x hx=>by simp only [List.mem_singleton] at hx;subst hx;rfl) (aB ?_)))
    rw [e]
    show _=_
    rw [List.map_append]
    rfl
  omega
theorem aNw {a b : ByteArray} (h : a.data.toList=b.data.toList) : a=b:=by
  cases a;cases b;congr 1;exact Array.toList_inj.1 h
theorem zH (a b : ByteArray) : (a++b).data.toList=a.data.toList++b.data.toList:=by
  rw [ByteArray.data_append,Array.toList_append]
theorem uE : ∀ (j : Nat) (n : Nat),n<10 ^ (j+1)→(zW j (n : Int)).data.toList=Lib.decDigits n
  | 0,n,h=>by
    rw [Lib.decDigits_one (by omega)]
    show [UInt8.ofNat (48+(n : Int)).toNat]=_
    rw [show (48+(n : Int)).toNat=48+n by omega]
  | j+1,n,h=>by
    unfold zW
    by_cases h1 : (n : Int)<10
    · rw [if_pos h1,Lib.decDigits_one (by omega)]
      show [UInt8.ofNat (48+(n : Int)).toNat]=_
      rw [show (48+(n : Int)).toNat=48+n by omega]
    · rw [if_neg h1,zH,show ((n : Int) / 10)=((n / 10 : Nat) : Int) by omega,uE j (n / 10) (by have : 10 ^ (j+1+1)=10 ^ (j+1)*10:=Nat.pow_succ ..;omega)]
      conv=>rhs;rw [Lib.decDigits,dif_neg (by omega)]
      show _++[UInt8.ofNat (48+(n : Int) % 10).toNat]=_
      rw [show (48+(n : Int) % 10).toNat=48+n % 10 by omega]
theorem aIO {n : Int} (hn : -1000000000≤n∧n≤1000000000) : (⟨(Lib.itoa n).toArray⟩ : ByteArray)=jF n:=by
  refine aNw ?_
  show Lib.itoa n=(jF n).data.toList
  unfold Lib.itoa jF
  by_cases h0 : n<0
  · rw [if_pos h0,if_pos h0]
    obtain ⟨q,rfl⟩ : ∃ q : Nat,n = -(q : Int):=⟨n.natAbs,by omega⟩
    rw [show (-(q : Int)).natAbs=q by omega]
    by_cases h9 : -(q : Int) < -9
    · obtain ⟨e1,e2⟩:=aID h0
      rw [if_pos h9,e1,e2,Int.neg_neg,Int.neg_neg,Int.neg_neg,zH,zH,show (q : Int) / 10=((q / 10 : Nat) : Int) by omega,show (q : Int) % 10=((q % 10 : Nat) : Int) by omega,
        uE 18 (q / 10) (by omega),uE 18 (q % 10) (by omega),Lib.decDigits_one (show q % 10<10 by omega)]
      conv=>lhs;rw [Lib.decDigits,dif_neg (by omega)]
      rfl
    · rw [if_neg h9,Int.neg_neg,zH,uE 18 q (by omega)]
      rfl
  · rw [if_neg h0,if_neg h0]
    obtain ⟨q,rfl⟩:=Int.eq_ofNat_of_zero_le (show 0≤n by omega)
    rw [Int.toNat_natCast,uE 18 q (by omega)]
section
variable {P : R → Prop} {k : R → Option R}
theorem aHz {n : Int} (hn : -1000000000≤n∧n≤1000000000) (h : Ok P (k [.str (jF n)])) : Ok P (bd (strconv_Itoa (.int .i64 n)) k):=by
  refine aF (Q:=fun r=>r = [.str (jF n)]) ?_ (fun r hr=>by rw [hr];exact h)
  rw [aD0]
  unfold wK
  simp only
  rw [if_pos (by omega)]
  exact aB (by rw [aIO hn])
theorem aJE {b : Bool} (h : Ok P (k [.str (if b then bs [116,114,117,101] else bs [102,97,108,115,101])])) : Ok P (bd (lN (.bool b)) k):=by
  refine aF (Q:=fun r=>r = [.str (if b then bs [116,114,117,101] else bs [102,97,108,115,101])]) ?_ (fun r hr=>by rw [hr];exact h)
  rw [wG]
  refine aF (Q:=fun r=>r = [.str (if b then bs [116,114,117,101] else bs [102,97,108,115,101])]) ?_ (fun r hr=>by rw [hr];exact aB rfl)
  rw [nY]
  cases b
  · exact aS (aB rfl)
  · exact bB (aB rfl)
theorem aME {s : ByteArray} (hs : s.size≤2097152) (h : Ok P (k [.bool (fU s)])) : Ok P (bd (oL (.str s)) k):=aF (aGE hs) (fun r hr=>by rw [hr];exact h)
theorem aJF {v : cB} {nf recs : Int} (hs : v.s.size≤2097152) (hn : -1000000000≤nf∧nf≤1000000000) (hr : -1000000000≤recs∧recs≤1000000000) : Ok (fun r=>r = [.bool (bI nf recs v)]) (vB v.pv (.int .i64 nf) (.int .i64 recs)):=by
  rw [aDZ]
  refine aD rfl (aA rfl (aA rfl (aA rfl ?_)))
  refine aH (aC (fun h0=>?_) (fun h0=>?_))
  rotate_left
  refine aH (aC (fun h1=>oJ ?_) (fun h1=>?_))
  rotate_left
  refine aH (aC (fun h2=>gI ?_) (fun h2=>?_))
  rotate_left
  refine aH (aC (fun h3=>aH ?_) (fun h3=>?_))
  rotate_left
  refine aH (aC (fun h4=>gJ hr ?_) (fun h4=>?_))
  rotate_left
  refine aH (aC (fun h5=>gJ hn ?_) (fun h5=>aB ?_))
  rotate_right 5
  · refine aKe (a:=v) (b:=⟨0,0,bs []⟩) (aB ?_)
    unfold bI
    cases hse : jS v.s (bs []) with
    | false=>rw [if_pos ⟨by omega,rfl⟩];simp [hse]
    | true=>rw [if_neg (by simp),if_pos h0];simp [h0,hse]
  all_goals unfold bI
  · cases hse : jS v.s (bs []) with
    | false=>
      rw [if_pos ⟨by omega,rfl⟩]
      cases bX v.n
      · exact aS (aB rfl)
      · exact bB (qF (aB (by rw [hse])))
    | true=>
      rw [if_neg (by simp),if_neg h0,if_pos h1]
      cases bX v.n
      · exact aS (aB rfl)
      · exact bB (qF (aB (by rw [hse])))
  · cases hse : jS v.s (bs []) with
    | false=>
      rw [if_pos ⟨by omega,rfl⟩]
      cases jG v.n 0 1
      · exact aS (aB rfl)
      · exact bB (qF (aB (by rw [hse])))
    | true=>
      rw [if_neg (by simp),if_neg h0,if_neg h1,if_pos h2]
      cases jG v.n 0 1
      · exact aS (aB rfl)
      · exact bB (qF (aB (by rw [hse])))
  · rw [if_neg (fun h=>h.1 h3),if_neg h0,if_neg h1,if_neg h2,if_pos h3]
    refine aC (fun h6=>aME hs (aB ?_)) (fun h6=>aB ?_)
    · rw [decide_eq_true h6];rfl
    · rw [decide_eq_false h6];rfl
  · have e : jG v.n 0 (recs - 1)=(decide (0≤v.n)&&decide (v.n<recs)):=by
      unfold jG
      congr 1
      exact decide_eq_decide.2 (by omega)
    rw [e]
    cases hse : jS v.s (bs []) with
    | false=>
      rw [if_pos ⟨by omega,rfl⟩]
      cases (decide (0≤v.n)&&decide (v.n<recs))
      · exact aS (aB rfl)
      · exact bB (qF (aB (by rw [hse])))
    | true=>
      rw [if_neg (by simp),if_neg h0,if_neg h1,if_neg h2,if_neg h3,if_pos h4]
      cases (decide (0≤v.n)&&decide (v.n<recs))
      · exact aS (aB rfl)
      · exact bB (qF (aB (by rw [hse])))
  · cases hse : jS v.s (bs []) with
    | false=>
      rw [if_pos ⟨by omega,rfl⟩]
      cases jG v.n 0 (nf - 1)
      · exact aS (aB rfl)
      · exact bB (qF (aB (by rw [hse])))
    | true=>
      rw [if_neg (by simp),if_neg h0,if_neg h1,if_neg h2,if_neg h3,if_neg h4,if_pos h5]
      cases jG v.n 0 (nf - 1)
      · exact aS (aB rfl)
      · exact bB (qF (aB (by rw [hse])))
  · by_cases hse : jS v.s (bs [])=false
    · rw [if_pos ⟨by omega,hse⟩]
    · rw [if_neg (fun h=>hse h.2),if_neg h0,if_neg h1,if_neg h2,if_neg h3,if_neg h4,if_neg h5]
theorem aHA {v : cB} {hp : List (List cB)} {nf : Int} (hnf : nf≤1000) (hh : hp.length≤1000) (hr : ∀ r∈hp,r.length≤1000) (hv : bI nf hp.length v=true) :
    Ok (fun r=>r = [.str (hX v hp)]) (rI v.pv (.lst (hp.map cD))):=by
  have hn : -1000000000≤v.n∧v.n≤1000000000∧(v.k=4→0≤v.n∧v.n<hp.length)∧0≤v.k∧v.k≤5:=by
    unfold bI at hv
    repeat' split at hv
    all_goals first
      | (cases hv;done)
      | (simp only [bX,bN,Bool.and_eq_true,decide_eq_true_eq] at hv;omega)
  rw [aB2]
  unfold hX
  have hdig:=qG v.n
  refine aD rfl (aA rfl (aA rfl (aA rfl ?_)))
  refine aH (aC (fun h0=>aB ?_) (fun h0=>?_))
  · rw [if_pos h0]
  refine aH (aC (fun h1=>aHz (by omega) (aB ?_)) (fun h1=>?_))
  · rw [if_neg h0,if_pos h1];rfl
  refine aH (aC (fun h2=>aH (aJE (aB ?_))) (fun h2=>?_))
  · rw [if_neg h0,if_neg h1,if_pos h2]
    by_cases h : v.n=1
    · rw [decide_eq_true h,if_pos h,if_pos rfl];rfl
    · rw [decide_eq_false h,if_neg h,if_neg (by simp)];rfl
  refine aH (aC (fun h3=>aB ?_) (fun h3=>?_))
  · rw [if_neg h0,if_neg h1,if_neg h2,if_pos h3]
  refine aH (aC (fun h5=>aHz (by omega) (iJ ?_ (aB ?_))) (fun h5=>?_))
  · have : (bs [102,117,110]).size=3:=rfl
    omega
  · rw [if_neg h0,if_neg h1,if_neg h2,if_neg h3,if_pos h5]
  refine aH (aC (fun h4=>aE (gJ (by omega) ?_)) (fun h4=>aB ?_))
  · have h6:=hn.2.2.1 h4
    rw [bN.2 (by omega),if_neg h0,if_neg h1,if_neg h2,if_neg h3,if_neg h5,if_pos h4]
    have hlen : (hp[v.n.toNat]?.getD []).length≤1000:=by
      cases hg : hp[v.n.toNat]? with
      | none=>simp
      | some r=>exact hr r (List.mem_of_getElem? hg)
    have hd:=qG (hp[v.n.toNat]?.getD []).length
    have e1 : (bs [123]).size=1:=rfl
    have e2 : (bs [125]).size=1:=rfl
    refine bB (dB h6.1 h6.2 (aA rfl (aE (aHz (by omega) (iJ ?_ (iJ ?_ (aB rfl)))))))
    · omega
    · rw [ByteArray.size_append]
      omega
  · rw [if_neg h0,if_neg h1,if_neg h2,if_neg h3,if_neg h5,if_neg h4]
end
structure pI where
  fr : List cL
  hp : List (List cB)
  made : Int
  out : List ByteArray
  st : Int
  tr : Int
  val : cB
  steps : Int
def pI.pv (v : pI) : PV:=.agg [.lst (v.fr.map cL.pv),.lst (v.hp.map cD),.int .i64 v.made,.lst (v.out.map PV.str),.int .i64 v.st,.int .i64 v.tr,.int .i64 v.val.k,.int .i64 v.val.n,.str v.val.s,.int .i64 v.steps]
def fB (v : pI) : R:=[.int .i64 v.made,.int .i64 v.st,.int .i64 v.tr,.int .i64 v.val.k,.int .i64 v.val.n,.str v.val.s,.int .i64 v.steps,.lst (v.fr.map cL.pv),.lst (v.hp.map cD),.lst (v.out.map PV.str)]
structure Sz (v : pI) : Prop where
  f : v.fr.length≤1000
  h : v.hp.length≤1000
  o : v.out.length≤1000
  fl : ∀ f∈v.fr,f.loc.length≤1000∧f.stk.length≤1000
  hl : ∀ r∈v.hp,r.length≤1000
theorem aC6 (l : List cB) : PV.flatEs true [] (l.map cB.pv)=true:=by
  induction l with
  | nil=>simp [PV.flatEs]
  | cons x r ih=>simp [PV.flatEs,PV.flatE,PV.flatCs,PV.flat,cB.pv,ih]
theorem eC (l : List cB) : PV.flatO (.own 3 32 true []) (aP l)=true:=aC6 l
theorem yN (l : List cL) : PV.flatO (.own 4 64 true [.leaf,.leaf,(.own 3 32 true []),(.own 3 32 true [])]) (.lst (l.map cL.pv))=true:=by
  show PV.flatEs true _ (l.map cL.pv)=true
  induction l with
  | nil=>simp [PV.flatEs]
  | cons x r ih=>
    simp only [List.map_cons,PV.flatEs,Bool.and_eq_true]
    refine ⟨?_,ih⟩
    simp [cL.pv,PV.flatE,PV.flatCs,PV.flat,aP,aC6]
theorem zI (l : List (List cB)) : PV.flatO (.own 1 24 true [(.own 3 32 true [])]) (.lst (l.map cD))=true:=by
  show PV.flatEs true _ (l.map cD)=true
  induction l with
  | nil=>simp [PV.flatEs]
  | cons x r ih=>
    simp only [List.map_cons,PV.flatEs,Bool.and_eq_true]
    refine ⟨?_,ih⟩
    simp [cD,PV.flatE,PV.flatCs,aP,aC6]
theorem aC7 (l : List ByteArray) : PV.flatO (.own 1 16 false []) (.lst (l.map PV.str))=true:=by
  show PV.flatEs false [] (l.map PV.str)=true
  induction l with
  | nil=>simp [PV.flatEs]
  | cons x r ih=>simp [PV.flatEs,PV.flatE,PV.flat,ih]
theorem aKg {l : List ByteArray} : ∀ x∈l.map PV.str,x.isEl 1 false=true:=by
  intro x hx
  obtain ⟨a,_,rfl⟩:=List.mem_map.1 hx
  rfl
theorem aGi {hp : List (List cB)} (h : hp.length≤1000) (hl : ∀ r∈hp,r.length≤1000) : Ok (fun r=>r = [.lst (hp.map cD)]) (nW (.lst (hp.map cD))):=by
  rw [zT]
  refine lI (n:=hp.length) (P:=fun _ r=>r = [.lst (hp.map cD)]) (F:=fun i=>gS (.lst (hp.map cD)) (.int .i64 i) (.lst ((hp.take i).map cD))) ?_ ?_ 0 (by omega)
  · rw [mZ]
    refine aE (aG (aC (fun h=>by omega) (fun _=>aB ?_)))
    rw [List.take_length]
  · intro i hi ih
    rw [mZ]
    have:=hl _ (List.getElem_mem hi)
    refine aE (aG (aC (fun _=>?_) (fun h=>by omega)))
    refine bD hi (fun _=>rfl) (aA rfl (pX (by rw [List.length_map];omega) zF ?_))
    refine mH (by simp;omega) (fun x hx=>by simp only [List.mem_singleton] at hx;subst hx;rfl) (aN (by omega) ?_)
    have e : (hp.take i).map cD++[PV.agg [.lst (hp[i].map cB.pv)]]=(hp.take (i+1)).map cD:=by
      rw [List.take_add_one,List.getElem?_eq_getElem hi,List.map_append];rfl
    rw [e]
    exact ih
theorem aFy {f : cL} (h : f.loc.length≤1000∧f.stk.length≤1000) : Ok (fun r=>r = [.int .i64 f.f,.int .i64 f.pc,aP f.loc,aP f.stk]) (mU f.pv):=by
  rw [yF]
  refine aD rfl (aA rfl (aA rfl (aA rfl (aA rfl ?_))))
  exact pX (by rw [List.length_map];omega) zF (pX (by rw [List.length_map];omega) zF (aB rfl))
theorem aK2 {v : pI} (z : Sz v) : Ok (fun r=>r=fB v) (iH v.pv):=by
  obtain ⟨zf,zh,zo,zfl,zhl⟩:=z
  rw [aDX]
  refine aD rfl (aA rfl (aA rfl (aA rfl (aA rfl (aA rfl (aA rfl (aA rfl (aA rfl (aA rfl (aA rfl ?_))))))))))
  refine lI (n:=v.fr.length) (P:=fun _ r=>r=fB v) (F:=fun i=>lH (.int .i64 i) (.lst (v.fr.map cL.pv)) (.lst (v.hp.map cD)) (.int .i64 v.made) (.lst (v.out.map PV.str)) (.int .i64 v.st) (.int .i64 v.tr) (.int .i64 v.val.k) (.int .i64 v.val.n) (.str v.val.s) (.int .i64 v.steps) (.int .i64 0) (.int .i64 0) (.int .i64 0) (.int .i64 0) (.int .i64 0) (.str (bs [])) (.int .i64 0) (.lst []) (.lst []) (.lst []) (.lst ((v.fr.take i).map cL.pv))) ?_ ?_ 0 (by omega)
  · rw [rS]
    refine aE (aG (aC (fun h=>by omega) (fun _=>?_)))
    refine aF (aGi zh zhl) (fun r hr=>?_)
    subst hr
    refine dT (zI _) (pX (by rw [List.length_map];omega) aKg (aB ?_))
    rw [List.take_length]
    rfl
  · intro i hi ih
    rw [rS]
    refine aE (aG (aC (fun _=>?_) (fun h=>by omega)))
    refine bD hi (fun _=>rfl) (aF (aFy (zfl _ (List.getElem_mem hi))) (fun r hr=>?_))
    subst hr
    refine cN rfl (cN rfl (dT (eC _) (dT (eC _) ?_)))
    refine mH (by simp;omega) (fun x hx=>by simp only [List.mem_singleton] at hx;subst hx;rfl) (aN (by omega) ?_)
    have e : (v.fr.take i).map cL.pv++[PV.agg [.int .i64 v.fr[i].f,.int .i64 v.fr[i].pc,aP v.fr[i].loc,aP v.fr[i].stk]]=(v.fr.take (i+1)).map cL.pv:=by
      rw [List.take_add_one,List.getElem?_eq_getElem hi,List.map_append];rfl
    exact e▸ih
theorem aEe {P : R→Prop} {k : R→Option R} {v : pI} (z : Sz v) (h : Ok P (k (fB v))) : Ok P (bd (iH v.pv) k):=aF (aK2 z) (fun r hr=>by rw [hr];exact h)
theorem iT {P : R→Prop} {v : pI} {o : Option R} (h : Ok P o) :
    Ok P (PV.guardFlat (gd (fB v) 0) (PV.guardFlat (gd (fB v) 1) (PV.guardFlat (gd (fB v) 2) (PV.guardFlat (gd (fB v) 3) (PV.guardFlat (gd (fB v) 4) (PV.guardFlat (gd (fB v) 5) (PV.guardFlat (gd (fB v) 6)
      (PV.guardOwn (.own 4 64 true [.leaf,.leaf,(.own 3 32 true []),(.own 3 32 true [])]) (gd (fB v) 7) (PV.guardOwn (.own 1 24 true [(.own 3 32 true [])]) (gd (fB v) 8) (PV.guardOwn (.own 1 16 false []) (gd (fB v) 9) o)))))))))):=
  cN rfl (cN rfl (cN rfl (cN rfl (cN rfl (cN rfl (cN rfl (dT (yN _) (dT (zI _) (dT (aC7 _) h)))))))))
def fR (fs : List cW) (i : Int) : List bF:=(fs[i.toNat]?.map cW.code).getD []
def iB (fs : List cW) (f : cL) : bF:=(fR fs f.f)[f.pc.toNat]?.getD ⟨0,0⟩
def aBm (_m : eG) (v : pI) (fs0 : List cL) : aIL→pI
  | .trap c=>⟨v.fr,v.hp,v.made,v.out,2,c,v.val,v.steps+1⟩
  | .next fr hp made out=>⟨fs0++[fr],hp,made,out,v.st,v.tr,v.val,v.steps+1⟩
  | .call fr g=>⟨fs0++[fr,g],v.hp,v.made,v.out,v.st,v.tr,v.val,v.steps+1⟩
  | .ret a=>if fs0 = [] then ⟨[],v.hp,v.made,v.out,1,v.tr,a,v.steps+1⟩ else ⟨aCe a fs0,v.hp,v.made,v.out,v.st,v.tr,v.val,v.steps+1⟩
def aAo (m : eG) (v : pI) (fs0 : List cL) (f : cL) : aIL:=
  let x:=iB m.funcs f
  let b:=f.stk.length - (aV m.funcs x).1.toNat
  dE m ⟨f.f,f.pc+1,f.loc,f.stk.take b⟩ (f.stk.drop b) (fs0.length+1) v.hp v.made v.out x
def nD (m : eG) (v : pI) : pI:=
  if v.st≠0 then v else if v.steps=50000 then v
  else match v.fr.getLast? with
  | none=>v
  | some f=>aBm m v v.fr.dropLast (aAo m v v.fr.dropLast f)
theorem aC8 {m : eG} {v : pI} {fs0 : List cL} {f : cL} (h1 : v.st=0) (h2 : v.steps≠50000) (h3 : v.fr=fs0++[f]) : nD m v=aBm m v fs0 (aAo m v fs0 f):=by
  unfold nD
  rw [if_neg (by omega),if_neg h2,h3]
  simp
structure aLY (m : eG) (v : pI) (fs0 : List cL) (f : cL) : Prop where
  fr : v.fr=fs0++[f]
  fi : 0≤f.f∧f.f<m.funcs.length
  pc : 0≤f.pc∧f.pc<(fR m.funcs f.f).length
  nc : (fR m.funcs f.f).length≤120
  ins : bV m.texts.length m.funcs.length f.loc.length (fR m.funcs f.f).length (iB m.funcs f).o (iB m.funcs f).a=true
  us : 0≤(aV m.funcs (iB m.funcs f)).1∧(aV m.funcs (iB m.funcs f)).1≤f.stk.length
  small : ∀ b,aLX m fs0 ⟨f.f,f.pc+1,f.loc,f.stk.take b⟩ (f.stk.drop b) v.hp v.made v.out
section
variable {P : R → Prop} {k : R → Option R}
theorem vL {l : List cB} (hl : l.length≤2097152) (h : Ok P (k [aP l])) : Ok P (bd (bQ (aP l)) k):=by
  refine aF (Q:=fun r=>r = [aP l]) ?_ (fun r hr=>by rw [hr];exact h)
  rw [kM]
  refine aIv (aJ8 (fun e=>aB ?_) ?_)
  · have : l = []:=List.map_eq_nil_iff.1 e
    subst this;rfl
  · exact gK (l:=[]) (m:=l) (by simp;omega) (aB (by simp))
theorem aJG {l : List ByteArray} (hl : l.length≤2097152) (h : Ok P (k [.lst (l.map PV.str)])) : Ok P (bd (fP (.lst (l.map PV.str))) k):=by
  refine aF (Q:=fun r=>r = [.lst (l.map PV.str)]) ?_ (fun r hr=>by rw [hr];exact h)
  rw [oT]
  refine aIv (aJ8 (fun e=>aB ?_) ?_)
  · have : l = []:=List.map_eq_nil_iff.1 e
    subst this;rfl
  · exact pX (by simp;omega) aKg (aB rfl)
theorem aKh {n : Int} (h0 : 0≤n) (h1 : n≤1000000000) (h : Ok P (k [aP (List.replicate n.toNat dV)])) : Ok P (bd (zB (.int .i64 n)) k):=by
  refine aF (Q:=fun r=>r = [aP (List.replicate n.toNat dV)]) ?_ (fun r hr=>by rw [hr];exact h)
  rw [aHo]
  refine sY h0 h1 (kQ ?_)
  rw [decide_eq_true (Int.le_refl n)]
  exact bB (sY h0 h1 (aB rfl))
theorem aMF {n : Int} (h0 : 0≤n) (h1 : n≤2097152) (h : Ok P (k [.lst []])) : Ok P (bd (eA (.int .i64 n)) k):=by
  refine aF (Q:=fun r=>r = [.lst []]) ?_ (fun r hr=>by rw [hr];exact h)
  rw [kS]
  unfold qR
  simp only
  rw [if_pos (by omega)]
  exact aB rfl
theorem aMG {a b : List cB} (ha : a.length≤1000) (hb : b.length≤1000) (h : Ok P (k [aP (a++b)])) : Ok P (bd (dP (.lst [aP a,aP b])) k):=by
  refine aF (Q:=fun r=>r = [aP (a++b)]) ?_ (fun r hr=>by rw [hr];exact h)
  have at0 : ∀ {P : R→Prop} {k : PV→Option R},Ok P (k (aP a))→Ok P (bd (PV.at_ 1 false (.lst [aP a,aP b]) (.int .i64 0)) k):=fun h=>aHk (by omega) rfl rfl h
  have at1 : ∀ {P : R→Prop} {k : PV→Option R},Ok P (k (aP b))→Ok P (bd (PV.at_ 1 false (.lst [aP a,aP b]) (.int .i64 1)) k):=fun h=>aHk (by omega) rfl rfl h
  rw [jR]
  refine bE ?_
  show Ok _ (bJ _ (.int .i64 0) _ (.int .i64 2) (.int .i64 0))
  rw [cZ]
  refine aG (bB (at0 (dI (aN (by omega) (aG (aC (fun h=>by omega) (fun _=>aN (by omega) ?_)))))))
  show Ok _ (bJ _ _ _ (.int .i64 2) (.int .i64 1))
  rw [cZ]
  refine aG (bB (at1 (dI (aN (by omega) (aG (aC (fun h=>by omega) (fun _=>aN (by omega) ?_)))))))
  show Ok _ (bJ _ _ _ (.int .i64 2) (.int .i64 2))
  rw [cZ]
  refine aG (aS (aMF (by omega) (by omega) (bE ?_)))
  show Ok _ (bG _ (.int .i64 2) (.int .i64 0) (aP []))
  rw [cU]
  refine aG (bB (at0 (gK (by simp;omega) (aN (by omega) ?_))))
  show Ok _ (bG _ (.int .i64 2) (.int .i64 1) _)
  rw [cU]
  refine aG (bB (at1 (gK (by simp;omega) (aN (by omega) ?_))))
  show Ok _ (bG _ (.int .i64 2) (.int .i64 2) _)
  rw [cU]
  refine aG (aS (aB ?_))
  simp
theorem aHB {fs : List cW} {i : Int} {k : PV→Option R} (h0 : 0≤i) (h1 : i<fs.length) (h : ∀ f : cW,fs[i.toNat]? = some f→Ok P (k f.pv)) : Ok P (bd (PV.at_ 3 true (.lst (fs.map cW.pv)) (.int .i64 i)) k):=by
  obtain ⟨n,rfl⟩:=Int.eq_ofNat_of_zero_le h0
  refine bD (by omega) (fun _=>rfl) (h _ ?_)
  rw [Int.toNat_natCast,List.getElem?_eq_getElem (by omega)]
theorem aFz {T : PV} {fs : List cW} {g : Int} {args : List cB} (h0 : 0≤g) (h1 : g<fs.length) (hl : (args.length : Int)≤vJ fs g) (hl2 : vJ fs g≤12) (h : Ok P (k [.int .i64 g,.int .i64 0,aP (pG fs g args).loc,aP []])) :
    Ok P (bd (qB (.agg [T,.lst (fs.map cW.pv)]) (.int .i64 g) (aP args)) k):=by
  refine aF (Q:=fun r=>r = [.int .i64 g,.int .i64 0,aP (pG fs g args).loc,aP []]) ?_ (fun r hr=>by rw [hr];exact h)
  rw [aD5]
  refine aD rfl (aA rfl (aA rfl (aHB h0 h1 (fun f hf=>?_))))
  have e : vJ fs g=f.lc:=by unfold vJ;rw [hf];rfl
  rw [e] at hl hl2
  refine aA rfl (dI (cQ (by omega) (aKh (by omega) (by omega) (dT (eC _) ?_))))
  refine pX (by simp) (fun x hx=>?_) (aMG (by omega) (by simp;omega) (dT (eC _) (bA rfl (aB ?_))))
  · simp at hx
    rcases hx with rfl | rfl<;>rfl
  · unfold pG
    rw [e]
    simp only
    rw [show (f.lc - (args.length : Int)).toNat=f.lc.toNat - args.length by omega]
    rfl
theorem aIP {hp : List (List cB)} (h : hp.length≤1000) (hl : ∀ r∈hp,r.length≤1000) : Ok (fun r=>r = [.lst (hp.map cD)]) (tN (.lst (hp.map cD))):=by
  rw [aC1]
  have e : (hp.map cD).length=hp.length:=List.length_map ..
  refine bE ?_
  rw [e]
  refine (lI (n:=hp.length) (F:=fun i=>kI (.lst (hp.map cD)) (.int .i64 hp.length) (.int .i64 i) (.lst ((hp.take i).map cD))) (P:=fun _ r=>r = [.lst (hp.map cD)]) ?_ (fun i hi ih=>?_) 0 (Nat.zero_le _))
  · rw [pV]
    refine aG ?_
    rw [decide_eq_false (by omega)]
    refine aS (aB ?_)
    rw [List.take_length]
  · rw [pV]
    refine aG ?_
    rw [decide_eq_true (by omega)]
    refine bB (bD hi (fun _=>rfl) (aD rfl (aA rfl (vL (by have:=hl _ (List.getElem_mem hi);omega) (dT (eC _) ?_)))))
    refine mH (by simp;omega) (fun x hx=>by simp at hx;subst hx;rfl) (aN (by omega) ?_)
    have e : (hp.take (i+1)).map cD=(hp.take i).map cD++[PV.agg [aP hp[i]]]:=by
      rw [List.take_add_one,List.getElem?_eq_getElem hi,List.map_append];rfl
    rw [e] at ih
    exact ih
theorem aGj {fr : List cL} (h : fr.length≤1000) (hl : ∀ f∈fr,f.loc.length≤1000∧f.stk.length≤1000) : Ok (fun r=>r = [.lst (fr.map cL.pv)]) (pE (.lst (fr.map cL.pv))):=by
  rw [aBf]
  have e : (fr.map cL.pv).length=fr.length:=List.length_map ..
  refine bE ?_
  rw [e]
  refine (lI (n:=fr.length) (F:=fun i=>iI (.lst (fr.map cL.pv)) (.int .i64 fr.length) (.int .i64 i) (.lst ((fr.take i).map cL.pv))) (P:=fun _ r=>r = [.lst (fr.map cL.pv)]) ?_ (fun i hi ih=>?_) 0 (Nat.zero_le _))
  · rw [nN]
    refine aG ?_
    rw [decide_eq_false (by omega)]
    refine aS (aB ?_)
    rw [List.take_length]
  · rw [nN]
    refine aG ?_
    rw [decide_eq_true (by omega)]
    have hb:=hl _ (List.getElem_mem hi)
    refine bB (bD hi (fun _=>rfl) (aD rfl (aA rfl (aA rfl (aA rfl (aA rfl (vL (by omega) (dT (eC _) (vL (by omega) (dT (eC _) ?_))))))))))
    refine mH (by simp;omega) (fun x hx=>by simp at hx;subst hx;rfl) (aN (by omega) ?_)
    have e : (fr.take (i+1)).map cL.pv=(fr.take i).map cL.pv++[fr[i].pv]:=by
      rw [List.take_add_one,List.getElem?_eq_getElem hi,List.map_append];rfl
    rw [e] at ih
    exact ih
theorem aIQ {v : pI} (z : Sz v) (h : Ok P (k (fB v))) : Ok P (bd (oH v.pv) k):=by
  refine aF (Q:=fun r=>r=fB v) ?_ (fun r hr=>by rw [hr];exact h)
  rw [aCV]
  refine aD rfl (aA rfl (aA rfl (aA rfl (aA rfl (aA rfl (aA rfl (aA rfl (aA rfl (aA rfl (aA rfl ?_))))))))))
  refine aF (aGj z.f z.fl) (fun r hr=>?_)
  rw [hr]
  refine dT (yN _) (aF (aIP z.h z.hl) (fun r hr=>?_))
  rw [hr]
  refine dT (zI _) (aJG (by have:=z.o;omega) (dT (aC7 _) (aB rfl)))
end
def DoI (made a3 a4 a5 a6 a7 a8 F H O : PV) (fs0 : List cL) : aIL→R→Prop
  | .trap c,r=>c≠0∧r = [.int .i64 c,made,a3,a4,a5,a6,a7,a8,F,H,O]
  | .next fr hp made' out,r=>r = [.int .i64 0,.int .i64 made',a3,a4,a5,a6,a7,a8,.lst (fs0.map cL.pv++[fr.pv]),.lst (hp.map cD),.lst (out.map PV.str)]
  | .call fr g,r=>r = [.int .i64 0,made,a3,a4,a5,a6,a7,a8,.lst (fs0.map cL.pv++[fr.pv]++[g.pv]),H,O]
  | .ret v,r=>r=if fs0 = [] then [.int .i64 0,made,.int .i64 1,a4,.int .i64 v.k,.int .i64 v.n,.str v.s,a8,.lst [],H,O]
      else [.int .i64 0,made,a3,a4,a5,a6,a7,a8,.lst ((aCe v fs0).map cL.pv),H,O]
section
variable {P : R → Prop} {k : R → Option R} {A : List PV}
theorem hY {A : List PV} {f pc : Int} {loc s : List cB} {i : Int} {j : Nat} {y : PV} {k : PV→Option R} (hi : i=A.length) (hy : [PV.int .i64 f,.int .i64 pc,aP loc,aP s][j]? = some y) (h : Ok P (k y)) :
    Ok P (bd (PV.at_ 4 true (.lst (A++[cL.pv ⟨f,pc,loc,s⟩])) (.int .i64 i)) fun x=>bd (PV.cell x j) k):=bS hi rfl (aA hy h)
theorem vM {A : List PV} {f : cL} {i : Int} {k : PV→Option R} (hi : i=A.length) (h : ∀ x,Ok P (k x)) : Ok P (bd (PV.at_ 4 true (.lst (A++[f.pv])) (.int .i64 i)) k):=bS hi rfl (h _)
theorem eY {f pc next base i : Int} {loc s t laid : List cB} {k : PV→Option R} (hi : i=A.length) (hb : base=s.length) (hs : s.length≤1000) (hl : laid.length≤1000) (h : Ok P (k (.lst (A++[cL.pv ⟨f,next,loc,s++laid⟩])))) :
    Ok P (bd (PV.at_ 4 true (.lst (A++[cL.pv ⟨f,pc,loc,s++t⟩])) (.int .i64 i)) fun _=>
      bd (PV.at_ 4 true (.lst (A++[cL.pv ⟨f,pc,loc,s++t⟩])) (.int .i64 i)) fun v1=>
      bd (PV.cell v1 3) fun v2=>
      bd (PV.cut 3 true v2 (.int .i64 0) (.int .i64 base)) fun _=>
      bd (PV.at_ 4 true (.lst (A++[cL.pv ⟨f,pc,loc,s++t⟩])) (.int .i64 i)) fun v4=>
      bd (PV.cell v4 3) fun v5=>
      bd (PV.cut 3 true v5 (.int .i64 0) (.int .i64 base)) fun v6=>
      bd (PV.at_ 4 true (.lst (A++[cL.pv ⟨f,pc,loc,s++t⟩])) (.int .i64 i)) fun v7=>
      bd (PV.cell v7 3) fun _=>
      bd (PV.setCell 4 (.lst (A++[cL.pv ⟨f,pc,loc,s++t⟩])) (.int .i64 i) 3 .hole) fun v9=>
      bd (PV.cat 3 32 true v6 (aP laid)) fun v10=>
      bd (PV.setCell 4 v9 (.int .i64 i) 3 v10) fun v11=>
      bd (PV.one (.int .i64 next)) fun v12=>
      bd (PV.setCell 4 v11 (.int .i64 i) 1 v12) k):=by
  subst hb
  refine vM hi (fun _=>hY hi rfl (fJ (by omega) (by omega) (by simp;omega) (hY hi rfl (fJ (by omega) (by omega) (by simp;omega) (hY hi rfl ?_)))))
  have e : (((s++t).take (s.length : Int).toNat).drop (0 : Int).toNat)=s:=by simp
  rw [e]
  exact bZ hi rfl (by omega) rfl (gK (by omega) (bZ hi rfl (by omega) rfl (bA rfl (bZ hi rfl (by omega) rfl h))))
theorem aKi {l : List cB} {i : Nat} {v : cB} {k : PV→Option R} (hv : l[i]? = some v) (h : Ok P (k v.pv)) : Ok P (bd (PV.inb (aP l) (.int .i64 (i : Int))) fun _=>bd (PV.at_ 3 true (aP l) (.int .i64 (i : Int))) k):=by
  have hi:=(List.getElem?_eq_some_iff.1 hv).1
  refine eF (by omega) (by omega) (lP (by omega) (by omega) (fun w hw=>?_))
  rw [Int.toNat_natCast,hv] at hw
  cases hw
  exact h
theorem vN {l : List cB} {k : PV→Option R} (hl : l.length≤1000) (h : Ok P (k (aP l))) : Ok P (bd (PV.cat 3 32 true (.lst []) (.lst (l.map cB.pv))) fun v=>bd (PV.cat 3 32 true (.lst []) v) k):=
  gK (l:=[]) (m:=l) (by simp;omega) (gK (l:=[]) (m:=l) (by simp;omega) (by simpa using h))
theorem zJ {f : Nat} {x y : PV} {g : PV→PV→Option R} {Q : R→Prop} (hg : aK f [x,y]=g x y) (h : Ok Q (g x y)) (hk : ∀ r,Q r→Ok P (k r)) : Ok P (bd (PV.apply aK (.fn f []) [x,y]) k):=rA hg h hk
theorem aIR {v : cB} {x : Int} {hp : List (List cB)} {c0 c1 c2 c3 c4 c5 c6 F O : PV} (hx : 0≤x∧x≤1000) (hh : hp.length≤1000) (hr : ∀ r∈hp,r.length≤1000) (hv : v.k=4→0≤v.n∧v.n<hp.length)
    (h1 : v.k≠4→Ok P (k [.nil,.nil,.int .i64 1,c0,c1,c2,c3,c4,c5,c6,F,.lst (hp.map cD),O]))
    (h2 : v.k=4→(hp[v.n.toNat]?.getD []).length≤x→Ok P (k [.nil,.nil,.int .i64 4,c0,c1,c2,c3,c4,c5,c6,F,.lst (hp.map cD),O]))
    (h3 : v.k=4→x<(hp[v.n.toNat]?.getD []).length→Ok P (k [.int .i64 v.n,.int .i64 x,.int .i64 0,c0,c1,c2,c3,c4,c5,c6,F,.lst (hp.map cD),O])) :
    Ok P (bd (oI v.pv (.int .i64 x) c0 c1 c2 c3 c4 c5 c6 F (.lst (hp.map cD)) O) k):=by
  refine aF (Q:=fun r=>(v.k≠4∧r = [.nil,.nil,.int .i64 1,c0,c1,c2,c3,c4,c5,c6,F,.lst (hp.map cD),O])∨(v.k=4∧(hp[v.n.toNat]?.getD []).length≤x∧r = [.nil,.nil,.int .i64 4,c0,c1,c2,c3,c4,c5,c6,F,.lst (hp.map cD),O])∨
    (v.k=4∧x<(hp[v.n.toNat]?.getD []).length∧r = [.int .i64 v.n,.int .i64 x,.int .i64 0,c0,c1,c2,c3,c4,c5,c6,F,.lst (hp.map cD),O])) ?_ ?_
  rotate_left
  · rintro r (⟨g1,rfl⟩ | ⟨g1,g2,rfl⟩ | ⟨g1,g2,rfl⟩)
    · exact h1 g1
    · exact h2 g1 g2
    · exact h3 g1 g2
  rw [aC2]
  refine aD rfl (aA rfl (aA rfl (aA rfl (bC (aJ (fun g=>aB (.inl ⟨g,rfl⟩)) (fun g=>?_))))))
  obtain ⟨g1,g2⟩:=hv g
  have hlen : (hp[v.n.toNat]?.getD []).length≤1000:=by
    cases hg : hp[v.n.toNat]? with
    | none=>simp
    | some r=>exact hr r (List.mem_of_getElem? hg)
  refine oB g1 g2 (dB g1 g2 (dB g1 g2 (aA rfl (dI (nU (aC (fun q=>aB (.inr (.inl ⟨g,q,rfl⟩))) (fun q=>?_)))))))
  exact oB g1 g2 (dB g1 g2 (dB g1 g2 (aA rfl (eF (by omega) (by omega) (aB (.inr (.inr ⟨g,by omega,rfl⟩)))))))
theorem aK3 {v : cB} {fs0 : List cL} {f : cL} {c0 c1 c2 c3 c4 c5 c6 H O : PV} (hn : fs0.length≤1000) (hs : ∀ g∈fs0,g.stk.length≤1000)
    (h : Ok P (k (if fs0 = [] then [c0,.int .i64 1,c2,.int .i64 v.k,.int .i64 v.n,.str v.s,c6,.lst [],H,O] else [c0,c1,c2,c3,c4,c5,c6,.lst ((aCe v fs0).map cL.pv),H,O]))) :
    Ok P (bd (rJ v.pv c0 c1 c2 c3 c4 c5 c6 (.lst (fs0.map cL.pv++[f.pv])) H O) k):=by
  refine aF (Q:=fun r=>r=(if fs0 = [] then [c0,.int .i64 1,c2,.int .i64 v.k,.int .i64 v.n,.str v.s,c6,.lst [],H,O] else [c0,c1,c2,c3,c4,c5,c6,.lst ((aCe v fs0).map cL.pv),H,O])) ?_ (fun r hr=>by rw [hr];exact h)
  rw [aB3]
  have e : ((fs0.map cL.pv++[f.pv]).length : Int) - 1=fs0.length:=by simp
  have el : ∀ x∈fs0.map cL.pv++[f.pv],x.isEl 4 true=true:=by
    intro x hx
    rcases List.mem_append.1 hx with hx | hx
    · exact aGM x hx
    · simp at hx;subst hx;rfl
  have et : (((fs0.map cL.pv++[f.pv]).take ((fs0.length : Int)).toNat).drop ((0 : Int)).toNat)=fs0.map cL.pv:=by simp
  refine aD rfl (aA rfl (aA rfl (aA rfl (bE (cQ (by simp;omega) ?_)))))
  rw [e]
  refine xH (by omega) (by omega) (by simp;omega) el (xH (by omega) (by omega) (by simp;omega) el ?_)
  rw [et]
  refine aH (aC (fun h0=>aB ?_) (fun h0=>?_))
  · have : fs0 = []:=List.eq_nil_of_length_eq_zero (by omega)
    subst this
    rfl
  · obtain ⟨gs,g,rfl⟩ : ∃ gs g,fs0=gs++[g]:=by
      rcases List.eq_nil_or_concat fs0 with rfl | ⟨gs,g,rfl⟩
      · simp at h0
      · exact ⟨gs,g,by simp⟩
    have e2 : ((gs++[g]).length : Int) - 1=gs.length:=by simp
    have em : (gs++[g]).map cL.pv=gs.map cL.pv++[g.pv]:=by simp
    refine cQ (by omega) ?_
    rw [e2,em]
    have hi : (gs.length : Int)=(gs.map cL.pv).length:=by simp
    have hg:=hs g (by simp)
    obtain ⟨gf,gp,gl,gk⟩:=g
    have hg : gk.length≤1000:=hg
    refine aAF (by omega) (by simp;omega) (vM hi (fun _=>hY hi rfl (hY hi rfl ?_)))
    refine bZ hi rfl (by omega) rfl (gK (m:=[v]) (by simp;omega) (bZ hi rfl (by omega) rfl (aB ?_)))
    rw [if_neg (by simp),vK]
    simp
    rfl
end
theorem dQ {P : R→Prop} {l : List cB} {v : cB} {k : PV→Option R} (hv : l[0]? = some v) (h : Ok P (k v.pv)) : Ok P (bd (PV.inb (aP l) (.int .i64 0)) fun _=>bd (PV.at_ 3 true (aP l) (.int .i64 0)) k):=aKi (i:=0) hv h
theorem rU {P : R→Prop} {l : List cB} {v : cB} {k : PV→Option R} (hv : l[1]? = some v) (h : Ok P (k v.pv)) : Ok P (bd (PV.inb (aP l) (.int .i64 1)) fun _=>bd (PV.at_ 3 true (aP l) (.int .i64 1)) k):=aKi (i:=1) hv h
theorem aEf {o : Int} {a b : cB} (ho : 11≤o∧o≤14) (hs : a.s.size≤2097152∧b.s.size≤2097152) : Ok (fun r=>∀ {P : R→Prop} {k : R→Option R},Ok P (k (opR (nG o a b)))→Ok P (bd (PV.apply aK (hd r) [a.pv,b.pv]) k)) (fY (.int .i64 o)):=by
  rw [aBg]
  refine cQ (by omega) ?_
  have : o=11∨o=12∨o=13∨o=14:=by omega
  rcases this with rfl | rfl | rfl | rfl
  · exact aJ7 (by decide) rfl rfl (aB (fun h=>zJ (g:=aAU) rfl (aLS hs) (fun r hr=>by rw [hr];exact h)))
  · exact aJ7 (by decide) rfl rfl (aB (fun h=>zJ (g:=aAV) rfl aLT (fun r hr=>by rw [hr];exact h)))
  · exact aJ7 (by decide) rfl rfl (aB (fun h=>zJ (g:=aAW) rfl aLU (fun r hr=>by rw [hr];exact h)))
  · exact aJ7 (by decide) rfl rfl (aB (fun h=>zJ (g:=yA) rfl aK0 (fun r hr=>by rw [hr];exact h)))
theorem aLZ {m : eG} {A : List PV} {made a3 a4 a5 a6 a7 a8 T H O : PV} {f pc base g next i : Int} {loc s t args : List cB} (hi : i=A.length) (hb : base=s.length) (hs : s.length≤1000) (hA : A.length≤23) (hg : 0≤g∧g<m.funcs.length) (hargs : (args.length : Int)=eJ m.funcs g)
    (par : ∀ f∈m.funcs,0≤f.p∧f.p≤6∧f.p≤f.lc∧f.lc≤12) :
    Ok (fun r=>(A.length=23∧r = [.int .i64 6,made,a3,a4,a5,a6,a7,a8,.lst (A++[cL.pv ⟨f,pc,loc,s++t⟩]),H,O])∨(A.length≠23∧r = [.int .i64 0,made,a3,a4,a5,a6,a7,a8,.lst (A++[cL.pv ⟨f,next,loc,s⟩]++[(pG m.funcs g args).pv]),H,O]))
      (hH (.int .i64 i) (.int .i64 base) (.int .i64 next) (.int .i64 g) made a3 a4 a5 a6 a7 a8 T (.lst (m.funcs.map cW.pv)) (.lst (A++[cL.pv ⟨f,pc,loc,s++t⟩])) H O (aP args)):=by
  subst hb
  rw [aB1]
  refine bE (aH (aC (fun h=>aB (.inl ⟨by simp at h;omega,rfl⟩)) (fun h=>?_)))
  refine vM hi (fun _=>hY hi rfl (fJ (by omega) (by omega) (by simp;omega) (hY hi rfl (fJ (by omega) (by omega) (by simp;omega) (hY hi rfl ?_)))))
  have e : (((s++t).take (s.length : Int).toNat).drop (0 : Int).toNat)=s:=by simp
  rw [e]
  refine bZ hi rfl (by omega) rfl (bZ hi rfl (by omega) rfl (bA rfl (bZ hi rfl (by omega) rfl ?_)))
  obtain ⟨q,rfl⟩:=Int.eq_ofNat_of_zero_le hg.1
  have hq : q<m.funcs.length:=by omega
  have hf:=par _ (List.getElem_mem hq)
  have hlc : vJ m.funcs q=m.funcs[q].lc:=by unfold vJ;rw [Int.toNat_natCast,List.getElem?_eq_getElem hq];rfl
  have hpa : eJ m.funcs q=m.funcs[q].p:=by unfold eJ;rw [Int.toNat_natCast,List.getElem?_eq_getElem hq];rfl
  refine aFz (by omega) (by omega) (by rw [hlc];omega) (by rw [hlc];omega) (cN rfl (cN rfl (dT (eC _) (dT (eC []) ?_))))
  refine mH (by simp;omega) (fun x hx=>by simp at hx;subst hx;rfl) (aB (.inr ⟨?_,rfl⟩))
  intro h0
  exact h (by simp;omega)
set_option maxHeartbeats 8000000 in
theorem aMH {m : eG} {fs0 : List cL} {took : List cB} {hp : List (List cB)} {made ff fpc : Int} {floc fstk : List cB} {out : List ByteArray} {x : bF} {nc : Int} {a3 a4 a5 a6 a7 a8 : PV}
    (S : aLX m fs0 ⟨ff,fpc+1,floc,fstk⟩ took hp made out) (hx : bV m.texts.length m.funcs.length floc.length nc x.o x.a=true) (hu : (took.length : Int)=(aV m.funcs x).1)
    (hff : 0≤ff∧ff<m.funcs.length) (hpc : 0≤fpc∧fpc≤1000) (hcode : (fR m.funcs ff)[fpc.toNat]? = some x) :
    Ok (DoI (.int .i64 made) a3 a4 a5 a6 a7 a8 (.lst (fs0.map cL.pv++[cL.pv ⟨ff,fpc,floc,fstk++took⟩])) (.lst (hp.map cD)) (.lst (out.map PV.str)) fs0 (dE m ⟨ff,fpc+1,floc,fstk⟩ took (fs0.length+1) hp made out x))
      (aAS (.lst (m.texts.map PV.str)) (.lst (m.funcs.map cW.pv)) (.int .i64 made) a3 a4 a5 a6 a7 a8
        (.lst (fs0.map cL.pv++[cL.pv ⟨ff,fpc,floc,fstk++took⟩])) (.lst (hp.map cD)) (.lst (out.map PV.str))):=by
  obtain ⟨q26,q3,q67,q20,q2122,q23,q524,qj,q1⟩:=zG hx
  obtain ⟨nf,nt,par,n0,stks,nl,ns,recs,nh,nm,no,vals0⟩:=S
  simp only at *
  have hsz : ∀ v∈took,v.s.size≤2097152:=fun v hv=>by have:=bT (vals0 v hv);omega
  have hrec : ∀ r∈hp,r.length≤1000:=fun r hr=>by have:=recs r hr;omega
  rw [aF8]
  have hA : (fs0.map cL.pv).length=fs0.length:=List.length_map ..
  have hi : (fs0.length : Int)=(fs0.map cL.pv).length:=by rw [hA]
  have e : ((fs0.map cL.pv++[cL.pv ⟨ff,fpc,floc,fstk++took⟩]).length : Int) - 1=fs0.length:=by simp
  refine bE (cQ (by simp;omega) ?_)
  rw [e]
  refine aAF (by omega) (by simp;omega) (hY hi rfl (aHB hff.1 hff.2 (fun fn hfn=>aA rfl (hY hi rfl ?_))))
  have hcd : (fn.code.map bF.pv)[fpc.toNat]? = some x.pv:=by
    have : fR m.funcs ff=fn.code:=by unfold fR;rw [hfn];rfl
    rw [List.getElem?_map,← this,hcode];rfl
  refine aHk (by omega) hcd rfl (aD rfl (aA rfl (aA rfl (aF (aGG (by omega)) (fun r hr=>?_)))))
  rw [hr]
  refine aW rfl (aW rfl (vM hi (fun _=>hY hi rfl (dI (cQ (by simp;omega) ?_)))))
  have e2 : ((fstk++took).length : Int) - (aV m.funcs x).1=fstk.length:=by rw [← hu];simp
  rw [e2]
  refine vM hi (fun _=>hY hi rfl (dI (fJ (by omega) (by simp;omega) (by omega) (hY hi rfl (fJ (by omega) (by simp;omega) (by omega) ?_)))))
  have e3 : (((fstk++took).take ((fstk++took).length : Int).toNat).drop (fstk.length : Int).toNat)=took:=by rw [Int.toNat_natCast,Int.toNat_natCast,List.take_length,List.drop_left]
  rw [e3]
  refine vL (by omega) (dT (eC _) (hY hi rfl (aN (by omega) ?_)))
  have hfs : fstk.length≤1000:=by omega
  refine aH (aC (fun ho=>?_) (fun n1=>?_))
  · have e0 : aV m.funcs x=(0,1):=by unfold aV;repeat (first | rfl | rw [if_pos (by omega)] | rw [if_neg (by omega)])
    rw [e0] at hu
    obtain rfl:=List.eq_nil_of_length_eq_zero (show took.length=0 by omega)
    have e : dE m ⟨ff,fpc+1,floc,fstk⟩ [] (fs0.length+1) hp made out x = .next ⟨ff,fpc+1,floc,fstk++[aB5 x.a]⟩ hp made out:=by simp only [dE,List.headD,List.tail];(repeat (first | rfl | refine (if_pos (by omega)).trans ?_ | refine (if_neg (by omega)).trans ?_))
    exact aAn (vN (l:=[aB5 x.a]) (by simp) (eY (laid:=[aB5 x.a]) hi rfl hfs (by simp) (aB (by rw [e];rfl))))
  refine aH (aC (fun ho=>?_) (fun n2=>?_))
  · have e0 : aV m.funcs x=(0,1):=by unfold aV;repeat (first | rfl | rw [if_pos (by omega)] | rw [if_neg (by omega)])
    rw [e0] at hu
    obtain rfl:=List.eq_nil_of_length_eq_zero (show took.length=0 by omega)
    have e : dE m ⟨ff,fpc+1,floc,fstk⟩ [] (fs0.length+1) hp made out x = .next ⟨ff,fpc+1,floc,fstk++[lW (decide (x.a=1))]⟩ hp made out:=by simp only [dE,List.headD,List.tail];(repeat (first | rfl | refine (if_pos (by omega)).trans ?_ | refine (if_neg (by omega)).trans ?_))
    exact aH (jT (vN (l:=[lW (decide (x.a=1))]) (by simp) (eY (laid:=[lW (decide (x.a=1))]) hi rfl hfs (by simp) (aB (by rw [e];rfl)))))
  refine aH (aC (fun ho=>?_) (fun n3=>?_))
  · have e0 : aV m.funcs x=(0,1):=by unfold aV;repeat (first | rfl | rw [if_pos (by omega)] | rw [if_neg (by omega)])
    rw [e0] at hu
    obtain rfl:=List.eq_nil_of_length_eq_zero (show took.length=0 by omega)
    obtain ⟨xa,hxa⟩:=Int.eq_ofNat_of_zero_le (q3 ho).1
    have hlt : xa<m.texts.length:=by have:=q3 ho;omega
    have e : dE m ⟨ff,fpc+1,floc,fstk⟩ [] (fs0.length+1) hp made out x = .next ⟨ff,fpc+1,floc,fstk++[aB6 m.texts[xa]]⟩ hp made out:=by
      have et : m.texts[x.a.toNat]?.getD (bs [])=m.texts[xa]:=by rw [hxa,Int.toNat_natCast,List.getElem?_eq_getElem hlt];rfl
      simp only [dE,List.headD,List.tail,et];(repeat (first | rfl | refine (if_pos (by omega)).trans ?_ | refine (if_neg (by omega)).trans ?_))
    rw [hxa]
    refine bD hlt (fun _=>rfl) (bA rfl (eY (laid:=[aB6 m.texts[xa]]) hi rfl hfs (by simp) (aB (by rw [e];rfl))))
  refine aH (aC (fun ho=>?_) (fun n4=>?_))
  · have e0 : aV m.funcs x=(0,1):=by unfold aV;repeat (first | rfl | rw [if_pos (by omega)] | rw [if_neg (by omega)])
    rw [e0] at hu
    obtain rfl:=List.eq_nil_of_length_eq_zero (show took.length=0 by omega)
    have e : dE m ⟨ff,fpc+1,floc,fstk⟩ [] (fs0.length+1) hp made out x = .next ⟨ff,fpc+1,floc,fstk++[dV]⟩ hp made out:=by simp only [dE,List.headD,List.tail];(repeat (first | rfl | refine (if_pos (by omega)).trans ?_ | refine (if_neg (by omega)).trans ?_))
    exact eY (laid:=[dV]) hi rfl hfs (by simp) (aB (by rw [e];rfl))
  refine aH (aC (fun ho=>?_) (fun n5=>?_))
  · have e0 : aV m.funcs x=(0,1):=by unfold aV;repeat (first | rfl | rw [if_pos (by omega)] | rw [if_neg (by omega)])
    rw [e0] at hu
    obtain rfl:=List.eq_nil_of_length_eq_zero (show took.length=0 by omega)
    have e : dE m ⟨ff,fpc+1,floc,fstk⟩ [] (fs0.length+1) hp made out x = .next ⟨ff,fpc+1,floc,fstk++[aKT x.a]⟩ hp made out:=by simp only [dE,List.headD,List.tail];(repeat (first | rfl | refine (if_pos (by omega)).trans ?_ | refine (if_neg (by omega)).trans ?_))
    exact bA rfl (eY (laid:=[aKT x.a]) hi rfl hfs (by simp) (aB (by rw [e];rfl)))
  refine aH (aC (fun ho=>?_) (fun n6=>?_))
  · have e0 : aV m.funcs x=(0,1):=by unfold aV;repeat (first | rfl | rw [if_pos (by omega)] | rw [if_neg (by omega)])
    rw [e0] at hu
    obtain rfl:=List.eq_nil_of_length_eq_zero (show took.length=0 by omega)
    have hq:=q67 (.inl ho)
    obtain ⟨v,hv⟩ : ∃ v,floc[x.a.toNat]? = some v:=⟨_,List.getElem?_eq_getElem (show x.a.toNat<floc.length by omega)⟩
    have e : dE m ⟨ff,fpc+1,floc,fstk⟩ [] (fs0.length+1) hp made out x = .next ⟨ff,fpc+1,floc,fstk++[v]⟩ hp made out:=by
      have et : floc[x.a.toNat]?.getD dV=v:=by rw [hv];rfl
      simp only [dE,List.headD,List.tail,et];(repeat (first | rfl | refine (if_pos (by omega)).trans ?_ | refine (if_neg (by omega)).trans ?_))
    refine vM hi (fun _=>hY hi rfl (eF (by omega) (by omega) (hY hi rfl (lP (by omega) (by omega) (fun v' hv'=>?_)))))
    rw [hv] at hv';cases hv'
    exact vN (l:=[v]) (by simp) (eY (laid:=[v]) hi rfl hfs (by simp) (aB (by rw [e];rfl)))
  refine aH (aC (fun ho=>?_) (fun n7=>?_))
  · have e0 : aV m.funcs x=(1,0):=by unfold aV;repeat (first | rfl | rw [if_pos (by omega)] | rw [if_neg (by omega)])
    rw [e0] at hu
    obtain ⟨a,rfl⟩:=List.length_eq_one_iff.1 (show took.length=1 by omega)
    have hq:=q67 (.inr ho)
    have e : dE m ⟨ff,fpc+1,floc,fstk⟩ [a] (fs0.length+1) hp made out x = .next ⟨ff,fpc+1,floc.set x.a.toNat a,fstk⟩ hp made out:=by simp only [dE,List.headD,List.tail];(repeat (first | rfl | refine (if_pos (by omega)).trans ?_ | refine (if_neg (by omega)).trans ?_))
    refine vM hi (fun _=>dQ rfl (hY hi rfl (eF (by omega) (by omega) (hY hi rfl (hY hi rfl (lX (by omega) (by omega) (hY hi rfl (bZ hi rfl (by omega) rfl ?_))))))))
    exact eY (loc:=floc.set x.a.toNat a) (laid:=[]) hi rfl hfs (by simp) (aB (by rw [e];simp [DoI]))
  refine aH (aC (fun ho=>?_) (fun n8=>?_))
  · have e0 : aV m.funcs x=(1,2):=by unfold aV;repeat (first | rfl | rw [if_pos (by omega)] | rw [if_neg (by omega)])
    rw [e0] at hu
    obtain ⟨a,rfl⟩:=List.length_eq_one_iff.1 (show took.length=1 by omega)
    have e : dE m ⟨ff,fpc+1,floc,fstk⟩ [a] (fs0.length+1) hp made out x = .next ⟨ff,fpc+1,floc,fstk++[a,a]⟩ hp made out:=by simp only [dE,List.headD,List.tail];(repeat (first | rfl | refine (if_pos (by omega)).trans ?_ | refine (if_neg (by omega)).trans ?_))
    exact dQ rfl (dQ rfl (vN (l:=[a,a]) (by simp) (eY (laid:=[a,a]) hi rfl hfs (by simp) (aB (by rw [e];rfl)))))
  refine aH (aC (fun ho=>?_) (fun n10=>?_))
  · have e0 : aV m.funcs x=(2,2):=by unfold aV;repeat (first | rfl | rw [if_pos (by omega)] | rw [if_neg (by omega)])
    rw [e0] at hu
    obtain ⟨a,b,rfl⟩:=nC (show took.length=2 by omega)
    have e : dE m ⟨ff,fpc+1,floc,fstk⟩ [a,b] (fs0.length+1) hp made out x = .next ⟨ff,fpc+1,floc,fstk++[b,a]⟩ hp made out:=by simp only [dE,List.headD,List.tail];(repeat (first | rfl | refine (if_pos (by omega)).trans ?_ | refine (if_neg (by omega)).trans ?_))
    exact rU rfl (dQ rfl (vN (l:=[b,a]) (by simp) (eY (laid:=[b,a]) hi rfl hfs (by simp) (aB (by rw [e];rfl)))))
  refine aH (aC (fun ho=>?_) (fun n11=>?_))
  · have e0 : aV m.funcs x=(2,1):=by unfold aV;repeat (first | rfl | rw [if_pos (by omega)] | rw [if_neg (by omega)])
    rw [e0] at hu
    obtain ⟨a,b,rfl⟩:=nC (show took.length=2 by omega)
    have hab:=hsz a (by simp);have hbb:=hsz b (by simp)
    refine aF (aEf (a:=a) (b:=b) (by omega) ⟨hab,hbb⟩) (fun r hr=>dQ rfl (rU rfl (hr (aW rfl (aW rfl (aD rfl (aA rfl (aA rfl (aA rfl (bC (aJ (fun ht=>aB ?_) (fun ht=>?_))))))))))))
    · have e : dE m ⟨ff,fpc+1,floc,fstk⟩ [a,b] (fs0.length+1) hp made out x = .trap (nG x.o a b).2:=by simp only [dE,List.headD,List.tail];(repeat (first | rfl | refine (if_pos (by omega)).trans ?_ | refine (if_neg (by omega)).trans ?_))
      rw [e];exact ⟨ht,rfl⟩
    · have e : dE m ⟨ff,fpc+1,floc,fstk⟩ [a,b] (fs0.length+1) hp made out x = .next ⟨ff,fpc+1,floc,fstk++[(nG x.o a b).1]⟩ hp made out:=by simp only [dE,List.headD,List.tail];(repeat (first | rfl | refine (if_pos (by omega)).trans ?_ | refine (if_neg (by omega)).trans ?_))
      exact eY (laid:=[(nG x.o a b).1]) hi rfl hfs (by simp) (aB (by rw [e];rfl))
  refine aH (aC (fun ho=>?_) (fun n12=>?_))
  · have e0 : aV m.funcs x=(2,1):=by unfold aV;repeat (first | rfl | rw [if_pos (by omega)] | rw [if_neg (by omega)])
    rw [e0] at hu
    obtain ⟨a,b,rfl⟩:=nC (show took.length=2 by omega)
    have hab:=hsz a (by simp);have hbb:=hsz b (by simp)
    refine aF (aEf (a:=a) (b:=b) (by omega) ⟨hab,hbb⟩) (fun r hr=>dQ rfl (rU rfl (hr (aW rfl (aW rfl (aD rfl (aA rfl (aA rfl (aA rfl (bC (aJ (fun ht=>aB ?_) (fun ht=>?_))))))))))))
    · have e : dE m ⟨ff,fpc+1,floc,fstk⟩ [a,b] (fs0.length+1) hp made out x = .trap (nG x.o a b).2:=by simp only [dE,List.headD,List.tail];(repeat (first | rfl | refine (if_pos (by omega)).trans ?_ | refine (if_neg (by omega)).trans ?_))
      rw [e];exact ⟨ht,rfl⟩
    · have e : dE m ⟨ff,fpc+1,floc,fstk⟩ [a,b] (fs0.length+1) hp made out x = .next ⟨ff,fpc+1,floc,fstk++[(nG x.o a b).1]⟩ hp made out:=by simp only [dE,List.headD,List.tail];(repeat (first | rfl | refine (if_pos (by omega)).trans ?_ | refine (if_neg (by omega)).trans ?_))
      exact eY (laid:=[(nG x.o a b).1]) hi rfl hfs (by simp) (aB (by rw [e];rfl))
  refine aH (aC (fun ho=>?_) (fun n13=>?_))
  · have e0 : aV m.funcs x=(2,1):=by unfold aV;repeat (first | rfl | rw [if_pos (by omega)] | rw [if_neg (by omega)])
    rw [e0] at hu
    obtain ⟨a,b,rfl⟩:=nC (show took.length=2 by omega)
    have hab:=hsz a (by simp);have hbb:=hsz b (by simp)
    refine aF (aEf (a:=a) (b:=b) (by omega) ⟨hab,hbb⟩) (fun r hr=>dQ rfl (rU rfl (hr (aW rfl (aW rfl (aD rfl (aA rfl (aA rfl (aA rfl (bC (aJ (fun ht=>aB ?_) (fun ht=>?_))))))))))))
    · have e : dE m ⟨ff,fpc+1,floc,fstk⟩ [a,b] (fs0.length+1) hp made out x = .trap (nG x.o a b).2:=by simp only [dE,List.headD,List.tail];(repeat (first | rfl | refine (if_pos (by omega)).trans ?_ | refine (if_neg (by omega)).trans ?_))
      rw [e];exact ⟨ht,rfl⟩
    · have e : dE m ⟨ff,fpc+1,floc,fstk⟩ [a,b] (fs0.length+1) hp made out x = .next ⟨ff,fpc+1,floc,fstk++[(nG x.o a b).1]⟩ hp made out:=by simp only [dE,List.headD,List.tail];(repeat (first | rfl | refine (if_pos (by omega)).trans ?_ | refine (if_neg (by omega)).trans ?_))
      exact eY (laid:=[(nG x.o a b).1]) hi rfl hfs (by simp) (aB (by rw [e];rfl))
  refine aH (aC (fun ho=>?_) (fun n14=>?_))
  · have e0 : aV m.funcs x=(2,1):=by unfold aV;repeat (first | rfl | rw [if_pos (by omega)] | rw [if_neg (by omega)])
    rw [e0] at hu
    obtain ⟨a,b,rfl⟩:=nC (show took.length=2 by omega)
    have hab:=hsz a (by simp);have hbb:=hsz b (by simp)
    refine aF (aEf (a:=a) (b:=b) (by omega) ⟨hab,hbb⟩) (fun r hr=>dQ rfl (rU rfl (hr (aW rfl (aW rfl (aD rfl (aA rfl (aA rfl (aA rfl (bC (aJ (fun ht=>aB ?_) (fun ht=>?_))))))))))))
    · have e : dE m ⟨ff,fpc+1,floc,fstk⟩ [a,b] (fs0.length+1) hp made out x = .trap (nG x.o a b).2:=by simp only [dE,List.headD,List.tail];(repeat (first | rfl | refine (if_pos (by omega)).trans ?_ | refine (if_neg (by omega)).trans ?_))
      rw [e];exact ⟨ht,rfl⟩
    · have e : dE m ⟨ff,fpc+1,floc,fstk⟩ [a,b] (fs0.length+1) hp made out x = .next ⟨ff,fpc+1,floc,fstk++[(nG x.o a b).1]⟩ hp made out:=by simp only [dE,List.headD,List.tail];(repeat (first | rfl | refine (if_pos (by omega)).trans ?_ | refine (if_neg (by omega)).trans ?_))
      exact eY (laid:=[(nG x.o a b).1]) hi rfl hfs (by simp) (aB (by rw [e];rfl))
  refine aH (aC (fun ho=>?_) (fun n15=>?_))
  · have e0 : aV m.funcs x=(2,1):=by unfold aV;repeat (first | rfl | rw [if_pos (by omega)] | rw [if_neg (by omega)])
    rw [e0] at hu
    obtain ⟨a,b,rfl⟩:=nC (show took.length=2 by omega)
    have e4 : (nG x.o a b)=(aAm a b,0):=by unfold nG;repeat (first | rfl | rw [if_pos (by omega)] | rw [if_neg (by omega)])
    have e : dE m ⟨ff,fpc+1,floc,fstk⟩ [a,b] (fs0.length+1) hp made out x = .next ⟨ff,fpc+1,floc,fstk++[aAm a b]⟩ hp made out:=by simp only [dE,List.headD,List.tail,e4];(repeat (first | rfl | exact if_neg (fun h=>h rfl) | refine (if_pos (by omega)).trans ?_ | refine (if_neg (by omega)).trans ?_))
    exact dQ rfl (rU rfl (aF aK1 (fun r hr=>by rw [hr];exact vN (l:=[aAm a b]) (by simp) (eY (laid:=[aAm a b]) hi rfl hfs (by simp) (aB (by rw [e];rfl))))))
  refine aH (aC (fun ho=>?_) (fun n16=>?_))
  · have e0 : aV m.funcs x=(1,1):=by unfold aV;repeat (first | rfl | rw [if_pos (by omega)] | rw [if_neg (by omega)])
    rw [e0] at hu
    obtain ⟨a,rfl⟩:=List.length_eq_one_iff.1 (show took.length=1 by omega)
    refine dQ rfl (lO aLW (aW rfl (aW rfl (aD rfl (aA rfl (aA rfl (aA rfl (bC (aJ (fun ht=>aB ?_) (fun ht=>?_))))))))))
    · have e : dE m ⟨ff,fpc+1,floc,fstk⟩ [a] (fs0.length+1) hp made out x = .trap (yH a).2:=by simp only [dE,List.headD,List.tail];(repeat (first | rfl | refine (if_pos (by omega)).trans ?_ | refine (if_neg (by omega)).trans ?_))
      rw [e];exact ⟨ht,rfl⟩
    · have e : dE m ⟨ff,fpc+1,floc,fstk⟩ [a] (fs0.length+1) hp made out x = .next ⟨ff,fpc+1,floc,fstk++[(yH a).1]⟩ hp made out:=by simp only [dE,List.headD,List.tail];(repeat (first | rfl | refine (if_pos (by omega)).trans ?_ | refine (if_neg (by omega)).trans ?_))
      exact eY (laid:=[(yH a).1]) hi rfl hfs (by simp) (aB (by rw [e];rfl))
  refine aH (aC (fun ho=>?_) (fun n17=>?_))
  · have e0 : aV m.funcs x=(0,0):=by unfold aV;repeat (first | rfl | rw [if_pos (by omega)] | rw [if_neg (by omega)])
    rw [e0] at hu
    obtain rfl:=List.eq_nil_of_length_eq_zero (show took.length=0 by omega)
    have e : dE m ⟨ff,fpc+1,floc,fstk⟩ [] (fs0.length+1) hp made out x = .next ⟨ff,x.a,floc,fstk⟩ hp made out:=by simp only [dE,List.headD,List.tail];(repeat (first | rfl | refine (if_pos (by omega)).trans ?_ | refine (if_neg (by omega)).trans ?_))
    exact eY (next:=x.a) (laid:=[]) hi rfl hfs (by simp) (aB (by rw [e];simp [DoI]))
  refine aH (aC (fun ho=>?_) (fun n18=>?_))
  · have e0 : aV m.funcs x=(1,0):=by unfold aV;repeat (first | rfl | rw [if_pos (by omega)] | rw [if_neg (by omega)])
    rw [e0] at hu
    obtain ⟨a,rfl⟩:=List.length_eq_one_iff.1 (show took.length=1 by omega)
    have hd : decide (x.o=18)=true:=by simp [ho]
    refine dQ rfl (aA rfl (bC (aJ (fun h1=>aB ?_) (fun h1=>?_))))
    · have e : dE m ⟨ff,fpc+1,floc,fstk⟩ [a] (fs0.length+1) hp made out x = .trap 1:=by simp only [dE,List.headD,List.tail];(repeat (first | rfl | refine (if_pos (by omega)).trans ?_ | refine (if_neg (by omega)).trans ?_))
      rw [e];exact ⟨by omega,rfl⟩
    refine dQ rfl (aA rfl (aH (aH (uQ (bU (fun h2=>?_) (fun h2=>?_))))))
    · have e : dE m ⟨ff,fpc+1,floc,fstk⟩ [a] (fs0.length+1) hp made out x = .next ⟨ff,x.a,floc,fstk⟩ hp made out:=by simp only [dE,List.headD,List.tail];(repeat (first | rfl | refine (if_pos (by omega)).trans ?_ | refine (if_neg (by omega)).trans ?_ | refine (if_pos h2).trans ?_))
      exact eY (next:=x.a) (laid:=[]) hi rfl hfs (by simp) (aB (by rw [e];simp [DoI]))
    · have e : dE m ⟨ff,fpc+1,floc,fstk⟩ [a] (fs0.length+1) hp made out x = .next ⟨ff,fpc+1,floc,fstk++[]⟩ hp made out:=by simp only [dE,List.headD,List.tail];(repeat (first | rfl | refine (if_pos (by omega)).trans ?_ | refine (if_neg (by omega)).trans ?_ | exact if_neg (fun h=>Bool.noConfusion (h2.symm.trans h))))
      exact eY (laid:=[]) hi rfl hfs (by simp) (aB (by rw [e];rfl))
  refine aH (aC (fun ho=>?_) (fun n19=>?_))
  · have e0 : aV m.funcs x=(1,0):=by unfold aV;repeat (first | rfl | rw [if_pos (by omega)] | rw [if_neg (by omega)])
    rw [e0] at hu
    obtain ⟨a,rfl⟩:=List.length_eq_one_iff.1 (show took.length=1 by omega)
    have hd : decide (x.o=18)=false:=by simp [ho]
    refine dQ rfl (aA rfl (bC (aJ (fun h1=>aB ?_) (fun h1=>?_))))
    · have e : dE m ⟨ff,fpc+1,floc,fstk⟩ [a] (fs0.length+1) hp made out x = .trap 1:=by simp only [dE,List.headD,List.tail];(repeat (first | rfl | refine (if_pos (by omega)).trans ?_ | refine (if_neg (by omega)).trans ?_))
      rw [e];exact ⟨by omega,rfl⟩
    refine dQ rfl (aA rfl (aH (aH (uQ (bU (fun h2=>?_) (fun h2=>?_))))))
    · have e : dE m ⟨ff,fpc+1,floc,fstk⟩ [a] (fs0.length+1) hp made out x = .next ⟨ff,x.a,floc,fstk⟩ hp made out:=by simp only [dE,List.headD,List.tail];(repeat (first | rfl | refine (if_pos (by omega)).trans ?_ | refine (if_neg (by omega)).trans ?_ | refine (if_pos h2).trans ?_))
      exact eY (next:=x.a) (laid:=[]) hi rfl hfs (by simp) (aB (by rw [e];simp [DoI]))
    · have e : dE m ⟨ff,fpc+1,floc,fstk⟩ [a] (fs0.length+1) hp made out x = .next ⟨ff,fpc+1,floc,fstk++[]⟩ hp made out:=by simp only [dE,List.headD,List.tail];(repeat (first | rfl | refine (if_pos (by omega)).trans ?_ | refine (if_neg (by omega)).trans ?_ | exact if_neg (fun h=>Bool.noConfusion (h2.symm.trans h))))
      exact eY (laid:=[]) hi rfl hfs (by simp) (aB (by rw [e];rfl))
  refine aH (aC (fun ho=>?_) (fun n20=>?_))
  · have e0 : aV m.funcs x=(0,1):=by unfold aV;repeat (first | rfl | rw [if_pos (by omega)] | rw [if_neg (by omega)])
    rw [e0] at hu
    obtain rfl:=List.eq_nil_of_length_eq_zero (show took.length=0 by omega)
    have hq:=q20 ho
    refine aH (aC (fun h1=>aB ?_) (fun h1=>?_))
    · have e : dE m ⟨ff,fpc+1,floc,fstk⟩ [] (fs0.length+1) hp made out x = .trap 7:=by simp only [dE,List.headD,List.tail];(repeat (first | rfl | refine (if_pos (by omega)).trans ?_ | refine (if_neg (by omega)).trans ?_))
      rw [e];exact ⟨by omega,rfl⟩
    have e : dE m ⟨ff,fpc+1,floc,fstk⟩ [] (fs0.length+1) hp made out x = .next ⟨ff,fpc+1,floc,fstk++[aKS hp.length]⟩ (hp++[List.replicate x.a.toNat dV]) (made+1) out:=by simp only [dE,List.headD,List.tail];(repeat (first | rfl | refine (if_pos (by omega)).trans ?_ | refine (if_neg (by omega)).trans ?_))
    refine aE (bA rfl (aKh (by omega) (by omega) (dT (eC _) (mH (by simp;omega) (fun y hy=>by simp at hy;subst hy;rfl) (aN (by omega) (bA rfl ?_))))))
    exact eY (laid:=[aKS hp.length]) hi rfl hfs (by simp) (aB (by rw [e];simp [DoI];rfl))
  refine aH (aC (fun ho=>?_) (fun n21=>?_))
  · have e0 : aV m.funcs x=(1,1):=by unfold aV;repeat (first | rfl | rw [if_pos (by omega)] | rw [if_neg (by omega)])
    rw [e0] at hu
    obtain ⟨a,rfl⟩:=List.length_eq_one_iff.1 (show took.length=1 by omega)
    have hq:=q2122 (.inl ho)
    refine dQ rfl (aIR (by omega) (by omega) hrec (qQ (vals0 a (by simp))) (fun h1=>?_) (fun h1 h2=>?_) (fun h1 h2=>?_))
    · have e : dE m ⟨ff,fpc+1,floc,fstk⟩ [a] (fs0.length+1) hp made out x = .trap 1:=by simp only [dE,List.headD,List.tail];(repeat (first | rfl | refine (if_pos (by omega)).trans ?_ | refine (if_neg (by omega)).trans ?_))
      refine bC (aJ (fun _=>aB ?_) (fun h=>absurd h (by decide)))
      rw [e];exact ⟨by omega,rfl⟩
    · have e : dE m ⟨ff,fpc+1,floc,fstk⟩ [a] (fs0.length+1) hp made out x = .trap 4:=by simp only [dE,List.headD,List.tail];(repeat (first | rfl | refine (if_pos (by omega)).trans ?_ | refine (if_neg (by omega)).trans ?_))
      refine bC (aJ (fun _=>aB ?_) (fun h=>absurd h (by decide)))
      rw [e];exact ⟨by omega,rfl⟩
    · have hr4:=qQ (vals0 a (by simp)) h1
      obtain ⟨v,hv⟩ : ∃ v,(hp[a.n.toNat]?.getD [])[x.a.toNat]? = some v:=⟨_,List.getElem?_eq_getElem (show x.a.toNat<(hp[a.n.toNat]?.getD []).length by omega)⟩
      have et : (hp[a.n.toNat]?.getD [])[x.a.toNat]?.getD dV=v:=by rw [hv];rfl
      have e : dE m ⟨ff,fpc+1,floc,fstk⟩ [a] (fs0.length+1) hp made out x = .next ⟨ff,fpc+1,floc,fstk++[v]⟩ hp made out:=by simp only [dE,List.headD,List.tail,et];(repeat (first | rfl | refine (if_pos (by omega)).trans ?_ | refine (if_neg (by omega)).trans ?_))
      refine bC (aJ (fun h=>absurd rfl h) (fun _=>aIw (dB hr4.1 hr4.2 (aA rfl (lP (by omega) (by omega) (fun v' hv'=>?_))))))
      rw [hv] at hv';cases hv'
      exact vN (l:=[v]) (by simp) (eY (laid:=[v]) hi rfl hfs (by simp) (aB (by rw [e];rfl)))
  refine aH (aC (fun ho=>?_) (fun n22=>?_))
  · have e0 : aV m.funcs x=(2,0):=by unfold aV;repeat (first | rfl | rw [if_pos (by omega)] | rw [if_neg (by omega)])
    rw [e0] at hu
    obtain ⟨a,b,rfl⟩:=nC (show took.length=2 by omega)
    have hq:=q2122 (.inr ho)
    refine dQ rfl (aIR (by omega) (by omega) hrec (qQ (vals0 a (by simp))) (fun h1=>?_) (fun h1 h2=>?_) (fun h1 h2=>?_))
    · have e : dE m ⟨ff,fpc+1,floc,fstk⟩ [a,b] (fs0.length+1) hp made out x = .trap 1:=by simp only [dE,List.headD,List.tail];(repeat (first | rfl | refine (if_pos (by omega)).trans ?_ | refine (if_neg (by omega)).trans ?_))
      refine bC (aJ (fun _=>aB ?_) (fun h=>absurd h (by decide)))
      rw [e];exact ⟨by omega,rfl⟩
    · have e : dE m ⟨ff,fpc+1,floc,fstk⟩ [a,b] (fs0.length+1) hp made out x = .trap 4:=by simp only [dE,List.headD,List.tail];(repeat (first | rfl | refine (if_pos (by omega)).trans ?_ | refine (if_neg (by omega)).trans ?_))
      refine bC (aJ (fun _=>aB ?_) (fun h=>absurd h (by decide)))
      rw [e];exact ⟨by omega,rfl⟩
    · have hr4:=qQ (vals0 a (by simp)) h1
      have e : dE m ⟨ff,fpc+1,floc,fstk⟩ [a,b] (fs0.length+1) hp made out x = .next ⟨ff,fpc+1,floc,fstk⟩ (hp.set a.n.toNat ((hp[a.n.toNat]?.getD []).set x.a.toNat b)) made out:=by simp only [dE,List.headD,List.tail];(repeat (first | rfl | refine (if_pos (by omega)).trans ?_ | refine (if_neg (by omega)).trans ?_))
      refine bC (aJ (fun h=>absurd rfl h) (fun _=>rU rfl (aIw (dB hr4.1 hr4.2 (aA rfl (dB hr4.1 hr4.2 (aA rfl (lX (by omega) (by omega) (dB hr4.1 hr4.2 (aA rfl (aFx hr4.1 hr4.2 ?_)))))))))))
      exact eY (laid:=[]) hi rfl hfs (by simp) (aB (by rw [e,List.append_nil];rfl))
  refine aH (aC (fun ho=>?_) (fun n23=>?_))
  · have e0 : aV m.funcs x=(x.a+1,1):=by unfold aV;repeat (first | rfl | rw [if_pos (by omega)] | rw [if_neg (by omega)])
    rw [e0] at hu
    have hq:=q23 ho
    obtain ⟨a,args,rfl⟩ : ∃ a args,took=a::args:=by
      cases took with
      | nil=>simp at hu;omega
      | cons a args=>exact ⟨a,args,rfl⟩
    simp only [List.length_cons] at hu
    have hk:=vals0 a (by simp)
    refine aH ?_
    rw [decide_eq_true ho]
    refine bB (dQ rfl (aA rfl (bC (aJ (fun h1=>aB ?_) (fun h1=>?_)))))
    · have e : dE m ⟨ff,fpc+1,floc,fstk⟩ (a::args) (fs0.length+1) hp made out x = .trap 1:=by simp only [dE,List.headD,List.tail];(repeat (first | rfl | refine (if_pos (by omega)).trans ?_ | refine (if_neg (by omega)).trans ?_))
      rw [e];exact ⟨by omega,rfl⟩
    have h5:=aC5 hk h1
    obtain ⟨q,hqn⟩:=Int.eq_ofNat_of_zero_le h5.1
    have hql : q<m.funcs.length:=by omega
    have hpa : eJ m.funcs a.n=m.funcs[q].p:=by unfold eJ;rw [hqn,Int.toNat_natCast,List.getElem?_eq_getElem hql];rfl
    refine dQ rfl (aA rfl (aHB h5.1 h5.2 (fun fn2 hfn2=>aA rfl ?_)))
    have hp2 : fn2.p=eJ m.funcs a.n:=by unfold eJ;rw [hfn2];rfl
    rw [hp2]
    refine bC (aJ (fun h2=>aB ?_) (fun h2=>?_))
    · have e : dE m ⟨ff,fpc+1,floc,fstk⟩ (a::args) (fs0.length+1) hp made out x = .trap 5:=by simp only [dE,List.headD,List.tail];(repeat (first | rfl | refine (if_pos (by omega)).trans ?_ | refine (if_neg (by omega)).trans ?_))
      rw [e];exact ⟨by omega,rfl⟩
    refine dQ rfl (aA rfl (dI (fJ (by omega) (by simp;omega) (by omega) (fJ (by omega) (by simp;omega) (by omega) ?_))))
    have et : (((a::args).take ((a::args).length : Int).toNat).drop (1 : Int).toNat)=args:=by rw [Int.toNat_natCast,List.take_length];rfl
    rw [et]
    refine (aLZ (t:=a::args) hi rfl hfs (by rw [hA];omega) h5 (by omega) par).mono (fun r hr=>?_)
    rcases hr with ⟨h6,rfl⟩ | ⟨h6,rfl⟩
    · have e : dE m ⟨ff,fpc+1,floc,fstk⟩ (a::args) (fs0.length+1) hp made out x = .trap 6:=by simp only [dE,List.headD,List.tail];(repeat (first | rfl | refine (if_pos (by omega)).trans ?_ | refine (if_neg (by omega)).trans ?_))
      rw [e];exact ⟨by omega,rfl⟩
    · have e : dE m ⟨ff,fpc+1,floc,fstk⟩ (a::args) (fs0.length+1) hp made out x = .call ⟨ff,fpc+1,floc,fstk⟩ (pG m.funcs a.n args):=by simp only [dE,List.headD,List.tail];(repeat (first | rfl | refine (if_pos (by omega)).trans ?_ | refine (if_neg (by omega)).trans ?_))
      rw [e];rfl
  refine aH (aC (fun ho=>?_) (fun n24=>?_))
  · have e0 : aV m.funcs x=(eJ m.funcs x.a,1):=by unfold aV;repeat (first | rfl | rw [if_pos (by omega)] | rw [if_neg (by omega)])
    rw [e0] at hu
    have hq:=q524 (.inr ho)
    refine aH ?_
    rw [decide_eq_false n23]
    refine aS ((aLZ (t:=took) hi rfl hfs (by rw [hA];omega) hq hu par).mono (fun r hr=>?_))
    rcases hr with ⟨h6,rfl⟩ | ⟨h6,rfl⟩
    · have e : dE m ⟨ff,fpc+1,floc,fstk⟩ took (fs0.length+1) hp made out x = .trap 6:=by simp only [dE];(repeat (first | rfl | refine (if_pos (by omega)).trans ?_ | refine (if_neg (by omega)).trans ?_))
      rw [e];exact ⟨by omega,rfl⟩
    · have e : dE m ⟨ff,fpc+1,floc,fstk⟩ took (fs0.length+1) hp made out x = .call ⟨ff,fpc+1,floc,fstk⟩ (pG m.funcs x.a took):=by simp only [dE];(repeat (first | rfl | refine (if_pos (by omega)).trans ?_ | refine (if_neg (by omega)).trans ?_))
      rw [e];rfl
  refine aH (aC (fun ho=>?_) (fun n25=>?_))
  · have e0 : aV m.funcs x=(1,0):=by unfold aV;repeat (first | rfl | rw [if_pos (by omega)] | rw [if_neg (by omega)])
    rw [e0] at hu
    obtain ⟨a,rfl⟩:=List.length_eq_one_iff.1 (show took.length=1 by omega)
    have e : dE m ⟨ff,fpc+1,floc,fstk⟩ [a] (fs0.length+1) hp made out x = .ret a:=by simp only [dE,List.headD,List.tail];(repeat (first | rfl | refine (if_pos (by omega)).trans ?_ | refine (if_neg (by omega)).trans ?_))
    refine dQ rfl (aK3 (by omega) (fun g hg=>by have:=stks g hg;omega) (aB ?_))
    rw [e]
    show _=_
    by_cases h0 : fs0 = []
    · rw [if_pos h0,if_pos h0];rfl
    · rw [if_neg h0,if_neg h0];rfl
  refine aH (aC (fun ho=>?_) (fun n26=>?_))
  · have e0 : aV m.funcs x=(1,0):=by unfold aV;repeat (first | rfl | rw [if_pos (by omega)] | rw [if_neg (by omega)])
    rw [e0] at hu
    obtain ⟨a,rfl⟩:=List.length_eq_one_iff.1 (show took.length=1 by omega)
    refine aE (aH (aC (fun h1=>aB ?_) (fun h1=>?_)))
    · have e : dE m ⟨ff,fpc+1,floc,fstk⟩ [a] (fs0.length+1) hp made out x = .trap 8:=by simp only [dE,List.headD,List.tail];(repeat (first | rfl | refine (if_pos (by omega)).trans ?_ | refine (if_neg (by omega)).trans ?_))
      rw [e];exact ⟨by omega,rfl⟩
    have e : dE m ⟨ff,fpc+1,floc,fstk⟩ [a] (fs0.length+1) hp made out x = .next ⟨ff,fpc+1,floc,fstk⟩ hp made (out++[hX a hp]):=by simp only [dE,List.headD,List.tail];(repeat (first | rfl | refine (if_pos (by omega)).trans ?_ | refine (if_neg (by omega)).trans ?_))
    refine dQ rfl (aF (aHA (nf:=m.funcs.length) (by omega) (by omega) hrec (vals0 a (by simp))) (fun r hr=>?_))
    rw [hr]
    refine cN rfl (mH (by simp) (fun y hy=>by simp at hy;subst hy;rfl) (mH (by simp;omega) (fun y hy=>by simp at hy;subst hy;rfl) ?_))
    exact eY (laid:=[]) hi rfl hfs (by simp) (aB (by rw [e];simp [DoI];rfl))
  have h9 : x.o=9:=by omega
  have e0 : aV m.funcs x=(1,0):=by unfold aV;repeat (first | rfl | rw [if_pos (by omega)] | rw [if_neg (by omega)])
  rw [e0] at hu
  obtain ⟨a,rfl⟩:=List.length_eq_one_iff.1 (show took.length=1 by omega)
  have e : dE m ⟨ff,fpc+1,floc,fstk⟩ [a] (fs0.length+1) hp made out x = .next ⟨ff,fpc+1,floc,fstk++[]⟩ hp made out:=by simp only [dE,List.headD,List.tail];(repeat (first | rfl | refine (if_pos (by omega)).trans ?_ | refine (if_neg (by omega)).trans ?_))
  exact eY (laid:=[]) hi rfl hfs (by simp) (aB (by rw [e];rfl))
def aCf (fs : List cW) (code : List bF) (d : List Int) (pc : Nat) : Option Int:=
  match code[pc]? with
  | none=>none
  | some x=>
    if d[pc]?.getD 0<0 then none
    else if can fs x (d[pc]?.getD 0)=false then some 2
    else if (eU x pc).any (fun t=>decide ((code.length : Int)≤t))=true then some 3
    else if (eU x pc).any (fun t=>!decide (d[t.toNat]?.getD 0=fT fs x (d[pc]?.getD 0)))=true then some 4
    else none
def aAp (fs : List cW) (code : List bF) (f pc : Nat) : Option (Int × Nat × Nat):=(aCf fs code (oA fs code) pc).map fun c=>(c,f,pc)
def aGN (fs : List cW) (f : Nat) : Option (Int × Nat × Nat):=match fs[f]? with
  | some x=>(List.range' 0 x.code.length).findSome? (aAp fs x.code f)
  | none=>none
def bad (fs : List cW) : Option (Int × Nat × Nat):=(List.range' 0 fs.length).findSome? (aGN fs)
def aJH : Option (Int × Nat × Nat)→PV
  | some (c,f,pc)=>.agg [.int .i64 c,.int .i64 f,.int .i64 pc]
  | none=>.agg [.int .i64 0,.int .i64 0,.int .i64 0]
def eG.verify (m : eG) : PV:=if m.okB then aJH (bad m.funcs) else .agg [.int .i64 1,.int .i64 0,.int .i64 0]
theorem aEg {n : Nat} {F : Nat→Option R} {P : R→Prop} (I : Nat→Prop) (he : I n→Ok P (F n)) (hs : ∀ i,i<n→I i→(I (i+1)→Ok P (F (i+1)))→Ok P (F i)) (h0 : I 0) : Ok P (F 0):=
  aFt (σ:=Unit) (F:=fun i _=>F i) (fun i _=>I i) (fun _ h=>he h) (fun i _ hi hI ih=>hs i hi hI (fun h=>ih () h)) 0 () (by omega) h0
theorem aCg {α : Type} {xs : List α} {i : Nat} (hi : i<xs.length) (p : α→Bool) : (xs.drop i).any p=(p xs[i]||(xs.drop (i+1)).any p):=by
  rw [List.drop_eq_getElem_cons hi,List.any_cons]
section
variable {fs : List cW} {code : List bF} {T x3 x4 x5 : PV} (F : Fit fs code) {f : Nat} (hf : f < fs.length)
include F hf
theorem aJI {P : R→Prop} {pc : Nat} (hpc : pc<code.length) {d : List Int} (hd : d.length=code.length) {left : Int} {ts : List Int} (hts : ∀ t∈ts,0≤t∧t<code.length) (hn : ts.length≤10)
    (h4 : ts.any (fun t=>!decide (d[t.toNat]?.getD 0=left))=true→P [.agg [.int .i64 4,.int .i64 f,.int .i64 pc]])
    (hgo : ts.any (fun t=>!decide (d[t.toNat]?.getD 0=left))=false→Ok P (gW (.int .i64 f) (.lst (code.map bF.pv)) (dL d) (.int .i64 ((pc : Int)+1)) T (.lst (fs.map cW.pv)) x3 x4 x5)) :
    Ok P (fW (.int .i64 f) (.lst (code.map bF.pv)) (dL d) (.int .i64 pc) (.int .i64 left) (dL ts) (.int .i64 0) T (.lst (fs.map cW.pv)) x3 x4 x5):=by
  have hn2:=F.n2
  refine aEg (n:=ts.length) (F:=fun i=>fW (.int .i64 f) (.lst (code.map bF.pv)) (dL d) (.int .i64 pc) (.int .i64 left) (dL ts) (.int .i64 i) T (.lst (fs.map cW.pv)) x3 x4 x5)
    (fun i=>(ts.drop i).any (fun t=>!decide (d[t.toNat]?.getD 0=left))=ts.any (fun t=>!decide (d[t.toNat]?.getD 0=left))) ?_ ?_ (by rw [List.drop_zero])
  · intro hI
    rw [List.drop_length] at hI
    rw [rN]
    exact dX (aG (aC (fun h=>by omega) (fun _=>aN (by omega) (hgo hI.symm))))
  · intro i hi hI ih
    rw [aCg hi] at hI
    have ht:=hts ts[i] (List.getElem_mem _)
    rw [rN]
    refine dX (aG (aC (fun _=>?_) (fun h=>by omega)))
    refine dH hi (sX (by omega) (by omega) (fun v hv=>?_))
    have hv' : d[ts[i].toNat]?.getD 0=v:=by rw [hv];rfl
    rw [hv'] at hI
    refine bC (aJ (fun h=>?_) (fun h=>?_))
    · rw [decide_eq_false h] at hI
      exact bA rfl (bA rfl (aB (h4 hI.symm)))
    · rw [decide_eq_true h] at hI
      exact aN (by omega) (ih hI)
theorem aK4 {P : R→Prop} {pc : Nat} (hpc : pc<code.length) {d : List Int} (hd : d.length=code.length) {left : Int} {ts : List Int} (hts : ∀ t∈ts,0≤t∧t≤code.length) (hn : ts.length≤10)
    (h3 : ts.any (fun t=>decide ((code.length : Int)≤t))=true→P [.agg [.int .i64 3,.int .i64 f,.int .i64 pc]])
    (hgo : ts.any (fun t=>decide ((code.length : Int)≤t))=false→Ok P (fW (.int .i64 f) (.lst (code.map bF.pv)) (dL d) (.int .i64 pc) (.int .i64 left) (dL ts) (.int .i64 0) T (.lst (fs.map cW.pv)) x3 x4 x5)) :
    Ok P (iO (.int .i64 f) (.lst (code.map bF.pv)) (dL d) (.int .i64 pc) (.int .i64 left) (dL ts) (.int .i64 0) T (.lst (fs.map cW.pv)) x3 x4 x5):=by
  have hn2:=F.n2
  refine aEg (n:=ts.length) (F:=fun i=>iO (.int .i64 f) (.lst (code.map bF.pv)) (dL d) (.int .i64 pc) (.int .i64 left) (dL ts) (.int .i64 i) T (.lst (fs.map cW.pv)) x3 x4 x5)
    (fun i=>(ts.drop i).any (fun t=>decide ((code.length : Int)≤t))=ts.any (fun t=>decide ((code.length : Int)≤t))) ?_ ?_ (by rw [List.drop_zero])
  · intro hI
    rw [List.drop_length] at hI
    rw [rM]
    exact dX (aG (aC (fun h=>by omega) (fun _=>hgo hI.symm)))
  · intro i hi hI ih
    rw [aCg hi] at hI
    rw [rM]
    refine dX (aG (aC (fun _=>?_) (fun h=>by omega)))
    refine dH hi (aE (nU (aC (fun h=>?_) (fun h=>?_))))
    · rw [decide_eq_true h] at hI
      exact bA rfl (bA rfl (aB (h3 hI.symm)))
    · rw [decide_eq_false h] at hI
      exact aN (by omega) (ih hI)
theorem aKj {ts : List Int} {n : Int} (h : ts.any (fun t=>decide (n≤t))=false) : ∀ t∈ts,t<n:=by
  clear F hf
  intro t ht
  rw [List.any_eq_false] at h
  have:=h t ht
  simp at this
  omega
theorem aJJ {rest : Option (Int × Nat × Nat)} (hnext : Ok (fun r=>r = [aJH rest]) (jI (.int .i64 ((f : Int)+1)) T (.lst (fs.map cW.pv)) x3 x4 x5)) : ∀ pc,pc≤code.length→
    Ok (fun r=>r = [aJH (((List.range' pc (code.length - pc)).findSome? (aAp fs code f)).or rest)]) (gW (.int .i64 f) (.lst (code.map bF.pv)) (dL (oA fs code)) (.int .i64 pc) T (.lst (fs.map cW.pv)) x3 x4 x5):=by
  have hn2:=F.n2
  have hnf:=F.nf
  have hg:=aBl F
  generalize hd : oA fs code=d at hg
  refine lI ?_ ?_
  · rw [sP,aB4]
    exact aE (aG (aC (fun h=>by omega) (fun _=>aN (by omega) hnext)))
  · intro pc hpc ih
    have hx : code[pc]? = some code[pc]:=List.getElem?_eq_getElem hpc
    have hm : code[pc]∈code:=List.getElem_mem _
    have hu:=F.u code[pc] hm
    have hil : pc<d.length:=by rw [hg.1];exact hpc
    have hv:=hg.at pc
    have e2 : d[pc]=d[pc]?.getD 0:=aEc hil
    rw [zC hpc]
    have eb : aAp fs code f pc=(aCf fs code d pc).map fun c=>(c,f,pc):=by unfold aAp;rw [hd]
    rw [eb]
    have ec : aCf fs code d pc=if d[pc]?.getD 0<0 then none
      else if can fs code[pc] (d[pc]?.getD 0)=false then some 2
      else if (eU code[pc] pc).any (fun t=>decide ((code.length : Int)≤t))=true then some 3
      else if (eU code[pc] pc).any (fun t=>!decide (d[t.toNat]?.getD 0=fT fs code[pc] (d[pc]?.getD 0)))=true then some 4
      else none:=by
      conv=>lhs;unfold aCf
      rw [hx]
    generalize hw : d[pc]?.getD 0=w at *
    generalize aCf fs code d pc=ch at *
    rw [sP]
    refine aE (aG (aC (fun _=>?_) (fun h=>by omega)))
    refine dH hil ?_
    rw [e2]
    refine aG (aC (fun h1=>?_) (fun h1=>?_))
    · rw [if_pos h1] at ec
      subst ec
      exact aN (by omega) ih
    rw [if_neg h1] at ec
    refine bD hpc (fun _=>rfl) (aF (aGF (T:=T) (by omega)) (fun r hr=>?_))
    subst hr
    refine aW rfl (aW rfl (dH hil ?_))
    rw [e2]
    refine cQ (by omega) (aN (by omega) (dH hil ?_))
    rw [e2]
    refine aG (aC (fun h2=>?_) (fun h2=>?_))
    · have hc : can fs code[pc] w=false:=by simp only [can];rw [decide_eq_false (by omega)];rfl
      rw [if_pos hc] at ec
      subst ec
      exact bA rfl (bA rfl (aB rfl))
    refine nT (aC (fun h3=>?_) (fun h3=>?_))
    · have hc : can fs code[pc] w=false:=by simp only [can];rw [decide_eq_false (p:=fT fs code[pc] w≤16) (by unfold fT;omega),Bool.and_false]
      rw [if_pos hc] at ec
      subst ec
      exact bA rfl (bA rfl (aB rfl))
    have hc : can fs code[pc] w=true:=by simp only [can];rw [decide_eq_true (by omega),decide_eq_true (p:=fT fs code[pc] w≤16) (by unfold fT;omega)];rfl
    rw [hc,if_neg (by simp)] at ec
    refine bD hpc (fun _=>rfl) (aF (aGH (by omega)) (fun r hr=>?_))
    subst hr
    have hnx:=yJ F hm hpc
    have hl10 : (eU code[pc] pc).length≤10:=by unfold eU;repeat' split<;>simp
    refine aK4 F hf hpc hg.1 (left:=fT fs code[pc] w) hnx hl10 (fun h=>?_) (fun h=>?_)
    · rw [if_pos h] at ec
      subst ec
      rfl
    rw [if_neg (by rw [h];simp)] at ec
    refine aJI F hf hpc hg.1 (left:=fT fs code[pc] w) (fun t ht=>⟨(hnx t ht).1,aKj F hf h t ht⟩) hl10 (fun h=>?_) (fun h=>?_)
    · rw [if_pos h] at ec
      subst ec
      rfl
    · rw [if_neg (by rw [h];simp)] at ec
      subst ec
      exact ih
end
theorem aFA {fs : List cW} {f : Nat} (hf : f<fs.length) : aGN fs f=(List.range' 0 fs[f].code.length).findSome? (aAp fs fs[f].code f):=by
  unfold aGN
  rw [List.getElem?_eq_getElem hf]
theorem aIS {m : eG} (h : m.sized) : Ok (fun r=>r = [m.verify]) (xP m.pv):=by
  rw [aE9]
  refine aD rfl (aA rfl (aA rfl (aF (aGg h) (fun r hr=>?_))))
  subst hr
  unfold eG.verify
  refine bW (bU (fun hb=>aB ?_) (fun hb=>?_))
  · have : m.okB=false:=by simpa using hb
    rw [this];rfl
  have hb : m.okB=true:=by simpa using hb
  rw [hb,if_pos rfl]
  obtain ⟨h1,h2,h3⟩:=eG.okB_fit hb
  have key:=lI (n:=m.funcs.length) (P:=fun f r=>r = [aJH ((List.range' f (m.funcs.length - f)).findSome? (aGN m.funcs))])
    (F:=fun f=>jI (.int .i64 f) (.lst (m.texts.map PV.str)) (.lst (m.funcs.map cW.pv)) (.int .i64 0) (.int .i64 0) (.int .i64 0)) ?_ ?_ 0 (by omega)
  · exact key
  · rw [sO,aB4]
    exact aE (aG (aC (fun h=>by omega) (fun _=>aB rfl)))
  · intro f hf ih
    have F:=(h3 m.funcs[f] (List.getElem_mem _)).1
    rw [sO,zC hf,aFA hf]
    refine aE (aG (aC (fun _=>?_) (fun h=>by omega)))
    refine bD hf (fun _=>rfl) (aA rfl (aF (aIH F hf rfl) (fun r hr=>?_)))
    subst hr
    exact aJJ F hf ih 0 (by omega)
section
variable {P : R → Prop} {k : R → Option R}
theorem aK5 {xs : List Int} (hx : xs.length≤1000000000) (y : Int) : Ok (fun r=>∃ n : Int,r = [.int .i64 n]∧(0≤n↔xs.any (fun x=>decide (y=x))=true)) (jM (dL xs) (.int .i64 y)):=by
  rw [uA]
  refine dX ?_
  refine aEg (n:=xs.length) (F:=fun i=>eT (dL xs) (.int .i64 y) (.int .i64 xs.length) (.int .i64 i)) (fun i=>(xs.drop i).any (fun x=>decide (y=x))=xs.any (fun x=>decide (y=x))) ?_ ?_ (by rw [List.drop_zero])
  · intro hI
    rw [List.drop_length] at hI
    rw [jQ]
    refine aG (aC (fun h=>by omega) (fun _=>aB ⟨-1,rfl,?_⟩))
    rw [← hI];simp
  · intro i hi hI ih
    rw [aCg hi] at hI
    rw [jQ]
    refine aG (aC (fun _=>?_) (fun h=>by omega))
    refine dH hi (aH (aC (fun h=>aB ⟨i,rfl,?_⟩) (fun h=>?_)))
    · rw [← hI,decide_eq_true h];simp
    · rw [decide_eq_false h] at hI
      exact aN (by omega) (ih hI)
theorem aK6 {xs : List Int} (hx : xs.length≤1000000000) {y : Int} (h : Ok P (k [.bool (xs.any (fun x=>decide (y=x)))])) : Ok P (bd (gY (dL xs) (.int .i64 y)) k):=by
  refine aF (Q:=fun r=>r = [.bool (xs.any (fun x=>decide (y=x)))]) ?_ (fun r hr=>by rw [hr];exact h)
  rw [rQ]
  refine aF (aK5 hx y) ?_
  rintro r ⟨n,rfl,hn⟩
  refine nU (aB ?_)
  by_cases h0 : 0≤n
  · rw [decide_eq_true h0,hn.1 h0]
  · rw [decide_eq_false h0]
    cases h2 : xs.any (fun x=>decide (y=x)) with
    | false=>rfl
    | true=>exact absurd (hn.2 h2) h0
theorem aK7 {f : Nat} {caps : List PV} {xs : List Int} (hx : xs.length≤1000000000) (p : Int→Bool) (hp : ∀ x∈xs,Ok (fun r=>r = [.bool (p x)]) (aK f ([.int .i64 x]++caps))) (h : Ok P (k [.bool (xs.any p)])) :
    Ok P (bd (fD (dL xs) (.fn f caps)) k):=by
  refine aF (Q:=fun r=>r = [.bool (xs.any p)]) ?_ (fun r hr=>by rw [hr];exact h)
  rw [nX]
  refine aF (Q:=fun r=>∃ n : Int,r = [.int .i64 n]∧(0≤n↔xs.any p=true)) ?_ ?_
  · rw [qC]
    refine dX ?_
    refine aEg (n:=xs.length) (F:=fun i=>dY (dL xs) (.fn f caps) (.int .i64 xs.length) (.int .i64 i)) (fun i=>(xs.drop i).any p=xs.any p) ?_ ?_ (by rw [List.drop_zero])
    · intro hI
      rw [List.drop_length] at hI
      rw [hJ]
      refine aG (aC (fun h=>by omega) (fun _=>aB ⟨-1,rfl,?_⟩))
      rw [← hI];simp
    · intro i hi hI ih
      rw [aCg hi] at hI
      rw [hJ]
      refine aG (aC (fun _=>?_) (fun h=>by omega))
      refine dH hi (rA rfl (hp _ (List.getElem_mem _)) (fun r hr=>?_))
      subst hr
      refine bU (fun h=>aB ⟨i,rfl,?_⟩) (fun h=>?_)
      · rw [← hI,h];simp
      · rw [h,Bool.false_or] at hI
        exact aN (by omega) (ih hI)
  · rintro r ⟨n,rfl,hn⟩
    refine nU (aB ?_)
    by_cases h0 : 0≤n
    · rw [decide_eq_true h0,hn.1 h0]
    · rw [decide_eq_false h0]
      cases h2 : xs.any p with
      | false=>rfl
      | true=>exact absurd (hn.2 h2) h0
end
theorem aMI {ts : List Int} {n : Int} (h : ∀ t∈ts,t≤n) : ts.any (fun x=>decide (n=x))=ts.any (fun t=>decide (n≤t)):=by
  induction ts with
  | nil=>rfl
  | cons t r ih=>
    rw [List.any_cons,List.any_cons,ih (fun x hx=>h x (List.mem_cons_of_mem _ hx))]
    have:=h t List.mem_cons_self
    congr 1
    by_cases h1 : n=t
    · rw [decide_eq_true h1,decide_eq_true (by omega)]
    · rw [decide_eq_false h1,decide_eq_false (by omega)]
section
variable {fs : List cW} {code : List bF} {T x3 x4 x5 : PV} (F : Fit fs code) {f : Nat} (hf : f < fs.length)
include F hf
theorem aJK {rest : Option (Int × Nat × Nat)} (hnext : Ok (fun r=>r = [aJH rest]) (jJ (.int .i64 fs.length) (.int .i64 ((f : Int)+1)) T (.lst (fs.map cW.pv)) x3 x4 x5)) : ∀ pc,pc≤code.length→
    Ok (fun r=>r = [aJH (((List.range' pc (code.length - pc)).findSome? (aAp fs code f)).or rest)])
      (jK (.int .i64 f) (.int .i64 fs.length) (.int .i64 f) (.lst (code.map bF.pv)) (.int .i64 code.length) (.int .i64 pc) T (.lst (fs.map cW.pv)) x3 x4 x5 (dL (oA fs code))):=by
  have hn2:=F.n2
  have hnf:=F.nf
  have hg:=aBl F
  generalize hd : oA fs code=d at hg
  refine lI ?_ ?_
  · rw [sR,aB4]
    exact aG (aC (fun h=>by omega) (fun _=>aN (by omega) hnext))
  · intro pc hpc ih
    have hx : code[pc]? = some code[pc]:=List.getElem?_eq_getElem hpc
    have hm : code[pc]∈code:=List.getElem_mem _
    have hu:=F.u code[pc] hm
    have hil : pc<d.length:=by rw [hg.1];exact hpc
    have hv:=hg.at pc
    have e2 : d[pc]=d[pc]?.getD 0:=aEc hil
    rw [zC hpc]
    have eb : aAp fs code f pc=(aCf fs code d pc).map fun c=>(c,f,pc):=by unfold aAp;rw [hd]
    rw [eb]
    have ec : aCf fs code d pc=if d[pc]?.getD 0<0 then none
      else if can fs code[pc] (d[pc]?.getD 0)=false then some 2
      else if (eU code[pc] pc).any (fun t=>decide ((code.length : Int)≤t))=true then some 3
      else if (eU code[pc] pc).any (fun t=>!decide (d[t.toNat]?.getD 0=fT fs code[pc] (d[pc]?.getD 0)))=true then some 4
      else none:=by
      conv=>lhs;unfold aCf
      rw [hx]
    generalize hw : d[pc]?.getD 0=w at *
    generalize aCf fs code d pc=ch at *
    rw [sR]
    refine aG (aC (fun _=>?_) (fun h=>by omega))
    refine bD hpc (fun _=>rfl) (aD rfl (aA rfl (aA rfl (dH hil ?_))))
    rw [e2]
    refine aG (aC (fun h1=>?_) (fun h1=>?_))
    · rw [if_pos h1] at ec
      subst ec
      exact aN (by omega) ih
    rw [if_neg h1] at ec
    refine dH hil ?_
    rw [e2]
    refine aF (aGL (T:=T) F hm hv) (fun r hr=>?_)
    subst hr
    refine aW rfl (aW rfl (bA rfl (bW (bU (fun hc=>?_) (fun hc=>?_)))))
    · have hc : can fs code[pc] w=false:=by simpa using hc
      rw [if_pos hc] at ec
      subst ec
      exact bA rfl (bA rfl (aB rfl))
    have hc : can fs code[pc] w=true:=by simpa using hc
    rw [hc,if_neg (by simp)] at ec
    refine aF (aGI (x:=code[pc]) (by omega)) (fun r hr=>?_)
    subst hr
    have hnx:=yJ F hm hpc
    have hl10 : (eU code[pc] pc).length≤10:=by unfold eU;repeat' split<;>simp
    refine dX (aK6 (by omega) ?_)
    rw [hg.1,aMI (fun t ht=>(hnx t ht).2)]
    refine bU (fun h=>?_) (fun h=>?_)
    · rw [if_pos h] at ec
      subst ec
      exact bA rfl (bA rfl (aB rfl))
    rw [if_neg (by rw [h];simp)] at ec
    refine aK7 (by omega) (fun t=>!decide (d[t.toNat]?.getD 0=fT fs code[pc] w)) (fun t ht=>?_) ?_
    · have:=hnx t ht
      have:=aKj F hf h t ht
      show Ok _ (aAh _ _ _)
      rw [aCT]
      refine oK rfl (sX (by omega) (by rw [hg.1];omega) (fun v hv=>oK rfl (bC (aB ?_))))
      rw [hv];rfl
    · refine cN rfl (bU (fun h=>?_) (fun h=>?_))
      · rw [if_pos h] at ec
        subst ec
        exact bA rfl (bA rfl (aB rfl))
      · rw [if_neg (by rw [h];simp)] at ec
        subst ec
        exact aN (by omega) ih
end
theorem aIT {m : eG} (h : m.sized) : Ok (fun r=>r = [m.verify]) (xR m.pv):=by
  rw [aFd]
  refine aD rfl (aA rfl (aA rfl (aF (aGh h) (fun r hr=>?_))))
  subst hr
  unfold eG.verify
  refine bW (bU (fun hb=>aB ?_) (fun hb=>?_))
  · have : m.okB=false:=by simpa using hb
    rw [this];rfl
  have hb : m.okB=true:=by simpa using hb
  rw [hb,if_pos rfl]
  obtain ⟨h1,h2,h3⟩:=eG.okB_fit hb
  refine aE ?_
  have key:=lI (n:=m.funcs.length) (P:=fun f r=>r = [aJH ((List.range' f (m.funcs.length - f)).findSome? (aGN m.funcs))])
    (F:=fun f=>jJ (.int .i64 m.funcs.length) (.int .i64 f) (.lst (m.texts.map PV.str)) (.lst (m.funcs.map cW.pv)) (.int .i64 0) (.int .i64 0) (.int .i64 0)) ?_ ?_ 0 (by omega)
  · exact key
  · rw [sQ,aB4]
    exact aG (aC (fun h=>by omega) (fun _=>aB rfl))
  · intro f hf ih
    have F:=(h3 m.funcs[f] (List.getElem_mem _)).1
    rw [sQ,zC hf,aFA hf]
    refine aG (aC (fun _=>?_) (fun h=>by omega))
    refine aF (aFw F hf rfl) (fun r hr=>?_)
    subst hr
    refine bA rfl (bD hf (fun _=>rfl) (aA rfl (aE ?_)))
    exact aJK F hf ih 0 (by omega)
theorem aK8 {fs : List cW} {code : List bF} {d : List Int} {pc : Nat} (hpc : pc<code.length) (h : aCf fs code d pc=none) (h0 : ¬ d[pc]?.getD 0<0) :
    can fs code[pc] (d[pc]?.getD 0)=true∧∀ t∈eU code[pc] pc,t<code.length∧d[t.toNat]?.getD 0=fT fs code[pc] (d[pc]?.getD 0):=by
  unfold aCf at h
  rw [List.getElem?_eq_getElem hpc] at h
  simp only at h
  rw [if_neg h0] at h
  split at h
  · cases h
  rename_i h1
  split at h
  · cases h
  rename_i h2
  split at h
  · cases h
  rename_i h3
  refine ⟨by simpa using h1,fun t ht=>?_⟩
  rw [Bool.not_eq_true,List.any_eq_false] at h2 h3
  have g2:=h2 t ht
  have g3:=h3 t ht
  simp at g2 g3
  exact ⟨by omega,g3⟩
theorem aL0 {fs : List cW} (h : bad fs=none) {f : Nat} (hf : f<fs.length) {pc : Nat} (hpc : pc<fs[f].code.length) : aCf fs fs[f].code (oA fs fs[f].code) pc=none:=by
  unfold bad at h
  rw [List.findSome?_eq_none_iff] at h
  have h1:=h f (by rw [List.mem_range'_1];omega)
  rw [aFA hf,List.findSome?_eq_none_iff] at h1
  have h2:=h1 pc (by rw [List.mem_range'_1];omega)
  simpa [aAp] using h2
structure oW (m : eG) : Prop where
  sz : m.sized
  ok : m.okB=true
  bad : bad m.funcs=none
def dAt (m : eG) (f pc : Int) : Int:=(oA m.funcs (fR m.funcs f))[pc.toNat]?.getD 0
def wJ (m : eG) (f pc : Int) : bF:=(fR m.funcs f)[pc.toNat]?.getD ⟨0,0⟩
abbrev vOk (m : eG) (n : Int) (v : cB) : Prop:=bI m.funcs.length n v=true
theorem yO : jS (bs []) (bs [])=true:=aJA _
theorem nE {nf n : Int} : bI nf n dV=true:=by simp [bI,dV,yO]
theorem aKk {nf n x : Int} (h : bX x=true) : bI nf n (aB5 x)=true:=by simp [bI,aB5,yO,h]
theorem aCh {nf n : Int} {b : Bool} : bI nf n (lW b)=true:=by cases b<;>simp [bI,lW,yO,jG]
theorem aIU {nf n : Int} {s : ByteArray} (h : fU s=true) : bI nf n (aB6 s)=true:=by simp [bI,aB6,h]
theorem aMJ {nf n i : Int} (h : 0≤i∧i<n) : bI nf n (aKS i)=true:=by simp [bI,aKS,yO,h]
theorem aMK {nf n i : Int} (h : 0≤i∧i<nf) : bI nf n (aKT i)=true:=by
  have : i≤nf - 1:=by omega
  simp [bI,aKT,yO,jG,h,this]
theorem rV {nf n n' : Int} (hn : n≤n') {v : cB} (h : bI nf n v=true) : bI nf n' v=true:=by
  unfold bI at *
  split at h
  · cases h
  rename_i h0
  rw [if_neg h0]
  split at h
  · rename_i h1;rw [if_pos h1];exact h
  rename_i h1
  rw [if_neg h1]
  split at h
  · rename_i h1;rw [if_pos h1];exact h
  rename_i h2
  rw [if_neg h2]
  split at h
  · rename_i h1;rw [if_pos h1];exact h
  rename_i h3
  rw [if_neg h3]
  split at h
  · rename_i h1;rw [if_pos h1];exact h
  rename_i h4
  rw [if_neg h4]
  split at h
  · rename_i h1
    rw [if_pos h1]
    simp only [Bool.and_eq_true,decide_eq_true_eq] at *
    omega
  rename_i h5
  rw [if_neg h5]
  exact h
theorem aML {a b : ByteArray} (ha : fU a=true) (hb : fU b=true) (h : ¬ (60 : Int)<a.size+b.size) : fU (a++b)=true:=by
  simp only [fU,Bool.and_eq_true,decide_eq_true_eq,List.all_eq_true] at *
  refine ⟨by rw [ByteArray.size_append];omega,fun x hx=>?_⟩
  rw [ByteArray.data_append,Array.toList_append,List.mem_append] at hx
  rcases hx with hx | hx
  · exact ha.2 x hx
  · exact hb.2 x hx
theorem aGO {nf n : Int} {v : cB} (h : bI nf n v=true) (hk : v.k=3) : fU v.s=true:=by
  unfold bI at h
  rw [if_neg (fun e=>e.1 hk),if_neg (by omega),if_neg (by omega),if_neg (by omega),if_pos hk] at h
  simp only [Bool.and_eq_true] at h
  exact h.2
theorem aHC {nf n o : Int} {a b : cB} : bI nf n (aBk o a b).1=true:=by
  unfold aBk
  repeat' split
  all_goals first
    | exact nE
    | (rename_i h;exact aKk (by simpa using h))
theorem aNy {nf n o : Int} {a b : cB} (ha : bI nf n a=true) (hb : bI nf n b=true) : bI nf n (nG o a b).1=true:=by
  unfold nG
  split
  · split
    · rename_i h
      split
      · exact nE
      · rename_i h2
        exact aIU (aML (aGO ha h.1) (aGO hb h.2) h2)
    · exact aHC
  split
  · exact aHC
  split
  · exact aHC
  split
  · repeat' split
    all_goals first
      | exact nE
      | exact aCh
  · exact aCh
theorem oW.fit {m : eG} (g : oW m) : 1≤m.funcs.length∧m.funcs.length≤12∧∀ f∈m.funcs,Fit m.funcs f.code∧0≤f.p∧f.p≤6∧f.p≤f.lc∧f.lc≤12:=eG.okB_fit g.ok
theorem oW.code {m : eG} (g : oW m) {f : Int} (h : 0≤f∧f<m.funcs.length) : ∃ i : Nat,∃ hi : i<m.funcs.length,f=i∧fR m.funcs f=m.funcs[i].code∧Fit m.funcs m.funcs[i].code∧0≤m.funcs[i].p∧m.funcs[i].p≤6∧m.funcs[i].p≤m.funcs[i].lc∧m.funcs[i].lc≤12∧vJ m.funcs f=m.funcs[i].lc∧eJ m.funcs f=m.funcs[i].p∧
    ∀ x∈m.funcs[i].code,bV m.texts.length m.funcs.length m.funcs[i].lc m.funcs[i].code.length x.o x.a=true:=by
  obtain ⟨i,hi⟩:=Int.eq_ofNat_of_zero_le h.1
  have hl : i<m.funcs.length:=by omega
  have hm : m.funcs[i]∈m.funcs:=List.getElem_mem _
  obtain ⟨F,p1,p2,p3,p4⟩:=g.fit.2.2 _ hm
  refine ⟨i,hl,hi,by simp [fR,hi,List.getElem?_eq_getElem hl],F,p1,p2,p3,p4,by simp [vJ,hi,List.getElem?_eq_getElem hl],by simp [eJ,hi,List.getElem?_eq_getElem hl],fun x hx=>?_⟩
  have h:=g.ok
  simp only [eG.okB,Bool.and_eq_true,bN,decide_eq_true_eq,List.all_eq_true,rT] at h
  exact (h.2.2.2 _ hm).2.2.2 x hx
theorem oW.at_ {m : eG} (g : oW m) {f pc : Int} (h : 0≤f∧f<m.funcs.length) (hp : 0≤pc∧pc<(fR m.funcs f).length) (hd : 0≤dAt m f pc) :
    bV m.texts.length m.funcs.length (vJ m.funcs f) (fR m.funcs f).length (wJ m f pc).o (wJ m f pc).a=true∧
    (0≤(aV m.funcs (wJ m f pc)).1∧(aV m.funcs (wJ m f pc)).1≤dAt m f pc∧0≤(aV m.funcs (wJ m f pc)).2∧(aV m.funcs (wJ m f pc)).2≤2)∧dAt m f pc≤16∧fT m.funcs (wJ m f pc) (dAt m f pc)≤16∧
    ∀ t∈eU (wJ m f pc) pc,(0≤t∧t<(fR m.funcs f).length)∧dAt m f t=fT m.funcs (wJ m f pc) (dAt m f pc):=by
  obtain ⟨i,hi,rfl,hc,F,p1,p2,p3,p4,hlc,hpar,hins⟩:=g.code h
  obtain ⟨j,rfl⟩:=Int.eq_ofNat_of_zero_le hp.1
  have hj : j<m.funcs[i].code.length:=by rw [hc] at hp;omega
  have hx : wJ m i j=m.funcs[i].code[j]:=by simp [wJ,hc,List.getElem?_eq_getElem hj]
  have hm : m.funcs[i].code[j]∈m.funcs[i].code:=List.getElem_mem _
  have hu:=F.u _ hm
  have hdd : ∀ t : Int,dAt m i t=(oA m.funcs m.funcs[i].code)[t.toNat]?.getD 0:=fun t=>by rw [dAt,hc]
  have hb:=(aBl F).at j
  have hck:=aK8 hj (aL0 g.bad hi hj)
  have hnx:=yJ F hm hj
  rw [hx,hc,hlc]
  rw [hdd,Int.toNat_natCast] at hd ⊢
  obtain ⟨hcan,hall⟩:=hck (by omega)
  simp only [can,Bool.and_eq_true,decide_eq_true_eq] at hcan
  refine ⟨hins _ hm,⟨hu.1,hcan.1,hu.2.2⟩,hb.2,hcan.2,fun t ht=>?_⟩
  obtain ⟨q1,q2⟩:=hall t ht
  exact ⟨⟨(hnx t ht).1,q1⟩,by rw [hdd];exact q2⟩
structure FrI (m : eG) (n : Int) (f : cL) : Prop where
  fi : 0≤f.f∧f.f<m.funcs.length
  pc : 0≤f.pc∧f.pc<(fR m.funcs f.f).length
  loc : (f.loc.length : Int)=vJ m.funcs f.f
  d : 0≤dAt m f.f f.pc
  vl : ∀ v∈f.loc,vOk m n v
  vs : ∀ v∈f.stk,vOk m n v
structure aMN (m : eG) (n : Int) (f : cL) : Prop extends FrI m n f where
  h : (f.stk.length : Int)=dAt m f.f f.pc
structure aK9 (m : eG) (n : Int) (f : cL) : Prop extends FrI m n f where
  low : 1≤f.pc∧0≤dAt m f.f (f.pc - 1)∧((wJ m f.f (f.pc - 1)).o=23∨(wJ m f.f (f.pc - 1)).o=24)
  h : (f.stk.length : Int)=dAt m f.f f.pc - 1
structure HpI (m : eG) (hp : List (List cB)) (made : Int) (out : List ByteArray) : Prop where
  made : hp.length≤made∧made≤120
  recs : ∀ r∈hp,r.length≤6∧∀ v∈r,vOk m hp.length v
  out : out.length≤200
structure VmI (m : eG) (v : pI) : Prop where
  hp : HpI m v.hp v.made v.out
  steps : 0≤v.steps∧v.steps≤50000
  nfr : v.fr.length≤24
  run : v.st=0→v.fr≠[]
  top : ∀ fs0 f,v.fr=fs0++[f]→aMN m v.hp.length f∧∀ g∈fs0,aK9 m v.hp.length g
theorem FrI.mono {m : eG} {n n' : Int} (hn : n≤n') {f : cL} (h : FrI m n f) : FrI m n' f:=
  ⟨h.fi,h.pc,h.loc,h.d,fun v hv=>rV hn (h.vl v hv),fun v hv=>rV hn (h.vs v hv)⟩
theorem aK9.mono {m : eG} {n n' : Int} (hn : n≤n') {f : cL} (h : aK9 m n f) : aK9 m n' f:=⟨h.toFrI.mono hn,h.low,h.h⟩
theorem FrI.small {m : eG} (g : oW m) {n : Int} {f : cL} (h : FrI m n f) : f.loc.length≤12:=by
  obtain ⟨i,hi,he,hc,F,p1,p2,p3,p4,hlc,hpar,hins⟩:=g.code h.fi
  have:=h.loc
  omega
theorem FrI.dle {m : eG} (g : oW m) {n : Int} {f : cL} (h : FrI m n f) : dAt m f.f f.pc≤16:=(g.at_ h.fi h.pc h.d).2.2.1
theorem VmI.sz {m : eG} (g : oW m) {v : pI} (h : VmI m v) : Sz v:=by
  have:=h.hp.made
  have:=h.hp.out
  have:=h.nfr
  refine ⟨by omega,by omega,by omega,fun f hf=>?_,fun r hr=>by have:=(h.hp.recs r hr).1;omega⟩
  rcases List.eq_nil_or_concat v.fr with h0 | ⟨fs0,f0,h0⟩
  · rw [h0] at hf;cases hf
  · obtain ⟨t,l⟩:=h.top fs0 f0 (by rw [h0];simp)
    rw [h0] at hf
    simp only [List.concat_eq_append,List.mem_append,List.mem_singleton] at hf
    rcases hf with hf | rfl
    · have:=(l f hf).toFrI.small g
      have:=(l f hf).toFrI.dle g
      have:=(l f hf).h
      omega
    · have:=t.toFrI.small g
      have:=t.toFrI.dle g
      have:=t.h
      omega
theorem VmI.goes {m : eG} (g : oW m) {v : pI} (h : VmI m v) (h0 : v.st=0) : ∃ fs0 f,aLY m v fs0 f:=by
  rcases List.eq_nil_or_concat v.fr with e | ⟨fs0,f,e⟩
  · exact absurd e (h.run h0)
  rw [List.concat_eq_append] at e
  refine ⟨fs0,f,?_⟩
  obtain ⟨t,l⟩:=h.top fs0 f e
  obtain ⟨i,hi,he,hc,F,p1,p2,p3,p4,hlc,hpar,hins⟩:=g.code t.fi
  obtain ⟨a1,a2,a3,a4,a5⟩:=g.at_ t.fi t.pc t.d
  have hx : iB m.funcs f=wJ m f.f f.pc:=rfl
  have hh:=t.h
  have hm:=h.hp.made
  have hn:=h.nfr
  rw [e,List.length_append,List.length_singleton] at hn
  refine ⟨e,t.fi,t.pc,by rw [hc];exact F.n2,by rw [hx,t.loc];exact a1,by rw [hx,hh];exact ⟨a2.1,a2.2.1⟩,fun b=>?_⟩
  refine ⟨g.fit.2.1,?_,fun f hf=>?_,by omega,fun f hf=>?_,by have:=t.toFrI.small g;exact this,?_,fun r hr=>(h.hp.recs r hr).1,by omega,by omega,h.hp.out,fun v hv=>t.vs v (List.mem_of_mem_drop hv)⟩
  · have h:=g.ok
    simp only [eG.okB,Bool.and_eq_true,bN,decide_eq_true_eq] at h
    omega
  · have:=g.fit.2.2 f hf
    exact this.2
  · have:=(l f hf).toFrI.dle g
    have:=(l f hf).h
    omega
  · simp only [List.length_take,List.length_drop]
    omega
structure aKl (m : eG) (v : pI) (f : cL) (x : bF) (fr : cL) (hp : List (List cB)) (made : Int) (out : List ByteArray) : Prop where
  ff : fr.f=f.f
  pc : fr.pc∈eU x f.pc
  loc : fr.loc.length=f.loc.length
  len : (fr.stk.length : Int)=fT m.funcs x f.stk.length
  vl : ∀ y∈fr.loc,vOk m hp.length y
  vs : ∀ y∈fr.stk,vOk m hp.length y
  n : v.hp.length≤hp.length
  hpI : HpI m hp made out
structure aNf (m : eG) (v : pI) (fs0 : List cL) (f : cL) (x : bF) (fr g : cL) : Prop where
  n : fs0.length+1<24
  o : x.o=23∨x.o=24
  frr : fr=⟨f.f,f.pc+1,f.loc,f.stk.take (f.stk.length - (aV m.funcs x).1.toNat)⟩
  gg : ∃ i args,g=pG m.funcs i args∧(0≤i∧i<m.funcs.length)∧(args.length : Int)=eJ m.funcs i∧∀ y∈args,vOk m v.hp.length y
def aN5 (m : eG) (v : pI) (fs0 : List cL) (f : cL) (x : bF) : aIL→Prop
  | .trap _=>True
  | .next fr hp made out=>aKl m v f x fr hp made out
  | .call fr g=>aNf m v fs0 f x fr g
  | .ret a=>vOk m v.hp.length a
theorem aKm {m : eG} {n : Int} {l : List cB} (h : ∀ y∈l,vOk m n y) (i : Nat) : vOk m n (l[i]?.getD dV):=by
  cases hx : l[i]? with
  | none=>exact nE
  | some y=>exact h y (List.mem_of_getElem? hx)
theorem aJL {m : eG} {v : pI} (h : HpI m v.hp v.made v.out) (i : Nat) : (v.hp[i]?.getD []).length≤6∧∀ y∈v.hp[i]?.getD [],vOk m v.hp.length y:=by
  cases hx : v.hp[i]? with
  | none=>simp
  | some y=>exact h.recs y (List.mem_of_getElem? hx)
theorem aL1 {m : eG} {n : Int} {l : List cB} (h : ∀ y∈l,vOk m n y) {y : cB} (hy : vOk m n y) (i : Nat) : ∀ z∈l.set i y,vOk m n z:=by
  intro z hz
  rcases List.mem_or_eq_of_mem_set hz with h1 | rfl
  · exact h z h1
  · exact hy
theorem aHD {m : eG} {n : Int} {a b : List cB} (h : ∀ y∈a,vOk m n y) (h' : ∀ y∈b,vOk m n y) : ∀ y∈a++b,vOk m n y:=by
  intro y hy
  rcases List.mem_append.1 hy with h1 | h1
  · exact h y h1
  · exact h' y h1
theorem aGP {x : bF} {pc : Int} (h : x.o≠17∧x.o≠25) : pc+1∈eU x pc:=by simp [eU,h]
theorem aFB {x : bF} {pc : Int} (h : x.o=17∨x.o=18∨x.o=19) : x.a∈eU x pc:=by unfold eU;rw [if_pos h];simp
section
variable {m : eG} {v : pI} {fs0 : List cL} {f : cL} {x : bF}
theorem aNz (g : oW m) (h : VmI m v) (t : aMN m v.hp.length f) (hx : iB m.funcs f=x) (hn : fs0.length+1≤24) : aN5 m v fs0 f x (aAo m v fs0 f):=by
  obtain ⟨a1,a2,a3,a4,a5⟩:=g.at_ t.fi t.pc t.d
  have hi : wJ m f.f f.pc=x:=hx
  rw [hi] at a1 a2 a4 a5
  have hh:=t.h
  rw [← hh] at a2 a3 a4
  rw [← t.loc] at a1
  have ib:=zG a1
  show aN5 m v fs0 f x (dE m ⟨f.f,f.pc+1,f.loc,f.stk.take (f.stk.length - (aV m.funcs (iB m.funcs f)).1.toNat)⟩ (f.stk.drop (f.stk.length - (aV m.funcs (iB m.funcs f)).1.toNat)) (fs0.length+1) v.hp v.made v.out (iB m.funcs f))
  rw [hx]
  generalize hb : f.stk.length - (aV m.funcs x).1.toNat=b
  have hlt : ((f.stk.take b).length : Int)=f.stk.length - (aV m.funcs x).1:=by rw [List.length_take];omega
  have hld : ((f.stk.drop b).length : Int)=(aV m.funcs x).1:=by rw [List.length_drop];omega
  have kt : ∀ y∈f.stk.take b,vOk m v.hp.length y:=fun y hy=>t.vs y (List.mem_of_mem_take hy)
  have kd : ∀ y∈f.stk.drop b,vOk m v.hp.length y:=fun y hy=>t.vs y (List.mem_of_mem_drop hy)
  have hlef : fT m.funcs x f.stk.length=f.stk.length - (aV m.funcs x).1+(aV m.funcs x).2:=rfl
  generalize htk : f.stk.take b=T at *
  generalize hdr : f.stk.drop b=D at *
  have ka : vOk m v.hp.length (D.headD dV):=by
    cases D with
    | nil=>exact nE
    | cons y r=>exact kd y (by simp)
  have kb : vOk m v.hp.length (D.tail.headD dV):=by
    cases D with
    | nil=>exact nE
    | cons y r=>cases r with
      | nil=>exact nE
      | cons z r=>exact kd z (by simp)
  have ktl : ∀ y∈D.tail,vOk m v.hp.length y:=fun y hy=>kd y (List.mem_of_mem_tail hy)
  have go : ∀ (l : List cB) (pc : Int),pc∈eU x f.pc→(∀ y∈l,vOk m v.hp.length y)→(l.length : Int)=(aV m.funcs x).2→aKl m v f x ⟨f.f,pc,f.loc,T++l⟩ v.hp v.made v.out:=fun l pc hpc hl hn=>
    ⟨rfl,hpc,rfl,by rw [hlef,List.length_append];omega,t.vl,aHD kt hl,Nat.le_refl _,h.hp⟩
  have go0 : ∀ pc : Int,pc∈eU x f.pc→(aV m.funcs x).2=0→aKl m v f x ⟨f.f,pc,f.loc,T⟩ v.hp v.made v.out:=fun pc hpc hn=>by
    have:=go [] pc hpc (by simp) (by simp [hn])
    simpa using this
  have one : ∀ y,vOk m v.hp.length y→∀ z∈[y],vOk m v.hp.length z:=fun y hy z hz=>by rw [List.mem_singleton] at hz;rw [hz];exact hy
  have two : ∀ y y',vOk m v.hp.length y→vOk m v.hp.length y'→∀ z∈[y,y'],vOk m v.hp.length z:=fun y y' hy hy' z hz=>by
    simp only [List.mem_cons,List.not_mem_nil,or_false] at hz
    rcases hz with rfl | rfl
    · exact hy
    · exact hy'
  obtain ⟨⟨o1,o2⟩,i3,i67,i20,i21,i23,i5,ij,i1⟩:=ib
  have inc : x.o≠17→x.o≠25→f.pc+1∈eU x f.pc:=fun h1 h2=>aGP ⟨h1,h2⟩
  unfold dE
  simp only
  by_cases h1 : x.o=1
  · rw [if_pos h1]
    exact go _ _ (inc (by omega) (by omega)) (one _ (aKk (i1 h1))) (by simp [aV,h1])
  rw [if_neg h1]
  by_cases h2 : x.o=2
  · rw [if_pos h2]
    exact go _ _ (inc (by omega) (by omega)) (one _ aCh) (by simp [aV,h2])
  rw [if_neg h2]
  by_cases h3 : x.o=3
  · rw [if_pos h3]
    refine go _ _ (inc (by omega) (by omega)) (one _ (aIU ?_)) (by simp [aV,h3])
    have hok:=g.ok
    simp only [eG.okB,Bool.and_eq_true,bN,decide_eq_true_eq,List.all_eq_true] at hok
    have:=i3 h3
    rw [List.getElem?_eq_getElem (by omega)]
    exact hok.2.2.1 _ (List.getElem_mem _)
  rw [if_neg h3]
  by_cases h4 : x.o=4
  · rw [if_pos h4]
    exact go _ _ (inc (by omega) (by omega)) (one _ nE) (by simp [aV,h4])
  rw [if_neg h4]
  by_cases h5 : x.o=5
  · rw [if_pos h5]
    exact go _ _ (inc (by omega) (by omega)) (one _ (aMK (i5 (.inl h5)))) (by simp [aV,h5])
  rw [if_neg h5]
  by_cases h6 : x.o=6
  · rw [if_pos h6]
    exact go _ _ (inc (by omega) (by omega)) (one _ (aKm t.vl _)) (by simp [aV,h6])
  rw [if_neg h6]
  by_cases h7 : x.o=7
  · rw [if_pos h7]
    exact ⟨rfl,inc (by omega) (by omega),by simp,by rw [hlef];simp only;rw [hlt];simp [aV,h7],aL1 t.vl ka _,kt,Nat.le_refl _,h.hp⟩
  rw [if_neg h7]
  by_cases h8 : x.o=8
  · rw [if_pos h8]
    exact go _ _ (inc (by omega) (by omega)) (two _ _ ka ka) (by simp [aV,h8])
  rw [if_neg h8]
  by_cases h9 : x.o=9
  · rw [if_pos h9]
    exact go _ _ (inc (by omega) (by omega)) (by simp) (by simp [aV,h9])
  rw [if_neg h9]
  by_cases h10 : x.o=10
  · rw [if_pos h10]
    exact go _ _ (inc (by omega) (by omega)) (two _ _ kb ka) (by simp [aV,h10])
  rw [if_neg h10]
  by_cases h15 : x.o≤15
  · rw [if_pos h15]
    have hu : (aV m.funcs x).2=1:=by
      have : x.o=11∨x.o=12∨x.o=13∨x.o=14∨x.o=15:=by omega
      rcases this with h | h | h | h | h<;>simp [aV,h]
    split
    · trivial
    · exact go _ _ (inc (by omega) (by omega)) (one _ (aNy ka kb)) (by rw [hu];rfl)
  rw [if_neg h15]
  by_cases h16 : x.o=16
  · rw [if_pos h16]
    split
    · trivial
    · refine go _ _ (inc (by omega) (by omega)) (one _ ?_) (by simp [aV,h16])
      unfold yH
      split
      · exact nE
      · exact aCh
  rw [if_neg h16]
  by_cases h17 : x.o=17
  · rw [if_pos h17]
    exact go0 _ (aFB (.inl h17)) (by simp [aV,h17])
  rw [if_neg h17]
  by_cases h19 : x.o≤19
  · rw [if_pos h19]
    have h89 : x.o=18∨x.o=19:=by omega
    have hu : (aV m.funcs x).2=0:=by rcases h89 with h | h<;>simp [aV,h]
    split
    · trivial
    split
    · exact go0 _ (aFB (.inr h89)) hu
    · exact go _ _ (inc (by omega) (by omega)) (by simp) (by rw [hu];rfl)
  rw [if_neg h19]
  by_cases h20 : x.o=20
  · rw [if_pos h20]
    split
    · trivial
    rename_i hm
    have hm0:=h.hp.made
    have hl : (v.hp++[List.replicate x.a.toNat dV]).length=v.hp.length+1:=by simp
    refine ⟨rfl,inc (by omega) (by omega),rfl,?_,fun y hy=>rV (by rw [hl];omega) (t.vl y hy),aHD (fun y hy=>rV (by rw [hl];omega) (kt y hy)) (fun y hy=>?_),by rw [hl];omega,⟨by rw [hl];omega,fun r hr=>?_,h.hp.out⟩⟩
    · rw [hlef];simp only [List.length_append,List.length_singleton]
      have hu : (aV m.funcs x).2=1:=by simp [aV,h20]
      omega
    · rw [List.mem_singleton] at hy
      rw [hy]
      exact aMJ (by rw [hl];omega)
    · rcases List.mem_append.1 hr with hr | hr
      · exact ⟨(h.hp.recs r hr).1,fun y hy=>rV (by rw [hl];omega) ((h.hp.recs r hr).2 y hy)⟩
      · rw [List.mem_singleton] at hr
        rw [hr]
        have:=i20 h20
        refine ⟨by rw [List.length_replicate];omega,fun y hy=>?_⟩
        rw [List.eq_of_mem_replicate hy]
        exact nE
  rw [if_neg h20]
  by_cases h21 : x.o=21
  · rw [if_pos h21]
    split
    · trivial
    split
    · trivial
    exact go _ _ (inc (by omega) (by omega)) (one _ (aKm (aJL h.hp _).2 _)) (by simp [aV,h21])
  rw [if_neg h21]
  by_cases h22 : x.o=22
  · rw [if_pos h22]
    split
    · trivial
    split
    · trivial
    have hl : ∀ r,(v.hp.set (D.headD dV).n.toNat r).length=v.hp.length:=fun r=>List.length_set
    refine ⟨rfl,inc (by omega) (by omega),rfl,by rw [hlef];simp only;rw [hlt];simp [aV,h22],fun y hy=>by rw [vOk,hl];exact t.vl y hy,fun y hy=>by rw [vOk,hl];exact kt y hy,by rw [hl];omega,⟨by rw [hl];exact h.hp.made,fun r hr=>?_,h.hp.out⟩⟩
    rw [hl]
    rcases List.mem_or_eq_of_mem_set hr with hr | hr
    · exact h.hp.recs r hr
    · rw [hr]
      exact ⟨by rw [List.length_set];exact (aJL h.hp _).1,aL1 (aJL h.hp _).2 kb _⟩
  rw [if_neg h22]
  by_cases h23 : x.o=23
  · rw [if_pos h23]
    have hxa:=i23 h23
    have hu : aV m.funcs x=(x.a+1,1):=by
      have : 0≤x.a∧x.a≤6:=hxa
      simp [aV,h23,this]
    rw [hu] at hld hb
    simp only at hld hb
    split
    · trivial
    rename_i hk
    have hk : (D.headD dV).k=5:=by omega
    split
    · trivial
    rename_i hp
    have hp : eJ m.funcs (D.headD dV).n=x.a:=by omega
    split
    · trivial
    rename_i hd
    refine ⟨?_,.inl h23,?_,_,_,rfl,aC5 ka hk,by rw [List.length_tail,hp];omega,ktl⟩
    · omega
    · rw [← htk,← hb,hu]
  rw [if_neg h23]
  by_cases h24 : x.o=24
  · rw [if_pos h24]
    have hxa:=i5 (.inr h24)
    have hu : aV m.funcs x=(eJ m.funcs x.a,1):=by
      have : 0≤x.a∧x.a<m.funcs.length:=hxa
      simp [aV,h24,this]
    rw [hu] at hld hb
    simp only at hld hb
    split
    · trivial
    rename_i hd
    refine ⟨?_,.inr h24,?_,_,_,rfl,hxa,hld,kd⟩
    · omega
    · rw [← htk,← hb,hu]
  rw [if_neg h24]
  by_cases h25 : x.o=25
  · rw [if_pos h25]
    exact ka
  rw [if_neg h25]
  have h26 : x.o=26:=by omega
  split
  · trivial
  rename_i ho
  have:=h.hp.out
  exact ⟨rfl,inc (by omega) (by omega),rfl,by rw [hlef];simp only;rw [hlt];simp [aV,h26],t.vl,kt,Nat.le_refl _,⟨h.hp.made,h.hp.recs,by simp;omega⟩⟩
end
theorem aCi {α : Type} {a b : List α} {x y : α} (h : a++[x]=b++[y]) : a=b∧x=y:=by
  have:=List.append_inj' h rfl
  exact ⟨this.1,by simpa using this.2⟩
theorem aK9.top {m : eG} {n : Int} {f : cL} {a : cB} (h : aK9 m n f) (ha : vOk m n a) : aMN m n ⟨f.f,f.pc,f.loc,f.stk++[a]⟩:=
  ⟨⟨h.fi,h.pc,h.loc,h.d,h.vl,aHD h.vs (fun y hy=>by rw [List.mem_singleton] at hy;rw [hy];exact ha)⟩,by
    have:=h.h
    simp only [List.length_append,List.length_singleton]
    omega⟩
theorem aIV {m : eG} (g : oW m) {n i : Int} {args : List cB} (hi : 0≤i∧i<m.funcs.length) (hn : (args.length : Int)=eJ m.funcs i) (ha : ∀ y∈args,vOk m n y) : aMN m n (pG m.funcs i args):=by
  obtain ⟨k,hk,he,hc,F,p1,p2,p3,p4,hlc,hpar,hins⟩:=g.code hi
  have h0 : dAt m i 0=0:=by
    rw [dAt,hc,Int.toNat_zero,aIG F];rfl
  refine ⟨⟨hi,?_,?_,?_,?_,fun y hy=>by cases hy⟩,?_⟩
  · show (0 : Int)≤0∧0<((fR m.funcs i).length : Int)
    have:=F.n1
    rw [hc];omega
  · show ((args++List.replicate ((vJ m.funcs i).toNat - args.length) dV).length : Int)=vJ m.funcs i
    rw [List.length_append,List.length_replicate]
    omega
  · show 0≤dAt m i 0
    omega
  · refine aHD ha (fun y hy=>?_)
    rw [List.eq_of_mem_replicate hy]
    exact nE
  · show ((0 : Nat) : Int)=dAt m i 0
    omega
theorem VmI.step {m : eG} (g : oW m) {v : pI} (h : VmI m v) : VmI m (nD m v):=by
  by_cases h0 : v.st≠0
  · have : nD m v=v:=by unfold nD;rw [if_pos h0]
    rw [this];exact h
  have h0 : v.st=0:=by omega
  by_cases h5 : v.steps=50000
  · have : nD m v=v:=by unfold nD;rw [if_neg (by omega),if_pos h5]
    rw [this];exact h
  obtain ⟨fs0,f,G⟩:=h.goes g h0
  obtain ⟨t,low⟩:=h.top fs0 f G.fr
  have hnf:=h.nfr
  rw [G.fr,List.length_append,List.length_singleton] at hnf
  have hst:=h.steps
  rw [aC8 h0 h5 G.fr]
  have A:=aNz (fs0:=fs0) g h t rfl hnf
  obtain ⟨a1,a2,a3,a4,a5⟩:=g.at_ t.fi t.pc t.d
  have hh:=t.h
  have hx : wJ m f.f f.pc=iB m.funcs f:=rfl
  rw [hx] at a1 a2 a4 a5
  cases ha : aAo m v fs0 f with
  | trap c=>
    exact ⟨h.hp,by show 0≤v.steps+1∧v.steps+1≤50000;omega,h.nfr,fun h=>absurd h (by show (2 : Int)≠0;omega),h.top⟩
  | next fr hp made out=>
    rw [ha] at A
    have A : aKl m v f (iB m.funcs f) fr hp made out:=A
    obtain ⟨b1,b2⟩:=a5 _ A.pc
    refine ⟨A.hpI,by show 0≤v.steps+1∧v.steps+1≤50000;omega,by show (fs0++[fr]).length≤24;rw [List.length_append,List.length_singleton];exact hnf,fun _=>by show fs0++[fr]≠[];simp,fun fs1 f1 he=>?_⟩
    obtain ⟨rfl,rfl⟩:=aCi (show fs0++[fr]=fs1++[f1] from he)
    refine ⟨⟨⟨by rw [A.ff];exact t.fi,by rw [A.ff];exact b1,by rw [A.ff,A.loc];exact t.loc,by rw [A.ff,b2];have:=A.len;rw [hh] at this;omega,A.vl,A.vs⟩,by rw [A.len,A.ff,b2,hh]⟩,fun f hf=>(low f hf).mono (n':=(hp.length : Int)) (by have:=A.n;omega)⟩
  | call fr gg=>
    rw [ha] at A
    have A : aNf m v fs0 f (iB m.funcs f) fr gg:=A
    obtain ⟨i,args,rfl,hi,hn,hv⟩:=A.gg
    have hnx : f.pc+1∈eU (iB m.funcs f) f.pc:=aGP (by have:=A.o;omega)
    obtain ⟨b1,b2⟩:=a5 _ hnx
    have hu2 : (aV m.funcs (iB m.funcs f)).2=1:=by
      have ib:=zG a1
      rcases A.o with ho | ho
      · have:=ib.2.2.2.2.2.1 ho
        simp [aV,ho,this]
      · have:=ib.2.2.2.2.2.2.1 (.inr ho)
        simp [aV,ho,this]
    have hlef : fT m.funcs (iB m.funcs f) (dAt m f.f f.pc)=dAt m f.f f.pc - (aV m.funcs (iB m.funcs f)).1+(aV m.funcs (iB m.funcs f)).2:=rfl
    refine ⟨h.hp,by show 0≤v.steps+1∧v.steps+1≤50000;omega,by show (fs0++[fr,pG m.funcs i args]).length≤24;rw [List.length_append];have:=A.n;simp only [List.length_cons,List.length_nil];omega,fun _=>by show fs0++[fr,pG m.funcs i args]≠[];simp,fun fs1 f1 he=>?_⟩
    have he : fs0++[fr,pG m.funcs i args]=fs1++[f1]:=he
    rw [show fs0++[fr,pG m.funcs i args]=(fs0++[fr])++[pG m.funcs i args] by simp] at he
    obtain ⟨rfl,rfl⟩:=aCi he
    refine ⟨aIV g hi hn hv,fun y hy=>?_⟩
    rcases List.mem_append.1 hy with hy | hy
    · exact low y hy
    · rw [List.mem_singleton] at hy
      rw [hy,A.frr]
      refine ⟨⟨t.fi,b1,t.loc,by show 0≤dAt m f.f (f.pc+1);rw [b2];omega,t.vl,fun y hy=>t.vs y (List.mem_of_mem_take hy)⟩,?_,?_⟩
      · show 1≤f.pc+1∧0≤dAt m f.f (f.pc+1 - 1)∧((wJ m f.f (f.pc+1 - 1)).o=23∨(wJ m f.f (f.pc+1 - 1)).o=24)
        rw [show f.pc+1 - 1=f.pc by omega]
        exact ⟨by have:=t.pc;omega,t.d,A.o⟩
      · show ((f.stk.take (f.stk.length - (aV m.funcs (iB m.funcs f)).1.toNat)).length : Int)=dAt m f.f (f.pc+1) - 1
        rw [b2,List.length_take]
        omega
  | ret a=>
    rw [ha] at A
    have A : vOk m v.hp.length a:=A
    by_cases hf : fs0 = []
    · have e : aBm m v fs0 (.ret a)=⟨[],v.hp,v.made,v.out,1,v.tr,a,v.steps+1⟩:=if_pos hf
      rw [e]
      exact ⟨h.hp,by show 0≤v.steps+1∧v.steps+1≤50000;omega,by simp,fun h=>absurd h (by show (1 : Int)≠0;omega),fun fs1 f1 he=>by simp at he⟩
    · have e : aBm m v fs0 (.ret a)=⟨aCe a fs0,v.hp,v.made,v.out,v.st,v.tr,v.val,v.steps+1⟩:=if_neg hf
      rw [e]
      rcases List.eq_nil_or_concat fs0 with e0 | ⟨fs1,f1,e1⟩
      · exact absurd e0 hf
      rw [List.concat_eq_append] at e1
      subst e1
      rw [vK]
      simp only [List.length_append,List.length_singleton] at hnf
      refine ⟨h.hp,by show 0≤v.steps+1∧v.steps+1≤50000;omega,by simp only [List.length_append,List.length_singleton];omega,fun _=>by simp,fun fs2 f2 he=>?_⟩
      obtain ⟨rfl,rfl⟩:=aCi he
      exact ⟨(low f1 (by simp)).top A,fun y hy=>low y (by simp [hy])⟩
def aN6 (x : PV) : Prop:=∃ o a : Int,x = .agg [.int .i64 o,.int .i64 a]∧(-9223372036854775808≤o∧o≤9223372036854775807)∧(-9223372036854775808≤a∧a≤9223372036854775807)
def Cd (cs : List PV) : Prop:=∀ x∈cs,aN6 x
theorem Cd.el {cs : List PV} (h : Cd cs) : ∀ x∈cs,x.isEl 2 true=true:=by
  intro x hx
  obtain ⟨o,a,rfl,_⟩:=h x hx
  rfl
theorem Cd.nil : Cd []:=fun x hx=>by cases hx
theorem Cd.append {a b : List PV} (h : Cd a) (k : Cd b) : Cd (a++b):=fun x hx=>(List.mem_append.1 hx).elim (h x) (k x)
theorem Cd.one {o a : Int} (h : -9223372036854775808≤o∧o≤9223372036854775807) (k : -9223372036854775808≤a∧a≤9223372036854775807) : Cd [.agg [.int .i64 o,.int .i64 a]]:=by
  intro x hx
  simp only [List.mem_singleton] at hx
  exact ⟨o,a,hx,h,k⟩
section
variable {P : R → Prop} {k : R → Option R}
end
def aOk : PV→Bool
  | .int .i64 n=>decide (-1000000000≤n)&&decide (n≤1000000000)
  | _=>false
def aHE (x : PV) : Prop:=∃ p lc : Int,∃ cs : List PV,x = .agg [.int .i64 p,.int .i64 lc,.lst cs]∧(0≤p∧p≤2)∧(0≤lc∧lc≤100)∧Cd cs∧1≤(cs.length : Int)∧(cs.length : Int)≤100000000
structure Asm (l : List Int) (fs : List PV) (t lc : Int) : Prop where
  hl : Bts l
  hf : ∀ x∈fs,aHE x
  hn : fs.length≤1000
  ht : 0≤t∧t≤1000
  hlc : 1≤lc∧lc≤1000
theorem aHE.el {fs : List PV} (h : ∀ x∈fs,aHE x) : ∀ x∈fs,x.isEl 3 true=true:=by
  intro x hx
  obtain ⟨p,lc,cs,rfl,_⟩:=h x hx
  rfl
def aOl (l : List Int) (fs : List PV) (t lc : Int) (mn : PV) (A B0 B : Int) (r : R) : Prop:=∃ a s : Int,∃ cs : List PV,r = [.lst fs,.int .i64 t,.int .i64 lc,mn,uR l,.int .i64 a,.int .i64 s,.lst cs]∧0≤a∧a≤A∧0≤s∧s<65521∧B0≤cs.length∧(cs.length : Int)≤B∧Cd cs
def aL2 (l : List Int) (fs : List PV) (t lc : Int) (mn : PV) (c : Int) (f : PV→PV→PV→PV→PV→PV→PV→PV→Option R) : Prop:=
  ∀ (a s : Int) (cs : List PV),0≤a∧a+c≤1000000000∧0≤s∧s<65521→(cs.length : Int)+c≤1000000000→Cd cs→
    Ok (aOl l fs t lc mn (a+c) cs.length (cs.length+c)) (f (.lst fs) (.int .i64 t) (.int .i64 lc) mn (uR l) (.int .i64 a) (.int .i64 s) (.lst cs))
section
variable {P : R → Prop} {k : R → Option R} {l : List Int} {fs : List PV} {t lc : Int} {mn : PV}
theorem aL2.mono {c c' : Int} {f : PV→PV→PV→PV→PV→PV→PV→PV→Option R} (H : aL2 l fs t lc mn c f) (hc : 0≤c∧c≤c') : aL2 l fs t lc mn c' f:=by
  intro a s cs h0 hl hcs
  refine (H a s cs (by omega) (by omega) hcs).mono ?_
  rintro r ⟨a',s',cs',hr,h1,h2,h3,h4,h5,h6,h7⟩
  exact ⟨a',s',cs',hr,h1,by omega,h3,h4,h5,by omega,h7⟩
section
def Par (fs : List PV) (i p : Int) : Prop:=0≤i∧i<fs.length∧(0≤p∧p≤2)∧∃ q r : PV,fs[i.toNat]? = some (.agg [.int .i64 p,q,r])
end
end
section
variable {l : List Int} {fs : List PV} {t lc : Int} {mn : PV}
section
end
section
end
end
def aFC (x : PV) : Prop:=∃ b : ByteArray,x = .str b∧b.size≤1000
theorem aFC.el {ts : List PV} (h : ∀ x∈ts,aFC x) : ∀ x∈ts,x.isEl 1 false=true:=by
  intro x hx
  obtain ⟨b,rfl,_⟩:=h x hx
  rfl
def aOm (l : List Int) (A : Int) (r : R) : Prop:=∃ a s : Int,∃ ts fs : List PV,r = [.agg [.lst ts,.lst fs],uR l,.int .i64 a,.int .i64 s]∧0≤a∧a≤A∧0≤s∧s<65521∧(∀ x∈ts,aFC x)∧ts.length≤10∧(∀ x∈fs,aHE x)∧1≤fs.length∧fs.length≤10
section
variable {l : List Int} (hl : Bts l) {ts : List PV} (hts : ∀ x ∈ ts, aFC x) (htn : ts.length ≤ 10)
include hl hts htn
end
end Go.Proofs.YthkofpnllaapeaaGreatDoor
