/-
  Texts of the proof, part 1: a value-level evaluator and its soundness, what the functions compute, laws about it.
  Conditions: none.
-/
import Derived.Calls
import Derived.KernelRfl
import Derived.Orders
import Derived.IntWalk
import Derived.Test.YtllmobkkbpdchaaGreatDoorProg
import Derived.Lib.AppendIntMem
import Derived.Lib.SlicesCompact
import Derived.Lib.ItoaNum
import Derived.Laws.IdiomCopy
import Derived.Laws.Cells
import Derived.Below
set_option linter.all false
namespace Go.Proofs.YtllmobkkbpdchaaGreatDoor
noncomputable section
open Go
inductive PV where
 | bool (b : Bool)
 | int (k : IntKind) (n : Int)
 | str (s : ByteArray)
 | nil
 | nilf
 | agg (cs : List PV)
 | lst (xs : List PV)
 | bx (cs : List PV)
 | fn (f : Nat) (caps : List PV)
 | tup (cs : List PV)
 | hole
 deriving Inhabited
abbrev jW:=List (PV × Nat)
inductive DV where
 | p (v : PV)
 | nils
 | agg (cs : List DV)
 | tup (cs : List DV)
 | fn (f : Nat) (caps : List DV)
 | ptr (b off : Nat)
 | ref (l : Nat) (path : jW)
 | sref (l : Nat) (path : jW) (lo hi : PV)
 | eptr (l : Nat) (path : jW) (i : PV) (off : Nat)
 | fptr (x : PV) (s : Nat) (g : Bool) (off : Nat)
 | bptr (c : PV) (off : Nat)
 | gptr (l : Nat) (path : jW) (i : PV) (off : Nat)
 | nilq (c : PV) (neg : Bool)
 | bsl (b n : Nat)
 | dead
 deriving Inhabited
inductive OTy where
 | leaf
 | own (s e : Nat) (g : Bool) (cts : List OTy)
 deriving Inhabited
namespace OTy
def s : OTy→Nat | .own s _ _ _=>s | .leaf=>0
def e : OTy→Nat | .own _ e _ _=>e | .leaf=>0
def g : OTy→Bool | .own _ _ g _=>g | .leaf=>false
def ct (o : OTy) (j : Nat) : OTy:=match o with
 | .own _ _ _ cts=>cts.getD j .leaf
 | .leaf=>.leaf
def isLeaf : OTy→Bool | .leaf=>true | _=>false
def along (o : OTy) : List (PV × Nat)→OTy
 | []=>o
 | (_,j)::r=>(o.ct j).along r
def plain (o : OTy) : Bool:=match o with
 | .own _ _ _ cts=>cts.all isLeaf
 | .leaf=>false
mutual
def same : OTy→OTy→Bool
 | .leaf,.leaf=>true
 | .own s e g c,.own s' e' g' c'=>Nat.beq s s'&&Nat.beq e e'&&g==g'&&sames c c'
 | _,_=>false
def sames : List OTy→List OTy→Bool
 | [],[]=>true
 | a::as_,b::bs=>same a b&&sames as_ bs
 | _,_=>false
end
end OTy
def _root_.Go.Proofs.YtllmobkkbpdchaaGreatDoor.OTy.shallow (o : OTy) : Bool:=match o with
 | .own _ _ _ cts=>cts.all λc=>c.isLeaf||c.plain
 | .leaf=>true
inductive TyI where
 | bool | int (k : IntKind) | str | ptr | func
 | slice (e : Nat)
 | struct (fs : List (Nat × Nat))
 | array (n e : Nat)
 | other
 deriving Inhabited,Repr,DecidableEq
structure TyR where
 d : TyI
 size : Nat
 bytes : Nat
 eq : Bool
 deriving Inhabited,Repr,DecidableEq
abbrev pS:=List (Option TyR)
def nT : TypeDesc→TyI
 | .bool=>.bool
 | .int k=>.int k
 | .string=>.str
 | .pointer _=>.ptr
 | .func ..=>.func
 | .slice e=>.slice e
 | .struct fs=>.struct (fs.toList.map λf=>(f.offset,f.type))
 | .array n e=>.array n e
 | _=>.other
def aTg (P : Program) (t : Nat) : TypeDesc→Bool
 | .struct fs=>!P.stoodInHeld t&&!P.eqGuardType P.depth t&&fs.all λf=>f.name≠ "_"
 | _=>true
def aXR (P : Program) (t : Nat) : Option TyR:=
 match P.info? t,P.underlying t with
 | some i,some d=>some { size:=i.size,bytes:=i.bytes,d:=nT d,eq:=aTg P t d}
 | _,_=>none
def aM (P : Program) : pS:=(List.range P.types.size).map (aXR P)
def pS.at (T : pS) (t : Nat) : TyR:=match T[t]? with
 | some (some r)=>r
 | _=>⟨.other,0,0,false⟩
def TyR.isAgg (r : TyR) : Bool:=match r.d with | .struct _ | .array ..=>true | _=>false
def zeroCells (T : pS) : Nat→Nat→List PV
 | 0,_=>[]
 | n+1,t=>match (T.at t).d with
   | .bool=>[.bool false]
   | .int k=>[.int k 0]
   | .str=>[.str ByteArray.empty]
   | .ptr=>[.nil]
   | .func=>[.nilf]
   | .slice _=>[.lst []]
   | .struct fs=>fs.flatMap λf=>zeroCells T n f.2
   | .array m e=>(List.replicate m ()).flatMap λ_=>zeroCells T n e
   | .other=>[]
def vY (T : pS) : Nat→Nat→List (Option Nat)
 | 0,_=>[]
 | n+1,t=>match (T.at t).d with
   | .slice e=>[some e]
   | .struct fs=>fs.flatMap λf=>vY T n f.2
   | .array m e=>(List.replicate m ()).flatMap λ_=>vY T n e
   | _=>[none]
def aK6 (x : PV) : DV:=match x with
 | .lst _=>.nils
 | .bool b=>.p (.bool b)
 | .int k n=>.p (.int k n)
 | .str s=>.p (.str s)
 | .nil=>.p .nil
 | .nilf=>.p .nilf
 | _=>.dead
def aK7 (x : PV) : PV:=match x with
 | .lst _=>.lst []
 | .bool b=>.bool b
 | .int k n=>.int k n
 | .str s=>.str s
 | .nil=>.nil
 | .nilf=>.nilf
 | _=>.hole
def uU (x : PV) : Value:=match x with
 | .lst _=>.slice none 0 0
 | .bool b=>.bool b
 | .int k n=>.int k n
 | .str s=>.string s
 | .nil=>.pointer none
 | .nilf=>.nilFunc
 | _=>.pointer none
def gI (T : pS) (t : Nat) : Value:=
 let z:=(zeroCells T 20 t).map uU
 if (T.at t).isAgg then .agg z.toArray else z.headD (.pointer none)
def aHn : Value→Option PV
 | .bool b=>some (.bool b)
 | .int k n=>some (.int k n)
 | .string s=>some (.str s)
 | .pointer none=>some .nil
 | .nilFunc=>some .nilf
 | _=>none
def aKL : Value→Option PV
 | .agg cs=>(cs.toList.mapM aHn).map .agg
 | v=>aHn v
def aXS : PV→Nat
 | .agg cs=>cs.length
 | _=>1
def PV.cell (x : PV) (j : Nat) : Option PV:=match x with
 | .agg cs=>cs[j]?
 | _=>none
def PV.sub (x : PV) (dJ n : Nat) : Option PV:=match x with
 | .agg cs=>if dJ+n≤cs.length then some (.agg ((cs.drop dJ).take n)) else none
 | _=>none
def bE (n : Nat) (x : PV) : Option PV:=match x with
 | .agg cs=>if Nat.beq cs.length n then some (.agg cs) else none
 | _=>none
def PV.isEl (s : Nat) (g : Bool) : PV→Bool
 | .agg cs=>g&&Nat.beq cs.length s
 | .tup _=>false
 | _=>!g&&Nat.beq s 1
def aS (x : PV) : Option PV:=if x.isEl 1 false then some x else none
def aB (s : Nat) (g : Bool) (c i : PV) : Option PV:=match c,i with
 | .lst xs,.int _ n=>if 0≤n then match xs[n.toNat]? with
  | some x=>if x.isEl s g then some x else none
  | none=>none
  else none
 | _,_=>none
def aK (c : PV) : Option PV:=match c with
 | .lst xs=>some (.int .i64 xs.length)
 | _=>none
def bV (c : PV) : Option PV:=match c with
 | .str s=>some (.int .i64 s.size)
 | _=>none
def dG (c i : PV) : Option PV:=match c,i with
 | .str s,.int _ n=>if 0≤n then match s[n.toNat]? with
  | some b=>some (.int .u8 b.toNat)
  | none=>none
  else none
 | _,_=>none
def aV {β : Type} (c : PV) (a b : Option β) : Option β:=match c with
 | .bool true=>a
 | .bool false=>b
 | _=>none
def iB (q : Nat) (x y : PV) : Option Bool:=match q with
 | 0=>match x,y with
   | .bool a,.bool b=>some (a==b)
   | _,_=>none
 | 1=>match x,y with
   | .int k a,.int k' b=>if k=k' then some (a==b) else none
   | _,_=>none
 | _=>match x,y with
   | .str a,.str b=>some (a.toList==b.toList)
   | _,_=>none
def eU : List Nat→List PV→List PV→Option Bool
 | [],[],[]=>some true
 | q::qs,a::as_,b::bs=>match iB q a b,eU qs as_ bs with
   | some x,some y=>some (x&&y)
   | _,_=>none
 | _,_,_=>none
def vZ (op : BinOp) (b : Option Bool) : Option PV:=match op with
 | .eql=>b.map .bool
 | .neq=>b.map λb=>.bool (!b)
 | _=>none
def dL (op : BinOp) (x y : PV) : Option PV:=vZ op (iB 0 x y)
def dQ (op : BinOp) (x y : PV) : Option PV:=match x,y with
 | .nil,.nil=>vZ op (some true)
 | .nil,.bx _=>vZ op (some false)
 | .bx _,.nil=>vZ op (some false)
 | _,_=>none
def cQ (qs : List Nat) (op : BinOp) (x y : PV) : Option PV:=match x,y with
 | .agg as_,.agg bs=>vZ op (eU qs as_ bs)
 | _,_=>none
def lM : List UInt8→List UInt8→Bool
 | _,[]=>false
 | [],_::_=>true
 | a::x,b::y=>a<b||(a==b&&lM x y)
def lO (op : BinOp) (k : IntKind) (a b : Int) : Option PV:=match op with
 | .add=>some (.int k (k.wrap (a+b)))
 | .sub=>some (.int k (k.wrap (a - b)))
 | .mul=>some (.int k (k.wrap (a*b)))
 | .quo=>if b=0 then none else some (.int k (k.wrap (a.tdiv b)))
 | .rem=>if b=0 then none else some (.int k (a.tmod b))
 | .and=>some (.int k (k.wrap (BitVec.ofInt k.bits a&&& BitVec.ofInt k.bits b).toNat))
 | .or=>some (.int k (k.wrap (BitVec.ofInt k.bits a||| BitVec.ofInt k.bits b).toNat))
 | .xor=>some (.int k (k.wrap (BitVec.ofInt k.bits a ^^^ BitVec.ofInt k.bits b).toNat))
 | .eql=>some (.bool (a==b))
 | .neq=>some (.bool (a != b))
 | .lss=>some (.bool (decide (a<b)))
 | .leq=>some (.bool (decide (a≤b)))
 | .gtr=>some (.bool (decide (a>b)))
 | .geq=>some (.bool (decide (a≥b)))
 | _=>none
def xO (op : BinOp) (a b : ByteArray) : Option PV:=match op with
 | .add=>if a.size+b.size≤2 ^ 62 then some (.str (a++b)) else none
 | .eql=>some (.bool (a.toList==b.toList))
 | .neq=>some (.bool !(a.toList==b.toList))
 | .lss=>some (.bool (lM a.toList b.toList))
 | .leq=>some (.bool (lM a.toList b.toList||a.toList==b.toList))
 | .gtr=>some (.bool (!(lM a.toList b.toList||a.toList==b.toList)))
 | .geq=>some (.bool (!lM a.toList b.toList))
 | _=>none
def aD (op : BinOp) (x y : PV) : Option PV:=match op with
 | .shl=>match x,y with
  | .int k a,.int _ b=>if b<0 then none else some (.int k (k.wrap (a*2 ^ min b.toNat k.bits)))
  | _,_=>none
 | .shr=>match x,y with
  | .int k a,.int _ b=>if b<0 then none else some (.int k (a.fdiv (2 ^ min b.toNat k.bits)))
  | _,_=>none
 | _=>match x,y with
   | .int k a,.int k' b=>if k=k' then lO op k a b else none
   | .str a,.str b=>xO op a b
   | _,_=>none
def dM (x : PV) : Option PV:=match x with
 | .int k n=>some (.int k (k.wrap (0 - n)))
 | _=>none
def dB (x : PV) : Option PV:=match x with
 | .bool b=>some (.bool !b)
 | _=>none
def bR (k : IntKind) (x : PV) : Option PV:=match x with
 | .int _ n=>some (.int k (k.wrap n))
 | _=>none
def nC (m : Nat) (x : PV) : Option Nat:=match x with
 | .int _ n=>if 0≤n∧n≤m then some n.toNat else none
 | _=>none
def aDW (s : Nat) (g : Bool) : List PV→Bool
 | []=>true
 | x::_=>x.isEl s g
def bA (s : Nat) (g : Bool) (c lo hi : PV) : Option PV:=match c with
 | .lst xs=>if aDW s g xs then (nC xs.length hi).bind λh=>(nC h lo).bind λl=>some (.lst ((xs.take h).drop l)) else none
 | _=>none
def cG (c lo hi : PV) : Option PV:=match c with
 | .str s=>(nC s.size hi).bind λh=>(nC h lo).bind λl=>some (.str (s.extract l h))
 | _=>none
def aOs : PV:=.int .i64 0
def eK : PV→Option (List PV)
 | .lst xs=>some xs
 | .str s=>some (s.data.toList.map λb=>.int .u8 b.toNat)
 | _=>none
def aN (s e : Nat) (g : Bool) (c d : PV) : Option PV:=match eK c,eK d with
 | some xs,some ys=>if (xs.length+ys.length)*e≤2 ^ 47∧ys.all (PV.isEl s g) then some (.lst (xs++ys)) else none
 | _,_=>none
def aX (s : Nat) (g : Bool) (c i v : PV) : Option PV:=match c,i with
 | .lst xs,.int _ n=>if 0≤n∧n<xs.length∧v.isEl s g then some (.lst (xs.set n.toNat v)) else none
 | _,_=>none
def aC (s : Nat) (c i : PV) (dJ : Nat) (v : PV) : Option PV:=match c,i with
 | .lst xs,.int _ n=>if 0≤n then match xs[n.toNat]? with
  | some (.agg cs)=>if cs.length=s∧dJ<s∧v.isEl 1 false then some (.lst (xs.set n.toNat (.agg (cs.set dJ v)))) else none
  | _=>none
  else none
 | _,_=>none
def bM (c lo hi d : PV) : Option PV:=match nC (2 ^ 62) lo,nC (2 ^ 62) hi,eK c,eK d with
 | some l,some h,some xs,some ys=>if l≤h∧h≤xs.length then some (.int .i64 (min (h - l) ys.length : Nat)) else none
 | _,_,_,_=>none
def bC (s : Nat) (g : Bool) (c lo hi d : PV) : Option PV:=match nC (2 ^ 62) lo,nC (2 ^ 62) hi,eK c,eK d with
 | some l,some h,some xs,some ys=>
   if l≤h∧h≤xs.length∧ys.all (PV.isEl s g) then some (.lst (xs.take l++ys.take (h - l)++xs.drop (l+min (h - l) ys.length))) else none
 | _,_,_,_=>none
def bD (e : Nat) (z : PV) (n : PV) : Option PV:=match n with
 | .int _ m=>if 0≤m∧m.toNat*e≤2 ^ 47∧m<2 ^ 62 then some (.lst (List.replicate m.toNat z)) else none
 | _=>none
def aAe : PV→Option UInt8
 | .int .u8 n=>some (UInt8.ofNat n.toNat)
 | _=>none
def bK (c : PV) : Option PV:=match c with
 | .lst xs=>(xs.mapM aAe).map λbs=>.str ⟨bs.toArray⟩
 | _=>none
def aW (c : PV) : Option PV:=match c with
 | .str s=>if s.size≤2 ^ 47 then some (.lst (s.data.toList.map λb=>.int .u8 b.toNat)) else none
 | _=>none
def PV.deref (c : PV) (j : Nat) : Option PV:=match c with
 | .bx cs=>cs[j]?
 | _=>none
def bG (c : PV) : Option PV:=match c with
 | .bx _=>some c
 | _=>none
def cA (c : PV) (j : Nat) : Option PV:=match c with
 | .tup cs=>cs[j]?
 | _=>none
def PV.flatA : PV→Bool
 | .bool _ | .int .. | .str _ | .nil | .nilf=>true
 | .agg cs=>cs.all λ| .bool _ | .int .. | .str _ | .nil | .nilf=>true | _=>false
 | _=>false
def PV.flat : PV→Bool
 | .bool _ | .int .. | .str _ | .nil | .nilf=>true
 | .agg cs=>cs.all λ| .bool _ | .int .. | .str _ | .nil | .nilf=>true | _=>false
 | .tup cs=>cs.all PV.flatA
 | _=>false
mutual
def PV.flatO : OTy→PV→Bool
 | .own _ _ g cts,.lst xs=>PV.flatEs g cts xs
 | _,_=>false
def PV.flatEs (g : Bool) (cts : List OTy) : List PV→Bool
 | []=>true
 | x::r=>PV.flatE g cts x&&PV.flatEs g cts r
def PV.flatE (g : Bool) (cts : List OTy) : PV→Bool
 | .agg cs=>g&&PV.flatCs cts cs
 | .lst xs=>match cts with
  | .own _ _ g' cts'::_=>!g&&PV.flatEs g' cts' xs
  | _=>false
 | v=>!g&&v.flat
def PV.flatCs (cts : List OTy) : List PV→Bool
 | []=>true
 | .lst xs::r=>(match cts with
  | .own _ _ g' cts'::_=>PV.flatEs g' cts' xs
  | _=>false)&&PV.flatCs cts.tail r
 | v::r=>v.flat&&PV.flatCs cts.tail r
end
def aH {β : Type} (o : OTy) (c : PV) (k : Option β) : Option β:=if PV.flatO o c then k else none
def aE {β : Type} (r : PV) (k : Option β) : Option β:=if r.flat then k else none
def dO (n : Nat) (c i : PV) : Option PV:=match c,i with
 | .bx cs,.int _ j=>if 0≤j∧j<n∧cs.length=n then match cs[j.toNat]? with
  | some x=>if x.isEl 1 false then some x else none
  | none=>none
  else none
 | _,_=>none
def aT (c i : PV) : Option PV:=match c,i with
 | .lst xs,.int _ n=>if 0≤n∧n<xs.length then some c else none
 | _,_=>none
def cJ (x y : PV) : Option PV:=match x,y with
 | .int k a,.int _ b=>some (.int k (if b<a then b else a))
 | _,_=>none
def cK (x y : PV) : Option PV:=match x,y with
 | .int k a,.int _ b=>some (.int k (if b>a then b else a))
 | _,_=>none
def dJ (lo i : PV) : Option PV:=match lo,i with
 | .int _ a,.int _ b=>some (.int .i64 (a+b))
 | _,_=>none
def bL (c : PV) : Option PV:=match c with
 | .lst _=>some c
 | _=>none
def bO (c : PV) : Option PV:=match c with
 | .int _ _=>some c
 | _=>none
def fK (n : Nat) (c i : PV) : Option PV:=match c,i with
 | .agg cs,.int _ j=>if 0≤j∧j<n∧cs.length=n then match cs[j.toNat]? with
  | some x=>if x.isEl 1 false then some x else none
  | none=>none
  else none
 | _,_=>none
def cC {β : Type} (c : PV) (a b : Option β) : Option β:=match c with
 | .lst []=>@_root_.ite _ (a=b) (Classical.propDecidable _) a none
 | .lst (_::_)=>b
 | _=>none
def bd {α β : Type} (o : Option α) (k : α→Option β) : Option β:=match o with
 | some a=>k a
 | none=>none
abbrev gJ:=List (Nat × DV)
def gJ.get : gJ→Nat→DV
 | [],_=>.dead
 | (t',d)::r,t=>if Nat.beq t t' then d else gJ.get r t
structure tN where
 o : OTy
 c : PV
structure St where
 boxes : List (Nat × Option (List DV))
 lists : List (Nat × Option tN)
 nb : Nat
 nl : Nat
 base : Nat
structure eX where
 lent : Bool
 keep : Bool
 res : DV
 boxes : List (Option (List DV))
 lists : List (Option tN)
 asis : Bool:=false
structure aF3 where
 cut : Nat→Nat→Option (List Nat)
 frz : Nat→Nat→List (Nat × Option Nat)
 mode : Nat→Option eX
 own : Nat→Nat→List OTy
 prim : Nat→Option (List PV→Option (List PV))
 glob : Nat→Option (List PV)
 zok : Nat→Bool
 primS : Nat→Option (List DV→St→Option (List PV)):=λ_=>none
abbrev R:=List PV
abbrev OR:=Option R
abbrev NP:=Nat→Prop
abbrev PV.I (n : Int) : PV:=.int .i64 n
abbrev aOt:=gJ→St→OR
def hd : R→PV
 | v::_=>v
 | []=>.hole
def gd (l : R) (i : Nat) : PV:=l.getD i .hole
structure Orc where
 L : List Item→gJ→St→OR
 C : Nat→R→OR
 S : Nat→List DV→St→OR
structure Cx where
 T : pS
 res : List ResultVar
 cut : Nat→Option (List Nat)
 frz : Nat→List (Nat × Option Nat)
 mode : Nat→Option eX
 own : Nat→List OTy
 glob : Nat→Option R
 zok : Nat→Bool
 out : Option eX
 nb : Nat
 nl : Nat
section
variable (X : Cx) (O : Orc)
def aOu : Value→Bool
 | .slice none 0 0=>true
 | _=>false
def ev (e : gJ) : Operand→DV
 | .tmp t=>e.get t
 | .const v=>if aOu v then .nils else match aKL v with | some pv=>.p pv | none=>.dead
 | .func f=>.fn f []
 | .global g=>match X.glob g with | some cs=>.p (.bx cs) | none=>.dead
def oG {α : Type} (n : Nat) : List (Nat × Option α)→Option α
 | []=>none
 | (m,a)::r=>if Nat.beq n m then a else oG n r
def St.box (s : St) (b : Nat) : Option (List DV):=oG b s.boxes
def St.list (s : St) (l : Nat) : Option tN:=oG l s.lists
def St.setBox (s : St) (b : Nat) (cs : List DV) : St:={ s with boxes:=(b,some cs)::s.boxes}
def St.setList (s : St) (l : Nat) (c : tN) : St:={ s with lists:=(l,some c)::s.lists}
def St.killL (s : St) : List Nat→St
 | []=>s
 | l::r=>St.killL { s with lists:=(l,none)::s.lists} r
def St.addList (s : St) (c : tN) : St:={ s with lists:=(s.nl,some c)::s.lists,nl:=s.nl+1}
def St.addBox (s : St) (cs : List DV) : St:={ s with boxes:=(s.nb,some cs)::s.boxes,nb:=s.nb+1}
def pJ (n : Nat) (d : DV) (k : List DV→OR) : OR:=match d with
 | .agg cs=>if Nat.beq cs.length n then k cs else none
 | .p v=>bd (bE n v) λv=>go v n (λl=>k (l.map .p))
 | _=>none
where
 go (v : PV) : Nat→(R→OR)→OR
  | 0,k=>k []
  | m+1,k=>go v m (λl=>bd (v.cell m) λc=>k (l++[c]))
def aCu (o : OTy) (c : PV) : jW→(OTy→PV→OR)→OR
 | [],k=>k o c
 | (i,j)::r,k=>bd (aB o.s o.g c i) λx=>
   if o.g then bd (x.cell j) λy=>aCu (o.ct j) y r k
   else if Nat.beq j 0 then aCu (o.ct 0) x r k else none
def aDH (o : OTy) (c : PV) : jW→PV→(PV→OR)→OR
 | [],y,k=>k y
 | (i,j)::r,y,k=>bd (aB o.s o.g c i) λx=>
   if o.g then bd (x.cell j) λz=>aDH (o.ct j) z r y λz'=>bd (aC o.s c i j z') k
   else if Nat.beq j 0 then aDH (o.ct 0) x r y λz'=>bd (aX o.s o.g c i z') k else none
def aFM (s : St) (d : DV) (k : OTy→PV→OR) : OR:=match d with
 | .ref l path=>match s.list l with
  | some w=>aCu w.o w.c path k
  | none=>none
 | .sref l path lo hi=>match s.list l with
  | some w=>aCu w.o w.c path λo c=>bd (bA o.s o.g c lo hi) λc=>k o c
  | none=>none
 | _=>none
def stp (e : gJ) (s : St) (k : gJ→St→OR) : OR:=k e s
def aIH {α β : Type} (f : α→(β→OR)→OR) : List α→(List β→OR)→OR
 | [],k=>k []
 | d::r,k=>f d λv=>aIH f r λvs=>k (v::vs)
def uV (s : St) : Nat→DV→(PV→OR)→OR
 | 0,_,_=>none
 | n+1,d,k=>match d with
   | .p v=>k v
   | .nils=>k (.lst [])
   | .agg cs=>aIH (uV s n) cs λvs=>k (.agg vs)
   | .tup cs=>aIH (uV s n) cs λvs=>k (.tup vs)
   | .fn f cs=>aIH (uV s n) cs λvs=>k (.fn f vs)
   | .ptr b off=>match off,s.box b with
    | 0,some cs=>aIH (uV s n) cs λvs=>k (.bx vs)
    | _,_=>none
   | .ref l path=>aFM s (.ref l path) λ_ c=>k c
   | .sref l path lo hi=>aFM s (.sref l path lo hi) λ_ c=>k c
   | .bsl b m=>match s.box b with
    | some cs=>if Nat.beq cs.length m then aIH (uV s n) cs λvs=>bd (aN 1 1 false (.lst []) (.lst vs)) k else none
    | none=>none
   | _=>none
def aDk (s : St) (n : Nat) : List DV→(R→OR)→OR:=aIH (uV s n)
end
def dX : Nat→DV→List Nat
 | 0,d=>match d with
   | .ref l _ | .sref l _ _ _ | .eptr l _ _ _=>[l]
   | _=>[]
 | n+1,d=>match d with
   | .ref l _ | .sref l _ _ _ | .eptr l _ _ _=>[l]
   | .agg cs | .tup cs | .fn _ cs=>cs.flatMap (dX n)
   | _=>[]
def pT : Nat→DV→List Nat
 | 0,d=>match d with
   | .ptr b _ | .bsl b _=>[b]
   | _=>[]
 | n+1,d=>match d with
   | .ptr b _ | .bsl b _=>[b]
   | .agg cs | .tup cs | .fn _ cs=>cs.flatMap (pT n)
   | _=>[]
def cU : Nat:=12
def aJF (s : St) (d : DV) (k : PV→St→OR) : OR:=
 match pT cU d with
 | []=>uV s cU d λv=>k v (s.killL (dX cU d))
 | _=>none
def nU (ct : OTy) (s : St) (d : DV) (k : PV→St→OR) : OR:=match ct with
 | .leaf=>aJF s d k
 | .own ..=>match d with
  | .nils=>k (.lst []) s
  | .ref l []=>match s.list l with
   | some w=>if w.o.same ct then k w.c (s.killL [l]) else none
   | none=>none
  | .sref l [] lo hi=>match s.list l with
   | some w=>if w.o.same ct then bd (bA w.o.s w.o.g w.c lo hi) λc=>k c (s.killL [l]) else none
   | none=>none
  | _=>none
def uD (o : OTy) (s : St) : Nat→List DV→(R→St→OR)→OR
 | _,[],k=>k [] s
 | j,d::r,k=>nU (o.ct j) s d λv s=>uD o s (j+1) r λvs s=>k (v::vs) s
def aK8 (o : OTy) (s : St) (d : DV) (k : PV→St→OR) : OR:=
 if o.g then match d with
  | .agg cs=>if Nat.beq cs.length o.s then uD o s 0 cs λvs s=>k (.agg vs) s else none
  | .p x=>if o.plain then k x s else none
  | _=>none
 else match d with
  | .agg _ | .tup _=>none
  | d=>nU (o.ct 0) s d k
def mem (x : Nat) : List Nat→Bool
 | []=>false
 | y::r=>if Nat.beq x y then true else mem x r
def yR (x : Nat) : List Nat→Nat→Option Nat
 | [],_=>none
 | y::r,n=>if Nat.beq x y then some n else yR x r (n+1)
structure aKd where
 bs : List Nat
 ls : List Nat
def iA (s : St) : Nat→List DV→aKd→aKd
 | 0,_,a=>a
 | _+1,[],a=>a
 | n+1,d::r,a=>match d with
   | .ptr b _ | .bsl b _=>if mem b a.bs then iA s n r a else match s.box b with
    | some cs=>iA s n (cs++r) { a with bs:=a.bs++[b]}
    | none=>iA s n r a
   | .ref l _ | .sref l _ _ _ | .eptr l _ _ _=>if mem l a.ls then iA s n r a else match s.list l with
    | some _=>iA s n r { a with ls:=a.ls++[l]}
    | none=>iA s n r a
   | .agg cs | .tup cs | .fn _ cs=>iA s n (cs++r) a
   | _=>iA s n r a
def aDX (fb fl : Nat→Option Nat) (f : DV→DV) (d : DV) : DV:=match d with
 | .ptr b off=>match fb b with | some b'=>.ptr b' off | none=>.dead
 | .ref l path=>match fl l with | some l'=>.ref l' path | none=>.dead
 | .sref l path lo hi=>match fl l with | some l'=>.sref l' path lo hi | none=>.dead
 | .eptr l path i off=>match fl l with | some l'=>.eptr l' path i off | none=>.dead
 | .gptr l path i off=>match fl l with | some l'=>.gptr l' path i off | none=>.dead
 | .bsl b n=>match fb b with | some b'=>.bsl b' n | none=>.dead
 | .agg cs=>.agg (cs.map f)
 | .tup cs=>.tup (cs.map f)
 | .fn g cs=>.fn g (cs.map f)
 | d=>d
def ren (fb fl : Nat→Option Nat) : Nat→DV→DV
 | 0,d=>aDX fb fl (λ_=>.dead) d
 | n+1,d=>aDX fb fl (ren fb fl n) d
def aAf : Nat:=400
def mT (s : St) (fb fl : Nat→Option Nat) : Nat→List Nat→List (Nat × Option (List DV))
 | _,[]=>[]
 | n,b::r=>(n,(s.box b).map λcs=>cs.map (ren fb fl cU))::mT s fb fl (n+1) r
def mU (s : St) : Nat→List Nat→List (Nat × Option tN)
 | _,[]=>[]
 | n,l::r=>(n,s.list l)::mU s (n+1) r
def St.pick (s : St) (a : aKd) : St:=
 { boxes:=mT s (yR · a.bs 0) (yR · a.ls 0) 0 a.bs,lists:=mU s 0 a.ls,nb:=0,nl:=0,base:=a.bs.length+a.ls.length}
def aKM (e : gJ) (fb fl : Nat→Option Nat) : List Nat→gJ
 | []=>[]
 | t::r=>(t,ren fb fl cU (e.get t))::aKM e fb fl r
def tB (e : gJ) : List Nat→List DV
 | []=>[]
 | t::r=>e.get t::tB e r
def aDY (s : St) : Nat→List DV
 | 0=>[]
 | n+1=>aDY s n++((s.box n).getD [])
def mO (nb nl : Nat) (s : St) (roots : List DV) : aKd:=iA s aAf (aDY s nb++roots) ⟨List.range nb,List.range nl⟩
def aCv (l : List Nat) (n : Nat) (f : DV→DV) (d : DV) : DV:=match d with
 | .ref m path=>if mem m l&&Nat.blt n path.length then .dead else .ref m path
 | .sref m path lo hi=>if mem m l&&Nat.blt n path.length then .dead else .sref m path lo hi
 | .eptr m path i off=>if mem m l&&Nat.blt n path.length then .dead else .eptr m path i off
 | .gptr m path i off=>if mem m l&&Nat.blt n path.length then .dead else .gptr m path i off
 | .agg cs=>.agg (cs.map f)
 | .tup cs=>.tup (cs.map f)
 | .fn g cs=>.fn g (cs.map f)
 | d=>d
def scrub (l : List Nat) (n : Nat) : Nat→DV→DV
 | 0,d=>aCv l n (λ_=>.dead) d
 | k+1,d=>aCv l n (scrub l n k) d
def aBX (l : List Nat) (n : Nat) : gJ→gJ
 | []=>[]
 | (t,d)::r=>(t,scrub l n cU d)::aBX l n r
def tO (l : List Nat) (n : Nat) : List (Nat × Option (List DV))→List (Nat × Option (List DV))
 | []=>[]
 | (b,some cs)::r=>(b,some (cs.map (scrub l n cU)))::tO l n r
 | (b,none)::r=>(b,none)::tO l n r
def St.scrub (l : List Nat) (s : St) : St:={ s with boxes:=tO l 0 s.boxes}
def _root_.Go.Proofs.YtllmobkkbpdchaaGreatDoor.OTy.stays (o : OTy) (path : jW) : Bool:=o.plain||(o.shallow&&!path.isEmpty)
def aOv (l : Nat) (w : tN) (path : jW) (e : gJ) (s : St) (k : gJ→St→OR) : OR:=
 if w.o.stays path then k e s else k (aBX [l] 0 e) (s.scrub [l])
def aOw (l : Nat) (c : PV) (f : DV→DV) (d : DV) : DV:=match d with
 | .ref m path=>if Nat.beq l m then (match path with | []=>.p c | _=>.dead) else .ref m path
 | .agg cs=>.agg (cs.map f)
 | .tup cs=>.tup (cs.map f)
 | .fn g cs=>.fn g (cs.map f)
 | d=>d
def aDZ (l : Nat) (c : PV) : Nat→DV→DV
 | 0,d=>aOw l c (λ_=>.dead) d
 | k+1,d=>aOw l c (aDZ l c k) d
def aHo (l : Nat) (c : PV) : gJ→gJ
 | []=>[]
 | (t,d)::r=>(t,aDZ l c cU d)::aHo l c r
def tP (l : Nat) (c : PV) : List (Nat × Option (List DV))→List (Nat × Option (List DV))
 | []=>[]
 | (b,some cs)::r=>(b,some (cs.map (aDZ l c cU)))::tP l c r
 | (b,none)::r=>(b,none)::tP l c r
def aPG (d : DV) (e : gJ) (s : St) (k : gJ→St→OR) : OR:=match d with
 | .ref l []=>match s.list l with
  | some w=>k (aHo l w.c e) { s with boxes:=tP l w.c s.boxes,lists:=(l,none)::s.lists}
  | none=>k e s
 | _=>k e s
def aK9 : List (Nat × Option Nat)→gJ→St→(gJ→St→OR)→OR
 | [],e,s,k=>k e s
 | (t,none)::r,e,s,k=>aPG (e.get t) e s λe s=>aK9 r e s k
 | (t,some j)::r,e,s,k=>match e.get t with
   | .ptr b _=>match s.box b with
    | some cs=>aPG (cs.getD j .dead) e s λe s=>aK9 r e s k
    | none=>aK9 r e s k
   | _=>aK9 r e s k
def qR (cs : List DV) (off : Nat) : List DV→List DV
 | []=>cs
 | v::r=>qR (cs.set off v) (off+1) r
section
variable (X : Cx) (O : Orc)
def kY (t : Nat) : Option Nat:=match (X.T.at t).d with | .slice e=>some e | _=>none
def rowOf (u : Nat) : OTy:=let r:=X.T.at u;.own r.size r.bytes r.isAgg (X.own u)
def nD : List DV→List (Option Nat)→St→(List DV→St→OR)→OR
 | d::ds,t::ts,s,k=>match d,t with
   | .nils,some u=>nD ds ts (s.addList ⟨rowOf X u,.lst []⟩) λds' s'=>k (.ref s.nl []::ds') s'
   | d,_=>nD ds ts s λds' s'=>k (d::ds') s'
 | ds,_,s,k=>k ds s
def aD0 (l : Nat) (path : jW) (i : PV) (o : OTy) (x : PV) : Nat→Nat→(List DV→OR)→OR
 | 0,_,k=>k []
 | m+1,off,k=>if (o.ct off).isLeaf then bd (x.cell off) λy=>aD0 l path i o x m (off+1) λds=>k (.p y::ds)
  else aD0 l path i o x m (off+1) λds=>k (.ref l (path++[(i,off)])::ds)
def aLa (x : PV) (s : Nat) (g : Bool) (off : Nat) (r : TyR) (k : DV→OR) : OR:=
 if r.isAgg then (if Nat.beq off 0&&Nat.beq r.size s&&g then k (.p x) else bd (x.sub off r.size) λy=>k (.p y))
 else if g then bd (x.cell off) λy=>k (.p y)
 else if Nat.beq off 0 then k (.p x) else none
def aA1 (t : Nat) (a : DV) (s : St) (k : DV→OR) : OR:=
 let r:=X.T.at t
 if Nat.beq r.size 0 then none else match a with
 | .ptr b off=>match s.box b with
  | some cs=>if r.isAgg then (if Nat.ble (off+r.size) cs.length then k (.agg ((cs.drop off).take r.size)) else none) else match cs[off]? with
    | some d=>k d
    | none=>none
  | none=>none
 | .eptr l path i off=>match s.list l with
  | some w=>aCu w.o w.c path λo c=>bd (aB o.s o.g c i) λx=>
   if o.plain then aLa x o.s o.g off r k
   else if r.isAgg then (if o.g&&Nat.ble (off+r.size) o.s then aD0 l path i o x r.size off λds=>k (.agg ds) else none)
   else if o.g then (if (o.ct off).isLeaf then bd (x.cell off) λy=>k (.p y) else if Nat.blt off o.s then k (.ref l (path++[(i,off)])) else none)
   else if Nat.beq off 0&&!(o.ct 0).isLeaf then k (.ref l (path++[(i,0)])) else none
  | none=>none
 | .fptr x n g off=>aLa x n g off r k
 | .p c=>if r.isAgg then cellsB c r.size 0 (λl=>k (.agg (l.map .p))) else bd (c.deref 0) λy=>k (.p y)
 | .bptr c off=>if r.isAgg then cellsB c r.size off (λl=>k (.agg (l.map .p))) else bd (c.deref off) λy=>k (.p y)
 | _=>none
where
 cellsB (c : PV) : Nat→Nat→(R→OR)→OR
  | 0,_,k=>k []
  | m+1,off,k=>bd (c.deref off) λv=>cellsB c m (off+1) (λl=>k (v::l))
def aRs : DV→Bool
 | .agg _ | .tup _ | .dead=>false
 | _=>true
def aOx (d : DV) (k : DV→OR) : OR:=match d with
 | .p x=>bd (aS x) λx=>k (.p x)
 | .agg _ | .tup _ | .dead=>none
 | d=>k d
def aII (t b off : Nat) (v : DV) (s : St) (k : St→OR) : OR:=
 let r:=X.T.at t
 match s.box b with
 | some cs=>if Nat.ble (off+r.size) cs.length then (if r.isAgg then pJ r.size v λvs=>nD X vs (vY X.T 20 t) s λvs s=>k (s.setBox b (qR cs off vs))
  else if Nat.beq r.size 1 then aOx v λv=>match v with
   | .nils=>match kY X t with
    | some u=>k ((s.addList ⟨rowOf X u,.lst []⟩).setBox b (cs.set off (.ref s.nl [])))
    | none=>none
   | .sref l [] lo hi=>match cs[off]? with
    | some (.ref l' [])=>if Nat.beq l l' then (match s.list l with
     | some w=>bd (bA w.o.s w.o.g w.c lo hi) λc=>k (((s.killL [l]).addList ⟨w.o,c⟩).setBox b (cs.set off (.ref s.nl [])))
     | none=>none) else k (s.setBox b (cs.set off v))
    | _=>k (s.setBox b (cs.set off v))
   | v=>k (s.setBox b (cs.set off v))
  else none) else none
 | none=>none
def jX (t : Nat) (a v : DV) (e : gJ) (s : St) (k : gJ→St→OR) : OR:=
 let r:=X.T.at t
 if Nat.beq r.size 0 then none else
 match a with
 | .ptr b off=>aII X t b off v s λs=>k e s
 | .eptr l path i off=>match s.list l with
  | some w=>aCu w.o w.c path λo c=>
   if Nat.beq off 0&&Nat.beq r.size o.s&&r.isAgg==o.g then aK8 o s v λx s=>match s.list l with
    | some w=>aCu w.o w.c path λo c=>bd (aX o.s o.g c i x) λc=>fin l path w c s
    | none=>none
   else if r.isAgg then pJ r.size v λds=>setIn o ds off l path i s
   else if Nat.beq r.size 1&&o.g then aOx v λv=>setIn o [v] off l path i s
   else none
  | none=>none
 | _=>none
where
 fin (l : Nat) (path : jW) (w : tN) (c : PV) (s : St) : OR:=
  aDH w.o w.c path c λc'=>aOv l w path e (s.setList l ⟨w.o,c'⟩) k
 setIn (o : OTy) (ds : List DV) (off : Nat) (l : Nat) (path : jW) (i : PV) (s : St) : OR:=
  uD o s off ds λys s=>match s.list l with
   | some w=>aCu w.o w.c path λo c=>setAll o.s c i off ys λc=>fin l path w c s
   | none=>none
 setAll (n : Nat) (c i : PV) : Nat→R→(PV→OR)→OR
  | _,[],k=>k c
  | off,y::ys,k=>bd (aC n c i off y) λc=>setAll n c i (off+1) ys k
def aIJ (o : OTy) (c : PV) (q : Option (PV × PV)) (k : PV→OR) : OR:=match q with
 | none=>k c
 | some (lo,hi)=>bd (bA o.s o.g c lo hi) k
def aIK (l : Nat) (path : jW) (q : Option (PV × PV)) (s : St) (k : DV→St→OR) : OR:=match s.list l with
 | some w=>aCu w.o w.c path λo c=>if o.plain&&w.o.shallow then
  aIJ o c q λc1=>aDH w.o w.c path .hole λc'=>k (.ref s.nl []) ((s.setList l ⟨w.o,c'⟩).addList ⟨o,c1⟩) else none
 | none=>none
def wA (l : Nat) (path : jW) (s : St) (k : Nat→St→OR) : OR:=match s.list l with
 | some w=>aCu w.o w.c path λo c=>if o.plain&&w.o.shallow&&!(w.o.along path).isLeaf then aDH w.o w.c path .hole λc'=>k s.nl ((s.setList l ⟨w.o,c'⟩).addList ⟨w.o.along path,c⟩) else none
 | none=>none
def nV (l : Nat) : List DV→St→(List DV→St→OR)→OR
 | [],s,k=>k [] s
 | d::r,s,k=>match d with
   | .ref m (p::path)=>if Nat.beq l m then wA l (p::path) s λx s1=>nV l r s1 λds s2=>k (.ref x []::ds) s2
    else nV l r s λds s1=>k (.ref m (p::path)::ds) s1
   | d=>nV l r s λds s1=>k (d::ds) s1
def aFk (t : Nat) (a v : DV) (e : gJ) (s : St) (k : gJ→St→OR) : OR:=match a,v with
 | .eptr la pa i off,.agg ds=>nV la ds s λds' s1=>jX X t (.eptr la pa i off) (.agg ds') e s1 λe s2=>if Nat.ble s1.nl s2.nl then k e s2 else none
 | .eptr la pa i off,.sref l (p::path) lo hi=>aIK l (p::path) (some (lo,hi)) s λv s1=>jX X t (.eptr la pa i off) v e s1 λe s2=>if Nat.ble s1.nl s2.nl then k e s2 else none
 | a,v=>jX X t a v e s k
def put (dst : Option Nat) (d : DV) (e : gJ) : gJ:=match dst with
 | some t=>(t,d)::e
 | none=>e
def aBz (fs : List (Nat × Nat)) : List (Nat × DV)→List DV→(List DV→OR)→OR
 | [],cs,k=>k cs
 | (i,v)::r,cs,k=>match fs[i]? with
   | some (off,t)=>if Nat.ble (off+(X.T.at t).size) cs.length then
    (if (X.T.at t).isAgg then pJ (X.T.at t).size v λvs=>aBz fs r (qR cs off vs) k
    else if Nat.beq (X.T.at t).size 1 then aOx v λv=>aBz fs r (cs.set off v) k else none) else none
   | none=>none
def aD1 (t : Nat) : Bool:=X.zok t&&Nat.beq (zeroCells X.T 20 t).length (X.T.at t).size&&((X.T.at t).isAgg||Nat.beq (X.T.at t).size 1)
def aCw (t : Nat) : PV:=
 let z:=(zeroCells X.T 20 t).map aK7
 if (X.T.at t).isAgg then .agg z else z.headD .hole
def aGo (o : OTy) (s : St) : List DV→(R→St→OR)→OR
 | [],k=>k [] s
 | d::r,k=>aK8 o s d λv s=>aGo o s r λvs s=>k (v::vs) s
def aHp : Nat→List (Nat × DV)→Bool
 | _,[]=>true
 | n,(i,_)::r=>Nat.beq i n&&aHp (n+1) r
def aHq : R→List OTy→Bool
 | z::zs,c::cs=>(c.isLeaf||(match z with | .lst _=>true | _=>false))&&aHq zs cs
 | _,_=>true
def aNA (t : Nat) : Bool:=aD1 X t&&!Nat.beq (X.T.at t).size 0&&aHq (zeroCells X.T 20 t) (X.own t)
def aHr : Nat→DV→Bool
 | 0,d=>match d with
   | .p _ | .nils=>false
   | _=>true
 | n+1,d=>match d with
   | .p _ | .nils=>false
   | .agg cs | .tup cs | .fn _ cs=>cs.any (aHr n)
   | _=>true
def aPH (f : Nat) (args : List DV) (s : St) (k : DV→St→OR) : OR:=
 if args.any (aHr cU) then aDk s cU args λvs=>bd (O.C f vs) λr=>aE (hd r) (k (.p (hd r)) s)
 else aDk s cU args λvs=>bd (O.C f vs) λr=>k (.p (hd r)) s
mutual
def oN (l : R) : DV→DV
 | .p (.int _ i)=>.p (gd l i.toNat)
 | .agg cs=>.agg (tQ l cs)
 | .tup cs=>.tup (tQ l cs)
 | .fn f cs=>.fn f (tQ l cs)
 | .eptr b [] (.int _ i) off=>.eptr b [] (gd l i.toNat) off
 | .gptr b [(.int _ j,n)] (.int _ i) off=>.gptr b [(gd l j.toNat,n)] (gd l i.toNat) off
 | d=>d
def tQ (l : R) : List DV→List DV
 | []=>[]
 | d::r=>oN l d::tQ l r
end
def vS (l : R) : List (Option (List DV))→List (Option (List DV))
 | []=>[]
 | some cs::r=>some (tQ l cs)::vS l r
 | none::r=>none::vS l r
def iP (l : R) : List (Option tN)→List (Option tN)
 | []=>[]
 | some w::r=>some ⟨w.o,match w.c with | .int _ i=>gd l i.toNat | c=>c⟩::iP l r
 | none::r=>none::iP l r
mutual
def nE : DV→DV→OR
 | .p (.int _ _),.p v=>some [v]
 | .agg ts,.agg cs=>aBA ts cs
 | .tup ts,.tup cs=>aBA ts cs
 | .fn f ts,.fn g cs=>if Nat.beq f g then aBA ts cs else none
 | .ptr b off,.ptr b' off'=>if Nat.beq b b'&&Nat.beq off off' then some [] else none
 | .ref l [],.ref l' []=>if Nat.beq l l' then some [] else none
 | .eptr l [] (.int _ _) off,.eptr l' [] i off'=>if Nat.beq l l'&&Nat.beq off off' then some [i] else none
 | .gptr _ [_] _ _,.p .nil=>some [.nil,.nil]
 | .gptr l [(_,n)] _ off,.eptr l' [(j,n')] i off'=>if Nat.beq l l'&&Nat.beq n n'&&Nat.beq off off' then some [j,i] else none
 | .nils,.nils=>some []
 | .dead,_=>some []
 | _,_=>none
def aBA : List DV→List DV→OR
 | [],[]=>some []
 | t::ts,c::cs=>match nE t c with
   | some a=>match aBA ts cs with
     | some b=>some (a++b)
     | none=>none
   | none=>none
 | _,_=>none
end
def aDl : List (Option (List DV))→List (Nat × Option (List DV))→OR
 | [],[]=>some []
 | some ts::tr,(_,some cs)::cr=>match aBA ts cs with
   | some a=>match aDl tr cr with
     | some b=>some (a++b)
     | none=>none
   | none=>none
 | none::tr,_::cr=>aDl tr cr
 | _,_=>none
def aDm : List (Option tN)→List (Nat × Option tN)→OR
 | [],[]=>some []
 | some t::tr,(_,some w)::r=>if t.o.same w.o then match aDm tr r with
    | some b=>some (w.c::b)
    | none=>none
   else none
 | none::tr,_::r=>aDm tr r
 | _,_=>none
def eX.read (t : eX) (d : DV) (s : St) : OR:=
 match nE t.res d with
 | some a=>match aDl t.boxes s.boxes with
   | some b=>match aDm t.lists s.lists with
     | some c=>some (a++b++c)
     | none=>none
   | none=>none
 | none=>none
mutual
def tR : DV→Nat→Option Nat
 | .p (.int _ i),n=>if i=n then some (n+1) else none
 | .agg cs,n=>aJG cs n
 | .tup cs,n=>aJG cs n
 | .fn _ cs,n=>aJG cs n
 | .ptr _ _,n=>some n
 | .ref _ [],n=>some n
 | .eptr _ [] (.int _ i) _,n=>if i=n then some (n+1) else none
 | .gptr _ [(.int _ j,_)] (.int _ i) _,n=>if j=n∧i=n+1 then some (n+2) else none
 | .nils,n=>some n
 | .dead,n=>some n
 | _,_=>none
def aJG : List DV→Nat→Option Nat
 | [],n=>some n
 | d::r,n=>match tR d n with
   | some n'=>aJG r n'
   | none=>none
end
def aRt : List (Option (List DV))→Nat→Option Nat
 | [],n=>some n
 | some cs::r,n=>match aJG cs n with
   | some n'=>aRt r n'
   | none=>none
 | none::r,n=>aRt r n
def aKe : List (Option tN)→Nat→Option Nat
 | [],n=>some n
 | some w::r,n=>match w.c with
   | .int _ i=>if i=n then aKe r (n+1) else none
   | _=>none
 | none::r,n=>aKe r n
def eX.wf (t : eX) : Bool:=match tR t.res 0 with
 | some n=>match aRt t.boxes n with
   | some n'=>(aKe t.lists n').isSome
   | none=>false
 | none=>false
def aHs : List DV→List Nat→St→(List DV→St→OR)→OR
 | d::ds,t::ts,s,k=>match d,kY X t with
   | .nils,some u=>aHs ds ts (s.addList ⟨rowOf X u,.lst []⟩) λds' s'=>k (.ref s.nl []::ds') s'
   | d,_=>aHs ds ts s λds' s'=>k (d::ds') s'
 | ds,_,s,k=>k ds s
def cP (l : R) : List DV→OR→OR
 | [],k=>k
 | .p (.int _ i)::r,k=>aE (gd l i.toNat) (cP l r k)
 | .ref _ _::r,k=>cP l r k
 | _,_=>none
def oP (l : R) : List DV→OR→OR
 | [],k=>k
 | .agg cs::r,k=>cP l cs (oP l r k)
 | d::r,k=>cP l [d] (oP l r k)
def aBY (l : R) (d : DV) (k : OR) : OR:=match d with
 | .tup cs=>oP l cs k
 | d=>oP l [d] k
def mW (l : R) : List (Option tN)→OR→OR
 | [],k=>k
 | some w::r,k=>match w.c with
   | .int _ i=>aH w.o (gd l i.toNat) (mW l r k)
   | _=>none
 | none::_,_=>none
structure iR where
 rb : List Nat
 rl : List Nat
 wb : List Nat
 wl : List Nat
 last : Bool
 ok : Bool
def iR.none : iR:=⟨[],[],[],[],false,true⟩
def aRu : List Nat→List Nat
 | []=>[]
 | x::r=>if mem x r then aRu r else x::aRu r
def aKN (s : St) (ds : List DV) (a : aKd) : List DV:=ds++a.bs.flatMap λb=>(s.box b).getD []
def eD (s : St) (ds : List DV) (write : Bool) : iR:=
 let a:=iA s aAf ds ⟨[],[]⟩
 let all:=aKN s ds a
 let ls:=aRu (a.ls++all.flatMap (dX cU))
 let ok:=all.all λd=>(pT cU d).all λb=>mem b a.bs
 if write then ⟨a.bs,ls,a.bs,ls,false,ok⟩ else ⟨a.bs,ls,[],[],false,ok⟩
def aAg {α : Type} (ob : List Nat) (n : Nat) : List (Option α)→List (Nat × Option α)→List (Nat × Option α)
 | [],old=>old
 | c::r,old=>match ob with
   | b::ob=>aAg ob n r ((b,c)::old)
   | []=>aAg [] (n+1) r ((n,c)::old)
def aLb (n : Nat) : List (Option tN)→List (Nat × Option tN)→List (Nat × Option tN)
 | [],old=>old
 | c::r,old=>aLb (n+1) r ((n,c)::old)
def uW (bs : List Nat) (n : Nat) (b : Nat) : Option Nat:=match bs[b]? with
 | some c=>some c
 | none=>some (n+(b - bs.length))
def aUD (n : Nat) (l : Nat) : Option Nat:=some (n+l)
def aKO {α : Type} : List (Option α)→Bool
 | []=>true
 | some _::r=>aKO r
 | none::_=>false
def wC (keep : Bool) (kl : List Nat) (bs : List (Nat × Option (List DV))) : List (Nat × Option (List DV)):=if keep then tO kl 0 bs else bs
def wD (keep : Bool) (kl : List Nat) (e : gJ) : gJ:=if keep then aBX kl 0 e else e
def eE (keep : Bool) (kl : List Nat) : DV→DV:=if keep then scrub kl 0 cU else id
def aOy : List (Option tN)→List (Option OTy)→List (Option tN)
 | some w::r,some o::q=>some ⟨o,w.c⟩::aOy r q
 | t::r,_::q=>t::aOy r q
 | ts,[]=>ts
 | [],_::_=>[]
def eX.fitK (t : eX) (ks : List (Option OTy)) : eX:=match t.keep with
 | true=>{ t with lists:=aOy t.lists ks}
 | false=>t
def aV4 (l : List (Nat × Option tN)) : List (Option OTy):=l.map λp=>p.2.map (·.o)
def aLc : List DV→List DV→List Nat
 | t::ts,d::ds=>match t,d with
   | .ref i [],.p _=>i::aLc ts ds
   | _,_=>aLc ts ds
 | _,_=>[]
def wE : List (Option (List DV))→Nat→List (Nat × Option (List DV))→List Nat
 | [],_,_=>[]
 | none::r,n,bs=>wE r (n+1) bs
 | some ts::r,n,bs=>match oG n bs with
   | some ds=>aLc ts ds++wE r (n+1) bs
   | none=>wE r (n+1) bs
def aUE : List Nat→Nat→Nat
 | [],_=>0
 | x::r,i=>if Nat.blt x i then aUE r i+1 else aUE r i
def aW1 (ls : List Nat) (d : DV) : DV:=match d with
 | .ref i []=>if mem i ls then .p (.int .i64 0) else .ref (i - aUE ls i) []
 | d=>d
def aV5 : List DV→Nat→List DV × Nat
 | [],n=>([],n)
 | d::r,n=>match d with
   | .p _=>match aV5 r (n+1) with | (q,k)=>(.p (.int .i64 n)::q,k)
   | d=>match aV5 r n with | (q,k)=>(d::q,k)
def aXf : List (Option (List DV))→Nat→List (Option (List DV)) × Nat
 | [],n=>([],n)
 | some cs::r,n=>match aV5 cs n with
   | (c,k)=>match aXf r k with | (q,j)=>(some c::q,j)
 | none::r,n=>match aXf r n with | (q,j)=>(none::q,j)
def aV6 (ls : List Nat) : List (Option tN)→Nat→Nat→List (Option tN)
 | [],_,_=>[]
 | w::r,i,n=>if mem i ls then aV6 ls r (i+1) n else match w with
   | some w=>some ⟨w.o,.int .i64 n⟩::aV6 ls r (i+1) (n+1)
   | none=>none::aV6 ls r (i+1) n
def eX.fitB (t : eX) (bs : List (Nat × Option (List DV))) : eX:=match wE t.boxes 0 bs with
 | []=>t
 | l::ls=>match aV5 [aW1 (l::ls) t.res] 0 with
   | (d,n)=>match aXf (t.boxes.map λo=>o.map λcs=>cs.map (aW1 (l::ls))) n with
     | (b,k)=>
       let t' : eX:={ t with res:=d.headD .dead,boxes:=b,lists:=aV6 (l::ls) t.lists 0 k}
       if t'.wf then t' else t
def eX.fit (t : eX) (s : St) : eX:=match t.keep with
 | true=>t.fitK (aV4 s.lists)
 | false=>t.fitB s.boxes
def aLd (ft : iR) (n0 : Nat) (t : eX) (f : Nat) (args : List DV) (s : St) (k : DV→St→List Nat→OR) : OR:=
 let a:=iA s aAf args ⟨[],[]⟩
 let t:=t.fit (s.pick a)
 let kl:=if t.keep then a.ls else []
 if Nat.ble a.bs.length t.boxes.length&&aKO (t.boxes.take a.bs.length)&&(a.bs.all λb=>mem b ft.rb)&&(a.ls.all λl=>mem l ft.rl||(Nat.ble n0 l&&Nat.blt l s.nl))&&Nat.ble kl.length t.lists.length then
  bd (O.S f (args.map (ren (yR · a.bs 0) (yR · a.ls 0) cU)) (s.pick a)) λl=>
   k (ren (uW a.bs s.nb) (uW kl s.nl) cU (oN l t.res))
     { s with boxes:=aAg a.bs s.nb ((vS l t.boxes).map λo=>o.map λcs=>cs.map (ren (uW a.bs s.nb) (uW kl s.nl) cU)) (wC t.keep kl s.boxes),
              lists:=aAg kl s.nl (iP l t.lists) (s.killL a.ls).lists,
              nb:=s.nb+(t.boxes.length - a.bs.length),nl:=s.nl+(t.lists.length - kl.length)} kl
 else none
def aNB (t : eX) (f : Nat) (args : List DV) (s : St) (k : DV→St→OR) : OR:=
 aDk s cU args λvs=>bd (O.S f (vs.map .p) ⟨[],[],0,0,0⟩) λl=>
  aBY l t.res (mW l t.lists
   (k (ren (λ_=>none) (aUD s.nl) cU (oN l t.res)) { s with lists:=aLb s.nl (iP l t.lists) s.lists,nl:=s.nl+t.lists.length}))
def aBZ (l : Nat) (path : jW) (x : Nat) (s : St) (k : St→OR) : OR:=match s.list l with
 | some w=>if w.o.shallow&&!(w.o.along path).isLeaf then nU (w.o.along path) s (.ref x []) λy s1=>match s1.list l with
    | some w1=>aDH w1.o w1.c path y λc'=>k (s1.setList l ⟨w1.o,c'⟩)
    | none=>none
   else none
 | none=>none
def aFl (t : eX) (args : List DV) : Option (Nat × jW × List DV):=match args with
 | .ref l (p::path)::rest=>if t.keep&&t.asis then some (l,p::path,rest) else none
 | _=>none
def aNC (f : Nat) (args : List DV) (ts : List Nat) (e : gJ) (s : St) (k : DV→gJ→St→OR) : OR:=
 match X.mode f with
 | none=>aPH O f args s λd s=>k d e s
 | some t=>if t.lent then aNB O t f args s λd s=>k d e s else match aFl t args with
   | some (l,path,rest)=>wA l path s λx s1=>aLd O (eD s args true) s.nl t f (.ref x []::rest) s1 λd s2 kl=>if mem l kl then none else aBZ l path x s2 λs3=>k d (wD t.keep kl e) s3
   | none=>aHs X args (if t.asis then [] else ts) s λargs' s'=>aLd O (eD s args true) s.nl t f args' s' λd s kl=>k d (wD t.keep kl e) s
def _root_.Go.Proofs.YtllmobkkbpdchaaGreatDoor.PV.apply (C : Nat→R→OR) (v : PV) (args : R) : OR:=match v with
 | .fn f caps=>C f (args++caps)
 | _=>none
def aIL (d : DV) (args : List DV) (ts : List Nat) (e : gJ) (s : St) (k : DV→gJ→St→OR) : OR:=match d with
 | .fn f caps=>aNC X O f (args++caps) ts e s k
 | .p v=>if args.any (aHr cU) then aDk s cU args λvs=>bd (PV.apply O.C v vs) λr=>aE (hd r) (k (.p (hd r)) e s)
  else aDk s cU args λvs=>bd (PV.apply O.C v vs) λr=>k (.p (hd r)) e s
 | _=>none
def aYv (n : Nat) : PV:=.int .i64 n
def aOz (d : DV) (s : St) (k : PV→OR) : OR:=match d with
 | .p v=>k v
 | .nils=>k (.lst [])
 | .ref l path=>aFM s (.ref l path) λo c=>if o.plain then k c else none
 | .sref l path lo hi=>aFM s (.sref l path lo hi) λo c=>if o.plain then k c else none
 | _=>none
def aND (src dst : Nat) (x : DV) (s : St) (k : DV→OR) : OR:=match (X.T.at src).d,(X.T.at dst).d,x with
 | .int _,.int n,.p v=>bd (bR n v) λy=>k (.p y)
 | .str,.str,.p v=>bd (bV v) λ_=>k (.p v)
 | .slice e,.str,d=>match (X.T.at e).d with
  | .int .u8=>aOz d s λc=>bd (bK c) λy=>k (.p y)
  | _=>none
 | .str,.slice e,.p v=>match (X.T.at e).d with
  | .int .u8=>bd (aW v) λc=>k (.p c)
  | _=>none
 | _,_,_=>none
def uE (o : OTy) (d : DV) (s : St) (k : PV→St→OR) : OR:=
 if o.plain then aOz d s λy=>k y s else nU o s d k
def aRv (o : OTy) (t : Nat) : Bool:=!o.isLeaf&&Nat.beq o.s (X.T.at t).size&&Nat.beq o.e (X.T.at t).bytes&&o.g==(X.T.at t).isAgg&&Nat.ble 1 o.s&&Nat.ble 1 o.e&&X.zok t&&Nat.beq (zeroCells X.T 20 t).length (X.T.at t).size&&((X.T.at t).isAgg||Nat.beq (X.T.at t).size 1)
def sD (te : Nat) (s : St) : DV→Option OTy
 | .nils=>some (rowOf X te)
 | .ref l [] | .sref l [] _ _=>(s.list l).map (·.o)
 | _=>none
def xE (base d : DV) (te : Nat) (e : gJ) (s : St) (k : DV→gJ→St→OR) : OR:=match base with
 | .ref l (p::path)=>nest l (p::path) none
 | .sref l (p::path) lo hi=>nest l (p::path) (some (lo,hi))
 | base=>match sD X te s base with
   | some o=>if aRv X o te then uE o d s λy s=>nU o s base λc s=>bd (aN o.s o.e o.g c y) λc'=>k (.ref s.nl []) e (s.addList ⟨o,c'⟩) else none
   | none=>none
where
 nest (l : Nat) (path : jW) (q : Option (PV × PV)) : OR:=match s.list l with
  | some w=>aCu w.o w.c path λo c=>if aRv X o te&&o.plain&&w.o.shallow then
     aOz d s λy=>aIJ o c q λc=>aDH w.o w.c path .hole λc'=>bd (aN o.s o.e o.g c y) λc2=>k (.ref s.nl []) e ((s.setList l ⟨w.o,c'⟩).addList ⟨o,c2⟩)
    else none
  | none=>none
def aD2 (te : Nat) (dst src : DV) (s : St) (k : DV→St→OR) : OR:=
 match dst with
 | .ref l []=>match s.list l with
  | some w=>bd (aK w.c) λn=>go l w aOs n
  | none=>none
 | .sref l [] lo hi=>match s.list l with
  | some w=>go l w lo hi
  | none=>none
 | _=>none
where
 go (l : Nat) (w : tN) (lo hi : PV) : OR:=if w.o.plain&&aRv X w.o te then aOz src s λy=>bd (bM w.c lo hi y) λn=>
  bd (bC w.o.s w.o.g w.c lo hi y) λc=>k (.p n) (s.setList l ⟨w.o,c⟩) else none
def aW2 (t : Nat) : Bool:=match (X.T.at t).d with | .slice _ | .str=>true | _=>false
def aTh (t : Nat) (d : DV) (s : St) (k : DV→OR) : OR:=match (X.T.at t).d with
 | .str=>match d with
  | .p v=>bd (bV v) λn=>k (.p n)
  | _=>none
 | .slice _=>match d with
  | .p v=>bd (aK v) λn=>k (.p n)
  | .nils=>k (.p (.int .i64 0))
  | .ref l path=>aFM s (.ref l path) λ_ c=>bd (aK c) λn=>k (.p n)
  | .sref l path lo hi=>aFM s (.sref l path lo hi) λ_ c=>bd (aK c) λn=>k (.p n)
  | _=>none
 | .array n _=>k (.p (aYv n))
 | _=>none
def aB0 (b : Builtin) (ts : List Nat) (args : List DV) (e : gJ) (s : St) (k : DV→gJ→St→OR) : OR:=match b,ts,args with
 | .len,[t],[d]=>aTh X t d s λn=>k n e s
 | .append,[t,u],[a,d]=>match kY X t with
  | some te=>if aW2 X u then xE X a d te e s k else none
  | none=>none
 | .copy,[t,_],[a,d]=>match kY X t with
  | some te=>aD2 X te a d s λd s=>k d e s
  | none=>none
 | .min,_,[.p a,.p b]=>bd (cJ a b) λc=>k (.p c) e s
 | .max,_,[.p a,.p b]=>bd (cK a b) λc=>k (.p c) e s
 | _,_,_=>none
def jS : Nat→Nat→Option (List Nat)
 | 0,_=>none
 | n+1,t=>match kinds (jS n) t with
   | some qs=>if Nat.beq qs.length (X.T.at t).size then some qs else none
   | none=>none
where
 kinds (f : Nat→Option (List Nat)) (t : Nat) : Option (List Nat):=match (X.T.at t).d with
  | .bool=>some [0]
  | .int _=>some [1]
  | .str=>some [2]
  | .struct fs=>if (X.T.at t).eq then parts f 0 fs else none
  | _=>none
 parts (f : Nat→Option (List Nat)) : Nat→List (Nat × Nat)→Option (List Nat)
  | _,[]=>some []
  | at_,(o,t)::r=>if Nat.beq o at_ then (match f t with
   | some a=>match parts f (at_+a.length) r with
     | some b=>some (a++b)
     | none=>none
   | none=>none) else none
def eqK (op : BinOp) (t : Nat) (x y : DV) (k : DV→OR) : OR:=match jS X 10 t with
 | some qs=>pJ qs.length x λas_=>pJ qs.length y λbs=>trees as_ λas_=>trees bs λbs=>bd (cQ qs op (.agg as_) (.agg bs)) λv=>k (.p v)
 | none=>none
where
 trees : List DV→(R→OR)→OR
  | [],k=>k []
  | .p v::r,k=>trees r λvs=>k (v::vs)
  | _,_=>none
def aUF (op : BinOp) (x : DV) (k : DV→OR) : OR:=match op,x with
 | .eql,.p c=>bd (bL c) λc=>k (.nilq c false)
 | .neq,.p c=>bd (bL c) λc=>k (.nilq c true)
 | _,_=>none
def aTi (op : BinOp) (t : Nat) (x y : DV) (k : DV→OR) : OR:=match (X.T.at t).d with
 | .slice _=>match y with
  | .nils=>aUF op x k
  | _=>none
 | .bool=>match x,y with
  | .p a,.p b=>bd (dL op a b) λv=>k (.p v)
  | _,_=>none
 | .ptr=>match x,y with
  | .p a,.p b=>bd (dQ op a b) λv=>k (.p v)
  | .ptr ..,.p .nil=>match op with
   | .eql=>k (.p (.bool false))
   | .neq=>k (.p (.bool true))
   | _=>none
  | _,_=>none
 | .struct _=>eqK X op t x y k
 | .int _ | .str=>match x,y with
  | .p a,.p b=>bd (aD op a b) λv=>k (.p v)
  | _,_=>none
 | _=>none
def wF (t : Nat) (x i : DV) (s : St) (k : DV→OR) : OR:=match (X.T.at t).d,i with
 | .slice e,.p i=>
  let r:=X.T.at e
  if Nat.beq r.size 0 then none else match x with
  | .p c=>bd (aB r.size r.isAgg c i) λv=>k (.fptr v r.size r.isAgg 0)
  | .ref l path=>aFM s (.ref l path) λo c=>if Nat.beq o.s r.size&&o.g==r.isAgg then bd (aT c i) λ_=>k (.eptr l path i 0) else none
  | .sref l path lo hi=>aFM s (.sref l path lo hi) λo c=>if Nat.beq o.s r.size&&o.g==r.isAgg then bd (aT c i) λ_=>bd (dJ lo i) λj=>k (.eptr l path j 0) else none
  | _=>none
 | .array n e,.p i=>
  let r:=X.T.at e
  if Nat.ble n 1||Nat.beq r.size 0 then none else match x,i with
   | .ptr b off,.int _ j=>if 0≤j∧j<n then k (.ptr b (off+j.toNat*r.size)) else none
   | .fptr x m g off,.int _ j=>if 0≤j∧j<n then k (.fptr x m g (off+j.toNat*r.size)) else none
   | .bptr c off,.int _ j=>if 0≤j∧j<n then k (.bptr c (off+j.toNat*r.size)) else none
   | .p c,i=>if Nat.beq r.size 1&&!r.isAgg then bd (dO n c i) λv=>k (.fptr v 1 false 0) else none
   | _,_=>none
 | _,_=>none
def wG (t : Nat) (x : DV) (f : Nat) (s : St) (k : DV→OR) : OR:=match (X.T.at t).d with
 | .struct fs=>match fs[f]? with
  | some (o,u)=>if Nat.beq (X.T.at u).size 0 then none else match x with
    | .ptr b off=>k (.ptr b (off+o))
    | .eptr l path i off=>match s.list l with
     | some _=>k (.eptr l path i (off+o))
     | none=>none
    | .fptr x n g off=>k (.fptr x n g (off+o))
    | .bptr c off=>k (.bptr c (off+o))
    | .p c=>bd (bG c) λc=>k (.bptr c o)
    | _=>none
  | none=>none
 | _=>none
def aIM (t : Nat) (x : DV) (f : Nat) (k : DV→OR) : OR:=match (X.T.at t).d with
 | .struct fs=>match fs[f]? with
  | some (o,u)=>
    let r:=X.T.at u
    if Nat.beq r.size 0 then none else match x with
    | .agg cs=>if r.isAgg then (if Nat.ble (o+r.size) cs.length then k (.agg ((cs.drop o).take r.size)) else none) else match cs[o]? with
     | some d=>k d
     | none=>none
    | .p v=>if r.isAgg then bd (v.sub o r.size) λy=>k (.p y) else bd (v.cell o) λy=>k (.p y)
    | _=>none
  | none=>none
 | _=>none
def aCx (t : Nat) (x : DV) (lo hi : Option DV) (s : St) (k : DV→OR) : OR:=
 match lowOf lo with
 | none=>none
 | some l=>match (X.T.at t).d with
   | .str=>match x with
    | .p v=>match hi with
     | none=>bd (bV v) λh=>bd (cG v l h) λy=>k (.p y)
     | some (.p h)=>bd (cG v l h) λy=>k (.p y)
     | _=>none
    | _=>none
   | .slice u=>if Nat.beq (X.T.at u).size 0 then none else match x with
    | .p v=>match hi with
     | none=>bd (aK v) λh=>bd (bA (X.T.at u).size (X.T.at u).isAgg v l h) λy=>k (.p y)
     | some (.p h)=>bd (bA (X.T.at u).size (X.T.at u).isAgg v l h) λy=>k (.p y)
     | _=>none
    | .ref n path=>aFM s (.ref n path) λo c=>if Nat.beq o.s (X.T.at u).size then (match hi with
     | none=>bd (aK c) λh=>bd (bA o.s o.g c l h) λ_=>k (.sref n path l h)
     | some (.p h)=>bd (bA o.s o.g c l h) λ_=>k (.sref n path l h)
     | _=>none) else none
    | _=>none
   | _=>none
where
 lowOf : Option DV→Option PV
  | none=>some aOs
  | some (.p v)=>some v
  | _=>none
def aJH (dst : Option Nat) (t : Nat) (d : DV) (e : gJ) (s : St) (k : DV→St→OR) : OR:=match d with
 | .dead=>none
 | .nils=>match kY X t with
  | some u=>k (.ref s.nl []) (s.addList ⟨rowOf X u,.lst []⟩)
  | none=>k .nils s
 | .sref l [] lo hi=>match dst with
  | some t=>match e.get t with
    | .ref l' []=>if Nat.beq l l' then (match s.list l with
     | some w=>bd (bA w.o.s w.o.g w.c lo hi) λc=>k (.ref s.nl []) ((s.killL [l]).addList ⟨w.o,c⟩)
     | none=>none) else k d s
    | _=>k d s
  | none=>k d s
 | d=>k d s
def aIN (t : Nat) (s : St) (k : DV→St→OR) : OR:=
 if aD1 X t then
  nD X ((zeroCells X.T 20 t).map aK6) (vY X.T 20 t) s λcs s=>k (.ptr s.nb 0) (s.addBox cs)
 else none
def aTj (t : Nat) (x : DV) (s : St) (k : DV→St→OR) : OR:=
 if (X.T.at t).isAgg then pJ (X.T.at t).size x λcs=>nD X cs (vY X.T 20 t) s λcs s=>k (.ptr s.nb 0) (s.addBox cs)
 else aOx x λd=>nD X [d] (vY X.T 20 t) s λcs s=>k (.ptr s.nb 0) (s.addBox cs)
def aB1 (x : DV) (i : Nat) (k : DV→OR) : OR:=match x with
 | .tup cs=>match cs[i]? with
  | some d=>k d
  | none=>none
 | .p v=>bd (cA v i) λy=>k (.p y)
 | _=>none
def aNE (c : DV) (a b : DV) (e : gJ) (s : St) (k : DV→St→OR) : OR:=match c with
 | .p v=>aV v (aJH X none 0 a e s k) (aJH X none 0 b e s k)
 | _=>none
def aFm (t : Nat) (ps : List (Nat × DV)) (k : DV→OR) : OR:=match (X.T.at t).d with
 | .struct fs=>if aD1 X t&&(fs.all λf=>!Nat.beq (X.T.at f.2).size 0) then aBz X fs ps ((zeroCells X.T 20 t).map aK6) λcs=>k (.agg cs) else none
 | .array n e=>if aD1 X t&&!Nat.beq (X.T.at e).size 0 then aBz X ((List.range n).map λi=>(i*(X.T.at e).size,e)) ps ((zeroCells X.T 20 t).map aK6) λcs=>k (.agg cs) else none
 | _=>none
def _root_.Go.Proofs.YtllmobkkbpdchaaGreatDoor.DV.isRowD : DV→Bool
 | .ref _ _ | .sref _ _ _ _=>true
 | _=>false
def _root_.Go.Proofs.YtllmobkkbpdchaaGreatDoor.DV.inRowD : DV→Bool
 | .ref _ (_::_) | .sref _ (_::_) _ _=>true
 | _=>false
def aSw (u n : Nat) (ps : List (Nat × DV)) (s : St) (k : DV→St→OR) : OR:=
 if aNA X u&&Nat.beq (X.T.at u).size 1&&Nat.ble n (2 ^ 24)&&aHp 0 ps&&Nat.beq ps.length n&&(ps.all λp=>p.2.isRowD) then k (.bsl s.nb n) (s.addBox (ps.map (·.2))) else none
def uF (t n : Nat) (ps : List (Nat × DV)) (s : St) (k : DV→St→OR) : OR:=match kY X t with
 | some u=>if ps.any λp=>p.2.inRowD then aSw X u n ps s k else if aNA X u&&Nat.ble (n*(X.T.at u).size) (2 ^ 24)&&aHp 0 ps&&Nat.beq ps.length n then aGo (rowOf X u) s (ps.map (·.2)) λvs s=>
    bd (aN (rowOf X u).s (rowOf X u).e (rowOf X u).g (.lst []) (.lst vs)) λc=>k (.ref s.nl []) (s.addList ⟨rowOf X u,c⟩)
   else none
 | none=>none
def wH (t : Nat) (l c : DV) (s : St) (k : DV→St→OR) : OR:=match kY X t,l,c with
 | some u,.p n,.p m=>if aNA X u then
    bd (bD (rowOf X u).e (aCw X u) m) λ_=>bd (aD .leq n m) λy=>aV y
     (bd (bD (rowOf X u).e (aCw X u) n) λc=>k (.ref s.nl []) (s.addList ⟨rowOf X u,c⟩)) none
   else none
 | _,_,_=>none
def aA2 (t : Nat) (x : DV) (lo hi : Option DV) (mx : DV) (s : St) (k : DV→St→OR) : OR:=match kY X t,x,lo,hi,mx with
 | some u,.p v,none,some (.p h),.p n=>if aNA X u&&isZ h&&isZ n then bd (aK v) λ_=>k (.ref s.nl []) (s.addList ⟨rowOf X u,.lst []⟩) else none
 | _,_,_,_,_=>none
where
 isZ : PV→Bool
  | .int _ (.ofNat 0)=>true
  | _=>false
def zW (x : DV) (s : St) (k : DV→OR) : OR:=match x with
 | .p v=>bd (bG v) λv=>k (.p v)
 | .ptr b off=>k (.ptr b off)
 | .eptr l path i off=>match s.list l with
  | some _=>k (.eptr l path i off)
  | none=>none
 | .fptr x n g off=>k (.fptr x n g off)
 | .bptr c off=>k (.bptr c off)
 | .fn f cs=>k (.fn f cs)
 | _=>none
def soK (d : DV) (k : DV→OR) : OR:=match d with
 | .gptr l path i off=>bd (bO i) λi=>k (.eptr l path i off)
 | d=>k d
def aNF (op : UnOp) (x : DV) (k : DV→OR) : OR:=match op,x with
 | .not,.p v=>bd (dB v) λy=>k (.p y)
 | .neg,.p v=>bd (dM v) λy=>k (.p y)
 | _,_=>none
def aGp : List DV→Option R
 | []=>some []
 | .p v::r=>(aGp r).map (v::·)
 | .fn f []::r=>(aGp r).map (.fn f []::·)
 | _=>none
def aIO (t : Nat) (x i : DV) (k : DV→OR) : OR:=match (X.T.at t).d,x,i with
 | .str,.p v,.p j=>bd (dG v j) λy=>k (.p y)
 | .array n e,.agg ds,.p j=>if Nat.beq (X.T.at e).size 1&&!(X.T.at e).isAgg then (match aGp ds with
  | some cs=>bd (fK n (.agg cs) j) λy=>k (.p y)
  | none=>none) else none
 | _,_,_=>none
def exec (o : Oper) (e : gJ) (s : St) (k : aOt) : OR:=
 let set:=λ(d : DV) (s : St)=>k (put o.dst d e) s
 match o.op with
 | .move x | .assign x=>aJH X o.dst o.type (ev X e x) e s set
 | .pick c a b=>aNE X (ev X e c) (ev X e a) (ev X e b) e s set
 | .alloc t=>aIN X t s λd s=>set d s
 | .box t x=>aTj X t (ev X e x) s λd s=>set d s
 | .build t ps=>aFm X t (ps.toList.map λp=>(p.1,ev X e p.2)) λd=>set d s
 | .buildSlice t n ps=>uF X t n (ps.toList.map λp=>(p.1,ev X e p.2)) s set
 | .makeSlice t l c=>wH X t (ev X e l) (ev X e c) s set
 | .load t a=>soK (ev X e a) λa=>aA1 X t a s λd=>set d s
 | .store t a x=>soK (ev X e a) λa=>aFk X t a (ev X e x) e s λe s=>k (put o.dst .dead e) s
 | .nilCheck x=>soK (ev X e x) λx=>zW x s λd=>set d s
 | .binOp op t x y _=>aTi X op t (ev X e x) (ev X e y) λd=>set d s
 | .unOp op _ x=>aNF op (ev X e x) λd=>set d s
 | .convert a b x=>aND X a b (ev X e x) s λd=>set d s
 | .slice t x lo hi none=>aCx X t (ev X e x) (lo.map (ev X e)) (hi.map (ev X e)) s λd=>set d s
 | .slice t x lo hi (some mx)=>aA2 X t (ev X e x) (lo.map (ev X e)) (hi.map (ev X e)) (ev X e mx) s set
 | .fieldAddr t x f=>wG X t (ev X e x) f s λd=>set d s
 | .field t x f=>aIM X t (ev X e x) f λd=>set d s
 | .indexAddr t x i=>wF X t (ev X e x) (ev X e i) s λd=>set d s
 | .index t x i=>aIO X t (ev X e x) (ev X e i) λd=>set d s
 | .extract x i=>aB1 (ev X e x) i λd=>set d s
 | .makeFunc (.func f) first caps=>if Nat.beq first.size 0 then set (.fn f (caps.toList.map (ev X e))) s else none
 | .call c=>match c.callee with
  | .value f=>aIL X O (ev X e f) (c.args.toList.map (ev X e)) c.argTypes.toList e s λd e s=>k (put o.dst d e) s
  | .builtin b=>aB0 X b c.argTypes.toList (c.args.toList.map (ev X e)) e s λd e s=>k (put o.dst d e) s
  | _=>none
 | _=>none
def aD3 : List Oper→Nat→Option Nat
 | [],_=>none
 | o::_,0=>o.dst
 | _::r,n+1=>aD3 r n
def soD (d : DV) : DV:=match d with
 | .gptr l path i off=>.eptr l path i off
 | d=>d
def eP (d : DV) : iR:=match d with
 | .ref l _ | .sref l _ _ _ | .eptr l _ _ _=>⟨[],[l],[],[],false,true⟩
 | .ptr b _=>⟨[b],[],[],[],false,true⟩
 | _=>.none
def jF (s : St) (l : Nat) : Bool:=match s.list l with
 | some w=>w.o.plain
 | none=>true
def aDI (ds : List DV) : List Nat:=ds.flatMap (dX (cU+1))
def bZ (s : St) (a v : DV) : iR:=match a with
 | .ptr b _=>⟨[b],aDI [v],[b],aDI [v],false,true⟩
 | .eptr l _ _ _=>⟨[],l::aDI [v],[],l::aDI [v],!jF s l,true⟩
 | _=>.none
def aB2 (d : DV) : iR:=match d with
 | .sref l _ _ _=>⟨[],[l],[],[l],false,true⟩
 | _=>.none
def aD4 (ds : List DV) : iR:=⟨[],aDI ds,[],aDI ds,false,true⟩
def aAh (f : DV) (args : List DV) (s : St) : iR:=match f with
 | .fn g caps=>match X.mode g with
  | some t=>{ eD s (args++caps) (!t.lent) with last:=!t.lent&&t.keep}
  | none=>eD s (args++caps) false
 | _=>eD s args false
def uG (b : Builtin) (args : List DV) (s : St) : iR:=match b with
 | .append | .copy=>aD4 args
 | .len=>match args with
  | [d]=>eP d
  | _=>.none
 | _=>.none
def aAi (o : Oper) (e : gJ) (s : St) : iR:=match o.op with
 | .move x | .assign x=>aB2 (ev X e x)
 | .load _ a=>eP (soD (ev X e a))
 | .store _ a x=>bZ s (soD (ev X e a)) (ev X e x)
 | .indexAddr _ x _=>eP (ev X e x)
 | .fieldAddr _ x _=>eP (ev X e x)
 | .nilCheck x=>eP (soD (ev X e x))
 | .slice _ x _ _ _=>eP (ev X e x)
 | .convert _ _ x=>eP (ev X e x)
 | .buildSlice _ _ ps=>aD4 (ps.toList.map λp=>ev X e p.2)
 | .call c=>match c.callee with
  | .value f=>aAh X (ev X e f) (c.args.toList.map (ev X e)) s
  | .builtin b=>uG b (c.args.toList.map (ev X e)) s
  | _=>.none
 | _=>.none
def meet (a b : List Nat) : Bool:=a.any λx=>mem x b
def iR.clash (a b : iR) : Bool:=meet a.wb b.rb||meet a.rb b.wb||meet a.wb b.wb||meet a.wl b.rl||meet a.rl b.wl||meet a.wl b.wl||a.last||b.last
def iR.names (f : iR) (n : Nat) : Bool:=inR f.rb||inR f.rl||inR f.wb||inR f.wl
where
 inR (l : List Nat) : Bool:=l.any λx=>Nat.ble n x&&Nat.blt x (n+16)
def aA3 (base : Nat) (p q : Nat × iR) : Bool:=p.2.clash q.2||q.2.names (base+16*p.1)||p.2.names (base+16*q.1)
def aB3 : List Oper→List Nat→List Nat
 | [],acc=>acc
 | o::r,acc=>aB3 r (acc++[o.after.toList.foldl (λb e=>if Region.binds .any e then b||| 2 ^ e.on||| acc.getD e.on 0 else b) 0])
def xP (ms : List Nat) (base : Nat) : List (Nat × iR)→Bool
 | []=>true
 | (j,f)::r=>f.ok&&(r.all λp=>!aA3 base p (j,f)||(ms.getD j 0).testBit p.1)&&xP ms base r
def aLe : Nat→List Oper→Bool
 | _,[]=>true
 | j,o::r=>(o.after.toList.all λe=>!Region.binds .any e||Nat.blt e.on j)&&aLe (j+1) r
def aHt (ops : Array Oper) (y : Oper) (b : Nat) : Nat→List Oper→Bool
 | _,[]=>true
 | i,x::xs=>(x.apart ops y||b.testBit i)&&aHt ops y b (i+1) xs
def aHu (ops : Array Oper) (ms : List Nat) : Nat→List Oper→Bool
 | _,[]=>true
 | j,o::r=>aHt ops o (ms.getD j 0) 0 (ops.toList.take j)&&aHu ops ms (j+1) r
def stf (acc : List (Nat × iR)) (k : List (Nat × iR)→OR) : OR:=k acc
def qG (ops : Array Oper) (draw : Bool) : Nat→List (Nat × iR)→List Oper→gJ→St→aOt→OR
 | i,acc,[],e,s,k=>if draw&&!xP (aB3 ops.toList []) s.base acc then none else k e { s with base:=s.base+16*i,nb:=0,nl:=0}
 | i,acc,o::r,e,s,k=>
   let n:=s.base+16*i
   let one:=λ(e : gJ)=>
    stf (if draw then (i,aAi X o e { s with nb:=n,nl:=n})::acc else []) λacc'=>
    exec X O o e { s with nb:=n,nl:=n} λe s'=>
     if Nat.ble s'.nb (n+16)&&Nat.ble s'.nl (n+16)&&Nat.beq s'.base s.base then stp e s' λe s'=>qG ops draw (i+1) acc' r e s' k else none
   let skip:=λ(e : gJ)=>qG ops draw (i+1) (if draw then (i,iR.none)::acc else []) r (put o.dst (.tup []) e) { s with nb:=n,nl:=n} k
   match o.guard with
   | none=>one e
   | some (j,want)=>match aD3 ops.toList j with
     | none=>none
     | some t=>match e.get t with
       | .p c=>aV c
        (if want then one ((t,.p (.bool true))::e) else skip ((t,.p (.bool true))::e))
        (if want then skip ((t,.p (.bool false))::e) else one ((t,.p (.bool false))::e))
       | .tup []=>skip e
       | _=>none
def aAj (e : gJ) (s : St) : List ResultVar→(List DV→OR)→OR
 | [],k=>k []
 | .tmp t::r,k=>match e.get t with
  | .dead=>none
  | d=>aAj e s r λds=>k (d::ds)
 | .cell a t::r,k=>aA1 X t (e.get a) s λd=>aAj e s r λds=>k (d::ds)
def aB4 : List DV→DV
 | [d]=>d
 | ds=>.tup ds
def aNG (s : St) : List DV→List DV→(List DV→St→OR)→OR
 | .p _::ts,d::ds,k=>aJF s d λv s=>aNG s ts ds λds s=>k (.p v::ds) s
 | _::ts,d::ds,k=>aNG s ts ds λds s=>k (d::ds) s
 | _,ds,k=>k ds s
def aV7 : DV→List DV
 | .tup cs=>cs
 | d=>[d]
def aKP (e : gJ) (s : St) : OR:=
 aAj X e s X.res λds=>
  match X.out with
  | none=>uV s cU (aB4 ds) λv=>some [v]
  | some t=>aNG s (aV7 t.res) ds λds s=>
    let a:=mO X.nb X.nl s [aB4 ds]
    t.read (ren (yR · a.bs 0) (yR · a.ls 0) cU (aB4 ds)) (s.pick a)
def eval : Nat→Bool→List Item→gJ→St→OR
 | 0,_,_,_,_=>none
 | n+1,first,todo,e,s=>match todo with
   | []=>aKP X e s
   | .inBlock _::k=>eval n first k e s
   | .inScope _::k=>eval n first k e s
   | .inLoop body::k=>eval n first (.code body::.inLoop body::k) e s
   | .code c::k=>match c with
    | .ret=>aKP X e s
    | .skip=>eval n first k e s
    | .label _=>eval n first k e s
    | .seq a b=>eval n first (.code a::.code b::k) e s
    | .block id c=>eval n first (.code c::.inBlock id::k) e s
    | .loop c=>eval n first (.code c::.inLoop c::k) e s
    | .scope c=>eval n first (.code c::.inScope c::k) e s
    | .exit id=>match exitTo id k with
     | some k'=>eval n first k' e s
     | none=>none
    | .goto l=>match gotoIn l k with
     | some k'=>eval n first k' e s
     | none=>none
    | .cond c a b=>match ev X e c with
     | .nilq v neg=>cC v (eval n false (.code (if neg then b else a)::k) e s) (eval n false (.code (if neg then a else b)::k) e s)
     | .p v=>match c with
      | .tmp t=>aV v (eval n false (.code a::k) ((t,.p (.bool true))::e) s) (eval n false (.code b::k) ((t,.p (.bool false))::e) s)
      | _=>aV v (eval n false (.code a::k) e s) (eval n false (.code b::k) e s)
     | _=>none
    | .region id ops draw=>aK9 (X.frz id) e s λe s=>match first,X.cut id with
     | false,some keep=>
       let a:=mO X.nb X.nl s (tB e keep)
       O.L todo (aKM e (yR · a.bs 0) (yR · a.ls 0) keep) (s.pick a)
     | _,_=>qG X O ops draw 0 [] ops.toList e s λe s=>eval n false k e s
    | _=>none
   | _=>none
end
def aSx (n : Nat) (ops : Array Oper) (draw : Bool) : Bool:=
 (ops.toList.all λo=>match o.dst with | some t=>Nat.blt t n | none=>true)&&
 (!draw||(aLe 0 ops.toList&&aHu ops (aB3 ops.toList []) 0 ops.toList))
def lP (n : Nat) : Code→Bool
 | .seq a b=>lP n a&&lP n b
 | .cond _ a b=>lP n a&&lP n b
 | .block _ b=>lP n b
 | .loop b=>lP n b
 | .scope b=>lP n b
 | .region _ ops d=>aSx n ops d
 | _=>true
def jY : Nat:=2000
def aIP (P : Program) (T : pS) (H : aF3) (f nb nl : Nat) (out : Option eX) : Cx:=
 { T,res:=((P.funcs[f]?).map (·.results.toList)).getD [],cut:=H.cut f,frz:=H.frz f,mode:=H.mode,own:=H.own f,glob:=H.glob,zok:=H.zok,out,nb,nl}
def aOA (P : Program) (f : Nat) : Option Code:=(P.funcs[f]?).bind (·.body)
def lk {α : Type} (n : Nat) : List (Nat × α)→Option α
 | []=>none
 | (m,a)::r=>if Nat.beq n m then some a else lk n r
def bs (l : List UInt8) : ByteArray:=⟨⟨l⟩⟩
def aD5 (rid : Nat) : Code→List Item→Option (List Item)
 | .region id ops d,k=>if Nat.beq id rid then some (.code (.region id ops d)::k) else none
 | .seq a b,k=>match aD5 rid a (.code b::k) with
  | some t=>some t
  | none=>aD5 rid b k
 | .cond _ a b,k=>match aD5 rid a k with
  | some t=>some t
  | none=>aD5 rid b k
 | .block id b,k=>aD5 rid b (.inBlock id::k)
 | .loop b,k=>aD5 rid b (.inLoop b::k)
 | .scope b,k=>aD5 rid b (.inScope b::k)
 | _,_=>none
def aXh (P : Program) (f rid : Nat) : List Item:=match aOA P f with
 | some c=>(aD5 rid c []).getD []
 | none=>[]
def kD (P : Program) (f : Nat) : List Item:=match aOA P f with
 | some c=>[.code c]
 | none=>[.code (.refuse "")]
def qB : Nat→List DV→gJ
 | _,[]=>[]
 | n,d::r=>(n,d)::qB (n+1) r
def yS (P : Program) (H : aF3) (run : Nat→Nat→Nat→Option eX→List Item→gJ→St→OR) (f nb nl : Nat) (out : Option eX) : Orc:=
 { L:=run f nb nl out
   C:=λg args=>match H.prim g with
    | some h=>h args
    | none=>run g 0 0 none (kD P g) (qB 0 (args.map .p)) ⟨[],[],0,0,0⟩
   S:=λg args s=>match H.mode g with
    | some t=>(match H.primS g with
      | some h=>h args s
      | none=>run g s.boxes.length (if t.keep then s.lists.length else 0) (some (t.fit s)) (kD P g) (qB 0 args) s)
    | none=>none}
def zD (P : Program) (T : pS) (H : aF3) : Nat→Nat→Nat→Nat→Option eX→List Item→gJ→St→OR
 | 0,_,_,_,_,_,_,_=>none
 | n+1,f,nb,nl,out,todo,e,s=>eval (aIP P T H f nb nl out) (yS P H (zD P T H n) f nb nl out) jY true todo e s
abbrev o3 : OTy:=.own 3 32 true []
abbrev oF : OTy:=.own 4 64 true [.leaf,.leaf,o3,o3]
abbrev oH : OTy:=.own 1 24 true [o3]
abbrev oO : OTy:=.own 1 16 false []
abbrev oS : OTy:=.own 4 32 true []
def tf : Option TyR:=some ⟨.func,1,8,true⟩
def ti : Option TyR:=some ⟨.int IntKind.i64,1,8,true⟩
def w1 (x : PV) (k : PV→OR) : OR:=bd (bE 1 x) λv=>bd (PV.cell v 0) λa=>k a
def w2 (x : PV) (k : PV→PV→OR) : OR:=bd (bE 2 x) λv=>bd (PV.cell v 0) λa=>bd (PV.cell v 1) λb=>k a b
def w3 (x : PV) (k : PV→PV→PV→OR) : OR:=bd (bE 3 x) λv=>bd (PV.cell v 0) λa=>bd (PV.cell v 1) λb=>bd (PV.cell v 2) λc=>k a b c
def w4 (x : PV) (k : PV→PV→PV→PV→OR) : OR:=bd (bE 4 x) λv=>bd (PV.cell v 0) λa=>bd (PV.cell v 1) λb=>bd (PV.cell v 2) λc=>bd (PV.cell v 3) λd=>k a b c d
def w10 (x : PV) (k : PV→PV→PV→PV→PV→PV→PV→PV→PV→PV→OR) : OR:=bd (bE 10 x) λv=>bd (PV.cell v 0) λa=>bd (PV.cell v 1) λb=>bd (PV.cell v 2) λc=>bd (PV.cell v 3) λd=>bd (PV.cell v 4) λe=>bd (PV.cell v 5) λf=>bd (PV.cell v 6) λg=>bd (PV.cell v 7) λh=>bd (PV.cell v 8) λi=>bd (PV.cell v 9) λj=>k a b c d e f g h i j
def ib (p : BinOp) (a b : PV) (x y : OR) : OR:=bd (aD p a b) λv=>aV v x y
def nb (a : PV) (x y : OR) : OR:=bd (dB a) λv=>aV v x y
def c2 (x : PV) (k : PV→PV→OR) : OR:=bd (cA x 0) λa=>bd (cA x 1) λb=>k a b
def c3 (x : PV) (k : PV→PV→PV→OR) : OR:=bd (cA x 0) λa=>bd (cA x 1) λb=>bd (cA x 2) λc=>k a b c
def g10 (r : R) (o : OR) : OR:=aE (gd r 0) (aE (gd r 1) (aE (gd r 2) (aE (gd r 3) (aE (gd r 4) (aE (gd r 5) (aE (gd r 6) (aH (.own 4 64 true [.leaf,.leaf,(.own 3 32 true []),(.own 3 32 true [])]) (gd r 7) (aH (.own 1 24 true [(.own 3 32 true [])]) (gd r 8) (aH (.own 1 16 false []) (gd r 9) o)))))))))
def g11 (r : R) (o : OR) : OR:=aE (gd r 0) (aE (gd r 1) (aE (gd r 2) (aE (gd r 3) (aE (gd r 4) (aE (gd r 5) (aE (gd r 6) (aE (gd r 7) (aH (.own 4 64 true [.leaf,.leaf,(.own 3 32 true []),(.own 3 32 true [])]) (gd r 8) (aH (.own 1 24 true [(.own 3 32 true [])]) (gd r 9) (aH (.own 1 16 false []) (gd r 10) o))))))))))
end
noncomputable section
open Go Go.IntWalk
variable {r : R} {o x y : OR} {p : Prop} {xs ys cs : R} {s e n j : Nat} {g : Bool} {i m : Int} {v c d : PV} {l : List Int}
def Ok (P : R→Prop) (o : OR) : Prop:=∃ r,o=some r∧P r
section
variable {P Q : R → Prop}
theorem Ok.eq (h : Ok (λx=>x=r) o) : o=some r:=by
 obtain ⟨x,h1,rfl⟩:=h
 exact h1
theorem Ok.of (h : o=some r) : Ok (λx=>x=r) o:=⟨r,h,rfl⟩
theorem Ok.mono (h : Ok Q o) (hq : ∀ r,Q r→P r) : Ok P o:=by
 obtain ⟨x,h1,h2⟩:=h
 exact ⟨x,h1,hq x h2⟩
theorem aA (h : P r) : Ok P (some r):=⟨r,rfl,h⟩
theorem eZ {α : Type} {o : Option α} {k : α→OR} (a : α) (h : o=some a) (hk : Ok P (k a)) : Ok P (bd o k):=by rw [h];exact hk
theorem aI {k : R→OR} (h : Ok Q o) (hk : ∀ r,Q r→Ok P (k r)) : Ok P (bd o k):=by
 obtain ⟨r,h1,h2⟩:=h
 rw [h1]
 exact hk r h2
theorem gC [Decidable p] (h1 : p→Ok P x) (h2 : ¬ p→Ok P y) : Ok P (aV (.bool (decide p)) x y):=by
 by_cases h : p
 ·rw [decide_eq_true h];exact h1 h
 ·rw [decide_eq_false h];exact h2 h
theorem eL [Decidable p] (h1 : ¬ p→Ok P x) (h2 : p→Ok P y) : Ok P (aV (.bool (!decide p)) x y):=by
 by_cases h : p
 ·rw [decide_eq_true h];exact h2 h
 ·rw [decide_eq_false h];exact h1 h
theorem aZ {b : Bool} (h1 : b=true→Ok P x) (h2 : b=false→Ok P y) : Ok P (aV (.bool b) x y):=by
 cases b
 ·exact h2 rfl
 ·exact h1 rfl
theorem bF (h1 : Ok P x) : Ok P (aV (.bool true) x y):=h1
theorem bP (h1 : Ok P y) : Ok P (aV (.bool false) x y):=h1
variable {k : PV → OR} {kk : IntKind} {a b : Int}
theorem mC {op : BinOp} (h1 : op≠.shl) (h2 : op≠.shr) : aD op (.int kk a) (.int kk b)=lO op kk a b:=by
 cases op<;>simp [aD]<;>first | exact absurd rfl h1 | exact absurd rfl h2
theorem fB (h : Ok P (k (.bool (decide (a<b))))) : Ok P (bd (aD .lss (.int kk a) (.int kk b)) k):=eZ _ (by rw [mC (by simp) (by simp)];rfl) h
theorem jM (h : Ok P (k (.bool (decide (a≤b))))) : Ok P (bd (aD .leq (.int kk a) (.int kk b)) k):=eZ _ (by rw [mC (by simp) (by simp)];rfl) h
theorem lQ (h : Ok P (k (.bool (decide (b<a))))) : Ok P (bd (aD .gtr (.int kk a) (.int kk b)) k):=eZ _ (by rw [mC (by simp) (by simp)];rfl) h
theorem jN (h : Ok P (k (.bool (decide (b≤a))))) : Ok P (bd (aD .geq (.int kk a) (.int kk b)) k):=eZ _ (by rw [mC (by simp) (by simp)];rfl) h
theorem cL (h : Ok P (k (.bool (decide (a=b))))) : Ok P (bd (aD .eql (.int kk a) (.int kk b)) k):=eZ _ (by rw [mC (by simp) (by simp)];rfl) h
theorem kZ (h : Ok P (k (.bool (!decide (a=b))))) : Ok P (bd (aD .neq (.int kk a) (.int kk b)) k):=eZ _ (by rw [mC (by simp) (by simp)];rfl) h
theorem oQ (hr : -9223372036854775808≤a+b∧a+b≤9223372036854775807) (h : Ok P (k (.I (a+b)))) : Ok P (bd (aD .add (.I a) (.I b)) k):=
 eZ _ (by rw [mC (by simp) (by simp)];simp only [lO];rw [i64_in _ hr]) h
theorem iS (hr : -9223372036854775808≤a - b∧a - b≤9223372036854775807) (h : Ok P (k (.I (a - b)))) : Ok P (bd (aD .sub (.I a) (.I b)) k):=
 eZ _ (by rw [mC (by simp) (by simp)];simp only [lO];rw [i64_in _ hr]) h
theorem nW (hr : -9223372036854775808≤a*b∧a*b≤9223372036854775807) (h : Ok P (k (.I (a*b)))) : Ok P (bd (aD .mul (.I a) (.I b)) k):=
 eZ _ (by rw [mC (by simp) (by simp)];simp only [lO];rw [i64_in _ hr]) h
theorem nX (h0 : 0≤a) (hb : 0<b) (h : Ok P (k (.int kk (a % b)))) : Ok P (bd (aD .rem (.int kk a) (.int kk b)) k):=
 eZ _ (by rw [mC (by simp) (by simp)];simp only [lO];rw [if_neg (by omega),Int.tmod_eq_emod_of_nonneg h0]) h
theorem oR (h0 : 0≤a) (hb : 0<b) (hr : a≤9223372036854775807) (h : Ok P (k (.I (a / b)))) : Ok P (bd (aD .quo (.I a) (.I b)) k):=
 eZ _ (by rw [mC (by simp) (by simp)];simp only [lO];rw [if_neg (by omega),i64_quo _ _ ⟨h0,hr,by omega⟩]) h
theorem mP (hr : -9223372036854775808≤0 - a∧0 - a≤9223372036854775807) (h : Ok P (k (.I (0 - a)))) : Ok P (bd (dM (.I a)) k):=
 eZ _ (by simp only [dM];rw [i64_in _ hr]) h
theorem cD {x : Bool} (h : Ok P (k (.bool (!x)))) : Ok P (bd (dB (.bool x)) k):=h
theorem aCy {x y : Bool} (h : Ok P (k (.bool (x==y)))) : Ok P (bd (dL .eql (.bool x) (.bool y)) k):=h
theorem eS (h : Ok P (k (.I xs.length))) : Ok P (bd (aK (.lst xs)) k):=h
theorem gK {s : ByteArray} (h : Ok P (k (.I s.size))) : Ok P (bd (bV (.str s)) k):=h
theorem mQ (hr : -9223372036854775808≤a∧a≤9223372036854775807) (h : Ok P (k (.I a))) : Ok P (bd (bR .i64 (.int kk a)) k):=eZ _ (by simp only [bR];rw [i64_in _ hr]) h
theorem aXU (hr : 0≤a∧a≤255) (h : Ok P (k (.int .u8 a))) : Ok P (bd (bR .u8 (.int kk a)) k):=eZ _ (by simp only [bR];rw [u8_in _ hr]) h
theorem aV8 (h0 : 0≤i) (h1 : i<xs.length) (he : ∀ x∈xs,x.isEl s g=true) : ∃ x,x∈xs∧xs[i.toNat]? = some x∧aB s g (.lst xs) (.int kk i)=some x:=by
 have hlt : i.toNat<xs.length:=by omega
 refine ⟨xs[i.toNat],List.getElem_mem _,List.getElem?_eq_getElem hlt,?_⟩
 simp only [aB]
 rw [if_pos h0,List.getElem?_eq_getElem hlt]
 simp only
 rw [if_pos (he _ (List.getElem_mem _))]
theorem aAk (h0 : 0≤i) (h1 : i<xs.length) (he : ∀ x∈xs,x.isEl s g=true) (h : ∀ x,x∈xs→xs[i.toNat]? = some x→Ok P (k x)) :
 Ok P (bd (aB s g (.lst xs) (.int kk i)) k):=by
 obtain ⟨x,h2,h3,h4⟩:=aV8 (kk:=kk) h0 h1 he
 exact eZ x h4 (h x h2 h3)
theorem eH (h0 : 0≤i) (h1 : i<xs.length) (h : Ok P (k (.lst xs))) : Ok P (bd (aT (.lst xs) (.int kk i)) k):=
 eZ _ (by simp only [aT];rw [if_pos ⟨h0,h1⟩]) h
theorem iT (hb : (xs.length+ys.length)*e≤140737488355328) (he : ∀ x∈ys,x.isEl s g=true) (h : Ok P (k (.lst (xs++ys)))) : Ok P (bd (aN s e g (.lst xs) (.lst ys)) k):=
 eZ _ (by
  simp only [aN,eK]
  rw [if_pos ⟨hb,List.all_eq_true.2 he⟩]) h
theorem aCz {n : Int} {k1 k2 : IntKind} (h0 : 0≤m) (h1 : m≤n) (h2 : n≤xs.length) (he : ∀ x∈xs,x.isEl s g=true) (h : Ok P (k (.lst ((xs.take n.toNat).drop m.toNat)))) :
 Ok P (bd (bA s g (.lst xs) (.int k1 m) (.int k2 n)) k):=
 eZ _ (by
  have hh : aDW s g xs=true:=by
   cases xs with
   | nil=>rfl
   | cons x r=>exact he x List.mem_cons_self
  simp only [bA,hh,if_true,nC]
  rw [if_pos ⟨by omega,h2⟩,Option.bind_some,if_pos ⟨h0,by omega⟩,Option.bind_some]) h
theorem kM {off : Nat} (h0 : 0≤i) (hx : xs[i.toNat]? = some (.agg cs)) (hc : cs.length=s) (ho : off<s) (hv : v.isEl 1 false=true) (h : Ok P (k (.lst (xs.set i.toNat (.agg (cs.set off v)))))) :
 Ok P (bd (aC s (.lst xs) (.int kk i) off v) k):=
 eZ _ (by
  simp only [aC]
  rw [if_pos h0,hx]
  simp only
  rw [if_pos ⟨hc,ho,hv⟩]) h
theorem aD6 (h0 : 0≤i) (h1 : i<xs.length) (hv : v.isEl s g=true) (h : Ok P (k (.lst (xs.set i.toNat v)))) :
 Ok P (bd (aX s g (.lst xs) (.int kk i) v) k):=
 eZ _ (by simp only [aX];rw [if_pos ⟨h0,h1,hv⟩]) h
theorem bJ {x : PV} (hx : x.isEl 1 false=true) (h : Ok P (k x)) : Ok P (bd (aS x) k):=eZ x (by simp only [aS];rw [if_pos hx]) h
theorem aL {y : PV} (hy : cs[j]? = some y) (h : Ok P (k y)) : Ok P (bd (PV.cell (.agg cs) j) k):=eZ y hy h
theorem lA {y : PV} (hy : cs[j]? = some y) (h : Ok P (k y)) : Ok P (bd (cA (.tup cs) j) k):=eZ y hy h
theorem gR (hy : cs.length=n) (h : Ok P (k (.agg cs))) : Ok P (bd (bE n (.agg cs)) k):=eZ _ (by simp only [bE];rw [if_pos (by rw [hy];exact Nat.beq_refl n)]) h
theorem eF {r : PV} (hf : r.flat=true) (h : Ok P o) : Ok P (aE r o):=by
 unfold aE;rw [if_pos hf];exact h
theorem gD {t : OTy} {r : PV} (hf : PV.flatO t r=true) (h : Ok P o) : Ok P (aH t r o):=by
 unfold aH;rw [if_pos hf];exact h
theorem sL {C : Nat→R→OR} {kr : R→OR} {f : Nat} {caps args : R} (e : C f (args++caps)=o) (h : Ok Q o) (hk : ∀ r,Q r→Ok P (kr r)) : Ok P (bd (PV.apply C (.fn f caps) args) kr):=by
 refine aI (Q:=Q) ?_ hk
 show Ok Q (C f (args++caps))
 rw [e]
 exact h
theorem sM {y : PV} (hy : cs[j]? = some y) (h : Ok P (k y)) : Ok P (bd (PV.deref (.bx cs) j) k):=eZ y hy h
theorem aLf : ∀ l : List Int,(l.map (PV.int .u8)).mapM aAe=some (l.map λx=>UInt8.ofNat x.toNat)
 | []=>rfl
 | x::r=>by
   rw [List.map_cons,List.mapM_cons,aLf r]
   rfl
def cX (l : List Int) : PV:=.lst (l.map (PV.int .u8))
theorem aUH : ∀ x∈l.map (PV.int .u8),x.isEl 1 false=true:=by
 intro x hx
 obtain ⟨a,_,rfl⟩:=List.mem_map.1 hx
 rfl
theorem dW (h : Ok P (k (.I l.length))) : Ok P (bd (aK (cX l)) k):=by
 refine eZ _ ?_ h
 show some (PV.I ((l.map (PV.int .u8)).length : Int))=_
 rw [List.length_map]
theorem aTk {s : ByteArray} (h : Ok P (k (.bool false))) : Ok P (bd (aD .neq (.str s) (.str s)) k):=eZ _ (by simp [aD,xO]) h
theorem aUI (h : Ok P (k (.str ⟨(l.map λx=>UInt8.ofNat x.toNat).toArray⟩))) : Ok P (bd (bK (cX l)) k):=
 eZ _ (by
  show bK (.lst (l.map (PV.int .u8)))=_
  simp only [bK]
  rw [aLf]
  rfl) h
theorem mD (hb : ys.length*e≤140737488355328) (he : ∀ x∈ys,x.isEl s g=true) (h : Ok P (k (.lst ys))) : Ok P (bd (aN s e g (.lst []) (.lst ys)) k):=
 iT (by simpa using hb) he h
theorem aJI (h0 : 0≤i) (h1 : i<l.length) (h : ∀ x,x∈l→l[i.toNat]? = some x→Ok P (k (.int .u8 x))) : Ok P (bd (aB 1 false (cX l) (.int kk i)) k):=by
 refine aAk h0 (by rw [List.length_map];exact h1) aUH (λx hx hi=>?_)
 rw [List.getElem?_map] at hi
 cases hl : l[i.toNat]? with
 | none=>rw [hl] at hi;cases hi
 | some y=>
   rw [hl] at hi
   cases hi
   exact h y (List.mem_of_getElem? hl) hl
theorem aLg (h : Ok P (k (.lst xs))) : Ok P (bd (bL (.lst xs)) k):=h
theorem aPI {q : IntKind} {n : Int} (h : Ok P (k (.int q n))) : Ok P (bd (bO (.int q n)) k):=h
theorem aGq {x : PV} (h0 : 0≤i) (hx : xs[i.toNat]? = some x) (he : x.isEl s g=true) (h : Ok P (k x)) : Ok P (bd (aB s g (.lst xs) (.int kk i)) k):=
 eZ x (by simp only [aB];rw [if_pos h0,hx];simp only;rw [if_pos he]) h
theorem aSy {x : PV} (h0 : 0≤i∧i<n∧cs.length=n) (hx : cs[i.toNat]? = some x) (he : x.isEl 1 false=true) (h : Ok P (k x)) : Ok P (bd (fK n (.agg cs) (.int kk i)) k):=
 eZ x (by simp only [fK];rw [if_pos h0,hx];simp only;rw [if_pos he]) h
end
theorem aOB (hx : xs = []→Ok (λq=>q=r) x) (hy : Ok (λq=>q=r) y) : Ok (λq=>q=r) (cC (.lst xs) x y):=by
 cases xs with
 | nil=>
   have h1:=(hx rfl).eq
   have h2:=hy.eq
   refine ⟨r,?_,rfl⟩
   show @_root_.ite _ (x=y) (Classical.propDecidable _) x none=some r
   rw [h1,h2,if_pos rfl]
 | cons a l=>exact hy
universe u
section
variable {P : R → Prop}
theorem aPJ {a : PV} {k : PV→OR} (H : Ok P (k a)) : Ok P (w1 (.agg [a]) k):=H
theorem dY {a b : PV} {k : PV→PV→OR} (H : Ok P (k a b)) : Ok P (w2 (.agg [a,b]) k):=H
theorem cB {a b : PV} {k : PV→PV→PV→OR} (H : Ok P (k a b c)) : Ok P (w3 (.agg [a,b,c]) k):=H
theorem jG {a b : PV} {k : PV→PV→PV→PV→OR} (H : Ok P (k a b c d)) : Ok P (w4 (.agg [a,b,c,d]) k):=H
theorem tS {a b e f g h i j : PV} {k : PV→PV→PV→PV→PV→PV→PV→PV→PV→PV→OR} (H : Ok P (k a b c d e f g h i j)) : Ok P (w10 (.agg [a,b,c,d,e,f,g,h,i,j]) k):=H
theorem gZ {a b : PV} {k : PV→PV→OR} (h : Ok P (k a b)) : Ok P (c2 (.tup [a,b]) k):=h
theorem aXV {a b : PV} {k : PV→PV→PV→OR} (h : Ok P (k a b c)) : Ok P (c3 (.tup [a,b,c]) k):=h
theorem bS {k : PV→OR} {a b : Int} (h : Ok P (k (.I (a+b)))) (hr : -9223372036854775808≤a+b∧a+b≤9223372036854775807:=by omega) : Ok P (bd (aD .add (.I a) (.I b)) k):=oQ hr h
theorem dS {k : PV→OR} {a b : Int} (h : Ok P (k (.I (a - b)))) (hr : -9223372036854775808≤a - b∧a - b≤9223372036854775807:=by omega) : Ok P (bd (aD .sub (.I a) (.I b)) k):=iS hr h
theorem eV {α : Sort u} {c : Prop} [Decidable c] {a b : α} (h : ¬c:=by omega) : ite c a b=b:=if_neg h
theorem gH {α : Sort u} {c : Prop} [Decidable c] {a b : α} (h : c:=by omega) : ite c a b=a:=if_pos h
theorem aO {kk : IntKind} {a b : Int} (h1 : a<b→Ok P x) (h2 : ¬ (a<b)→Ok P y) : Ok P (ib .lss (.int kk a) (.int kk b) x y):=fB (gC h1 h2)
theorem aD7 {kk : IntKind} {a b : Int} (h1 : a≤b→Ok P x) (h2 : ¬ (a≤b)→Ok P y) : Ok P (ib .leq (.int kk a) (.int kk b) x y):=jM (gC h1 h2)
theorem iU {kk : IntKind} {a b : Int} (h1 : b<a→Ok P x) (h2 : ¬ (b<a)→Ok P y) : Ok P (ib .gtr (.int kk a) (.int kk b) x y):=lQ (gC h1 h2)
theorem aCA {kk : IntKind} {a b : Int} (h1 : b≤a→Ok P x) (h2 : ¬ (b≤a)→Ok P y) : Ok P (ib .geq (.int kk a) (.int kk b) x y):=jN (gC h1 h2)
theorem aJ {kk : IntKind} {a b : Int} (h1 : a=b→Ok P x) (h2 : ¬ (a=b)→Ok P y) : Ok P (ib .eql (.int kk a) (.int kk b) x y):=cL (gC h1 h2)
theorem dD {kk : IntKind} {a b : Int} (h1 : ¬ (a=b)→Ok P x) (h2 : a=b→Ok P y) : Ok P (ib .neq (.int kk a) (.int kk b) x y):=kZ (eL h1 h2)
theorem vR (h : Ok P y) : Ok P (nb (.bool true) x y):=h
theorem aV9 (h : Ok P x) : Ok P (nb (.bool false) x y):=h
end
end
noncomputable section
open Go
def T : pS:=[
 some ⟨.other,1,0,true⟩,
 tf,
 ti,
 ti,
 some ⟨.bool,1,1,true⟩,
 some ⟨(.int .u8),1,1,true⟩,
 some ⟨(.int .u8),1,1,true⟩,
 some ⟨(.struct [(0,2),(1,3),(2,4),(3,6)]),4,24,true⟩,
 some ⟨(.struct [(0,2),(1,3),(2,4),(3,6)]),4,24,true⟩,
 some ⟨.str,1,16,true⟩,
 some ⟨.str,1,16,true⟩,
 some ⟨.str,1,16,true⟩,
 some ⟨(.int .u64),1,8,true⟩,
 some ⟨(.struct [(0,9),(1,12)]),2,24,false⟩,
 some ⟨(.struct [(0,9),(1,12)]),2,24,false⟩,
 some ⟨.ptr,1,8,true⟩,
 some ⟨.ptr,1,8,true⟩,
 some ⟨.ptr,1,8,true⟩,
 some ⟨(.struct [(0,17)]),1,8,false⟩,
 some ⟨(.struct [(0,17)]),1,8,false⟩,
 some ⟨.other,1,16,true⟩,
 some ⟨(.int .i32),1,4,true⟩,
 some ⟨(.slice 5),1,24,true⟩,
 tf,
 some ⟨(.slice 9),1,24,true⟩,
 some ⟨(.slice 54),1,24,true⟩,
 some ⟨(.struct [(0,24),(1,25)]),2,48,true⟩,
 some ⟨(.struct [(0,24),(1,25)]),2,48,true⟩,
 some ⟨(.slice 49),1,24,true⟩,
 some ⟨(.slice 68),1,24,true⟩,
 some ⟨(.struct [(0,3),(1,3),(2,9)]),3,32,true⟩,
 some ⟨(.struct [(0,3),(1,3),(2,9)]),3,32,true⟩,
 some ⟨(.struct [(0,28),(1,29),(2,3),(3,24),(4,3),(5,3),(6,31),(9,3)]),10,136,true⟩,
 some ⟨(.struct [(0,28),(1,29),(2,3),(3,24),(4,3),(5,3),(6,31),(9,3)]),10,136,true⟩,
 some ⟨.other,1,0,true⟩,
 tf,
 tf,
 tf,
 some ⟨(.slice 31),1,24,true⟩,
 some ⟨.other,1,0,true⟩,
 tf,
 some ⟨(.slice 57),1,24,true⟩,
 tf,
 tf,
 some ⟨.other,1,0,true⟩,
 tf,
 tf,
 tf,
 some ⟨(.struct [(0,3),(1,3),(2,38),(3,38)]),4,64,true⟩,
 some ⟨(.struct [(0,3),(1,3),(2,38),(3,38)]),4,64,true⟩,
 some ⟨(.struct [(0,3),(1,3)]),2,16,true⟩,
 some ⟨(.struct [(0,3),(1,3)]),2,16,true⟩,
 some ⟨(.slice 51),1,24,true⟩,
 some ⟨(.struct [(0,3),(1,3),(2,52)]),3,40,true⟩,
 some ⟨(.struct [(0,3),(1,3),(2,52)]),3,40,true⟩,
 tf,
 some ⟨(.struct [(0,3),(1,3),(2,3),(3,3)]),4,32,true⟩,
 some ⟨(.struct [(0,3),(1,3),(2,3),(3,3)]),4,32,true⟩,
 tf,
 some ⟨.ptr,1,8,true⟩,
 tf,
 tf,
 tf,
 tf,
 tf,
 tf,
 tf,
 some ⟨(.struct [(0,38)]),1,24,true⟩,
 some ⟨(.struct [(0,38)]),1,24,true⟩,
 tf,
 tf,
 tf,
 tf,
 tf,
 tf,
 some ⟨.ptr,1,8,true⟩,
 tf,
 tf,
 tf,
 tf,
 tf,
 tf,
 some ⟨.other,1,0,true⟩,
 tf,
 tf,
 tf,
 tf,
 some ⟨(.struct [(0,22),(1,3),(2,3)]),3,40,true⟩,
 some ⟨(.struct [(0,22),(1,3),(2,3)]),3,40,true⟩,
 tf,
 tf,
 tf,
 tf,
 tf,
 some ⟨(.slice 3),1,24,true⟩,
 tf,
 tf,
 some ⟨.ptr,1,8,true⟩,
 some ⟨(.struct [(0,29),(1,94),(2,94)]),3,72,true⟩,
 some ⟨(.struct [(0,29),(1,94),(2,94)]),3,72,true⟩,
 tf,
 tf,
 tf,
 some ⟨(.slice 94),1,24,true⟩,
 tf,
 tf,
 tf,
 tf,
 tf,
 tf,
 tf,
 tf,
 tf,
 tf,
 tf,
 tf,
 some ⟨.other,1,0,true⟩,
 tf,
 tf,
 tf,
 some ⟨.ptr,1,8,true⟩,
 some ⟨(.struct [(0,27),(2,33),(12,3)]),13,192,true⟩,
 some ⟨(.struct [(0,27),(2,33),(12,3)]),13,192,true⟩,
 some ⟨.ptr,1,8,true⟩,
 tf,
 tf,
 some ⟨(.struct [(0,3),(1,3),(2,3)]),3,24,true⟩,
 some ⟨(.struct [(0,3),(1,3),(2,3)]),3,24,true⟩,
 tf,
 tf,
 tf,
 some ⟨(.int .u64),1,8,true⟩,
 tf,
 tf,
 tf,
 tf,
 tf,
 tf,
 tf,
 tf,
 tf,
 tf,
 tf,
 tf,
 tf,
 tf,
 tf,
 tf,
 tf,
 some ⟨.other,1,0,true⟩,
 tf,
 some ⟨.other,1,0,true⟩,
 tf,
 tf,
 tf,
 tf,
 tf,
 some ⟨.ptr,1,8,true⟩,
 some ⟨.other,1,0,true⟩,
 tf,
 tf,
 tf,
 tf,
 tf,
 tf,
 tf,
 tf,
 tf,
 tf,
 tf,
 tf,
 tf,
 tf,
 some ⟨.other,1,0,true⟩,
 tf,
 tf,
 some ⟨.ptr,1,8,true⟩,
 some ⟨(.struct [(0,59),(1,52),(2,25),(3,3),(4,3),(5,4)]),6,80,true⟩,
 some ⟨(.struct [(0,59),(1,52),(2,25),(3,3),(4,3),(5,4)]),6,80,true⟩,
 tf,
 tf,
 tf,
 tf,
 tf,
 tf,
 tf,
 tf,
 some ⟨(.array 4 152),4,32,true⟩,
 tf,
 tf,
 tf,
 tf,
 tf,
 tf,
 tf,
 tf,
 tf,
 tf,
 some ⟨(.slice 38),1,24,true⟩,
 tf,
 some ⟨.other,1,0,true⟩,
 tf,
 tf,
 tf,
 tf,
 tf,
 some ⟨(.int .u32),1,4,true⟩,
 some ⟨.other,1,0,true⟩,
 tf,
 some ⟨(.int .u64),1,8,true⟩,
 some ⟨.other,1,0,true⟩,
 tf,
 tf,
 tf,
 some ⟨(.array 24 5),24,24,true⟩,
 tf,
 tf,
 some ⟨.other,1,0,true⟩,
 tf,
 tf,
 some ⟨(.array 20 209),20,160,true⟩,
 some ⟨(.array 65 5),65,65,true⟩,
 tf,
 tf,
 some ⟨(.array 32 5),32,32,true⟩,
 some ⟨(.array 64 5),64,64,true⟩,
 tf,
 some ⟨(.struct [(0,17),(1,17),(2,17),(3,9)]),4,40,false⟩,
 some ⟨(.struct [(0,17),(1,17),(2,17),(3,9)]),4,40,false⟩,
 some ⟨(.array 0 16),0,0,true⟩,
 some ⟨(.struct [(0,229)]),0,0,false⟩,
 some ⟨(.struct [(0,229)]),0,0,false⟩,
 some ⟨(.int .u8),1,1,true⟩,
 some ⟨(.int .u8),1,1,true⟩,
 tf,
 some ⟨.ptr,1,8,true⟩,
 some ⟨(.int .i32),1,4,true⟩,
 some ⟨(.int .i32),1,4,true⟩,
 some ⟨(.struct [(0,12),(1,12),(2,206),(3,232),(4,5),(5,5),(6,233),(7,234),(8,235),(9,236),(10,237)]),11,48,false⟩,
 some ⟨(.struct [(0,12),(1,12),(2,206),(3,232),(4,5),(5,5),(6,233),(7,234),(8,235),(9,236),(10,237)]),11,48,false⟩,
 some ⟨.other,1,8,true⟩]
set_option maxRecDepth 100000 in
theorem aW4 : aM Tryz.prog=T:=by kernel_rfl
def aXi : List (Nat × List (Nat × List Nat)):=[
 (3,[(10,[3,4,5,7])]),
 (4,[(6,[3,4,5]),(16,[3,5,6,7,9,10]),(27,[3,5,6,7,9,10,11,12,13,14]),(24,[3,5,6,7,9,10,11,12,13,14])]),
 (6,[(7,[2,3,4,5,6,7,8]),(12,[2,3,4,6,7,8])]),
 (12,[(4,[0,1,5])]),
 (13,[(6,[2,3,7,8,10])]),
 (14,[(4,[1,2,4,6]),(10,[1,4,7,8])]),
 (16,[(5,[3,7,24,25,26])]),
 (18,[(2,[1,2,6,9,10,11])]),
 (22,[(6,[0,6,7])]),
 (23,[(3,[1,2,3,4])]),
 (25,[(8,[3,4,5,6,7,8,9]),(12,[3,4,5,6,7,8,10]),(16,[3,4,7,8,11])]),
 (26,[(9,[0,1,5])]),
 (34,[(3,[0,3,5,6])]),
 (35,[(5,[3,4,8,10,26,27])]),
 (44,[(2,[1,2,7,8,9])]),
 (46,[(3,[0,2,4,8,9,10])]),
 (53,[(5,[2,3,6,7,9])]),
 (57,[(3,[0,3,4])]),
 (58,[(5,[2,3,5,6]),(10,[2,3,5,7]),(21,[2,3,5,8])]),
 (59,[(3,[0,1,5,6])]),
 (60,[(6,[0,3,4])]),
 (61,[(4,[2,3,5]),(9,[2,3,6]),(14,[2,3,7])]),
 (62,[(3,[1,2,3,4]),(8,[1,2,3,5,6]),(15,[1,2,3,5,9])]),
 (63,[(8,[1,3,5,7,43,44,45])]),
 (64,[(3,[1,3,8,9])]),
 (65,[(4,[1,2,15,16,17])]),
 (67,[(4,[1,2,15,16,17])]),
 (69,[(4,[0,1,12,13])]),
 (70,[(5,[2,4,5,6,18,19,20]),(10,[2,4,5,6,39,40,41]),(16,[2,4,5,6,55,56,57])]),
 (71,[(4,[1,3,4,11,12,13]),(11,[1,3,4,7])]),
 (72,[(3,[3,7,8,9])]),
 (73,[(3,[3,7,8,9])]),
 (75,[(74,[0,3,5,9,10,12,21])]),
 (81,[(2,[0,1,2,6,7])]),
 (82,[(4,[1,3,5,7,8,9]),(7,[1,3,5,7,9]),(9,[1,3,5,7,8,9]),(10,[1,3,5,7,9])]),
 (85,[(4,[1,2,3]),(9,[1,2,3,4,5,6]),(18,[1,2,3,4,5,6,9,10,11]),(23,[1,2,3,4,5,6,9,10,12])]),
 (87,[(4,[0,3])]),
 (88,[(4,[1,2,16,17]),(8,[1,2,3,4,16,17,28,29,30])]),
 (89,[(5,[2,3]),(6,[3,5])]),
 (90,[(3,[3,6,7,8])]),
 (94,[(3,[0,2,3,4]),(8,[0,2,3,5,6]),(15,[0,2,3,5,6,7,8])]),
 (95,[(21,[0,4,5]),(6,[0,4,5,6,8])]),
 (96,[(2,[1,2,3,7])]),
 (98,[(4,[0,1,5])]),
 (102,[(2,[0,5,6])]),
 (103,[(2,[1,2,13,14,15]),(5,[1,2,13,14,15,24,25,26]),(11,[1,2,36,37,38]),(14,[1,2,36,37,38,43,44,45])]),
 (107,[(5,[2,5,6,7]),(8,[2,5,6,7,27,28,29]),(13,[2,5,6,7,10,11,27,28,29,51,52,53]),(16,[2,5,6,10,11,13,27,28,29,51,52,53])]),
 (108,[(4,[0,1,12,13])]),
 (109,[(1,[0,1,5,6,7])]),
 (110,[(2,[0,1,7,8])]),
 (112,[(1,[1,5,6,7]),(4,[1,4,5,6,7])]),
 (114,[(24,[2,3]),(25,[2,3])]),
 (135,[(5,[0,1,2,7,8]),(10,[0,1,7])]),
 (137,[(4,[1,3]),(9,[1,4]),(15,[1,4,5,6])]),
 (138,[(4,[2,5,6,7]),(9,[2,5,6,8]),(12,[2,5,6,8,9]),(19,[2,5,6,8,9,12,13,14]),(22,[2,5,6,9,12,13,14])]),
 (140,[(4,[2,5]),(3,[1,2,5]),(5,[2,5])]),
 (141,[(4,[1,22,23,24])]),
 (150,[(1,[0,1,6])]),
 (151,[(2,[0,4]),(38,[0,1,5,6]),(50,[0,1,7]),(51,[0,1,7,8])]),
 (154,[(3,[1,2,3,4])]),
 (157,[(2,[0,1,7,8])]),
 (158,[(3,[0,3,9,10,11]),(11,[6,25,26,27])]),
 (160,[(3,[0,1]),(6,[0,6]),(8,[7,8])]),
 (169,[(2,[2,3,4])]),
 (172,[(2,[2,3,4]),(3,[2,3,4]),(4,[2,3,4])]),
 (180,[(2,[0,1,7,8])]),
 (181,[(1,[0,2,3])]),
 (182,[(7,[0,1,4,6])]),
 (183,[(3,[0,1,4,5])]),
 (185,[(2,[0,1,7,8])]),
 (186,[(3,[0,1])]),
 (195,[(2,[0,1,7,8])]),
 (197,[(2,[0,1,7,8])]),
 (202,[(8,[0,5,6])]),
 (206,[(1,[0,1,4]),(20,[0,4,12]),(25,[0,4,12])]),
 (207,[(3,[0,1,2,3,4,10,11]),(7,[0,1,2,3,4,10,11,12,13]),(25,[0,3,4,10,11,12,13]),(11,[0,1,3,4,10,11,12,13,14,15,16]),(18,[0,1,3,4,10,11,12,13,17]),(28,[0,4,10,11,12,13])]),
 (209,[(4,[0,2]),(7,[0,2]),(10,[0,2])])]
def aD8 (args : R) : OR:=match args with
 | [.int .i64 n]=>if -9223372036854775808≤n∧n≤9223372036854775807 then some [.str ⟨(Lib.itoa n).toArray⟩] else none
 | _=>none
def aAl (e : Nat) (args : List DV) (s : St) : OR:=match args,s.boxes with
 | [.nils,.p (.int .i64 n)],[]=>if 0≤n∧n.toNat*e≤140737488355328∧n≤1000000000000 then some [.lst []] else none
 | _,_=>none
def aFN : OTy:=.own 4 32 true []
def aUJ (i : Int) (c d : PV) : OR:=match c,d with
 | .lst xs,.lst [y]=>if 0≤i∧i≤xs.length∧xs.length≤1000000 then some [.lst (xs.take i.toNat++y::xs.drop i.toNat)] else none
 | _,_=>none
def qS (args : List DV) (s : St) : OR:=match args,s.boxes with
 | [.ref 0 [],.p (.int .i64 i),.ref 1 []],[]=>nU aFN s (.ref 0 []) λc s1=>nU aFN s1 (.ref 1 []) λd _=>aUJ i c d
 | _,_=>none
def aRw : R→Option (List Int)
 | []=>some []
 | .int .i64 n::r=>match aRw r with
  | some l=>some (n::l)
  | none=>none
 | _=>none
def aXj (f : Nat) (args : R) : OR:=match args with
 | [.fn g [.bx [.lst xs]]]=>if Nat.beq g f then match aRw xs with
  | some l=>if l.length≤1000000 then some [.lst ((l.mergeSort λx y=>decide (x≤y)).map (PV.int .i64))] else none
  | none=>none
  else none
 | _=>none
def aYx (l : List Int) : List Int:=Lib.compact (l.mergeSort λx y=>decide (x≤y))
def aYq (args : List DV) (s : St) : OR:=match args with
 | [.p (.lst xs)]=>match s.boxes,aRw xs with
  | [],some l=>if l.length≤1000000 then some [.lst ((aYx l).map (PV.int .i64))] else none
  | _,_=>none
 | _=>none
def mT1 : eX:=⟨true,false,.agg [.ref 0 [],.ref 1 [],.p (.int .i64 0),.ref 2 [],.p (.int .i64 1),.p (.int .i64 2),.p (.int .i64 3),.p (.int .i64 4),.p (.int .i64 5),.p (.int .i64 6)],[],[some ⟨oF,(.int .i64 7)⟩,some ⟨oH,(.int .i64 8)⟩,some ⟨oO,(.int .i64 9)⟩],false⟩
def mT2 : eX:=⟨false,false,.tup [],[some [.ptr 1 0,.ref 0 [],.p (.int .i64 0),.p (.int .i64 1),.p (.int .i64 2),.p (.int .i64 3)],some [.p (.int .i64 4),.p (.int .i64 5),.p (.int .i64 6)]],[some ⟨(.own 2 16 true []),(.int .i64 7)⟩],false⟩
def mT3 : eX:=⟨false,false,.p (.int .i64 0),[some [.p (.int .i64 1),.p (.int .i64 2),.p (.int .i64 3)]],[],false⟩
def mT4 : eX:=⟨false,false,.tup [],[some [.p (.int .i64 0),.p (.int .i64 1),.ref 0 [],.ref 1 [],.p (.int .i64 2),.ref 2 [],.p (.int .i64 3),.p (.int .i64 4),.p (.int .i64 5),.p (.int .i64 6),.p (.int .i64 7),.p (.int .i64 8),.p (.int .i64 9)]],[some ⟨oF,(.int .i64 10)⟩,some ⟨oH,(.int .i64 11)⟩,some ⟨oO,(.int .i64 12)⟩],false⟩
def mT5 : eX:=⟨true,false,.tup [.agg [.ref 0 [],.ref 1 [],.p (.int .i64 0),.ref 2 [],.p (.int .i64 1),.p (.int .i64 2),.p (.int .i64 3),.p (.int .i64 4),.p (.int .i64 5),.p (.int .i64 6)],.p (.int .i64 7)],[],[some ⟨oF,(.int .i64 8)⟩,some ⟨oH,(.int .i64 9)⟩,some ⟨oO,(.int .i64 10)⟩],false⟩
def mT6 : eX:=⟨false,false,.tup [],[some [.ref 0 [],.ref 1 [],.p (.int .i64 0),.ref 2 [],.p (.int .i64 1),.p (.int .i64 2),.p (.int .i64 3),.p (.int .i64 4),.p (.int .i64 5),.p (.int .i64 6)]],[some ⟨oF,(.int .i64 7)⟩,some ⟨oH,(.int .i64 8)⟩,some ⟨oO,(.int .i64 9)⟩],false⟩
def mT7 : eX:=⟨false,false,.tup [],[some [.p (.int .i64 0)],some [.p (.int .i64 1),.p (.int .i64 2)],some [.p (.int .i64 3),.p (.int .i64 4),.p (.int .i64 5),.p (.int .i64 6),.p (.int .i64 7),.p (.int .i64 8),.p (.int .i64 9),.p (.int .i64 10),.p (.int .i64 11),.p (.int .i64 12)]],[],false⟩
def mT8 : eX:=⟨true,false,.ref 0 [],[],[some ⟨oS,(.int .i64 0)⟩],false⟩
def mT9 : eX:=⟨true,false,.agg [.p (.int .i64 0),.p (.int .i64 1),.ref 0 [],.ref 1 []],[],[some ⟨o3,(.int .i64 2)⟩,some ⟨o3,(.int .i64 3)⟩],false⟩
def aXl : eX:=⟨true,false,.ref 0 [],[],[some ⟨o3,(.int .i64 0)⟩],false⟩
def aXW : eX:=⟨true,false,.ref 0 [],[],[some ⟨oH,(.int .i64 0)⟩],false⟩
def aSz : List (Nat × eX):=[
 (160,⟨true,false,.ref 0 [],[],[some ⟨(.own 1 8 false []),(.int .i64 0)⟩],false⟩),
 (23,mT1),
 (56,mT9),
 (57,aXW),
 (83,⟨false,true,.eptr 0 [] (.int .i64 0) 0,[some [.p (.int .i64 1),.p (.int .i64 2),.ref 0 [],.ref 1 [],.p (.int .i64 3),.ref 2 [],.p (.int .i64 4),.p (.int .i64 5),.p (.int .i64 6),.p (.int .i64 7),.p (.int .i64 8),.p (.int .i64 9),.p (.int .i64 10)]],[some ⟨oF,(.int .i64 11)⟩,some ⟨oH,(.int .i64 12)⟩,some ⟨oO,(.int .i64 13)⟩],false⟩),
 (132,⟨false,true,.p (.int .i64 0),[some [.p (.int .i64 1),.p (.int .i64 2),.ref 0 [],.ref 1 [],.p (.int .i64 3),.ref 2 [],.p (.int .i64 4),.p (.int .i64 5),.p (.int .i64 6),.p (.int .i64 7),.p (.int .i64 8),.p (.int .i64 9),.p (.int .i64 10)]],[some ⟨oF,(.int .i64 11)⟩,some ⟨oH,(.int .i64 12)⟩,some ⟨oO,(.int .i64 13)⟩],false⟩),
 (131,⟨false,true,.tup [],[some [.p (.int .i64 0),.p (.int .i64 1),.ref 0 [],.ref 1 [],.p (.int .i64 2),.ref 2 [],.p (.int .i64 3),.p (.int .i64 4),.p (.int .i64 5),.p (.int .i64 6),.p (.int .i64 7),.p (.int .i64 8),.p (.int .i64 9)]],[some ⟨oF,(.int .i64 10)⟩,some ⟨oH,(.int .i64 11)⟩,some ⟨oO,(.int .i64 12)⟩],false⟩),
 (135,mT4),
 (84,mT4),
 (40,mT1),
 (14,mT5),
 (53,mT1),
 (19,mT1),
 (111,aXl),
 (74,⟨true,false,.ref 0 [],[],[some ⟨oO,(.int .i64 0)⟩],false⟩),
 (158,aXl),
 (186,⟨false,false,.ref 0 [],[],[some ⟨o3,(.int .i64 0)⟩],true⟩),
 (120,aXl),
 (122,mT9),
 (72,⟨true,false,.ref 0 [],[],[some ⟨oF,(.int .i64 0)⟩],false⟩),
 (73,aXW),
 (32,mT1),
 (33,mT6),
 (75,⟨false,false,.p (.int .i64 0),[some [.ref 0 [],.ref 1 [],.p (.int .i64 1),.ref 2 [],.p (.int .i64 2),.p (.int .i64 3),.p (.int .i64 4),.p (.int .i64 5),.p (.int .i64 6),.p (.int .i64 7)]],[some ⟨oF,(.int .i64 8)⟩,some ⟨oH,(.int .i64 9)⟩,some ⟨oO,(.int .i64 10)⟩],false⟩),
 (121,⟨false,true,.tup [.gptr 1 [((.int .i64 0),0)] (.int .i64 1) 0,.p (.int .i64 2)],[some [.ref 0 [],.ref 1 [],.p (.int .i64 3),.ref 2 [],.p (.int .i64 4),.p (.int .i64 5),.p (.int .i64 6),.p (.int .i64 7),.p (.int .i64 8),.p (.int .i64 9)]],[some ⟨oF,(.int .i64 10)⟩,some ⟨oH,(.int .i64 11)⟩,some ⟨oO,(.int .i64 12)⟩],false⟩),
 (123,mT6),
 (77,mT5),
 (35,⟨false,false,.tup [.agg [.ref 1 [],.ref 2 [],.p (.int .i64 0),.ref 3 [],.p (.int .i64 1),.p (.int .i64 2),.p (.int .i64 3),.p (.int .i64 4),.p (.int .i64 5),.p (.int .i64 6)],.p (.int .i64 7)],[some [.p (.int .i64 8),.p (.int .i64 9)],some [.ref 0 []]],[some ⟨oS,(.int .i64 10)⟩,some ⟨oF,(.int .i64 11)⟩,some ⟨oH,(.int .i64 12)⟩,some ⟨oO,(.int .i64 13)⟩],false⟩),
 (11,mT8),
 (36,⟨false,false,.tup [],[some [.ref 0 [],.ref 1 [],.p (.int .i64 0),.ref 2 [],.p (.int .i64 1),.p (.int .i64 2),.p (.int .i64 3),.p (.int .i64 4),.p (.int .i64 5),.p (.int .i64 6)],some [.p (.int .i64 7),.p (.int .i64 8)],some [.ref 3 []]],[some ⟨oF,(.int .i64 9)⟩,some ⟨oH,(.int .i64 10)⟩,some ⟨oO,(.int .i64 11)⟩,some ⟨oS,(.int .i64 12)⟩],false⟩),
 (37,⟨false,false,.ref 3 [],[some [.ref 0 [],.ref 1 [],.p (.int .i64 0),.ref 2 [],.p (.int .i64 1),.p (.int .i64 2),.p (.int .i64 3),.p (.int .i64 4),.p (.int .i64 5),.p (.int .i64 6)]],[some ⟨oF,(.int .i64 7)⟩,some ⟨oH,(.int .i64 8)⟩,some ⟨oO,(.int .i64 9)⟩,some ⟨oS,(.int .i64 10)⟩],false⟩),
 (49,⟨false,false,.ref 0 [],[],[some ⟨oS,(.int .i64 0)⟩],false⟩),
 (82,mT8),
 (39,mT8),
 (13,mT8),
 (9,mT1),
 (103,mT7),
 (104,mT7),
 (20,⟨false,false,.ptr 0 0,[some [.p (.int .i64 0),.p (.int .i64 1),.p (.int .i64 2)]],[],false⟩),
 (26,mT3),
 (153,mT3),
 (50,mT3),
 (54,mT3),
 (152,mT2),
 (151,mT2),
 (183,mT2),
 (198,mT2),
 (182,mT2),
 (150,mT2),
 (184,⟨false,false,.p (.int .i64 0),[some [.ptr 1 0,.ref 0 [],.p (.int .i64 1),.p (.int .i64 2),.p (.int .i64 3),.p (.int .i64 4)],some [.p (.int .i64 5),.p (.int .i64 6),.p (.int .i64 7)]],[some ⟨(.own 2 16 true []),(.int .i64 8)⟩],false⟩),
 (94,mT3),
 (51,mT3),
 (95,mT3),
 (154,⟨true,false,.agg [.ref 0 [],.ref 1 []],[],[some ⟨oO,(.int .i64 0)⟩,some ⟨(.own 3 40 true [.leaf,.leaf,(.own 2 16 true [])]),(.int .i64 1)⟩],false⟩),
 (55,mT3),
 (34,mT3),
 (52,mT3),
 (21,mT3),
 (45,mT8),
 (16,mT8),
 (17,mT8)]
def aXm : List (Nat × List (Nat × List OTy)):=[(154,[(54,[.leaf,.leaf,.own 2 16 true []])]),(95,[(54,[.leaf,.leaf,.own 2 16 true []])]),(4,[(49,[.leaf,.leaf,o3,o3]),(68,[o3])]),(17,[(49,[.leaf,.leaf,o3,o3]),(68,[o3])]),(39,[(49,[.leaf,.leaf,o3,o3]),(68,[o3])]),(23,[(49,[.leaf,.leaf,o3,o3]),(68,[o3])]),(56,[(49,[.leaf,.leaf,o3,o3]),(68,[o3])]),(57,[(49,[.leaf,.leaf,o3,o3]),(68,[o3])]),(83,[(49,[.leaf,.leaf,o3,o3]),(68,[o3])]),(132,[(49,[.leaf,.leaf,o3,o3]),(68,[o3])]),(131,[(49,[.leaf,.leaf,o3,o3]),(68,[o3])]),(135,[(49,[.leaf,.leaf,o3,o3]),(68,[o3])]),(84,[(49,[.leaf,.leaf,o3,o3]),(68,[o3])]),(40,[(49,[.leaf,.leaf,o3,o3]),(68,[o3])]),(14,[(49,[.leaf,.leaf,o3,o3]),(68,[o3])]),(53,[(49,[.leaf,.leaf,o3,o3]),(68,[o3])]),(19,[(49,[.leaf,.leaf,o3,o3]),(68,[o3])]),(122,[(49,[.leaf,.leaf,o3,o3]),(68,[o3])]),(72,[(49,[.leaf,.leaf,o3,o3]),(68,[o3])]),(73,[(49,[.leaf,.leaf,o3,o3]),(68,[o3])]),(32,[(49,[.leaf,.leaf,o3,o3]),(68,[o3])]),(33,[(49,[.leaf,.leaf,o3,o3]),(68,[o3])]),(75,[(49,[.leaf,.leaf,o3,o3]),(68,[o3])]),(121,[(49,[.leaf,.leaf,o3,o3]),(68,[o3])]),(123,[(49,[.leaf,.leaf,o3,o3]),(68,[o3])]),(77,[(49,[.leaf,.leaf,o3,o3]),(68,[o3])]),(35,[(49,[.leaf,.leaf,o3,o3]),(68,[o3])]),(9,[(49,[.leaf,.leaf,o3,o3]),(68,[o3])]),(11,[(49,[.leaf,.leaf,o3,o3]),(68,[o3])]),(36,[(49,[.leaf,.leaf,o3,o3]),(68,[o3])]),(37,[(49,[.leaf,.leaf,o3,o3]),(68,[o3])]),(79,[(49,[.leaf,.leaf,o3,o3]),(68,[o3])]),(13,[(49,[.leaf,.leaf,o3,o3]),(68,[o3])])]
def aXn : List (Nat × List (Nat × List (Nat × Option Nat))):=[(94,[(13,[(8,some 2)]),(21,[(10,some 2)])])]
def aOC : List (Nat × (R→Option R)):=[(165,aD8)]
def aLh : List (Nat × (List DV→St→Option R)):=[(186,aAl 32),(49,qS)]
def aWa : List Nat:=[1,2,3,4,5,6,7,8,9,10,11,12,13,14,15,16,17,18,19,21,22,23,24,25,26,27,28,29,30,31,32,33,35,36,37,38,40,41,42,43,45,46,47,48,49,50,51,52,53,54,55,56,57,58,59,60,61,62,63,64,65,66,67,68,69,70,71,72,73,74,75,76,77,78,79,80,81,83,84,85,86,87,88,89,90,91,92,93,94,95,96,97,98,99,100,101,102,103,104,105,106,107,108,109,110,111,112,113,114,115,117,118,119,120,121,122,123,124,125,126,127,128,129,130,131,132,133,134,135,136,137,138,139,140,141,142,143,144,145,146,147,148,150,152,153,154,155,156,157,159,160,161,162,163,164,165,166,167,168,169,170,171,172,174,175,176,177,178,179,180,181,182,183,184,185,186,187,188,189,190,191,192,193,194,195,196,197,198,199,201,202,203,204,205,206,208,209,211,212,213,214,215,216,218,219,220,221,222,223,224,225,226,227,228,232,233,234,235,236,237,238,239]
def aYy (t : Nat) : Bool:=mem t aWa
set_option maxRecDepth 100000 in
theorem aXX : (aWa.map λt=>(Tryz.prog.info? t).bind (·.zero))=aWa.map λt=>some (gI T t):=by kernel_rfl
def lR : aF3:={ cut:=λf r=>(lk f aXi).bind (lk r),mode:=λf=>lk f aSz,frz:=λf r=>((lk f aXn).bind (lk r)).getD [],own:=λf u=>((lk f aXm).bind (lk u)).getD [],prim:=λf=>lk f aOC,primS:=λf=>lk f aLh,glob:=λ_=>none,zok:=aYy}
variable {w w' : World} {Z Z' : NP}
def aUL : Nat:=0
def aGr (w : World) (Z : NP) : Prop:=Z aUL∧∃ (ty : TypeId) (fz : Nat × Nat),w.heap[aUL]? = some (.cells (Lib.pow10Tab.map λz=>Value.int .u64 z).toArray ty fz)
theorem aGr.mono (h : aGr w Z) (hz : ∀ r,Z r→Z' r) (hw : ∀ r,Z r→w'.heap[r]? = w.heap[r]?) : aGr w' Z':=by
 obtain ⟨h1,ty,fz,h2⟩:=h
 exact ⟨hz _ h1,ty,fz,(hw _ h1).trans h2⟩
structure ZOk (w : World) (Z : NP) : Prop where
 lt : ∀ r,Z r→r<w.heap.size
 glob : aGr w Z
instance {w : World} {Z : NP} : CoeFun (ZOk w Z) (λ_=>∀ r,Z r→r<w.heap.size):=⟨ZOk.lt⟩
theorem ZOk.next (h : ZOk w Z) (hz : ∀ r,Z r→Z' r) (hw : ∀ r,Z r→w'.heap[r]? = w.heap[r]?) (hl : ∀ r,Z' r→r<w'.heap.size) : ZOk w' Z':=⟨hl,h.glob.mono hz hw⟩
variable {w w' : World} {Z Z' : NP} {x : PV} {v : Value} {o : OTy}
def eN : Value→Prop
 | .agg _ | .tuple _=>False
 | _=>True
def gF (g : Bool) (x : PV) (j : Nat) : PV:=if g then (match x with | .agg cs=>cs.getD j .hole | _=>.hole) else x
inductive kX (w : World) (Z : NP) : PV→Value→Prop
 | bool (b : Bool) : kX w Z (.bool b) (.bool b)
 | int (k : IntKind) (n : Int) : kX w Z (.int k n) (.int k n)
 | str (s : ByteArray) : kX w Z (.str s) (.string s)
 | nil : kX w Z .nil (.pointer none)
 | nilf : kX w Z .nilf .nilFunc
 | hole (v : Value) : eN v→kX w Z .hole v
 | agg (cs : R) (vs : List Value) : cs.length=vs.length→(∀ (i : Nat) (v : Value),vs[i]? = some v→eN v)→
  (∀ (i : Nat) c v,cs[i]? = some c→vs[i]? = some v→kX w Z c v)→kX w Z (.agg cs) (.agg vs.toArray)
 | tup (cs : R) (vs : List Value) : cs.length=vs.length→
  (∀ (i : Nat) c v,cs[i]? = some c→vs[i]? = some v→kX w Z c v)→kX w Z (.tup cs) (.tuple vs.toArray)
 | fn (f : Nat) (cs : R) (vs : List Value) : cs.length=vs.length→
  (∀ (i : Nat) c v,cs[i]? = some c→vs[i]? = some v→kX w Z c v)→kX w Z (.fn f cs) (.func (.func f) #[] vs.toArray)
 | empty (a : Option Addr) (cap : Nat) : kX w Z (.lst []) (.slice a 0 cap)
 | lst (xs : R) (b o s cap : Nat) (g : Bool) (cells : Array Value) (e : TypeId) (fz : Nat × Nat) (cv : Nat→Nat→Value) :
  Z b→w.heap[b]? = some (.cells cells e fz)→0<s→xs.length≤cap→
  (∀ (i : Nat) x,xs[i]? = some x→x.isEl s g=true)→
  (∀ i j : Nat,i<xs.length→j<s→cells[o+i*s+j]? = some (cv i j))→
  (∀ i j : Nat,i<xs.length→j<s→eN (cv i j))→
  (∀ (i j : Nat) x,xs[i]? = some x→j<s→kX w Z (gF g x j) (cv i j))→
  kX w Z (.lst xs) (.slice (some ⟨b,o,none⟩) xs.length cap)
 | bx (cs : R) (b o : Nat) (cells : Array Value) (e : TypeId) (fz : Nat × Nat) (cv : Nat→Value) :
  Z b→w.heap[b]? = some (.cells cells e fz)→
  (∀ j : Nat,j<cs.length→cells[o+j]? = some (cv j))→(∀ j : Nat,j<cs.length→eN (cv j))→
  (∀ (j : Nat) c,cs[j]? = some c→kX w Z c (cv j))→kX w Z (.bx cs) (.pointer (some ⟨b,o,none⟩))
theorem kX.mono (hZ : ∀ r,Z r→Z' r) (hw : ∀ r,Z r→w'.heap[r]? = w.heap[r]?)
 (h : kX w Z x v) : kX w' Z' x v:=by
 induction h with
 | bool b=>exact .bool b
 | int k n=>exact .int k n
 | str s=>exact .str s
 | nil=>exact .nil
 | nilf=>exact .nilf
 | hole v h=>exact .hole v h
 | agg cs vs hl hc _ ih=>exact .agg cs vs hl hc ih
 | tup cs vs hl _ ih=>exact .tup cs vs hl ih
 | fn f cs vs hl _ ih=>exact .fn f cs vs hl ih
 | empty a cap=>exact .empty a cap
 | lst xs b o s cap g cells e fz cv hb hh hs hcap he hc hv _ ih=>exact .lst xs b o s cap g cells e fz cv (hZ b hb) ((hw b hb).trans hh) hs hcap he hc hv ih
 | bx cs b o cells e fz cv hb hh hc hv _ ih=>exact .bx cs b o cells e fz cv (hZ b hb) ((hw b hb).trans hh) hc hv ih
inductive eO (w : World) (Z : NP) : OTy→PV→Value→(NP)→Prop
 | leaf (x : PV) (v : Value) (F : NP) : kX w Z x v→(∀ r,¬ F r)→eO w Z .leaf x v F
 | hole (s e : Nat) (g : Bool) (cts : List OTy) (v : Value) (F : NP) : eN v→(∀ r,¬ F r)→eO w Z (.own s e g cts) .hole v F
 | nil (s e : Nat) (g : Bool) (cts : List OTy) (F : NP) (a : Option Addr) : (∀ r,¬ F r)→eO w Z (.own s e g cts) (.lst []) (.slice a 0 0) F
 | own (s e : Nat) (g : Bool) (cts : List OTy) (xs : R) (b o cap : Nat) (cells : Array Value) (ety : TypeId) (cv : Nat→Nat→Value)
  (fp : Nat→Nat→Nat→Prop) (F : NP) :
  w.heap[b]? = some (.cells cells ety (0,0))→0<s→o+cap*s≤cells.size→xs.length≤cap→¬ Z b→
  (∀ (i : Nat) x,xs[i]? = some x→x.isEl s g=true)→
  (∀ i j : Nat,i<xs.length→j<s→cells[o+i*s+j]? = some (cv i j))→
  (∀ i j : Nat,i<xs.length→j<s→eN (cv i j))→
  (∀ (i j : Nat) x,xs[i]? = some x→j<s→eO w Z (cts.getD j .leaf) (gF g x j) (cv i j) (fp i j))→
  (∀ r,F r↔r=b∨∃ i j : Nat,i<xs.length∧j<s∧fp i j r)→
  (∀ i j : Nat,i<xs.length→j<s→¬ fp i j b)→
  (∀ i j i' j' r : Nat,i<xs.length→j<s→i'<xs.length→j'<s→fp i j r→fp i' j' r→i=i'∧j=j')→
  eO w Z (.own s e g cts) (.lst xs) (.slice (some ⟨b,o,none⟩) xs.length cap) F
theorem eO.frame {F : NP} (h : eO w Z o x v F)
 (hZ : ∀ r,Z r→Z' r) (hw : ∀ r,Z r→w'.heap[r]? = w.heap[r]?) (hF : ∀ r,F r→w'.heap[r]? = w.heap[r]?) (hn : ∀ r,F r→¬ Z' r) :
 eO w' Z' o x v F:=by
 induction h with
 | leaf x v F h hf=>exact .leaf x v F (h.mono hZ hw) hf
 | hole s e g cts v F h hf=>exact .hole s e g cts v F h hf
 | nil s e g cts F a hf=>exact .nil s e g cts F a hf
 | own s e g cts xs b o cap cells ety cv fp F hh hs ho hl hz he hc hv _ hf hb hd ih=>
   refine .own s e g cts xs b o cap cells ety cv fp F ((hF b ((hf b).2 (.inl rfl))).trans hh) hs ho hl (hn b ((hf b).2 (.inl rfl))) he hc hv ?_ hf hb hd
   intro i j x hx hj
   have hi : i<xs.length:=(List.getElem?_eq_some_iff.1 hx).1
   exact ih i j x hx hj (λr hr=>hF r ((hf r).2 (.inr ⟨i,j,hi,hj,hr⟩))) (λr hr=>hn r ((hf r).2 (.inr ⟨i,j,hi,hj,hr⟩)))
theorem eO.freeze {F : NP} (h : eO w Z o x v F)
 (hZ : ∀ r,Z r→Z' r) (hF : ∀ r,F r→Z' r) : kX w Z' x v:=by
 induction h with
 | leaf x v F h hf=>exact h.mono hZ (λ_ _=>rfl)
 | hole s e g cts v F h hf=>exact .hole v h
 | nil s e g cts F a hf=>exact .empty a 0
 | own s e g cts xs b o cap cells ety cv fp F hh hs ho hl hz he hc hv _ hf hb hd ih=>
   refine .lst xs b o s cap g cells ety (0,0) cv (hF b ((hf b).2 (.inl rfl))) hh hs hl he hc hv ?_
   intro i j x hx hj
   have hi : i<xs.length:=(List.getElem?_eq_some_iff.1 hx).1
   exact ih i j x hx hj (λr hr=>hF r ((hf r).2 (.inr ⟨i,j,hi,hj,hr⟩)))
structure Loc where
 box : Nat→Nat
 hdr : Nat→Value
 fp : Nat→Nat→Prop
 ty : Nat→OTy
 ub : NP
 ul : NP
def fY (w : World) (G : NP) : OTy→Value→jW→Value→Prop
 | _,v,[],v'=>v=v'
 | o,v,(i,j)::r,v'=>∃ (b o' len cap n : Nat) (k : IntKind) (cells : Array Value) (ety : TypeId) (fz : Nat × Nat) (u : Value),
  v = .slice (some ⟨b,o',none⟩) len cap∧i = .int k n∧n<len∧w.heap[b]? = some (.cells cells ety fz)∧
  cells[o'+n*o.s+j]? = some u∧G b∧(o.ct j).isLeaf=false∧fY w G (o.ct j) u r v'
inductive fG (w : World) (Z : NP) (ρ : Loc) (live : NP) : DV→Value→Prop
 | p (x : PV) (v : Value) : kX w Z x v→fG w Z ρ live (.p x) v
 | nils : fG w Z ρ live .nils (.slice none 0 0)
 | agg (ds : List DV) (vs : List Value) : ds.length=vs.length→(∀ (i : Nat) (v : Value),vs[i]? = some v→eN v)→
  (∀ (i : Nat) d v,ds[i]? = some d→vs[i]? = some v→fG w Z ρ live d v)→fG w Z ρ live (.agg ds) (.agg vs.toArray)
 | tup (ds : List DV) (vs : List Value) : ds.length=vs.length→
  (∀ (i : Nat) d v,ds[i]? = some d→vs[i]? = some v→fG w Z ρ live d v)→fG w Z ρ live (.tup ds) (.tuple vs.toArray)
 | fn (f : Nat) (ds : List DV) (vs : List Value) : ds.length=vs.length→
  (∀ (i : Nat) d v,ds[i]? = some d→vs[i]? = some v→fG w Z ρ live d v)→fG w Z ρ live (.fn f ds) (.func (.func f) #[] vs.toArray)
 | ptr (b off : Nat) : ρ.ub b→fG w Z ρ live (.ptr b off) (.pointer (some ⟨ρ.box b,off,none⟩))
 | ref (l : Nat) (path : jW) (v : Value) : ρ.ul l→eN v→(live l→fY w (ρ.fp l) (ρ.ty l) (ρ.hdr l) path v)→fG w Z ρ live (.ref l path) v
 | sref (l : Nat) (path : jW) (lo hi : PV) (v : Value) : ρ.ul l→eN v→
  (live l→∃ (a : Option Addr) (len cap : Nat) (k k' : IntKind) (m n : Nat),fY w (ρ.fp l) (ρ.ty l) (ρ.hdr l) path (.slice a len cap)∧lo = .int k m∧hi = .int k' n∧m≤n∧n≤len∧
   v = .slice (if cap=m then a else a.map (·.add (m*((ρ.ty l).along path).s))) (n - m) (cap - m))→fG w Z ρ live (.sref l path lo hi) v
 | eptr (l : Nat) (path : jW) (i : PV) (off : Nat) (v : Value) : ρ.ul l→eN v→
  (live l→∃ (b o len cap : Nat) (k : IntKind) (n : Nat),fY w (ρ.fp l) (ρ.ty l) (ρ.hdr l) path (.slice (some ⟨b,o,none⟩) len cap)∧i = .int k n∧n<len∧
   v = .pointer (some ⟨b,o+n*((ρ.ty l).along path).s+off,none⟩))→fG w Z ρ live (.eptr l path i off) v
 | fptr (x : PV) (s : Nat) (g : Bool) (off b o : Nat) (cells : Array Value) (e : TypeId) (fz : Nat × Nat) (cv : Nat→Value) :
  Z b→w.heap[b]? = some (.cells cells e fz)→x.isEl s g=true→(∀ j : Nat,j<s→cells[o+j]? = some (cv j))→(∀ j : Nat,j<s→eN (cv j))→
  (∀ j : Nat,j<s→kX w Z (gF g x j) (cv j))→fG w Z ρ live (.fptr x s g off) (.pointer (some ⟨b,o+off,none⟩))
 | bptr (c : PV) (off b o : Nat) : kX w Z c (.pointer (some ⟨b,o,none⟩))→fG w Z ρ live (.bptr c off) (.pointer (some ⟨b,o+off,none⟩))
 | gptr (l : Nat) (path : jW) (i : PV) (off : Nat) (v : Value) : eN v→
  (∀ (k0 : IntKind) (n0 : Int),i = .int k0 n0→ρ.ul l∧(live l→∃ (b o len cap : Nat) (k : IntKind) (n : Nat),fY w (ρ.fp l) (ρ.ty l) (ρ.hdr l) path (.slice (some ⟨b,o,none⟩) len cap)∧i = .int k n∧n<len∧
   v = .pointer (some ⟨b,o+n*((ρ.ty l).along path).s+off,none⟩)))→fG w Z ρ live (.gptr l path i off) v
 | nilq (c : PV) (neg b : Bool) : ((b != neg)=true→c = .lst [])→fG w Z ρ live (.nilq c neg) (.bool b)
 | bsl (b n : Nat) : ρ.ub b→fG w Z ρ live (.bsl b n) (.slice (some ⟨ρ.box b,0,none⟩) n n)
 | dead (v : Value) : fG w Z ρ live .dead v
variable {P : Program} {t e r : Nat} {d : TypeDesc} {w : World} {o : OTy} {v : Value} {Z : NP} {x : PV}
theorem pS.at_spec (P : Program) (t : Nat) :
 (∃ i d,P.info? t=some i∧P.underlying t=some d∧(aM P).at t=⟨nT d,i.size,i.bytes,aTg P t d⟩)∨(aM P).at t=⟨.other,0,0,false⟩:=by
 unfold pS.at aM
 by_cases h : t<P.types.size
 ·rw [List.getElem?_map,List.getElem?_range h]
  simp only [Option.map_some]
  unfold aXR
  cases hi : P.info? t with
  | none=>right;rfl
  | some i=>
    cases hd : P.underlying t with
    | none=>right;rfl
    | some d=>left;exact ⟨i,d,rfl,rfl,rfl⟩
 ·right
  rw [List.getElem?_eq_none (by simpa using Nat.le_of_not_lt h)]
theorem pS.known (h : ((aM P).at t).size≠0∨((aM P).at t).d≠.other) :
 ∃ i d,P.info? t=some i∧P.underlying t=some d∧(aM P).at t=⟨nT d,i.size,i.bytes,aTg P t d⟩:=by
 rcases pS.at_spec P t with h' | h'
 ·exact h'
 ·rw [h'] at h;simp at h
theorem aOD (h : nT d = .slice e) : d = .slice e:=by
 cases d<;>simp [nT] at h<;>simp_all
theorem aLi (h : nT d = .str) : d = .string:=by
 cases d<;>simp [nT] at h<;>rfl
theorem aAm {k : IntKind} (h : nT d = .int k) : d = .int k:=by
 cases d<;>simp [nT] at h<;>simp_all
theorem aBB {fs : List (Nat × Nat)} (h : nT d = .struct fs) :
 ∃ f : Array Field,d = .struct f∧fs=f.toList.map λf=>(f.offset,f.type):=by
 cases d<;>simp [nT] at h
 exact ⟨_,rfl,h.symm⟩
theorem aOE {n : Nat} (h : nT d = .array n e) : d = .array n e:=by
 cases d<;>simp [nT] at h<;>simp_all
theorem pS.slice {P : Program} {t e : Nat} (h : ((aM P).at t).d = .slice e) : P.underlying t=some (.slice e):=by
 obtain ⟨i,d,_,hd,hr⟩:=pS.known (P:=P) (t:=t) (.inr (by rw [h];simp))
 rw [hr] at h
 rw [hd,aOD h]
theorem pS.under {k : TyI} (h : ((aM P).at t).d=k) (hk : k≠.other) : ∃ d,P.underlying t=some d∧nT d=k∧((aM P).at t).eq=aTg P t d:=by
 obtain ⟨i,d,_,hd,hr⟩:=pS.known (P:=P) (t:=t) (.inr (by rw [h];exact hk))
 rw [hr] at h
 exact ⟨d,hd,h,by rw [hr]⟩
theorem nY (h : ((aM P).at t).size≠0∨((aM P).at t).d≠.other) :
 (sizeOf t).run P w = .ok ((aM P).at t).size w:=by
 obtain ⟨i,d,hi,hd,hr⟩:=pS.known h
 simp [sizeOf,typeInfo,hi,hr]
theorem zX (h : ((aM P).at t).size≠0∨((aM P).at t).d≠.other) :
 (isAgg t).run P w = .ok ((aM P).at t).isAgg w:=by
 obtain ⟨i,d,hi,hd,hr⟩:=pS.known h
 rw [hr]
 simp only [isAgg,underlying,Sem.run_bind,run_program,Result.andThen_ok,hd,Sem.run_pure]
 cases d<;>simp [TyR.isAgg,nT]
theorem aA4 {b o : Nat} {cells : Array Value} {e : TypeId} {fz : Nat × Nat} (h : w.heap[b]? = some (.cells cells e fz)) (hc : cells[o]? = some v) :
 w.cell? ⟨b,o,none⟩=some v:=by
 simp [World.cell?,h,hc]
theorem nF (b o j : Nat) : (⟨b,o,none⟩ : Addr).add j=⟨b,o+j,none⟩:=by
 unfold Addr.add;split<;>simp_all
structure Sx where
 box : Nat→Option (List DV)
 list : Nat→Option tN
def St.sx (s : St) : Sx:=⟨s.box,s.list⟩
def Sx.live (s : Sx) (l : Nat) : Prop:=s.list l≠none
structure bY where
 w : World
 Z : NP
 ρ : Loc
 s : Sx
 L : NP
def bY.rd (m : bY) (d : DV) (v : Value) : Prop:=fG m.w m.Z m.ρ m.s.live d v
def bY.owned (m : bY) (r : Nat) : Prop:=(∃ b cs,m.s.box b=some cs∧r=m.ρ.box b)∨(∃ l o,m.s.list l=some o∧m.ρ.fp l r)∨m.L r
structure sN (m : bY) : Prop where
 ub : ∀ b cs,m.s.box b=some cs→m.ρ.ub b
 ul : ∀ l o,m.s.list l=some o→m.ρ.ul l
 zlt : ZOk m.w m.Z
 box : ∀ b cs,m.s.box b=some cs→∃ (vs : List Value) (ety : TypeId),m.w.heap[m.ρ.box b]? = some (.cells vs.toArray ety (0,0))∧vs.length=cs.length∧
  (∀ (i : Nat) v,vs[i]? = some v→eN v)∧∀ (i : Nat) d v,cs[i]? = some d→vs[i]? = some v→m.rd d v
 row : ∀ l o,m.s.list l=some o→o.o=m.ρ.ty l∧o.o.isLeaf=false∧eO m.w m.Z o.o o.c (m.ρ.hdr l) (m.ρ.fp l)
 bz : ∀ b cs,m.s.box b=some cs→¬ m.Z (m.ρ.box b)
 bb : ∀ b cs b' cs',m.s.box b=some cs→m.s.box b'=some cs'→m.ρ.box b=m.ρ.box b'→b=b'
 bl : ∀ b cs l o,m.s.box b=some cs→m.s.list l=some o→¬ m.ρ.fp l (m.ρ.box b)
 ll : ∀ l o l' o' r,m.s.list l=some o→m.s.list l'=some o'→m.ρ.fp l r→m.ρ.fp l' r→l=l'
 Lz : ∀ r,m.L r→¬ m.Z r∧r<m.w.heap.size
 Lb : ∀ b cs,m.s.box b=some cs→¬ m.L (m.ρ.box b)
 Ll : ∀ l o r,m.s.list l=some o→m.ρ.fp l r→¬ m.L r
theorem eO.notZ {F : NP} (h : eO w Z o x v F) : ∀ r,F r→¬ Z r:=by
 induction h with
 | leaf x v F h hf=>exact λr hr=>(hf r hr).elim
 | hole s e g cts v F h hf=>exact λr hr=>(hf r hr).elim
 | nil s e g cts F a hf=>exact λr hr=>(hf r hr).elim
 | own s e g cts xs b o cap cells ety cv fp F hh hs ho hl hz he hc hv _ hf hb hd ih=>
   intro r hr
   rcases (hf r).1 hr with rfl | ⟨i,j,hi,hj,h⟩
   ·exact hz
   ·exact ih i j xs[i] (List.getElem?_eq_getElem hi) hj r h
theorem eO.lt {F : NP} (h : eO w Z o x v F) : ∀ r,F r→r<w.heap.size:=by
 induction h with
 | leaf x v F h hf=>exact λr hr=>(hf r hr).elim
 | hole s e g cts v F h hf=>exact λr hr=>(hf r hr).elim
 | nil s e g cts F a hf=>exact λr hr=>(hf r hr).elim
 | own s e g cts xs b o cap cells ety cv fp F hh hs ho hl hz he hc hv _ hf hb hd ih=>
   intro r hr
   rcases (hf r).1 hr with rfl | ⟨i,j,hi,hj,h⟩
   ·exact (Array.getElem?_eq_some_iff.1 hh).1
   ·exact ih i j xs[i] (List.getElem?_eq_getElem hi) hj r h
theorem sN.owned_lt {m : bY} (h : sN m) (hr : m.owned r) : r<m.w.heap.size:=by
 rcases hr with ⟨b,cs,hb,rfl⟩ | ⟨l,o,hl,hf⟩ | hL
 ·obtain ⟨vs,ety,hh,_⟩:=h.box b cs hb
  exact (Array.getElem?_eq_some_iff.1 hh).1
 ·exact (h.row l o hl).2.2.lt r hf
 ·exact (h.Lz r hL).2
theorem sN.owned_notZ {m : bY} (h : sN m) (hr : m.owned r) : ¬ m.Z r:=by
 rcases hr with ⟨b,cs,hb,rfl⟩ | ⟨l,o,hl,hf⟩ | hL
 ·exact h.bz b cs hb
 ·exact (h.row l o hl).2.2.notZ r hf
 ·exact (h.Lz r hL).1
structure jH (m m' : bY) (scr : DV→DV) (n : Nat) : Prop where
 inv : sN m'
 rd : ∀ d v,m.rd d v→m'.rd (scr d) v
 size : m.w.heap.size≤m'.w.heap.size
 os : m'.w.os=m.w.os
 tape : m'.w.tape=m.w.tape
 output : m'.w.output=m.w.output
 keep : ∀ r,r<m.w.heap.size→¬ m.owned r→m'.w.heap[r]? = m.w.heap[r]?
 own : ∀ r,m'.owned r→m.owned r∨m.w.heap.size≤r
 z : ∀ r,m'.Z r→m.Z r∨m.owned r∨m.w.heap.size≤r
 zz : ∀ r,m.Z r→m'.Z r
 ub : ∀ b,m'.ρ.ub b→m.ρ.ub b∨(n≤b∧b<n+16)
 ul : ∀ l,m'.ρ.ul l→m.ρ.ul l∨(n≤l∧l<n+16)
 mub : ∀ b,m.ρ.ub b→m'.ρ.ub b∧m'.ρ.box b=m.ρ.box b
 mul : ∀ l,m.ρ.ul l→m'.ρ.ul l
 bx : ∀ b cs,m.s.box b=some cs→∃ cs',m'.s.box b=some cs'
 hd : ∀ l,m.ρ.ul l→m'.s.live l→m.s.live l∧m'.ρ.hdr l=m.ρ.hdr l∧m'.ρ.ty l=m.ρ.ty l
theorem jH.refl {m : bY} (n : Nat) (h : sN m) : jH m m id n where
 inv:=h
 rd:=λ_ _ h=>h
 size:=Nat.le_refl _
 os:=rfl
 tape:=rfl
 output:=rfl
 keep:=λ_ _ _=>rfl
 own:=λ_ h=>.inl h
 z:=λ_ h=>.inl h
 zz:=λ_ h=>h
 ub:=λ_ h=>.inl h
 ul:=λ_ h=>.inl h
 mub:=λ_ h=>⟨h,rfl⟩
 mul:=λ_ h=>h
 bx:=λ_ cs h=>⟨cs,h⟩
 hd:=λ_ _ h=>⟨h,rfl,rfl⟩
theorem jH.trans {m m' m'' : bY} {f g : DV→DV} {n : Nat} (h : jH m m' f n) (k : jH m' m'' g n) : jH m m'' (λd=>g (f d)) n where
 inv:=k.inv
 rd:=λd v hd=>k.rd _ _ (h.rd d v hd)
 size:=Nat.le_trans h.size k.size
 os:=k.os.trans h.os
 tape:=k.tape.trans h.tape
 output:=k.output.trans h.output
 keep:=λr hr ho=>(k.keep r (Nat.lt_of_lt_of_le hr h.size) (λho'=>(h.own r ho').elim ho (λhle=>by omega))).trans (h.keep r hr ho)
 own:=λr ho=>(k.own r ho).elim (λh'=>h.own r h') (λhle=>.inr (Nat.le_trans h.size hle))
 z:=λr hz=>(k.z r hz).elim (λh'=>h.z r h') (λh'=>h'.elim (λh''=>(h.own r h'').elim (λx=>.inr (.inl x)) (λx=>.inr (.inr x))) (λhle=>.inr (.inr (Nat.le_trans h.size hle))))
 zz:=λr hz=>k.zz r (h.zz r hz)
 ub:=λb hb=>(k.ub b hb).elim (λh'=>h.ub b h') .inr
 ul:=λl hl=>(k.ul l hl).elim (λh'=>h.ul l h') .inr
 mub:=λb hb=>⟨(k.mub b (h.mub b hb).1).1,(k.mub b (h.mub b hb).1).2.trans (h.mub b hb).2⟩
 mul:=λl hl=>k.mul l (h.mul l hl)
 bx:=λb cs hb=>let ⟨cs',h'⟩:=h.bx b cs hb;k.bx b cs' h'
 hd:=λl hl hv=>by
  obtain ⟨h1,h2,h3⟩:=k.hd l (h.mul l hl) hv
  obtain ⟨h4,h5,h6⟩:=h.hd l hl h1
  exact ⟨h4,h2.trans h5,h3.trans h6⟩
def aF4 (P : Program) (r : Result Next) (post : Value→World→Prop) : Prop:=match r with
 | .ok (.value v) w'=>post v w'
 | .ok .skip w'=>post undef w'
 | .ok (.enter f args) w'=>Calls P f args w' (λe w''=>∃ v,e = .returned v∧post v w'')
 | _=>False
theorem aF4.wp {P : Program} {o : Oper} {a : Act} {w : World} {post : Value→World→Prop} {Q : Exit→Act→World→Prop}
 (h : aF4 P ((execOp a.eval o).run P w) post) : o.wp P a w (λa' w'=>∃ v,a'=a.put o.dst v∧post v w') Q:=by
 unfold Oper.wp
 unfold aF4 at h
 split at h
 ·rename_i v w' hr
  rw [hr,Oper.upon_value]
  exact ⟨v,rfl,h⟩
 ·rename_i w' hr
  rw [hr,Oper.upon_skip]
  exact ⟨undef,rfl,h⟩
 ·rename_i f args w' hr
  rw [hr,Oper.upon_enter]
  refine h.mono ?_
  rintro e w'' ⟨v,rfl,hp⟩
  exact ⟨v,rfl,hp⟩
 ·exact h.elim
variable {k : IntKind} {v a : Value} {b : Bool} {op : BinOp} {t : TypeId} {x y z : PV}
section
variable {P : Program} {w : World} {Z : NP}
theorem kX.int_inv {n : Int} (h : kX w Z (.int k n) v) : v = .int k n:=by cases h;rfl
theorem kX.bool_inv (h : kX w Z (.bool b) v) : v = .bool b:=by cases h;rfl
theorem kX.str_inv {s : ByteArray} (h : kX w Z (.str s) v) : v = .string s:=by cases h;rfl
theorem aMU {x y : Operand} {b : Value} (h1 : ¬ (a = .nilIface∧b = .nilIface)) (h2 : ∀ c d,¬ (a = .agg c∧b = .agg d)) :
 (eqGuard op t x y a b).run P w = .ok () w:=by
 unfold eqGuard
 cases a<;>cases b<;>first
  | (exfalso;exact h1 ⟨rfl,rfl⟩)
  | (exfalso;exact h2 _ _ ⟨rfl,rfl⟩)
  | (cases op<;>simp)
def uX (P : Program) (op : BinOp) (t : TypeId) (x y : Operand) (a b : Value) (w : World) : Result Value:=
 (do eqGuard op t x y a b;binOp op t a b : Sem Value).run P w
theorem nG {x y : Operand} {b : Value} (h1 : ¬ (a = .nilIface∧b = .nilIface)) (h2 : ∀ c d,¬ (a = .agg c∧b = .agg d)) :
 uX P op t x y a b w=(binOp op t a b).run P w:=by
 unfold uX
 rw [Sem.run_bind,aMU h1 h2,Result.andThen_ok]
theorem aOF {a b : Int} (h : lO op k a b=some z) (t : TypeId) (x y : Operand) :
 ∃ v,uX P op t x y (.int k a) (.int k b) w = .ok v w∧kX w Z z v:=by
 rw [nG (by simp) (by simp)]
 cases op<;>simp only [lO] at h
 case quo=>
  by_cases hb : b=0
  ·simp [hb] at h
  ·simp only [hb,if_false,Option.some.injEq] at h;subst h
   exact ⟨_,by simp only [binOp,Op.intDiv];simp [hb],.int _ _⟩
 case rem=>
  by_cases hb : b=0
  ·simp [hb] at h
  ·simp only [hb,if_false,Option.some.injEq] at h;subst h
   exact ⟨_,by simp only [binOp,Op.intDiv];simp [hb],.int _ _⟩
 all_goals first
  | (cases h;done)
  | (simp only [Option.some.injEq] at h;subst h;refine ⟨_,?_,.int _ _⟩;simp [binOp,Op.intArith,Op.intBits,Op.intCmp];done)
  | (simp only [Option.some.injEq] at h;subst h;refine ⟨_,?_,.bool _⟩;simp [binOp,Op.intArith,Op.intBits,Op.intCmp];done)
theorem aLj : ∀ a b : List UInt8,Op.bytesLess a b=lM a b
 | a,[]=>by cases a<;>rfl
 | [],_::_=>rfl
 | a::x,b::y=>by simp only [Op.bytesLess,lM,aLj x y]
theorem aOG {a b : ByteArray} (h : xO op a b=some z) (t : TypeId) (x y : Operand) :
 ∃ v,uX P op t x y (.string a) (.string b) w = .ok v w∧kX w Z z v:=by
 rw [nG (by simp) (by simp)]
 cases op<;>simp only [xO] at h
 case add=>
  split at h
  ·rename_i hs
   cases h
   refine ⟨_,?_,.str _⟩
   have : ¬ (((a.size+b.size : Nat) : Int)>IntKind.i64.max):=by
    simp only [IntKind.max,IntKind.signed,IntKind.bits,if_true]
    have : (a.size+b.size : Nat)≤2 ^ 62:=hs
    omega
   simp only [binOp,Op.stringOp]
   rw [if_neg this]
   rfl
  ·cases h
 all_goals first
  | (cases h;done)
  | (simp only [Option.some.injEq] at h;subst h;refine ⟨_,?_,.bool _⟩;simp [binOp,Op.stringOp,aLj];done)
theorem aTl {b : Value} (h : aD op x y=some z) (hx : kX w Z x a) (hy : kX w Z y b) (t : TypeId) (u v : Operand) :
 ∃ r,uX P op t u v a b w = .ok r w∧kX w Z z r:=by
 unfold aD at h
 split at h
 ·
  split at h
  ·cases hx;cases hy
   split at h
   ·cases h
   ·rename_i hb
    cases h
    refine ⟨_,?_,.int _ _⟩
    rw [nG (by simp) (by simp)]
    simp only [binOp,Op.shift]
    rw [if_neg hb]
    rfl
  ·cases h
 ·split at h
  ·cases hx;cases hy
   split at h
   ·cases h
   ·rename_i hb
    cases h
    refine ⟨_,?_,.int _ _⟩
    rw [nG (by simp) (by simp)]
    simp only [binOp,Op.shift]
    rw [if_neg hb]
    rfl
  ·cases h
 ·split at h
  ·cases hx;cases hy
   split at h
   ·rename_i hk;subst hk
    exact aOF h t u v
   ·cases h
  ·cases hx;cases hy
   exact aOG h t u v
  ·cases h
theorem aIQ {o : Option Bool} (h : vZ op o=some z) :
 ∃ b,o=some b∧((op = .eql∧z = .bool b)∨(op = .neq∧z = .bool (!b))):=by
 unfold vZ at h
 cases o with
 | none=>cases op<;>simp at h
 | some b=>cases op<;>simp at h<;>exact ⟨b,rfl,by simp [h]⟩
theorem aNH (h : iB 0 x y=some b) : ∃ p q,x = .bool p∧y = .bool q∧b=(p==q):=by
 unfold iB at h
 simp only at h
 split at h
 ·cases h;exact ⟨_,_,rfl,rfl,rfl⟩
 ·cases h
theorem aTm (h : iB 1 x y=some b) : ∃ k p q,x = .int k p∧y = .int k q∧b=(p==q):=by
 unfold iB at h
 simp only at h
 split at h
 ·split at h
  ·rename_i hk;subst hk;cases h;exact ⟨_,_,_,rfl,rfl,rfl⟩
  ·cases h
 ·cases h
theorem aTn (h : iB 2 x y=some b) : ∃ p q,x = .str p∧y = .str q∧b=(p.toList==q.toList):=by
 unfold iB at h
 simp only at h
 split at h
 ·cases h;exact ⟨_,_,rfl,rfl,rfl⟩
 ·cases h
theorem aD9 (ht : P.underlying t=some .bool) (a b : Bool) : (Op.equal t (.bool a) (.bool b)).run P w = .ok (a==b) w:=by
 obtain ⟨n,hn⟩ : ∃ n,Op.maxDepth=n+1:=⟨9999,rfl⟩
 unfold Op.equal
 rw [hn]
 unfold Op.equalIn
 simp only [underlying,Sem.run_bind,run_program,Result.andThen_ok,ht,Sem.run_pure]
theorem aTo {b : Value} (h : dL op x y=some z) (hx : kX w Z x a) (hy : kX w Z y b) (ht : P.underlying t=some .bool)
 (u v : Operand) : ∃ r,uX P op t u v a b w = .ok r w∧kX w Z z r:=by
 obtain ⟨c,hc,ho⟩:=aIQ h
 obtain ⟨p,q,rfl,rfl,rfl⟩:=aNH hc
 cases hx;cases hy
 rw [nG (by simp) (by simp)]
 rcases ho with ⟨rfl,rfl⟩ | ⟨rfl,rfl⟩
 ·refine ⟨_,?_,.bool _⟩
  show ((do pure (.bool (← Op.equal t (.bool p) (.bool q))) : Sem Value)).run P w=_
  rw [Sem.run_bind,aD9 ht];rfl
 ·refine ⟨_,?_,.bool _⟩
  show ((do pure (.bool (!(← Op.equal t (.bool p) (.bool q)))) : Sem Value)).run P w=_
  rw [Sem.run_bind,aD9 ht];rfl
end
variable {a b t o s : Nat} {cells : Array Value} {e : TypeId} {fz : Nat × Nat} {x : PV}
theorem bH {α β : Type} {o : Option α} {k : α→Option β} {r : β} (h : bd o k=some r) : ∃ a,o=some a∧k a=some r:=by
 unfold bd at h
 split at h
 ·exact ⟨_,rfl,h⟩
 ·cases h
theorem dH (h : Nat.beq a b=true) : a=b:=Nat.eq_of_beq_eq_true h
section
variable {P : Program} {w : World} {Z : NP}
theorem pU (ha : ((aM P).at t).isAgg=true)
 (hh : w.heap[b]? = some (.cells cells e fz)) (vs : List Value) (hl : vs.length=((aM P).at t).size) (hc : ∀ (j : Nat) v,vs[j]? = some v→cells[o+j]? = some v) :
 (loadVar t ⟨b,o,none⟩).run P w = .ok (.agg vs.toArray) w:=by
 have hk : ((aM P).at t).size≠0∨((aM P).at t).d≠.other:=by
  right;intro h;unfold TyR.isAgg at ha;rw [h] at ha;simp at ha
 unfold loadVar
 rw [Sem.run_bind,zX hk,Result.andThen_ok,ha]
 simp only [if_true,Sem.run_bind,nY hk,Result.andThen_ok]
 rw [← hl,run_loadCells_list w _ vs (λj v hv=>by rw [nF];exact aA4 hh (hc j v hv))]
 rfl
theorem kN (ha : ((aM P).at t).isAgg=false) (hs : ((aM P).at t).size≠0)
 (hh : w.heap[b]? = some (.cells cells e fz)) {v : Value} (hc : cells[o]? = some v) :
 (loadVar t ⟨b,o,none⟩).run P w = .ok v w:=by
 unfold loadVar
 rw [Sem.run_bind,zX (.inl hs),Result.andThen_ok,ha]
 simp only [Bool.false_eq_true,if_false,run_load,aA4 hh hc]
theorem aEa (h : x.isEl s true=true) : ∃ cs,x = .agg cs∧cs.length=s:=by
 cases x<;>simp [PV.isEl] at h
 exact ⟨_,rfl,h⟩
theorem aHv (h : x.isEl s false=true) : s=1:=by
 cases x<;>simp [PV.isEl] at h<;>exact h
structure aXY (w : World) (Z : NP) (x : PV) (s : Nat) (g : Bool) (b o : Nat) (cells : Array Value) (cv : Nat→Value) : Prop where
 el : x.isEl s g=true
 at_ : ∀ j : Nat,j<s→cells[o+j]? = some (cv j)
 one : ∀ j : Nat,j<s→eN (cv j)
 rep : ∀ j : Nat,j<s→kX w Z (gF g x j) (cv j)
theorem jO (cs : R) (j : Nat) : gF true (.agg cs) j=cs.getD j .hole:=rfl
theorem aJJ {g : Bool} {off : Nat} {k : DV→OR} {r : R}
 (h : aLa x s g off ((aM P).at t) k=some r) (hs : ((aM P).at t).size≠0) :
 ∃ y,k (.p y)=some r∧∀ (w : World) (Z : NP) (b o : Nat) (cells : Array Value) (e : TypeId) (fz : Nat × Nat) (cv : Nat→Value),
   w.heap[b]? = some (.cells cells e fz)→aXY w Z x s g b o cells cv→
   ∃ v,(loadVar t ⟨b,o+off,none⟩).run P w = .ok v w∧kX w Z y v:=by
 unfold aLa at h
 cases ha : ((aM P).at t).isAgg with
 | true=>
   rw [ha] at h
   simp only [if_true] at h
   split at h
   ·rename_i hc
    simp only [Bool.and_eq_true] at hc
    obtain ⟨⟨h0,h1⟩,rfl⟩:=hc
    have h0:=dH h0
    have h1:=dH h1
    subst h0
    refine ⟨x,h,λw Z b o cells e fz cv hh E=>?_⟩
    obtain ⟨cs,rfl,hl⟩:=aEa E.el
    have hg : ∀ (j : Nat) v,((List.range s).map cv)[j]? = some v→j<s∧v=cv j:=by
     intro j v hv
     rw [List.getElem?_map] at hv
     rcases Nat.lt_or_ge j s with hj | hj
     ·rw [List.getElem?_range hj] at hv;simp at hv;exact ⟨hj,hv.symm⟩
     ·rw [List.getElem?_eq_none (by simpa using hj)] at hv;simp at hv
    refine ⟨_,pU ha hh ((List.range s).map cv) (by simp [h1]) ?_,.agg cs _ (by simp [hl]) ?_ ?_⟩
    ·intro j v hv
     obtain ⟨hj,rfl⟩:=hg j v hv
     exact E.at_ j hj
    ·intro j v hv
     obtain ⟨hj,rfl⟩:=hg j v hv
     exact E.one j hj
    ·intro j c v hc hv
     obtain ⟨hj,rfl⟩:=hg j v hv
     have:=E.rep j hj
     rw [jO,List.getD,hc] at this
     exact this
   ·obtain ⟨y,hy,hk⟩:=bH h
    refine ⟨y,hk,λw Z b o cells e fz cv hh E=>?_⟩
    cases x<;>simp [PV.sub] at hy
    rename_i cs
    obtain ⟨hle,rfl⟩:=hy
    have hgt : g=true∧cs.length=s:=by
     have:=E.el
     simp [PV.isEl] at this
     exact this
    obtain ⟨rfl,hl⟩:=hgt
    have hg : ∀ (j : Nat) v,((List.range ((aM P).at t).size).map λj=>cv (off+j))[j]? = some v→j<((aM P).at t).size∧v=cv (off+j):=by
     intro j v hv
     rw [List.getElem?_map] at hv
     rcases Nat.lt_or_ge j ((aM P).at t).size with hj | hj
     ·rw [List.getElem?_range hj] at hv;simp at hv;exact ⟨hj,hv.symm⟩
     ·rw [List.getElem?_eq_none (by simpa using hj)] at hv;simp at hv
    refine ⟨_,pU ha hh ((List.range ((aM P).at t).size).map λj=>cv (off+j)) (by simp) ?_,.agg _ _ (by simp;omega) ?_ ?_⟩
    ·intro j v hv
     obtain ⟨hj,rfl⟩:=hg j v hv
     rw [Nat.add_assoc]
     exact E.at_ (off+j) (by omega)
    ·intro j v hv
     obtain ⟨hj,rfl⟩:=hg j v hv
     exact E.one _ (by omega)
    ·intro j c v hc hv
     obtain ⟨hj,rfl⟩:=hg j v hv
     have:=E.rep (off+j) (by omega)
     rw [jO,List.getD] at this
     rw [List.getElem?_take,if_pos hj,List.getElem?_drop] at hc
     rw [hc] at this
     exact this
 | false=>
   rw [ha] at h
   simp only [Bool.false_eq_true,if_false] at h
   split at h
   ·rename_i hg
    subst hg
    obtain ⟨y,hy,hk⟩:=bH h
    refine ⟨y,hk,λw Z b o cells e fz cv hh E=>?_⟩
    obtain ⟨cs,rfl,hl⟩:=aEa E.el
    simp [PV.cell] at hy
    have hj : off<s:=by
     have:=(List.getElem?_eq_some_iff.1 hy).1
     omega
    refine ⟨cv off,kN ha hs hh (E.at_ off hj),?_⟩
    have:=E.rep off hj
    rw [jO,List.getD,hy] at this
    exact this
   ·rename_i hg
    have hg : g=false:=by simpa using hg
    subst hg
    split at h
    ·rename_i h0
     have h0:=dH h0
     subst h0
     refine ⟨x,h,λw Z b o cells e fz cv hh E=>?_⟩
     have h1:=aHv E.el
     subst h1
     exact ⟨cv 0,kN ha hs hh (by simpa using E.at_ 0 (by omega)),by simpa [gF] using E.rep 0 (by omega)⟩
    ·cases h
end
variable {c i x : PV} {o : OTy} {v v' : Value} {G G' : NP} {path : jW}
structure yT (w : World) (Z : NP) (o : OTy) (xs : R) (b off cap : Nat) (cells : Array Value) (ety : TypeId) (cv : Nat→Nat→Value)
 (fp : Nat→Nat→Nat→Prop) (F : NP) : Prop where
 leaf : o.isLeaf=false
 heap : w.heap[b]? = some (.cells cells ety (0,0))
 pos : 0<o.s
 room : off+cap*o.s≤cells.size
 len : xs.length≤cap
 nz : ¬ Z b
 el : ∀ (i : Nat) x,xs[i]? = some x→x.isEl o.s o.g=true
 at_ : ∀ i j : Nat,i<xs.length→j<o.s→cells[off+i*o.s+j]? = some (cv i j)
 one : ∀ i j : Nat,i<xs.length→j<o.s→eN (cv i j)
 rep : ∀ (i j : Nat) x,xs[i]? = some x→j<o.s→eO w Z (o.ct j) (gF o.g x j) (cv i j) (fp i j)
 foot : ∀ r,F r↔r=b∨∃ i j : Nat,i<xs.length∧j<o.s∧fp i j r
 fb : ∀ i j : Nat,i<xs.length→j<o.s→¬ fp i j b
 fd : ∀ i j i' j' r : Nat,i<xs.length→j<o.s→i'<xs.length→j'<o.s→fp i j r→fp i' j' r→i=i'∧j=j'
theorem PV.at_inv {s : Nat} {g : Bool} (h : aB s g c i=some x) :
 ∃ (xs : R) (k : IntKind) (n : Nat),c = .lst xs∧i = .int k n∧xs[n]? = some x∧x.isEl s g=true:=by
 unfold aB at h
 split at h
 ·rename_i xs k n
  split at h
  ·rename_i hn
   split at h
   ·rename_i y hy
    split at h
    ·rename_i he
     cases h
     exact ⟨xs,k,n.toNat,rfl,by rw [Int.toNat_of_nonneg hn],hy,he⟩
    ·cases h
   ·cases h
  ·cases h
 ·cases h
section
variable {w : World} {Z : NP}
theorem eO.row_inv {F : NP} (h : eO w Z o c v F) (hx : aB o.s o.g c i=some x) :
 ∃ (xs : R) (b off cap : Nat) (cells : Array Value) (ety : TypeId) (cv : Nat→Nat→Value) (fp : Nat→Nat→Nat→Prop) (k : IntKind) (n : Nat),
   c = .lst xs∧v = .slice (some ⟨b,off,none⟩) xs.length cap∧i = .int k n∧xs[n]? = some x∧x.isEl o.s o.g=true∧yT w Z o xs b off cap cells ety cv fp F:=by
 obtain ⟨xs,k,n,rfl,rfl,hn,he⟩:=PV.at_inv hx
 cases h with
 | leaf _ _ _ h hf=>
   exfalso
   cases x<;>simp [PV.isEl,OTy.s,OTy.g] at he
 | nil s e g cts F a hf=>simp at hn
 | own s e g cts xs b o cap cells ety cv fp F hh hs ho hl hz he' hc hv hr hf hb hd=>
   exact ⟨xs,b,o,cap,cells,ety,cv,fp,k,n,rfl,rfl,rfl,hn,he,⟨rfl,hh,hs,ho,hl,hz,he',hc,hv,hr,hf,hb,hd⟩⟩
theorem fY.unique {v1 v2 : Value} (h1 : fY w G o v path v1) (h2 : fY w G' o v path v2) : v1=v2:=by
 induction path generalizing o v with
 | nil=>exact (show v=v1 from h1).symm.trans h2
 | cons p r ih=>
   obtain ⟨i,j⟩:=p
   obtain ⟨b,o',len,cap,n,k,cells,ety,fz,u,rfl,rfl,hn,hh,hc,_,_,hr⟩:=h1
   obtain ⟨b2,o2,len2,cap2,n2,k2,cells2,ety2,fz2,u2,hv,hi,hn2,hh2,hc2,_,_,hr2⟩:=h2
   cases hv
   cases hi
   rw [hh] at hh2
   cases hh2
   rw [hc] at hc2
   cases hc2
   exact ih hr hr2
theorem fY.append {v'' : Value} {q : jW} (h : fY w G o v path v') (h' : fY w G (o.along path) v' q v'') :
 fY w G o v (path++q) v'':=by
 induction path generalizing o v with
 | nil=>have h : v=v':=h;subst h;exact h'
 | cons p r ih=>
   obtain ⟨i,j⟩:=p
   obtain ⟨b,o',len,cap,n,k,cells,ety,fz,u,hv,hi,hn,hh,hc,hg,hl,hr⟩:=h
   exact ⟨b,o',len,cap,n,k,cells,ety,fz,u,hv,hi,hn,hh,hc,hg,hl,ih hr h'⟩
theorem fY.mono {w' : World} (h : fY w G o v path v') (hG : ∀ r,G r→G' r)
 (hw : ∀ r,G r→w'.heap[r]? = w.heap[r]?) : fY w' G' o v path v':=by
 induction path generalizing o v with
 | nil=>exact h
 | cons p r ih=>
   obtain ⟨i,j⟩:=p
   obtain ⟨b,o',len,cap,n,k,cells,ety,fz,u,hv,hi,hn,hh,hc,hg,hl,hr⟩:=h
   exact ⟨b,o',len,cap,n,k,cells,ety,fz,u,hv,hi,hn,(hw b hg).trans hh,hc,hG b hg,hl,ih hr⟩
theorem PV.cell_inv {y : PV} {j : Nat} (h : x.cell j=some y) : ∃ cs,x = .agg cs∧cs[j]? = some y:=by
 cases x<;>simp [PV.cell] at h
 exact ⟨_,rfl,h⟩
theorem yT.cell {o : OTy} {xs : R} {b off cap : Nat} {cells : Array Value} {ety : TypeId} {cv : Nat→Nat→Value} {fp : Nat→Nat→Nat→Prop} {F : NP}
 (h : yT w Z o xs b off cap cells ety cv fp F) {n : Nat} {x : PV} (hx : xs[n]? = some x) (hg : o.g=true) {j : Nat} {y : PV} (hy : x.cell j=some y) :
 j<o.s∧gF o.g x j=y:=by
 obtain ⟨cs,rfl,hc⟩:=PV.cell_inv hy
 have he:=h.el n _ hx
 rw [hg] at he
 obtain ⟨cs',hcs,hl⟩:=aEa he
 cases hcs
 refine ⟨by have:=(List.getElem?_eq_some_iff.1 hc).1;omega,?_⟩
 rw [hg,jO,List.getD,hc];rfl
theorem aAn : ∀ {path : jW} {o : OTy} {c : PV} {k : OTy→PV→OR} {r : R},aCu o c path k=some r→
 ∃ c',k (o.along path) c'=some r∧∀ (w : World) (Z : NP) (v : Value) (F : NP),eO w Z o c v F→(o.along path).isLeaf=false→
   ∃ v' F',fY w F o v path v'∧eO w Z (o.along path) c' v' F'∧∀ r,F' r→F r
 | [],o,c,k,r,h=>⟨c,h,λw Z v F hr _=>⟨v,F,rfl,hr,λ_ h=>h⟩⟩
 | (i,j)::path,o,c,k,r,h=>by
   unfold aCu at h
   obtain ⟨x,hx,h1⟩:=bH h
   clear h
   have leafy : ∀ {o : OTy} {p : jW},(o.along p).isLeaf=false→o.isLeaf=false:=by
    intro o p hp
    cases o with
    | own=>rfl
    | leaf=>
      exfalso
      have : ∀ p : jW,OTy.leaf.along p = .leaf:=by
       intro p
       induction p with
       | nil=>rfl
       | cons a r ih=>obtain ⟨i,j⟩:=a;exact ih
      rw [this p] at hp
      cases hp
   split at h1
   ·rename_i hg
    obtain ⟨y,hy,h2⟩:=bH h1
    obtain ⟨c',hk,hc'⟩:=aAn h2
    refine ⟨c',hk,λw Z v F hr hlf=>?_⟩
    obtain ⟨xs,b,off,cap,cells,ety,cv,fp,kk,n,rfl,rfl,rfl,hn,he,R⟩:=hr.row_inv hx
    obtain ⟨hj,hy'⟩:=R.cell hn hg hy
    have hi : n<xs.length:=(List.getElem?_eq_some_iff.1 hn).1
    have hrr:=R.rep n j x hn hj
    rw [hy'] at hrr
    obtain ⟨v',F',hh,hr',hF⟩:=hc' w Z _ _ hrr hlf
    exact ⟨v',F',⟨b,off,xs.length,cap,n,kk,cells,ety,(0,0),cv n j,rfl,rfl,hi,R.heap,R.at_ n j hi hj,(R.foot b).2 (.inl rfl),leafy hlf,
     hh.mono (λr h=>(R.foot r).2 (.inr ⟨n,j,hi,hj,h⟩)) (λ_ _=>rfl)⟩,hr',
     λr h=>(R.foot r).2 (.inr ⟨n,j,hi,hj,hF r h⟩)⟩
   ·rename_i hg
    have hg : o.g=false:=by simpa using hg
    by_cases hb0 : Nat.beq j 0=true
    ·rw [if_pos hb0] at h1
     have h0:=dH hb0
     subst h0
     obtain ⟨c',hk,hc'⟩:=aAn h1
     refine ⟨c',hk,λw Z v F hr hlf=>?_⟩
     obtain ⟨xs,b,off,cap,cells,ety,cv,fp,kk,n,rfl,rfl,rfl,hn,he,R⟩:=hr.row_inv hx
     have hi : n<xs.length:=(List.getElem?_eq_some_iff.1 hn).1
     have hrr:=R.rep n 0 x hn R.pos
     rw [hg] at hrr
     have hrr : eO w Z (o.ct 0) x (cv n 0) (fp n 0):=hrr
     obtain ⟨v',F',hh,hr',hF⟩:=hc' w Z _ _ hrr hlf
     exact ⟨v',F',⟨b,off,xs.length,cap,n,kk,cells,ety,(0,0),cv n 0,rfl,rfl,hi,R.heap,R.at_ n 0 hi R.pos,(R.foot b).2 (.inl rfl),leafy hlf,
      hh.mono (λr h=>(R.foot r).2 (.inr ⟨n,0,hi,R.pos,h⟩)) (λ_ _=>rfl)⟩,hr',
      λr h=>(R.foot r).2 (.inr ⟨n,0,hi,R.pos,hF r h⟩)⟩
    ·rw [if_neg hb0] at h1;cases h1
theorem OTy.plain_ct (h : o.plain=true) (j : Nat) : o.ct j = .leaf:=by
 cases o with
 | leaf=>rfl
 | own s e g cts=>
   simp only [OTy.plain,List.all_eq_true] at h
   simp only [OTy.ct,List.getD]
   cases hj : cts[j]? with
   | none=>rfl
   | some c=>
     have:=h c (List.mem_of_getElem? hj)
     cases c<;>simp [OTy.isLeaf] at this
     rfl
theorem eO.leaf_inv {F : NP} (h : eO w Z .leaf x v F) : kX w Z x v:=by cases h;assumption
theorem yT.plainEl {xs : R} {b off cap : Nat} {cells : Array Value} {ety : TypeId} {cv : Nat→Nat→Value} {fp : Nat→Nat→Nat→Prop} {F : NP}
 (h : yT w Z o xs b off cap cells ety cv fp F) (hp : o.plain=true) {n : Nat} (hx : xs[n]? = some x) :
 aXY w Z x o.s o.g b (off+n*o.s) cells (cv n):=by
 have hi : n<xs.length:=(List.getElem?_eq_some_iff.1 hx).1
 refine ⟨h.el n x hx,λj hj=>h.at_ n j hi hj,λj hj=>h.one n j hi hj,λj hj=>?_⟩
 have:=h.rep n j x hx hj
 rw [OTy.plain_ct hp] at this
 exact this.leaf_inv
end
variable {c : PV} {j t : Nat} {k : DV → OR} {r : R}
section
variable {P : Program} {X : Cx}
theorem aCB {l : Nat} {path : jW} {i : PV} {o : OTy} {x : PV} : ∀ {n off : Nat} {k : List DV→OR} {r : R},aD0 l path i o x n off k=some r→
 ∃ ds : List DV,k ds=some r∧ds.length=n∧∀ j : Nat,j<n→
   ((o.ct (off+j)).isLeaf=true∧∃ y,x.cell (off+j)=some y∧ds[j]? = some (.p y))∨
   ((o.ct (off+j)).isLeaf=false∧ds[j]? = some (.ref l (path++[(i,off+j)])))
 | 0,off,k,r,h=>⟨[],h,rfl,λj hj=>by omega⟩
 | n+1,off,k,r,h=>by
   unfold aD0 at h
   split at h
   ·rename_i hl
    obtain ⟨y,hy,h1⟩:=bH h
    obtain ⟨ds,hk,hlen,hds⟩:=aCB h1
    refine ⟨.p y::ds,hk,by simp [hlen],λj hj=>?_⟩
    cases j with
    | zero=>exact .inl ⟨hl,y,hy,rfl⟩
    | succ j=>
      have:=hds j (by omega)
      rw [show off+1+j=off+(j+1) by omega] at this
      simpa using this
   ·rename_i hl
    obtain ⟨ds,hk,hlen,hds⟩:=aCB h
    refine ⟨_,hk,by simp [hlen],λj hj=>?_⟩
    cases j with
    | zero=>exact .inr ⟨by simpa using hl,rfl⟩
    | succ j=>
      have:=hds j (by omega)
      rw [show off+1+j=off+(j+1) by omega] at this
      simpa using this
theorem aCC {c : PV} : ∀ {n off : Nat} {k : R→OR} {r : R},aA1.cellsB c n off k=some r→
 ∃ vs : R,k vs=some r∧vs.length=n∧∀ j : Nat,j<n→∃ y,c.deref (off+j)=some y∧vs[j]? = some y
 | 0,off,k,r,h=>⟨[],h,rfl,λj hj=>by omega⟩
 | n+1,off,k,r,h=>by
   unfold aA1.cellsB at h
   obtain ⟨y,hy,h1⟩:=bH h
   obtain ⟨vs,hk,hlen,hvs⟩:=aCC h1
   refine ⟨y::vs,hk,by simp [hlen],λj hj=>?_⟩
   cases j with
   | zero=>exact ⟨y,hy,rfl⟩
   | succ j=>
     obtain ⟨z,hz,hv⟩:=hvs j (by omega)
     exact ⟨z,by rw [← hz];congr 1;omega,by simpa using hv⟩
theorem aB5 {y : PV} (h : c.deref j=some y) : ∃ cs,c = .bx cs∧cs[j]? = some y:=by
 cases c<;>simp [PV.deref] at h
 exact ⟨_,rfl,h⟩
theorem nZ {t : TypeId} {a : Addr} {w : World} : (Instr.loadAt t (.pointer (some a))).run P w=(loadVar t a).run P w:=by
 simp [Instr.loadAt,Instr.sureAddr]
theorem gS {α : Type} {n : Nat} {f : Nat→α} {v : α} (h : ((List.range n).map f)[j]? = some v) : j<n∧v=f j:=by
 rw [List.getElem?_map] at h
 rcases Nat.lt_or_ge j n with hj | hj
 ·rw [List.getElem?_range hj] at h;simp at h;exact ⟨hj,h.symm⟩
 ·rw [List.getElem?_eq_none (by simpa using hj)] at h;simp at h
theorem aJK {off : Nat} (hs : ((aM P).at t).size≠0)
 (h : (if ((aM P).at t).isAgg=true then aA1.cellsB c ((aM P).at t).size off (λl=>k (.agg (l.map .p))) else bd (c.deref off) λy=>k (.p y))=some r) :
 ∃ d,k d=some r∧∀ (m : bY) (b o : Nat),kX m.w m.Z c (.pointer (some ⟨b,o,none⟩))→
   ∃ v,(loadVar t ⟨b,o+off,none⟩).run P m.w = .ok v m.w∧m.rd d v:=by
 cases ha : ((aM P).at t).isAgg with
 | true=>
   rw [ha] at h
   simp only [if_true] at h
   obtain ⟨vs,hk,hlen,hvs⟩:=aCC h
   refine ⟨_,hk,λm b o hr=>?_⟩
   obtain ⟨y0,hy0,_⟩:=hvs 0 (by omega)
   obtain ⟨cs,rfl,_⟩:=aB5 hy0
   cases hr with
   | bx _ _ _ cells e fz cv hb hh hc hv hrep=>
     have hd : ∀ j : Nat,j<vs.length→∃ y,cs[off+j]? = some y∧vs[j]? = some y:=by
      intro j hj
      obtain ⟨y,hy,hv⟩:=hvs j (by omega)
      obtain ⟨cs',h1,h2⟩:=aB5 hy
      cases h1
      exact ⟨y,h2,hv⟩
     have hlt : ∀ j : Nat,j<vs.length→off+j<cs.length:=λj hj=>by
      obtain ⟨y,hy,_⟩:=hd j hj
      exact (List.getElem?_eq_some_iff.1 hy).1
     refine ⟨_,pU ha hh ((List.range vs.length).map λj=>cv (off+j)) (by simp [hlen]) ?_,.agg _ _ (by simp) ?_ ?_⟩
     ·intro j v hv'
      obtain ⟨hj,rfl⟩:=gS hv'
      rw [Nat.add_assoc]
      exact hc _ (hlt j hj)
     ·intro j v hv'
      obtain ⟨hj,rfl⟩:=gS hv'
      exact hv _ (hlt j hj)
     ·intro j d v hd' hv'
      obtain ⟨hj,rfl⟩:=gS hv'
      obtain ⟨y,hy,hvy⟩:=hd j hj
      rw [List.getElem?_map,hvy] at hd'
      simp at hd'
      subst hd'
      exact .p _ _ (hrep _ _ hy)
 | false=>
   rw [ha] at h
   simp only [Bool.false_eq_true,if_false] at h
   obtain ⟨y,hy,hk⟩:=bH h
   refine ⟨_,hk,λm b o hr=>?_⟩
   obtain ⟨cs,rfl,hcs⟩:=aB5 hy
   cases hr with
   | bx _ _ _ cells e fz cv hb hh hc hv hrep=>
     have hlt:=(List.getElem?_eq_some_iff.1 hcs).1
     exact ⟨cv off,kN ha hs hh (hc off hlt),.p _ _ (hrep off y hcs)⟩
theorem bY.live_of {m : bY} {l : Nat} {o : tN} (h : m.s.list l=some o) : m.s.live l:=by
 unfold Sx.live;rw [h];simp
theorem aJL (hT : X.T=aM P) {da : DV} {s : St} (h : aA1 X t da s k=some r) :
 ∃ d,k d=some r∧∀ (m : bY),sN m→(∀ b∈(eP da).rb,m.s.box b=s.box b)→(∀ l∈(eP da).rl,m.s.list l=s.list l)→
   ∀ va,m.rd da va→∃ v,(Instr.loadAt t va).run P m.w = .ok v m.w∧m.rd d v:=by
 unfold aA1 at h
 simp only [hT] at h
 split at h
 ·cases h
 rename_i hs
 have hs : ((aM P).at t).size≠0:=λe=>hs (by rw [e];rfl)
 cases da with
 | p c=>
   have h' : (if ((aM P).at t).isAgg=true then aA1.cellsB c ((aM P).at t).size 0 (λl=>k (.agg (l.map .p))) else bd (c.deref 0) λy=>k (.p y))=some r:=h
   obtain ⟨d,hk,H⟩:=aJK hs h'
   refine ⟨d,hk,λm _ _ _ va hva=>?_⟩
   have hrep : kX m.w m.Z c va:=by cases hva;assumption
   have hc : ∃ cs,c = .bx cs:=by
    split at h'
    ·obtain ⟨vs,_,hlen,hvs⟩:=aCC h'
     obtain ⟨y0,hy0,_⟩:=hvs 0 (by omega)
     obtain ⟨cs,rfl,_⟩:=aB5 hy0
     exact ⟨cs,rfl⟩
    ·obtain ⟨y,hy,_⟩:=bH h'
     obtain ⟨cs,rfl,_⟩:=aB5 hy
     exact ⟨cs,rfl⟩
   obtain ⟨cs,rfl⟩:=hc
   cases hrep with
   | bx _ b o cells e fz cv hb hh hc hv hrep=>
     obtain ⟨v,h1,h2⟩:=H m b o (.bx _ b o cells e fz cv hb hh hc hv hrep)
     exact ⟨v,by rw [nZ];exact h1,h2⟩
 | bptr c off=>
   obtain ⟨d,hk,H⟩:=aJK hs h
   refine ⟨d,hk,λm _ _ _ va hva=>?_⟩
   cases hva with
   | bptr _ _ b o hrep=>
     obtain ⟨v,h1,h2⟩:=H m b o hrep
     exact ⟨v,by rw [nZ];exact h1,h2⟩
 | fptr x n g off=>
   obtain ⟨y,hk,H⟩:=aJJ hs (h:=h)
   refine ⟨_,hk,λm _ _ _ va hva=>?_⟩
   cases hva with
   | fptr _ _ _ _ b o cells e fz cv hz hh hel hat hone hrep=>
     obtain ⟨v,h1,h2⟩:=H m.w m.Z b o cells e fz cv hh ⟨hel,hat,hone,hrep⟩
     exact ⟨v,by rw [nZ];exact h1,.p _ _ h2⟩
 | ptr b off=>
   simp only at h
   split at h
   ·rename_i cs hcs
    have hbox : ∀ (m : bY),sN m→(∀ b'∈(eP (.ptr b off)).rb,m.s.box b'=s.box b')→∃ (vs : List Value) (ety : TypeId),m.w.heap[m.ρ.box b]? = some (.cells vs.toArray ety (0,0))∧vs.length=cs.length∧
     (∀ (i : Nat) v,vs[i]? = some v→eN v)∧∀ (i : Nat) d v,cs[i]? = some d→vs[i]? = some v→m.rd d v:=
     λm hi hag=>hi.box b cs (by rw [hag b (by simp [eP]),hcs])
    cases ha : ((aM P).at t).isAgg with
    | true=>
      simp only [ha,if_true] at h
      split at h
      ·rename_i hle
       have hle : off+((aM P).at t).size≤cs.length:=Nat.le_of_ble_eq_true hle
       refine ⟨_,h,λm hi hag _ va hva=>?_⟩
       obtain ⟨vs,ety,hh,hl,hone,hrep⟩:=hbox m hi hag
       cases hva
       have hg : ∀ (j : Nat) v,((vs.drop off).take ((aM P).at t).size)[j]? = some v→j<((aM P).at t).size∧vs[off+j]? = some v:=by
        intro j v hv
        rw [List.getElem?_take] at hv
        split at hv
        ·rename_i hj
         rw [List.getElem?_drop] at hv
         exact ⟨hj,hv⟩
        ·cases hv
       refine ⟨_,nZ.trans (pU ha hh ((vs.drop off).take ((aM P).at t).size) (by simp;omega) ?_),.agg _ _ (by simp;omega) ?_ ?_⟩
       ·intro j v hv
        simpa using (hg j v hv).2
       ·intro j v hv
        exact hone _ _ (hg j v hv).2
       ·intro j d v hd hv
        obtain ⟨hj,hv⟩:=hg j v hv
        rw [List.getElem?_take,if_pos hj,List.getElem?_drop] at hd
        exact hrep _ _ _ hd hv
      ·cases h
    | false=>
      simp only [ha,Bool.false_eq_true,if_false] at h
      split at h
      ·rename_i d hd
       refine ⟨_,h,λm hi hag _ va hva=>?_⟩
       obtain ⟨vs,ety,hh,hl,hone,hrep⟩:=hbox m hi hag
       cases hva
       have hlt : off<vs.length:=by
        have:=(List.getElem?_eq_some_iff.1 hd).1
        omega
       have hv : vs[off]? = some vs[off]:=List.getElem?_eq_getElem hlt
       exact ⟨vs[off],by rw [nZ];exact kN ha hs hh (by simpa using hv),hrep _ _ _ hd hv⟩
      ·cases h
   ·cases h
 | eptr l path i off=>
   simp only at h
   split at h
   ·rename_i w0 hw0
    obtain ⟨c',h1,H⟩:=aAn h
    obtain ⟨x,hx,h2⟩:=bH h1
    clear h h1
    have row : ∀ (m : bY),sN m→(∀ l'∈(eP (.eptr l path i off)).rl,m.s.list l'=s.list l')→∀ va,m.rd (.eptr l path i off) va→
     ∃ (xs : R) (b o cap : Nat) (cells : Array Value) (ety : TypeId) (cv : Nat→Nat→Value) (fp : Nat→Nat→Nat→Prop) (F : NP) (kk : IntKind) (n : Nat),
       m.ρ.fp l b∧m.s.live l∧m.ρ.ul l∧w0.o=m.ρ.ty l∧fY m.w (m.ρ.fp l) (m.ρ.ty l) (m.ρ.hdr l) path (.slice (some ⟨b,o,none⟩) xs.length cap)∧
       i = .int kk n∧xs[n]? = some x∧yT m.w m.Z (w0.o.along path) xs b o cap cells ety cv fp F∧va = .pointer (some ⟨b,o+n*(w0.o.along path).s+off,none⟩):=by
     intro m hi hag va hva
     have hl : m.s.list l=some w0:=by rw [hag l (by simp [eP]),hw0]
     obtain ⟨hty,_,hro⟩:=hi.row l w0 hl
     have hlf : (w0.o.along path).isLeaf=false:=by
      cases ho : w0.o.along path with
      | own=>rfl
      | leaf=>
        exfalso
        rw [ho] at hx
        obtain ⟨_,_,_,_,_,_,he⟩:=PV.at_inv hx
        cases x<;>simp [PV.isEl,OTy.s,OTy.g] at he
     obtain ⟨v',F',hh,hr',hFF⟩:=H m.w m.Z _ _ hro hlf
     obtain ⟨xs,b,o,cap,cells,ety,cv,fp,kk,n,hc',hv',hi',hn,he,R⟩:=hr'.row_inv hx
     have hlive : m.s.live l:=bY.live_of hl
     cases hva with
     | eptr _ _ _ _ _ hul hcell hd=>
       obtain ⟨b2,o2,len2,cap2,k2,n2,hh2,hi2,hn2,hva⟩:=hd hlive
       rw [← hty] at hh2
       have:=hh.unique hh2
       rw [hv'] at this
       cases this
       rw [hi'] at hi2
       cases hi2
       refine ⟨xs,b,o,cap,cells,ety,cv,fp,F',kk,n,hFF b ((R.foot b).2 (.inl rfl)),hlive,hul,hty,?_,hi',hn,R,?_⟩
       ·rw [← hty];rw [hv'] at hh;exact hh
       ·rw [hva,hty]
    split at h2
    ·rename_i hp
     obtain ⟨y,hk,HP⟩:=aJJ hs (h:=h2)
     refine ⟨_,hk,λm hi _ hag va hva=>?_⟩
     obtain ⟨xs,b,o,cap,cells,ety,cv,fp,F,kk,n,HB,hlive,hul,hty,hh,hi',hn,R,rfl⟩:=row m hi hag va hva
     obtain ⟨v,hv1,hv2⟩:=HP m.w m.Z b _ cells ety (0,0) (cv n) R.heap (R.plainEl hp hn)
     exact ⟨v,by rw [nZ];exact hv1,.p _ _ hv2⟩
    ·rename_i hp
     split at h2
     ·rename_i ha
      split at h2
      ·rename_i hgl
       simp only [Bool.and_eq_true] at hgl
       obtain ⟨hg,hle⟩:=hgl
       have hle:=Nat.le_of_ble_eq_true hle
       obtain ⟨ds,hk,hlen,hds⟩:=aCB h2
       refine ⟨_,hk,λm hi _ hag va hva=>?_⟩
       obtain ⟨xs,b,o,cap,cells,ety,cv,fp,F,kk,n,HB,hlive,hul,hty,hh,hi',hn,R,rfl⟩:=row m hi hag va hva
       have hi2 : n<xs.length:=(List.getElem?_eq_some_iff.1 hn).1
       refine ⟨_,nZ.trans (pU ha R.heap ((List.range ((aM P).at t).size).map λj=>cv n (off+j)) (by simp) ?_),.agg _ _ (by simp [hlen]) ?_ ?_⟩
       ·intro j v hv
        obtain ⟨hj,rfl⟩:=gS hv
        have:=R.at_ n (off+j) hi2 (by omega)
        rwa [show o+n*(w0.o.along path).s+off+j=o+n*(w0.o.along path).s+(off+j) by omega]
       ·intro j v hv
        obtain ⟨hj,rfl⟩:=gS hv
        exact R.one n (off+j) hi2 (by omega)
       ·intro j d v hd hv
        obtain ⟨hj,rfl⟩:=gS hv
        have hro:=R.rep n (off+j) x hn (by omega)
        rcases hds j hj with ⟨hlf,y,hy,hd'⟩ | ⟨hlf,hd'⟩
        ·rw [hd'] at hd;cases hd
         obtain ⟨_,he⟩:=R.cell hn hg hy
         rw [he] at hro
         have : (w0.o.along path).ct (off+j) = .leaf:=by cases hct : (w0.o.along path).ct (off+j)<;>rw [hct] at hlf<;>simp [OTy.isLeaf] at hlf ⊢
         rw [this] at hro
         exact .p _ _ hro.leaf_inv
        ·rw [hd'] at hd;cases hd
         refine .ref _ _ _ hul (R.one n (off+j) hi2 (by omega)) (λ_=>hh.append ?_)
         rw [← hty]
         exact ⟨b,o,xs.length,cap,n,kk,cells,ety,(0,0),cv n (off+j),rfl,hi',hi2,R.heap,R.at_ n (off+j) hi2 (by omega),HB,hlf,rfl⟩
      ·cases h2
     ·rename_i ha
      have ha : ((aM P).at t).isAgg=false:=by simpa using ha
      split at h2
      ·rename_i hg
       split at h2
       ·rename_i hlf
        obtain ⟨y,hy,hk⟩:=bH h2
        refine ⟨_,hk,λm hi _ hag va hva=>?_⟩
        obtain ⟨xs,b,o,cap,cells,ety,cv,fp,F,kk,n,HB,hlive,hul,hty,hh,hi',hn,R,rfl⟩:=row m hi hag va hva
        have hi2 : n<xs.length:=(List.getElem?_eq_some_iff.1 hn).1
        obtain ⟨hj,he⟩:=R.cell hn hg hy
        have hro:=R.rep n off x hn hj
        rw [he] at hro
        have : (w0.o.along path).ct off = .leaf:=by cases hct : (w0.o.along path).ct off<;>rw [hct] at hlf<;>simp [OTy.isLeaf] at hlf ⊢
        rw [this] at hro
        exact ⟨cv n off,by rw [nZ];exact kN ha hs R.heap (R.at_ n off hi2 hj),.p _ _ hro.leaf_inv⟩
       ·rename_i hlf
        split at h2
        ·rename_i hlt
         have hj : off<(w0.o.along path).s:=by simpa [Nat.blt_eq] using hlt
         refine ⟨_,h2,λm hi _ hag va hva=>?_⟩
         obtain ⟨xs,b,o,cap,cells,ety,cv,fp,F,kk,n,HB,hlive,hul,hty,hh,hi',hn,R,rfl⟩:=row m hi hag va hva
         have hi2 : n<xs.length:=(List.getElem?_eq_some_iff.1 hn).1
         refine ⟨cv n off,by rw [nZ];exact kN ha hs R.heap (R.at_ n off hi2 hj),.ref _ _ _ hul (R.one n off hi2 hj) (λ_=>hh.append ?_)⟩
         rw [← hty]
         exact ⟨b,o,xs.length,cap,n,kk,cells,ety,(0,0),cv n off,rfl,hi',hi2,R.heap,R.at_ n off hi2 hj,HB,by simpa using hlf,rfl⟩
        ·cases h2
      ·split at h2
       ·rename_i h0
        simp only [Bool.and_eq_true,Bool.not_eq_true'] at h0
        obtain ⟨h0,HL⟩:=h0
        have h0:=dH h0
        subst h0
        refine ⟨_,h2,λm hi _ hag va hva=>?_⟩
        obtain ⟨xs,b,o,cap,cells,ety,cv,fp,F,kk,n,HB,hlive,hul,hty,hh,hi',hn,R,rfl⟩:=row m hi hag va hva
        have hi2 : n<xs.length:=(List.getElem?_eq_some_iff.1 hn).1
        refine ⟨cv n 0,by rw [nZ];exact kN ha hs R.heap (R.at_ n 0 hi2 R.pos),.ref _ _ _ hul (R.one n 0 hi2 R.pos) (λ_=>hh.append ?_)⟩
        rw [← hty]
        exact ⟨b,o,xs.length,cap,n,kk,cells,ety,(0,0),cv n 0,rfl,hi',hi2,R.heap,R.at_ n 0 hi2 R.pos,HB,HL,rfl⟩
       ·cases h2
   ·cases h
 | nils=>cases h
 | agg=>cases h
 | tup=>cases h
 | fn=>cases h
 | ref=>cases h
 | sref=>cases h
 | gptr=>cases h
 | nilq=>cases h
 | bsl=>cases h
 | dead=>cases h
theorem aIR {d : DV} (h : soK d k=some r) :
 ∃ d',k d'=some r∧eP d'=eP (soD d)∧(∀ s v,bZ s d' v=bZ s (soD d) v)∧∀ (m : bY) v,m.rd d v→m.rd d' v:=by
 cases d with
 | gptr l path i off=>
   obtain ⟨i',hi,hk⟩:=bH h
   have : ∃ k0 n0,i = .int k0 n0∧i'=i:=by
    unfold bO at hi
    split at hi
    ·cases hi;exact ⟨_,_,rfl,rfl⟩
    ·cases hi
   obtain ⟨k0,n0,h1,rfl⟩:=this
   refine ⟨_,hk,rfl,λ_ _=>rfl,λm v hv=>?_⟩
   cases hv with
   | gptr _ _ _ _ _ hc hh=>exact .eptr _ _ _ _ _ (hh k0 n0 h1).1 hc (λhl=>(hh k0 n0 h1).2 hl)
 | _=>exact ⟨_,h,rfl,λ_ _=>rfl,λ_ _ hv=>hv⟩
end
variable {b off cap n s : Nat} {o : OTy} {v : Value} {cells : Array Value} {xs : R} {ety : TypeId} {cv : Nat → Nat → Value} {fp : Nat → Nat → Nat → Prop} {x x' c' : PV} {k : IntKind}
theorem aOH {w : World} {o : Nat} {e : TypeId} {fz : Nat × Nat} (h : w.heap[b]? = some (.cells cells e fz)) :
 (w.setCell ⟨b,o,none⟩ v).heap[b]? = some (.cells (cells.setIfInBounds o v) e fz):=by
 simp only [World.setCell,Array.getElem?_modify,if_true,h,Option.map_some]
 rfl
theorem aKf {w : World} {o r : Nat} (h : r≠b) : (w.setCell ⟨b,o,none⟩ v).heap[r]? = w.heap[r]?:=by
 simp only [World.setCell,Array.getElem?_modify]
 rw [if_neg (λe=>h e.symm)]
theorem eG {b r : Nat} (h : r≠b) : ∀ (vs : List Value) (o : Nat) (w : World),(w.setCells b o vs).heap[r]? = w.heap[r]?
 | [],_,_=>rfl
 | v::vs,o,w=>by rw [World.setCells,eG h vs,aKf h]
theorem iQ : ∀ (vs : List Value) (b o : Nat) (w : World),(w.setCells b o vs).heap.size=w.heap.size∧(w.setCells b o vs).os=w.os∧
 (w.setCells b o vs).tape=w.tape∧(w.setCells b o vs).output=w.output
 | [],_,_,_=>⟨rfl,rfl,rfl,rfl⟩
 | v::vs,b,o,w=>by
   obtain ⟨h1,h2,h3,h4⟩:=iQ vs b (o+1) (w.setCell ⟨b,o,none⟩ v)
   rw [World.setCells]
   exact ⟨by rw [h1];simp,by rw [h2];rfl,by rw [h3];rfl,by rw [h4];rfl⟩
theorem gO {b : Nat} {e : TypeId} {fz : Nat × Nat} : ∀ (vs : List Value) (o : Nat) (w : World) (cells : Array Value),w.heap[b]? = some (.cells cells e fz)→
 o+vs.length≤cells.size→∃ cells',(w.setCells b o vs).heap[b]? = some (.cells cells' e fz)∧cells'.size=cells.size∧
  (∀ j : Nat,j<vs.length→cells'[o+j]? = vs[j]?)∧∀ k : Nat,(k<o∨o+vs.length≤k)→cells'[k]? = cells[k]?
 | [],o,w,cells,h,_=>⟨cells,h,rfl,λj hj=>by simp at hj,λ_ _=>rfl⟩
 | v::vs,o,w,cells,h,hle=>by
   simp only [List.length_cons] at hle
   obtain ⟨c',h1,h2,h3,h4⟩:=gO vs (o+1) _ _ (aOH (o:=o) (v:=v) h) (by simp;omega)
   refine ⟨c',h1,by rw [h2];simp,?_,?_⟩
   ·intro j hj
    cases j with
    | zero=>
      rw [h4 (o+0) (.inl (by omega))]
      simp only [Nat.add_zero,Array.getElem?_setIfInBounds,if_true]
      rw [if_pos (by omega)]
      rfl
    | succ j=>
      have:=h3 j (by simp at hj;omega)
      rw [show o+(j+1)=o+1+j by omega,this]
      rfl
   ·intro k hk
    simp only [List.length_cons] at hk
    rw [h4 k (by omega)]
    rw [Array.getElem?_setIfInBounds,if_neg (by omega)]
section
variable {w : World} {Z : NP}
theorem yT.repO {F : NP}
 (R : yT w Z o xs b off cap cells ety cv fp F) : eO w Z o (.lst xs) (.slice (some ⟨b,off,none⟩) xs.length cap) F:=by
 cases o with
 | leaf=>cases R.leaf
 | own s e g cts=>exact .own s e g cts xs b off cap cells ety cv fp F R.heap R.pos R.room R.len R.nz R.el R.at_ R.one R.rep R.foot R.fb R.fd
theorem yT.update {F : NP}
 (R : yT w Z o xs b off cap cells ety cv fp F) (hn : xs[n]? = some x) (hx' : x'.isEl o.s o.g=true) (j0 : Nat) (us : List Value)
 (hle : j0+us.length≤o.s) (hus : ∀ (j : Nat) u,us[j]? = some u→eN u) (G : Nat→Nat→Prop)
 (hkeep : ∀ j : Nat,j<o.s→(j<j0∨j0+us.length≤j)→gF o.g x' j=gF o.g x j)
 (hnew : ∀ (j : Nat) u,us[j]? = some u→eO (w.setCells b (off+n*o.s+j0) us) Z (o.ct (j0+j)) (gF o.g x' (j0+j)) u (G j))
 (hGF : ∀ j r : Nat,j<us.length→G j r→¬ F r) (hGG : ∀ j j' r : Nat,j<us.length→j'<us.length→G j r→G j' r→j=j') :
 ∃ (cells' : Array Value) (cv' : Nat→Nat→Value) (fp' : Nat→Nat→Nat→Prop) (F' : NP),
   yT (w.setCells b (off+n*o.s+j0) us) Z o (xs.set n x') b off cap cells' ety cv' fp' F'∧(∀ r,F' r→F r∨∃ j : Nat,j<us.length∧G j r):=by
 have hi : n<xs.length:=(List.getElem?_eq_some_iff.1 hn).1
 have hpos:=R.pos
 have hnm : n*o.s+o.s≤xs.length*o.s:=by
  have : (n+1)*o.s≤xs.length*o.s:=Nat.mul_le_mul_right _ hi
  rwa [Nat.succ_mul] at this
 have hcm : xs.length*o.s≤cap*o.s:=Nat.mul_le_mul_right _ R.len
 have hroom:=R.room
 obtain ⟨cells',h1,h2,h3,h4⟩:=gO us (off+n*o.s+j0) w cells R.heap (by omega)
 have hb : F b:=(R.foot b).2 (.inl rfl)
 have aE9 : ∀ i j : Nat,i<xs.length→j<o.s→¬ (i=n∧j0≤j∧j<j0+us.length)→
  (off+i*o.s+j<off+n*o.s+j0∨off+n*o.s+j0+us.length≤off+i*o.s+j):=by
  intro i j hi' hj hne
  rcases Nat.lt_trichotomy i n with h | h | h
  ·left
   have : (i+1)*o.s≤n*o.s:=Nat.mul_le_mul_right _ h
   rw [Nat.succ_mul] at this
   omega
  ·subst h
   by_cases hj0 : j<j0
   ·left;omega
   ·right
    have : ¬ (j<j0+us.length):=λh'=>hne ⟨rfl,by omega,h'⟩
    omega
  ·right
   have : (n+1)*o.s≤i*o.s:=Nat.mul_le_mul_right _ h
   rw [Nat.succ_mul] at this
   omega
 have hfr : ∀ r,F r→r≠b→(w.setCells b (off+n*o.s+j0) us).heap[r]? = w.heap[r]?:=λr _ h=>eG h us _ w
 have hzr : ∀ r,Z r→(w.setCells b (off+n*o.s+j0) us).heap[r]? = w.heap[r]?:=λr hz=>eG (λe=>R.nz (by rw [← e];exact hz)) us _ w
 have hlen : (xs.set n x').length=xs.length:=List.length_set
 refine ⟨cells',λi j=>if i=n∧j0≤j∧j<j0+us.length then us.getD (j - j0) undef else cv i j,
  λi j r=>if i=n∧j0≤j∧j<j0+us.length then G (j - j0) r else fp i j r,
  λr=>r=b∨∃ i j : Nat,i<xs.length∧j<o.s∧(if i=n∧j0≤j∧j<j0+us.length then G (j - j0) r else fp i j r),?_,?_⟩
 ·refine ⟨R.leaf,h1,hpos,by rw [h2];exact hroom,by rw [hlen];exact R.len,R.nz,?_,?_,?_,?_,?_,?_,?_⟩
  ·intro i y hy
   rw [List.getElem?_set] at hy
   split at hy
   ·have : x'=y:=by simpa [hi] using hy
    rw [← this];exact hx'
   ·exact R.el i y hy
  ·intro i j hi' hj
   rw [hlen] at hi'
   by_cases hin : i=n∧j0≤j∧j<j0+us.length
   ·rw [if_pos hin]
    obtain ⟨rfl,ha,hb'⟩:=hin
    have:=h3 (j - j0) (by omega)
    rw [show off+i*o.s+j0+(j - j0)=off+i*o.s+j by omega] at this
    rw [this,List.getD,List.getElem?_eq_getElem (by omega)]
    rfl
   ·rw [if_neg hin,h4 _ (aE9 i j hi' hj hin),R.at_ i j hi' hj]
  ·intro i j hi' hj
   rw [hlen] at hi'
   split
   ·rename_i hin
    exact hus (j - j0) _ (by rw [List.getD,List.getElem?_eq_getElem (by omega)];rfl)
   ·exact R.one i j hi' hj
  ·intro i j y hy hj
   by_cases hin : i=n∧j0≤j∧j<j0+us.length
   ·rw [if_pos hin]
    have e2 : (λr=>if i=n∧j0≤j∧j<j0+us.length then G (j - j0) r else fp i j r)=G (j - j0):=by funext r;rw [if_pos hin]
    show eO _ Z (o.ct j) (gF o.g y j) _ (λr=>if i=n∧j0≤j∧j<j0+us.length then G (j - j0) r else fp i j r)
    rw [e2]
    obtain ⟨hin0,ha,hb'⟩:=hin
    subst hin0
    rw [List.getElem?_set_self hi] at hy
    cases hy
    have hu : us[j - j0]? = some us[j - j0]:=List.getElem?_eq_getElem (by omega)
    have:=hnew (j - j0) _ hu
    rw [show j0+(j - j0)=j by omega] at this
    rw [List.getD,hu]
    exact this
   ·rw [if_neg hin]
    have e2 : (λr=>if i=n∧j0≤j∧j<j0+us.length then G (j - j0) r else fp i j r)=fp i j:=by funext r;rw [if_neg hin]
    show eO _ Z (o.ct j) (gF o.g y j) _ (λr=>if i=n∧j0≤j∧j<j0+us.length then G (j - j0) r else fp i j r)
    rw [e2]
    have hxi : ∃ z,xs[i]? = some z∧gF o.g y j=gF o.g z j:=by
     by_cases hni : n=i
     ·subst hni
      rw [List.getElem?_set_self hi] at hy
      cases hy
      refine ⟨x,hn,hkeep j hj ?_⟩
      by_cases hj0 : j<j0
      ·exact .inl hj0
      ·right
       have : ¬ (j<j0+us.length):=λh'=>hin ⟨rfl,by omega,h'⟩
       omega
     ·rw [List.getElem?_set_ne hni] at hy
      exact ⟨y,hy,rfl⟩
    obtain ⟨z,hz,he⟩:=hxi
    have hi' : i<xs.length:=(List.getElem?_eq_some_iff.1 hz).1
    rw [he]
    have hro:=R.rep i j z hz hj
    exact hro.frame (λ_ h=>h) hzr (λr hr=>hfr r ((R.foot r).2 (.inr ⟨i,j,hi',hj,hr⟩)) (λe=>R.fb i j hi' hj (by rw [← e];exact hr))) (λr hr=>hro.notZ r hr)
  ·intro r
   rw [hlen]
  ·intro i j hi' hj
   rw [hlen] at hi'
   split
   ·rename_i hin
    exact λh=>hGF _ b (by omega) h hb
   ·exact R.fb i j hi' hj
  ·intro i j i' j' r hi1 hj1 hi2 hj2 hr1 hr2
   rw [hlen] at hi1 hi2
   split at hr1<;>split at hr2
   ·rename_i ha hb'
    have:=hGG _ _ r (by omega) (by omega) hr1 hr2
    omega
   ·exact absurd ((R.foot r).2 (.inr ⟨i',j',hi2,hj2,hr2⟩)) (hGF _ r (by omega) hr1)
   ·exact absurd ((R.foot r).2 (.inr ⟨i,j,hi1,hj1,hr1⟩)) (hGF _ r (by omega) hr2)
   ·exact R.fd i j i' j' r hi1 hj1 hi2 hj2 hr1 hr2
 ·rintro r (rfl | ⟨i,j,hi',hj,hr⟩)
  ·exact .inl hb
  ·split at hr
   ·rename_i hin
    exact .inr ⟨j - j0,by omega,hr⟩
   ·exact .inl ((R.foot r).2 (.inr ⟨i,j,hi',hj,hr⟩))
theorem yT.replace {w' : World} {F : NP}
 (R : yT w Z o xs b off cap cells ety cv fp F) {j0 : Nat} (hn : xs[n]? = some x) (hj0 : j0<o.s) (hx' : x'.isEl o.s o.g=true)
 (hkeep : ∀ j : Nat,j<o.s→j≠j0→gF o.g x' j=gF o.g x j) {G : NP} (hnew : eO w' Z (o.ct j0) (gF o.g x' j0) (cv n j0) G)
 (hw : ∀ r,Z r∨(F r∧¬ fp n j0 r)→w'.heap[r]? = w.heap[r]?) (hG : ∀ r,G r→fp n j0 r∨¬ F r) :
 ∃ (fp' : Nat→Nat→Nat→Prop) (F' : NP),yT w' Z o (xs.set n x') b off cap cells ety cv fp' F'∧(∀ r,F' r→(F r∧¬ fp n j0 r)∨G r):=by
 have hi : n<xs.length:=(List.getElem?_eq_some_iff.1 hn).1
 have hlen : (xs.set n x').length=xs.length:=List.length_set
 have hb : F b:=(R.foot b).2 (.inl rfl)
 have hbn : ¬ fp n j0 b:=R.fb n j0 hi hj0
 have hGb : ¬ G b:=λh=>(hG b h).elim hbn (λh'=>h' hb)
 refine ⟨λi j r=>if i=n∧j=j0 then G r else fp i j r,λr=>r=b∨∃ i j : Nat,i<xs.length∧j<o.s∧(if i=n∧j=j0 then G r else fp i j r),?_,?_⟩
 ·refine ⟨R.leaf,(hw b (.inr ⟨hb,hbn⟩)).trans R.heap,R.pos,R.room,by rw [hlen];exact R.len,R.nz,?_,?_,?_,?_,?_,?_,?_⟩
  ·intro i y hy
   rw [List.getElem?_set] at hy
   split at hy
   ·have : x'=y:=by simpa [hi] using hy
    rw [← this];exact hx'
   ·exact R.el i y hy
  ·intro i j hi' hj
   rw [hlen] at hi'
   exact R.at_ i j hi' hj
  ·intro i j hi' hj
   rw [hlen] at hi'
   exact R.one i j hi' hj
  ·intro i j y hy hj
   by_cases hin : i=n∧j=j0
   ·have e2 : (λr=>if i=n∧j=j0 then G r else fp i j r)=G:=by funext r;rw [if_pos hin]
    show eO _ Z (o.ct j) (gF o.g y j) _ (λr=>if i=n∧j=j0 then G r else fp i j r)
    rw [e2]
    obtain ⟨h1,h2⟩:=hin
    subst h1;subst h2
    rw [List.getElem?_set_self hi] at hy
    cases hy
    exact hnew
   ·have e2 : (λr=>if i=n∧j=j0 then G r else fp i j r)=fp i j:=by funext r;rw [if_neg hin]
    show eO _ Z (o.ct j) (gF o.g y j) _ (λr=>if i=n∧j=j0 then G r else fp i j r)
    rw [e2]
    have hxi : ∃ z,xs[i]? = some z∧gF o.g y j=gF o.g z j:=by
     by_cases hni : n=i
     ·subst hni
      rw [List.getElem?_set_self hi] at hy
      cases hy
      exact ⟨x,hn,hkeep j hj (λe=>hin ⟨rfl,e⟩)⟩
     ·rw [List.getElem?_set_ne hni] at hy
      exact ⟨y,hy,rfl⟩
    obtain ⟨z,hz,he⟩:=hxi
    have hi' : i<xs.length:=(List.getElem?_eq_some_iff.1 hz).1
    rw [he]
    have hro:=R.rep i j z hz hj
    refine hro.frame (λ_ h=>h) (λr hr=>hw r (.inl hr)) (λr hr=>hw r (.inr ⟨(R.foot r).2 (.inr ⟨i,j,hi',hj,hr⟩),λh=>?_⟩)) (λr hr=>hro.notZ r hr)
    have:=R.fd i j n j0 r hi' hj hi hj0 hr h
    exact hin this
  ·intro r
   rw [hlen]
  ·intro i j hi' hj
   rw [hlen] at hi'
   split
   ·exact hGb
   ·exact R.fb i j hi' hj
  ·intro i j i' j' r hi1 hj1 hi2 hj2 hr1 hr2
   rw [hlen] at hi1 hi2
   have no : ∀ i j : Nat,i<xs.length→j<o.s→¬ (i=n∧j=j0)→fp i j r→¬ G r:=by
    intro i j hi' hj hne h hg
    rcases hG r hg with h' | h'
    ·exact hne (R.fd i j n j0 r hi' hj hi hj0 h h')
    ·exact h' ((R.foot r).2 (.inr ⟨i,j,hi',hj,h⟩))
   split at hr1<;>split at hr2
   ·omega
   ·rename_i ha hb';exact absurd hr1 (no i' j' hi2 hj2 hb' hr2)
   ·rename_i ha hb';exact absurd hr2 (no i j hi1 hj1 ha hr1)
   ·exact R.fd i j i' j' r hi1 hj1 hi2 hj2 hr1 hr2
 ·rintro r (rfl | ⟨i,j,hi',hj,hr⟩)
  ·exact .inl ⟨hb,hbn⟩
  ·split at hr
   ·exact .inr hr
   ·rename_i hne
    exact .inl ⟨(R.foot r).2 (.inr ⟨i,j,hi',hj,hr⟩),λh=>hne (R.fd i j n j0 r hi' hj hi hj0 hr h)⟩
def aIS (o : OTy) (c : PV) : jW→Option PV
 | []=>some c
 | (i,j)::r=>match aB o.s o.g c i with
   | some x=>if o.g then (match x.cell j with | some y=>aIS (o.ct j) y r | none=>none) else if Nat.beq j 0 then aIS (o.ct 0) x r else none
   | none=>none
theorem uH : ∀ {path : jW} {o : OTy} {c : PV} {k : OTy→PV→OR} {r : R},aCu o c path k=some r→∃ c',aIS o c path=some c'∧k (o.along path) c'=some r
 | [],o,c,k,r,h=>⟨c,rfl,h⟩
 | (i,j)::path,o,c,k,r,h=>by
   unfold aCu at h
   obtain ⟨x,hx,h1⟩:=bH h
   unfold aIS
   rw [hx]
   dsimp only
   split at h1
   ·rename_i hg
    obtain ⟨y,hy,h2⟩:=bH h1
    obtain ⟨c',hc,hk⟩:=uH h2
    exact ⟨c',by rw [if_pos hg,hy];exact hc,hk⟩
   ·rename_i hg
    by_cases hb0 : Nat.beq j 0=true
    ·rw [if_pos hb0] at h1
     have h0:=dH hb0
     subst h0
     obtain ⟨c',hc,hk⟩:=uH h1
     exact ⟨c',by rw [if_neg hg,if_pos hb0];exact hc,hk⟩
    ·rw [if_neg hb0] at h1;cases h1
theorem OTy.leaf_along : ∀ p : jW,OTy.leaf.along p = .leaf
 | []=>rfl
 | (_,_)::r=>OTy.leaf_along r
theorem OTy.along_leaf {p : jW} (hp : (o.along p).isLeaf=false) : o.isLeaf=false:=by
 cases o with
 | own=>rfl
 | leaf=>rw [OTy.leaf_along p] at hp;cases hp
theorem PV.setCell_inv (hn : xs[n]? = some x) {j : Nat} {v : PV}
 (h : aC s (.lst xs) (.int k n) j v=some c') :
 ∃ cs,x = .agg cs∧cs.length=s∧j<s∧v.isEl 1 false=true∧c' = .lst (xs.set n (.agg (cs.set j v))):=by
 unfold aC at h
 simp only [Int.natCast_nonneg,if_true,Int.toNat_natCast] at h
 rw [hn] at h
 split at h
 ·rename_i cs he
  cases he
  split at h
  ·rename_i hc
   cases h
   exact ⟨cs,rfl,hc.1,hc.2.1,hc.2.2,rfl⟩
  ·cases h
 ·cases h
theorem PV.setAt_inv {g : Bool} {v : PV} (h : aX s g (.lst xs) (.int k n) v=some c') :
 n<xs.length∧v.isEl s g=true∧c' = .lst (xs.set n v):=by
 unfold aX at h
 simp only [Int.natCast_nonneg,true_and,Int.toNat_natCast] at h
 split at h
 ·rename_i hc
  cases h
  exact ⟨by omega,hc.2,rfl⟩
 ·cases h
theorem qT : ∀ {path : jW} {o : OTy} {c y : PV} {k : PV→OR} {r : R},aDH o c path y k=some r→
 ∃ c' c1,k c'=some r∧aIS o c path=some c1∧∀ (w : World) (Z : NP) (v : Value) (F : NP),eO w Z o c v F→(o.along path).isLeaf=false→
   ∃ v1 F1,fY w F o v path v1∧eO w Z (o.along path) c1 v1 F1∧(∀ r,F1 r→F r)∧
     ∀ (w' : World) (G : NP),eO w' Z (o.along path) y v1 G→(∀ r,Z r∨(F r∧¬ F1 r)→w'.heap[r]? = w.heap[r]?)→(∀ r,G r→F1 r∨¬ F r)→
       ∃ F',eO w' Z o c' v F'∧∀ r,F' r→(F r∧¬ F1 r)∨G r
 | [],o,c,y,k,r,h=>⟨y,c,h,rfl,λw Z v F hr _=>⟨v,F,rfl,hr,λ_ h=>h,λw' G hy _ _=>⟨G,hy,λ_ h=>.inr h⟩⟩⟩
 | (i,j)::path,o,c,y,k,r,h=>by
   unfold aDH at h
   obtain ⟨x,hx,h1⟩:=bH h
   clear h
   split at h1
   ·rename_i hg
    obtain ⟨z,hz,h2⟩:=bH h1
    obtain ⟨z',c1,h3,hget,H⟩:=qT h2
    obtain ⟨c',hc',hk⟩:=bH h3
    refine ⟨c',c1,hk,by unfold aIS;rw [hx];dsimp only;rw [if_pos hg,hz];exact hget,λw Z v F hr hlf=>?_⟩
    obtain ⟨xs,b,off,cap,cells,ety,cv,fp,kk,n,rfl,rfl,rfl,hn,he,R⟩:=hr.row_inv hx
    obtain ⟨hj,hz'⟩:=R.cell hn hg hz
    have hi : n<xs.length:=(List.getElem?_eq_some_iff.1 hn).1
    have hrr:=R.rep n j x hn hj
    rw [hz'] at hrr
    obtain ⟨v1,F1,hh,hr1,hF1,H'⟩:=H w Z _ _ hrr hlf
    obtain ⟨cs,rfl,hl,hjs,hzel,rfl⟩:=PV.setCell_inv hn hc'
    refine ⟨v1,F1,⟨b,off,xs.length,cap,n,kk,cells,ety,(0,0),cv n j,rfl,rfl,hi,R.heap,R.at_ n j hi hj,(R.foot b).2 (.inl rfl),OTy.along_leaf hlf,
     hh.mono (λr h=>(R.foot r).2 (.inr ⟨n,j,hi,hj,h⟩)) (λ_ _=>rfl)⟩,hr1,λr h=>(R.foot r).2 (.inr ⟨n,j,hi,hj,hF1 r h⟩),λw' G hy hw hG=>?_⟩
    have sub : ∀ r,fp n j r→F r:=λr h=>(R.foot r).2 (.inr ⟨n,j,hi,hj,h⟩)
    obtain ⟨F',hr',hF'⟩:=H' w' G hy (λr h=>hw r (h.imp id (λh=>⟨sub r h.1,h.2⟩)))
     (λr h=>(hG r h).imp id (λh h'=>h (sub r h')))
    have hel : (PV.agg (cs.set j z')).isEl o.s o.g=true:=by
     rw [hg];simp [PV.isEl,hl]
    have hc0 : gF o.g (.agg (cs.set j z')) j=z':=by
     rw [hg,jO,List.getD,List.getElem?_set_self (by omega)];rfl
    obtain ⟨fp',F'',R',hF''⟩:=R.replace (w':=w') hn hj hel (λj' hj' hne=>by
     rw [hg,jO,jO,List.getD,List.getD,List.getElem?_set_ne (Ne.symm hne)]) (G:=F') (by rw [hc0];exact hr')
     (λr h=>hw r (h.imp id (λh=>⟨h.1,λh'=>h.2 (hF1 r h')⟩)))
     (λr h=>by
      rcases hF' r h with h' | h'
      ·exact .inl h'.1
      ·rcases hG r h' with h'' | h''
       ·exact .inl (hF1 r h'')
       ·exact .inr h'')
    refine ⟨F'',?_,λr h=>?_⟩
    ·have:=R'.repO
     rwa [List.length_set] at this
    ·rcases hF'' r h with h' | h'
     ·exact .inl ⟨h'.1,λh''=>h'.2 (hF1 r h'')⟩
     ·rcases hF' r h' with h'' | h''
      ·exact .inl ⟨sub r h''.1,h''.2⟩
      ·exact .inr h''
   ·rename_i hg
    have hgf : o.g=false:=by simpa using hg
    by_cases hb0 : Nat.beq j 0=true
    ·rw [if_pos hb0] at h1
     have h0:=dH hb0
     subst h0
     obtain ⟨z',c1,h3,hget,H⟩:=qT h1
     obtain ⟨c',hc',hk⟩:=bH h3
     refine ⟨c',c1,hk,by unfold aIS;rw [hx];dsimp only;rw [if_neg hg,if_pos hb0];exact hget,λw Z v F hr hlf=>?_⟩
     obtain ⟨xs,b,off,cap,cells,ety,cv,fp,kk,n,rfl,rfl,rfl,hn,he,R⟩:=hr.row_inv hx
     have hi : n<xs.length:=(List.getElem?_eq_some_iff.1 hn).1
     have hrr:=R.rep n 0 x hn R.pos
     rw [hgf] at hrr
     have hrr : eO w Z (o.ct 0) x (cv n 0) (fp n 0):=hrr
     obtain ⟨v1,F1,hh,hr1,hF1,H'⟩:=H w Z _ _ hrr hlf
     obtain ⟨_,hel,rfl⟩:=PV.setAt_inv hc'
     refine ⟨v1,F1,⟨b,off,xs.length,cap,n,kk,cells,ety,(0,0),cv n 0,rfl,rfl,hi,R.heap,R.at_ n 0 hi R.pos,(R.foot b).2 (.inl rfl),OTy.along_leaf hlf,
      hh.mono (λr h=>(R.foot r).2 (.inr ⟨n,0,hi,R.pos,h⟩)) (λ_ _=>rfl)⟩,hr1,λr h=>(R.foot r).2 (.inr ⟨n,0,hi,R.pos,hF1 r h⟩),λw' G hy hw hG=>?_⟩
     have sub : ∀ r,fp n 0 r→F r:=λr h=>(R.foot r).2 (.inr ⟨n,0,hi,R.pos,h⟩)
     obtain ⟨F',hr',hF'⟩:=H' w' G hy (λr h=>hw r (h.imp id (λh=>⟨sub r h.1,h.2⟩)))
      (λr h=>(hG r h).imp id (λh h'=>h (sub r h')))
     have hs1 : o.s=1:=by
      have:=R.el n x hn
      rw [hgf] at this
      exact aHv this
     obtain ⟨fp',F'',R',hF''⟩:=R.replace (w':=w') hn R.pos (x':=z') hel (λj' hj' hne=>by omega) (G:=F')
      (by rw [hgf];exact hr')
      (λr h=>hw r (h.imp id (λh=>⟨h.1,λh'=>h.2 (hF1 r h')⟩)))
      (λr h=>by
       rcases hF' r h with h' | h'
       ·exact .inl h'.1
       ·rcases hG r h' with h'' | h''
        ·exact .inl (hF1 r h'')
        ·exact .inr h'')
     refine ⟨F'',?_,λr h=>?_⟩
     ·have:=R'.repO
      rwa [List.length_set] at this
     ·rcases hF'' r h with h' | h'
      ·exact .inl ⟨h'.1,λh''=>h'.2 (hF1 r h'')⟩
      ·rcases hF' r h' with h'' | h''
       ·exact .inl ⟨sub r h''.1,h''.2⟩
       ·exact .inr h''
    ·rw [if_neg hb0] at h1;cases h1
end
variable {w w' : World} {Z Z' live live' : NP} {ρ ρ' : Loc} {d : DV} {v : Value}
structure aDn (w w' : World) (Z Z' : NP) (ρ ρ' : Loc) (live live' : NP) (gone : NP) : Prop where
 z : ∀ r,Z r→Z' r
 hw : ∀ r,Z r→w'.heap[r]? = w.heap[r]?
 b : ∀ b,ρ.ub b→ρ'.ub b∧ρ'.box b=ρ.box b
 u : ∀ l,ρ.ul l→ρ'.ul l
 l : ∀ l,ρ.ul l→live' l→live l∧ρ'.hdr l=ρ.hdr l∧ρ'.ty l=ρ.ty l∧
  (gone l∨(ρ.ty l).plain=true∨∀ r,ρ.fp l r→ρ'.fp l r∧w'.heap[r]? = w.heap[r]?)
theorem xF {x : Nat} : ∀ {l : List Nat},mem x l=true↔x∈l
 | []=>by simp [mem]
 | y::r=>by
   unfold mem
   split
   ·rename_i h;have:=dH h;subst this;simp
   ·rename_i h
    have hne : x≠y:=λe=>h (by subst e;simp)
    rw [xF]
    simp [hne]
theorem fY.plain {w : World} {G : NP} {o : OTy} {v v' : Value} {path : jW} (h : fY w G o v path v') (hp : o.plain=true) : path = []:=by
 cases path with
 | nil=>rfl
 | cons p r=>
   obtain ⟨i,j⟩:=p
   obtain ⟨_,_,_,_,_,_,_,_,_,_,_,_,_,_,_,_,hl,_⟩:=h
   rw [OTy.plain_ct hp] at hl
   cases hl
theorem aDn.hdr {w w' : World} {Z Z' : NP} {ρ ρ' : Loc} {live live' gone : NP} (C : aDn w w' Z Z' ρ ρ' live live' gone) {l : Nat} (hu : ρ.ul l) (hl : live' l)
 {path : jW} {v : Value} (hg : gone l→path = []) (h : live l→fY w (ρ.fp l) (ρ.ty l) (ρ.hdr l) path v) : fY w' (ρ'.fp l) (ρ'.ty l) (ρ'.hdr l) path v:=by
 obtain ⟨h1,h2,h3,h4⟩:=C.l l hu hl
 have h:=h h1
 rw [h2,h3]
 by_cases hp : path = []
 ·subst hp;exact h
 ·rcases h4 with h4 | h4 | h4
  ·exact absurd (hg h4) hp
  ·exact absurd (h.plain h4) hp
  ·exact h.mono (λr hr=>(h4 r hr).1) (λr hr=>(h4 r hr).2)
theorem fG.carry (C : aDn w w' Z Z' ρ ρ' live live' (λ_=>False))
 (h : fG w Z ρ live d v) : fG w' Z' ρ' live' d v:=by
 induction h with
 | p x v h=>exact .p x v (h.mono C.z C.hw)
 | nils=>exact .nils
 | agg ds vs hl hc _ ih=>exact .agg ds vs hl hc ih
 | tup ds vs hl _ ih=>exact .tup ds vs hl ih
 | fn f ds vs hl _ ih=>exact .fn f ds vs hl ih
 | ptr b off hb=>rw [← (C.b b hb).2];exact .ptr b off (C.b b hb).1
 | bsl b n hb=>rw [← (C.b b hb).2];exact .bsl b n (C.b b hb).1
 | ref l path v hu hc h=>exact .ref l path v (C.u l hu) hc (λhl=>C.hdr hu hl False.elim h)
 | sref l path lo hi v hu hc h=>
   refine .sref l path lo hi v (C.u l hu) hc (λhl=>?_)
   obtain ⟨a,len,cap,k,k',mm,n,h1,h2⟩:=h (C.l l hu hl).1
   have e:=(C.l l hu hl).2.2.1
   exact ⟨a,len,cap,k,k',mm,n,C.hdr hu hl False.elim (λ_=>h1),by rw [e];exact h2⟩
 | eptr l path i off v hu hc h=>
   refine .eptr l path i off v (C.u l hu) hc (λhl=>?_)
   obtain ⟨b,o,len,cap,k,n,h1,h2⟩:=h (C.l l hu hl).1
   have e:=(C.l l hu hl).2.2.1
   exact ⟨b,o,len,cap,k,n,C.hdr hu hl False.elim (λ_=>h1),by rw [e];exact h2⟩
 | fptr x s g off b o cells e fz cv hz hh hel hat hone hrep=>
   exact .fptr x s g off b o cells e fz cv (C.z b hz) ((C.hw b hz).trans hh) hel hat hone (λj hj=>(hrep j hj).mono C.z C.hw)
 | bptr c off b o h=>exact .bptr c off b o (h.mono C.z C.hw)
 | gptr l path i off v hc h=>
   refine .gptr l path i off v hc (λk0 n0 hi=>⟨C.u l (h k0 n0 hi).1,λhl=>?_⟩)
   obtain ⟨hu,h⟩:=h k0 n0 hi
   obtain ⟨b,o,len,cap,k,n,h1,h2⟩:=h (C.l l hu hl).1
   have e:=(C.l l hu hl).2.2.1
   exact ⟨b,o,len,cap,k,n,C.hdr hu hl False.elim (λ_=>h1),by rw [e];exact h2⟩
 | nilq c neg b h=>exact .nilq c neg b h
 | dead v=>exact .dead v
theorem fG.scrub {w w' : World} {Z Z' : NP} {ρ ρ' : Loc} {live live' : NP} {l0 : List Nat} (C : aDn w w' Z Z' ρ ρ' live live' (λl=>l∈l0)) :
 ∀ (n : Nat) {d : DV} {v : Value},fG w Z ρ live d v→fG w' Z' ρ' live' (scrub l0 0 n d) v:=by
 have key : ∀ (f : DV→DV),(∀ d v,fG w Z ρ live d v→fG w' Z' ρ' live' (f d) v)→∀ {d : DV} {v : Value},fG w Z ρ live d v→fG w' Z' ρ' live' (aCv l0 0 f d) v:=by
  intro f hf d v h
  have path0 : ∀ {l : Nat} {path : jW},¬ ((mem l l0&&Nat.blt 0 path.length)=true)→l∈l0→path = []:=by
   intro l path hn e
   have e:=xF.2 e
   cases path with
   | nil=>rfl
   | cons a r=>exact absurd (by simp [Nat.blt_eq,e]) hn
  cases h with
  | p x v h=>exact .p x v (h.mono C.z C.hw)
  | nils=>exact .nils
  | agg ds vs hl hc h=>
    refine .agg _ vs (by simp [hl]) hc (λi d v hd hv=>?_)
    rw [List.getElem?_map] at hd
    cases hdi : ds[i]? with
    | none=>rw [hdi] at hd;cases hd
    | some d0=>rw [hdi] at hd;cases hd;exact hf _ _ (h i d0 v hdi hv)
  | tup ds vs hl h=>
    refine .tup _ vs (by simp [hl]) (λi d v hd hv=>?_)
    rw [List.getElem?_map] at hd
    cases hdi : ds[i]? with
    | none=>rw [hdi] at hd;cases hd
    | some d0=>rw [hdi] at hd;cases hd;exact hf _ _ (h i d0 v hdi hv)
  | fn g ds vs hl h=>
    refine .fn g _ vs (by simp [hl]) (λi d v hd hv=>?_)
    rw [List.getElem?_map] at hd
    cases hdi : ds[i]? with
    | none=>rw [hdi] at hd;cases hd
    | some d0=>rw [hdi] at hd;cases hd;exact hf _ _ (h i d0 v hdi hv)
  | ptr b off hb=>rw [← (C.b b hb).2];exact .ptr b off (C.b b hb).1
  | bsl b n hb=>rw [← (C.b b hb).2];exact .bsl b n (C.b b hb).1
  | ref l path v hu hc h=>
    unfold aCv
    dsimp only
    split
    ·exact .dead v
    ·rename_i hn
     exact .ref l path v (C.u l hu) hc (λhl=>C.hdr hu hl (path0 hn) h)
  | sref l path lo hi v hu hc h=>
    unfold aCv
    dsimp only
    split
    ·exact .dead v
    ·rename_i hn
     refine .sref l path lo hi v (C.u l hu) hc (λhl=>?_)
     obtain ⟨a,len,cap,k,k',mm,n,h1,h2⟩:=h (C.l l hu hl).1
     have e:=(C.l l hu hl).2.2.1
     exact ⟨a,len,cap,k,k',mm,n,C.hdr hu hl (path0 hn) (λ_=>h1),by rw [e];exact h2⟩
  | eptr l path i off v hu hc h=>
    unfold aCv
    dsimp only
    split
    ·exact .dead v
    ·rename_i hn
     refine .eptr l path i off v (C.u l hu) hc (λhl=>?_)
     obtain ⟨b,o,len,cap,k,n,h1,h2⟩:=h (C.l l hu hl).1
     have e:=(C.l l hu hl).2.2.1
     exact ⟨b,o,len,cap,k,n,C.hdr hu hl (path0 hn) (λ_=>h1),by rw [e];exact h2⟩
  | fptr x s g off b o cells e fz cv hz hh hel hat hone hrep=>
    exact .fptr x s g off b o cells e fz cv (C.z b hz) ((C.hw b hz).trans hh) hel hat hone (λj hj=>(hrep j hj).mono C.z C.hw)
  | bptr c off b o h=>exact .bptr c off b o (h.mono C.z C.hw)
  | gptr l path i off v hc h=>
    unfold aCv
    dsimp only
    split
    ·exact .dead v
    ·rename_i hn
     refine .gptr l path i off v hc (λk0 n0 hi=>⟨C.u l (h k0 n0 hi).1,λhl=>?_⟩)
     obtain ⟨hu,h⟩:=h k0 n0 hi
     obtain ⟨b,o,len,cap,k,n,h1,h2⟩:=h (C.l l hu hl).1
     have e:=(C.l l hu hl).2.2.1
     exact ⟨b,o,len,cap,k,n,C.hdr hu hl (path0 hn) (λ_=>h1),by rw [e];exact h2⟩
  | nilq c neg b h=>exact .nilq c neg b h
  | dead v=>exact .dead v
 intro n
 induction n with
 | zero=>intro d v h;exact key _ (λ_ _ _=>.dead _) h
 | succ n ih=>intro d v h;exact key _ (λ_ _ h=>ih h) h
theorem OTy.shallow_ct {o : OTy} (h : o.shallow=true) (j i : Nat) : ((o.ct j).ct i).isLeaf=true:=by
 cases o with
 | leaf=>rfl
 | own s e g cts=>
   simp only [OTy.shallow,List.all_eq_true,Bool.or_eq_true] at h
   have hct : (OTy.own s e g cts).ct j=cts.getD j .leaf:=rfl
   rw [hct]
   cases hj : cts[j]? with
   | none=>rw [List.getD,hj];rfl
   | some c=>
     rw [List.getD,hj]
     show (c.ct i).isLeaf=true
     rcases h c (List.mem_of_getElem? hj) with h | h
     ·cases c with
      | leaf=>rfl
      | own=>cases h
     ·rw [OTy.plain_ct h];rfl
theorem fG.carryH (hz : ∀ r,Z r→Z' r) (hw : ∀ r,Z r→w'.heap[r]? = w.heap[r]?) (hb : ∀ b,ρ.ub b→ρ'.ub b∧ρ'.box b=ρ.box b) (hu : ∀ l,ρ.ul l→ρ'.ul l)
 (hl : ∀ l,ρ.ul l→live' l→live l∧ρ'.ty l=ρ.ty l∧∀ path v,fY w (ρ.fp l) (ρ.ty l) (ρ.hdr l) path v→fY w' (ρ'.fp l) (ρ'.ty l) (ρ'.hdr l) path v)
 (h : fG w Z ρ live d v) : fG w' Z' ρ' live' d v:=by
 induction h with
 | p x v h=>exact .p x v (h.mono hz hw)
 | nils=>exact .nils
 | agg ds vs hl hc _ ih=>exact .agg ds vs hl hc ih
 | tup ds vs hl _ ih=>exact .tup ds vs hl ih
 | fn f ds vs hl _ ih=>exact .fn f ds vs hl ih
 | ptr b off hub=>rw [← (hb b hub).2];exact .ptr b off (hb b hub).1
 | bsl b n hub=>rw [← (hb b hub).2];exact .bsl b n (hb b hub).1
 | ref l path v hul hc h=>exact .ref l path v (hu l hul) hc (λhv=>(hl l hul hv).2.2 path v (h (hl l hul hv).1))
 | sref l path lo hi v hul hc h=>
   refine .sref l path lo hi v (hu l hul) hc (λhv=>?_)
   obtain ⟨a,len,cap,k,k',mm,n,h1,h2⟩:=h (hl l hul hv).1
   obtain ⟨_,e,H⟩:=hl l hul hv
   exact ⟨a,len,cap,k,k',mm,n,H _ _ h1,by rw [e];exact h2⟩
 | eptr l path i off v hul hc h=>
   refine .eptr l path i off v (hu l hul) hc (λhv=>?_)
   obtain ⟨b,o,len,cap,k,n,h1,h2⟩:=h (hl l hul hv).1
   obtain ⟨_,e,H⟩:=hl l hul hv
   exact ⟨b,o,len,cap,k,n,H _ _ h1,by rw [e];exact h2⟩
 | fptr x s g off b o cells e fz cv hzb hh hel hat hone hrep=>
   exact .fptr x s g off b o cells e fz cv (hz b hzb) ((hw b hzb).trans hh) hel hat hone (λj hj=>(hrep j hj).mono hz hw)
 | bptr c off b o h=>exact .bptr c off b o (h.mono hz hw)
 | gptr l path i off v hc h=>
   refine .gptr l path i off v hc (λk0 n0 hi=>⟨hu l (h k0 n0 hi).1,λhv=>?_⟩)
   obtain ⟨hul,h⟩:=h k0 n0 hi
   obtain ⟨b,o,len,cap,k,n,h1,h2⟩:=h (hl l hul hv).1
   obtain ⟨_,e,H⟩:=hl l hul hv
   exact ⟨b,o,len,cap,k,n,H _ _ h1,by rw [e];exact h2⟩
 | nilq c neg b h=>exact .nilq c neg b h
 | dead v=>exact .dead v
theorem jH.row {m m' : bY} {scr : DV→DV} {n l : Nat} (inv : sN m)
 (hrd : ∀ d v,m.rd d v→m'.rd (scr d) v)
 (hbox : ∀ b,m'.s.box b=(m.s.box b).map (·.map scr))
 (hoth : ∀ l',l'≠l→m'.s.list l'=m.s.list l'∧m'.ρ.hdr l'=m.ρ.hdr l'∧m'.ρ.fp l'=m.ρ.fp l'∧m'.ρ.ty l'=m.ρ.ty l')
 (hρ : m'.ρ.box=m.ρ.box∧m'.ρ.ub=m.ρ.ub) (hul : ∀ x,m'.ρ.ul x↔m.ρ.ul x∨x=l) (hl : m.ρ.ul l∨(n≤l∧l<n+16))
 (hrow : ∀ o,m'.s.list l=some o→o.o=m'.ρ.ty l∧o.o.isLeaf=false∧eO m'.w m'.Z o.o o.c (m'.ρ.hdr l) (m'.ρ.fp l))
 (hsame : m.ρ.ul l→m'.s.live l→m.s.live l∧m'.ρ.hdr l=m.ρ.hdr l∧m'.ρ.ty l=m.ρ.ty l)
 (hfp : ∀ o r,m'.s.list l=some o→m'.ρ.fp l r→(∃ o0,m.s.list l=some o0∧m.ρ.fp l r)∨m.L r∨m.w.heap.size≤r)
 (hsize : m.w.heap.size≤m'.w.heap.size) (hos : m'.w.os=m.w.os) (htape : m'.w.tape=m.w.tape) (hout : m'.w.output=m.w.output)
 (hw : ∀ r,r<m.w.heap.size→¬ (∃ o0,m.s.list l=some o0∧m.ρ.fp l r)→¬ m.L r→m'.w.heap[r]? = m.w.heap[r]?)
 (hzz : ∀ r,m.Z r→m'.Z r) (hz : ∀ r,m'.Z r→m.Z r∨(∃ o0,m.s.list l=some o0∧m.ρ.fp l r)∨m.w.heap.size≤r) (hzlt : ∀ r,m'.Z r→r<m'.w.heap.size)
 (hLL : ∀ r,m'.L r→(m.L r∨(∃ o0,m.s.list l=some o0∧m.ρ.fp l r)∨m.w.heap.size≤r)∧¬ m'.Z r∧r<m'.w.heap.size∧∀ o,m'.s.list l=some o→¬ m'.ρ.fp l r) :
 jH m m' scr n:=by
 have size_of : ∀ {r},m.owned r→r<m.w.heap.size:=λh=>inv.owned_lt h
 have boxof : ∀ {b cs'},m'.s.box b=some cs'→∃ cs,m.s.box b=some cs∧cs'=cs.map scr:=by
  intro b cs' h
  rw [hbox] at h
  cases hb : m.s.box b with
  | none=>rw [hb] at h;cases h
  | some cs=>rw [hb] at h;cases h;exact ⟨cs,rfl,rfl⟩
 have listof : ∀ {l' o},l'≠l→m'.s.list l'=some o→m.s.list l'=some o:=λhne h=>by rw [← (hoth _ hne).1];exact h
 have rowfree : ∀ {l' o r},l'≠l→m.s.list l'=some o→m.ρ.fp l' r→¬ (∃ o0,m.s.list l=some o0∧m.ρ.fp l r):=λhne hl' hf h=>by
  obtain ⟨o0,h0,hf0⟩:=h
  exact hne (inv.ll _ _ _ _ _ hl' h0 hf hf0)
 have boxfree : ∀ {b cs},m.s.box b=some cs→¬ (∃ o0,m.s.list l=some o0∧m.ρ.fp l (m.ρ.box b)):=λhb h=>by
  obtain ⟨o0,h0,hf0⟩:=h
  exact inv.bl _ _ _ _ hb h0 hf0
 have boxlt : ∀ {b cs},m.s.box b=some cs→m.ρ.box b<m.w.heap.size:=λhb=>size_of (.inl ⟨_,_,hb,rfl⟩)
 have rowlt : ∀ {l' o r},m.s.list l'=some o→m.ρ.fp l' r→r<m.w.heap.size:=λhl' hf=>size_of (.inr (.inl ⟨_,_,hl',hf⟩))
 have zfree : ∀ {r},m.owned r→¬ (∃ o0,m.s.list l=some o0∧m.ρ.fp l r)→¬ m'.Z r:=λho hn hz'=>by
  rcases hz _ hz' with h | h | h
  ·exact inv.owned_notZ ho h
  ·exact hn h
  ·have:=size_of ho;omega
 have inv' : sN m':=by
  refine ⟨?_,?_,inv.zlt.next hzz (λr hr=>hw r (inv.zlt r hr) (λ⟨o0,h4,h5⟩=>(inv.row l o0 h4).2.2.notZ r h5 hr) (λhL=>(inv.Lz r hL).1 hr)) hzlt,?_,?_,?_,?_,?_,?_,?_,?_,?_⟩
  ·intro b cs' h
   obtain ⟨cs,hb,_⟩:=boxof h
   rw [hρ.2];exact inv.ub b cs hb
  ·intro l' o h
   by_cases e : l'=l
   ·subst e;exact (hul _).2 (.inr rfl)
   ·exact (hul _).2 (.inl (inv.ul l' o (listof e h)))
  ·intro b cs' h
   obtain ⟨cs,hb,rfl⟩:=boxof h
   obtain ⟨vs,ety,hh,hlen,hone,hrep⟩:=inv.box b cs hb
   refine ⟨vs,ety,?_,by simp [hlen],hone,?_⟩
   ·rw [hρ.1,hw _ (boxlt hb) (boxfree hb) (inv.Lb b cs hb)];exact hh
   ·intro i d v hd hv
    rw [List.getElem?_map] at hd
    cases hc : cs[i]? with
    | none=>rw [hc] at hd;cases hd
    | some d0=>rw [hc] at hd;cases hd;exact hrd _ _ (hrep i d0 v hc hv)
  ·intro l' o h
   by_cases e : l'=l
   ·subst e;exact hrow o h
   ·have h0:=listof e h
    obtain ⟨h1,h2,h3⟩:=inv.row l' o h0
    obtain ⟨_,e1,e2,e3⟩:=hoth l' e
    refine ⟨h1.trans e3.symm,h2,?_⟩
    rw [e1,e2]
    refine h3.frame hzz (λr hr=>hw r (inv.zlt r hr) (λ⟨o0,h4,h5⟩=>(inv.row l o0 h4).2.2.notZ r h5 hr) (λhL=>(inv.Lz r hL).1 hr))
     (λr hr=>hw r (rowlt h0 hr) (rowfree e h0 hr) (inv.Ll l' o r h0 hr)) (λr hr=>zfree (.inr (.inl ⟨l',o,h0,hr⟩)) (rowfree e h0 hr))
  ·intro b cs' h
   obtain ⟨cs,hb,_⟩:=boxof h
   rw [hρ.1]
   exact zfree (.inl ⟨b,cs,hb,rfl⟩) (boxfree hb)
  ·intro b cs b' cs' h h' e
   obtain ⟨c1,h1,_⟩:=boxof h
   obtain ⟨c2,h2,_⟩:=boxof h'
   rw [hρ.1] at e
   exact inv.bb b c1 b' c2 h1 h2 e
  ·intro b cs l' o h h' hf
   obtain ⟨c1,h1,_⟩:=boxof h
   rw [hρ.1] at hf
   by_cases e : l'=l
   ·subst e
    rcases hfp o _ h' hf with h2 | h2 | h2
    ·exact boxfree h1 h2
    ·exact inv.Lb b c1 h1 h2
    ·have:=boxlt h1;omega
   ·rw [(hoth l' e).2.2.1] at hf
    exact inv.bl b c1 l' o h1 (listof e h') hf
  ·intro l1 o1 l2 o2 r h1 h2 hf1 hf2
   by_cases e1 : l1=l
   ·by_cases e2 : l2=l
    ·rw [e1,e2]
    ·exfalso
     subst e1
     rw [(hoth l2 e2).2.2.1] at hf2
     have h2':=listof e2 h2
     rcases hfp o1 r h1 hf1 with h3 | h3 | h3
     ·exact rowfree e2 h2' hf2 h3
     ·exact inv.Ll l2 o2 r h2' hf2 h3
     ·have:=rowlt h2' hf2;omega
   ·by_cases e2 : l2=l
    ·exfalso
     subst e2
     rw [(hoth l1 e1).2.2.1] at hf1
     have h1':=listof e1 h1
     rcases hfp o2 r h2 hf2 with h3 | h3 | h3
     ·exact rowfree e1 h1' hf1 h3
     ·exact inv.Ll l1 o1 r h1' hf1 h3
     ·have:=rowlt h1' hf1;omega
    ·rw [(hoth l1 e1).2.2.1] at hf1
     rw [(hoth l2 e2).2.2.1] at hf2
     exact inv.ll l1 o1 l2 o2 r (listof e1 h1) (listof e2 h2) hf1 hf2
  ·intro r hr
   exact ⟨(hLL r hr).2.1,(hLL r hr).2.2.1⟩
  ·intro b cs h hL
   obtain ⟨c1,h1,_⟩:=boxof h
   rw [hρ.1] at hL
   rcases (hLL _ hL).1 with h2 | h2 | h2
   ·exact inv.Lb b c1 h1 h2
   ·exact boxfree h1 h2
   ·have:=boxlt h1;omega
  ·intro l' o r h hf hL
   by_cases e : l'=l
   ·subst e;exact (hLL r hL).2.2.2 o h hf
   ·rw [(hoth l' e).2.2.1] at hf
    have h':=listof e h
    rcases (hLL r hL).1 with h2 | h2 | h2
    ·exact inv.Ll l' o r h' hf h2
    ·exact rowfree e h' hf h2
    ·have:=rowlt h' hf;omega
 refine ⟨inv',hrd,hsize,hos,htape,hout,?_,?_,?_,hzz,?_,?_,?_,?_,?_,?_⟩
 ·intro r hr ho
  exact hw r hr (λ⟨o0,h1,h2⟩=>ho (.inr (.inl ⟨l,o0,h1,h2⟩))) (λh=>ho (.inr (.inr h)))
 ·rintro r (⟨b,cs',h,rfl⟩ | ⟨l',o,h,hf⟩ | hL)
  ·obtain ⟨cs,hb,_⟩:=boxof h
   rw [hρ.1]
   exact .inl (.inl ⟨b,cs,hb,rfl⟩)
  ·by_cases e : l'=l
   ·subst e
    rcases hfp o r h hf with ⟨o0,h1,h2⟩ | h2 | h2
    ·exact .inl (.inr (.inl ⟨l',o0,h1,h2⟩))
    ·exact .inl (.inr (.inr h2))
    ·exact .inr h2
   ·rw [(hoth l' e).2.2.1] at hf
    exact .inl (.inr (.inl ⟨l',o,listof e h,hf⟩))
  ·rcases (hLL r hL).1 with h2 | ⟨o0,h1,h2⟩ | h2
   ·exact .inl (.inr (.inr h2))
   ·exact .inl (.inr (.inl ⟨l,o0,h1,h2⟩))
   ·exact .inr h2
 ·intro r hr
  rcases hz r hr with h | ⟨o0,h1,h2⟩ | h
  ·exact .inl h
  ·exact .inr (.inl (.inr (.inl ⟨l,o0,h1,h2⟩)))
  ·exact .inr (.inr h)
 ·intro b hb
  rw [hρ.2] at hb
  exact .inl hb
 ·intro x hx
  rcases (hul x).1 hx with h | rfl
  ·exact .inl h
  ·exact hl.imp id id
 ·intro b hb
  rw [hρ.1,hρ.2]
  exact ⟨hb,rfl⟩
 ·intro x hx
  exact (hul x).2 (.inl hx)
 ·intro b cs hb
  exact ⟨cs.map scr,by rw [hbox,hb];rfl⟩
 ·intro x hx hv
  by_cases e : x=l
  ·subst e;exact hsame hx hv
  ·obtain ⟨h1,h2,h3,h4⟩:=hoth x e
   refine ⟨?_,h2,h4⟩
   unfold Sx.live at hv ⊢
   rwa [← h1]
variable {m n s l : Nat} {x lo hi : PV} {g : Bool} {v : Value} {path : jW} {k : OTy → PV → OR} {r : R}
theorem uI (h : nC m x=some n) : ∃ k,x = .int k n∧n≤m:=by
 unfold nC at h
 split at h
 ·rename_i k i
  split at h
  ·rename_i hb
   cases h
   exact ⟨k,by rw [Int.toNat_of_nonneg hb.1],by omega⟩
  ·cases h
 ·cases h
theorem rM {c y : PV} (h : bA s g c lo hi=some y) :
 ∃ (xs : R) (m n : Nat) (k k' : IntKind),c = .lst xs∧lo = .int k m∧hi = .int k' n∧m≤n∧n≤xs.length∧y = .lst ((xs.take n).drop m)∧aDW s g xs=true:=by
 unfold bA at h
 split at h
 ·rename_i xs
  split at h
  ·rename_i hh
   cases hb : nC xs.length hi with
   | none=>rw [hb] at h;cases h
   | some n=>
     rw [hb] at h
     simp only [Option.bind_some] at h
     cases hb2 : nC n lo with
     | none=>rw [hb2] at h;cases h
     | some m=>
       rw [hb2] at h
       simp only [Option.bind_some] at h
       cases h
       obtain ⟨k',h1,h2⟩:=uI hb
       obtain ⟨k,h3,h4⟩:=uI hb2
       exact ⟨xs,m,n,k,k',rfl,h3,h1,h4,h2,rfl,hh⟩
  ·cases h
 ·cases h
theorem aIT {s' : Nat} {g' : Bool} (h : x.isEl s g=true) (h' : x.isEl s' g'=true) : s=s'∧g=g':=by
 cases x<;>simp [PV.isEl] at h h'<;>simp_all
section
variable {w : World} {Z : NP}
theorem kX.cut {xs : R} (h : kX w Z (.lst xs) v) (hd : aDW s g xs=true) (hmn : m≤n) (hn : n≤xs.length) :
 ∃ a len cap,v = .slice a len cap∧len=xs.length∧kX w Z (.lst ((xs.take n).drop m)) (.slice (if cap=m then a else a.map (·.add (m*s))) (n - m) (cap - m)):=by
 have hlen : ((xs.take n).drop m).length=n - m:=by simp;omega
 cases h with
 | empty a cap=>
   simp at hn
   subst hn
   have : m=0:=by omega
   subst this
   refine ⟨a,0,cap,rfl,rfl,?_⟩
   simpa using kX.empty (w:=w) (Z:=Z) _ _
 | lst _ b o s0 cap g0 cells e fz cv hb hh hs hcap he hc hv hr=>
   refine ⟨_,_,cap,rfl,rfl,?_⟩
   by_cases hnm : n=m
   ·subst hnm
    have : (xs.take n).drop n = []:=by
     apply List.eq_nil_of_length_eq_zero
     omega
    rw [this,Nat.sub_self]
    exact .empty _ _
   ·have hx0 : ∃ x,xs[0]? = some x:=⟨xs[0]'(by omega),List.getElem?_eq_getElem (by omega)⟩
    obtain ⟨x0,hx0⟩:=hx0
    have hs0 : s0=s:=by
     cases xs with
     | nil=>simp at hx0
     | cons a r=>
       simp at hx0
       subst hx0
       exact (aIT (he 0 a rfl) hd).1
    subst hs0
    have hcm : cap≠m:=by omega
    rw [if_neg hcm]
    have hadd : (some (⟨b,o,none⟩ : Addr)).map (·.add (m*s0))=some ⟨b,o+m*s0,none⟩:=by simp [nF]
    rw [hadd,← hlen]
    have hget : ∀ (i : Nat) x,((xs.take n).drop m)[i]? = some x→xs[m+i]? = some x:=by
     intro i x hx
     rw [List.getElem?_drop,List.getElem?_take] at hx
     split at hx
     ·exact hx
     ·cases hx
    refine .lst _ b (o+m*s0) s0 (cap - m) g0 cells e fz (λi j=>cv (m+i) j) hb hh hs (by omega) ?_ ?_ ?_ ?_
    ·intro i x hx
     exact he _ _ (hget i x hx)
    ·intro i j hi hj
     have:=hc (m+i) j (by omega) hj
     rwa [Nat.add_mul,← Nat.add_assoc] at this
    ·intro i j hi hj
     exact hv (m+i) j (by omega) hj
    ·intro i j x hx hj
     exact hr (m+i) j x (hget i x hx) hj
end
theorem fY.along_notLeaf {w : World} {G : NP} {o : OTy} {v' : Value} (h : fY w G o v path v') (ho : o.isLeaf=false) : (o.along path).isLeaf=false:=by
 induction path generalizing o v with
 | nil=>exact ho
 | cons p r ih=>
   obtain ⟨i,j⟩:=p
   obtain ⟨_,_,_,_,_,_,_,_,_,_,_,_,_,_,_,_,hl,hr⟩:=h
   exact ih hr hl
def uY (B L : NP) (n : Nat) (d : DV) : Prop:=(∀ b∈pT n d,B b)∧(∀ l∈dX n d,L l)
theorem wI : ∀ (n : Nat) {d : DV} {l : Nat},l∈dX n d→l∈dX (n+1) d
 | 0,d,l,h=>by
   unfold dX at h ⊢
   cases d<;>simp at h ⊢<;>exact h
 | n+1,d,l,h=>by
   unfold dX at h ⊢
   cases d<;>simp only [List.mem_flatMap,List.mem_singleton,List.not_mem_nil] at h ⊢<;>first
    | exact h
    | (obtain ⟨a,ha,hl⟩:=h;exact ⟨a,ha,wI n hl⟩)
theorem aNI : ∀ (n : Nat) {d : DV} {l : Nat},l∈pT n d→l∈pT (n+1) d
 | 0,d,l,h=>by
   unfold pT at h ⊢
   cases d<;>simp at h ⊢<;>exact h
 | n+1,d,l,h=>by
   unfold pT at h ⊢
   cases d<;>simp only [List.mem_flatMap,List.mem_singleton,List.not_mem_nil] at h ⊢<;>first
    | exact h
    | (obtain ⟨a,ha,hl⟩:=h;exact ⟨a,ha,aNI n hl⟩)
theorem uY.mono {B L : NP} (h : n≤m) {d : DV} (hd : uY B L m d) : uY B L n d:=by
 induction h with
 | refl=>exact hd
 | step _ ih=>exact ih ⟨λb hb=>hd.1 b (aNI _ hb),λl hl=>hd.2 l (wI _ hl)⟩
structure May (m : bY) (s : St) (B L : NP) : Prop where
 b : ∀ b,B b→m.s.box b=s.box b
 l : ∀ l,L l→m.s.list l=s.list l
 closed : ∀ b cs,B b→s.box b=some cs→∀ d∈cs,uY B L cU d
def aOI (m : bY) (Z' : NP) (n : Nat) (d : DV) : Prop:=
 (∀ r,m.owned r→Z' r)∨(pT n d = []∧∀ l∈dX n d,∀ o r,m.s.list l=some o→m.ρ.fp l r→Z' r)
theorem aGs {α β : Type} {f : α→(β→OR)→OR} {T : α→β→Prop} (hf : ∀ a k r,f a k=some r→∃ b,k b=some r∧T a b) :
 ∀ {as_ : List α} {k : List β→OR} {r : R},aIH f as_ k=some r→∃ bs : List β,k bs=some r∧as_.length=bs.length∧∀ (i : Nat) a b,as_[i]? = some a→bs[i]? = some b→T a b
 | [],k,r,h=>⟨[],h,rfl,λi a b ha=>by simp at ha⟩
 | a::as_,k,r,h=>by
   unfold aIH at h
   obtain ⟨b,h1,hT⟩:=hf _ _ _ h
   obtain ⟨bs,hk,hl,hTs⟩:=aGs hf h1
   refine ⟨b::bs,hk,by simp [hl],λi x y hx hy=>?_⟩
   cases i with
   | zero=>simp at hx hy;subst hx;subst hy;exact hT
   | succ i=>simp at hx hy;exact hTs i x y hx hy
theorem aEb {s : St} (h : aFM s (.ref l path) k=some r) :
 ∃ w0 c,s.list l=some w0∧k (w0.o.along path) c=some r∧∀ (m : bY),sN m→m.s.list l=some w0→∀ va,m.rd (.ref l path) va→
   ∃ F,eO m.w m.Z (w0.o.along path) c va F∧(∀ r,F r→m.ρ.fp l r)∧fY m.w (m.ρ.fp l) (m.ρ.ty l) (m.ρ.hdr l) path va∧w0.o=m.ρ.ty l:=by
 unfold aFM at h
 simp only at h
 split at h
 ·rename_i w0 hw0
  obtain ⟨c,hk,H⟩:=aAn h
  refine ⟨w0,c,hw0,hk,λm hi hm va hva=>?_⟩
  obtain ⟨hty,hlf,hro⟩:=hi.row l w0 hm
  cases hva with
  | ref _ _ _ hul hc hd=>
    have hd:=hd (bY.live_of hm)
    have hd':=hd
    rw [← hty] at hd'
    obtain ⟨v',F',hh,hr',hF⟩:=H m.w m.Z _ _ hro (hd'.along_notLeaf hlf)
    have:=hh.unique hd'
    subst this
    exact ⟨F',hr',hF,hd,hty⟩
 ·cases h
theorem aFn {s : St} (h : aFM s (.sref l path lo hi) k=some r) :
 ∃ w0 c y,s.list l=some w0∧bA (w0.o.along path).s (w0.o.along path).g c lo hi=some y∧k (w0.o.along path) y=some r∧∀ (m : bY),sN m→m.s.list l=some w0→∀ va,m.rd (.sref l path lo hi) va→
   ∃ F v0,eO m.w m.Z (w0.o.along path) c v0 F∧(∀ r,F r→m.ρ.fp l r)∧fY m.w (m.ρ.fp l) (m.ρ.ty l) (m.ρ.hdr l) path v0∧w0.o=m.ρ.ty l∧
     ∃ (a : Option Addr) (len cap : Nat) (k k' : IntKind) (m' n : Nat),v0 = .slice a len cap∧lo = .int k m'∧hi = .int k' n∧m'≤n∧n≤len∧
       va = .slice (if cap=m' then a else a.map (·.add (m'*(w0.o.along path).s))) (n - m') (cap - m'):=by
 unfold aFM at h
 simp only at h
 split at h
 ·rename_i w0 hw0
  obtain ⟨c,hk,H⟩:=aAn h
  obtain ⟨y,hy,hk⟩:=bH hk
  refine ⟨w0,c,y,hw0,hy,hk,λm hi' hm va hva=>?_⟩
  obtain ⟨hty,hlf,hro⟩:=hi'.row l w0 hm
  cases hva with
  | sref _ _ _ _ _ hul hc hd=>
    obtain ⟨a,len,cap,k1,k2,m1,n1,hd,h1,h2,h3,h4,h5⟩:=hd (bY.live_of hm)
    have hd':=hd
    rw [← hty] at hd'
    obtain ⟨v',F',hh,hr',hF⟩:=H m.w m.Z _ _ hro (hd'.along_notLeaf hlf)
    have:=hh.unique hd'
    subst this
    exact ⟨F',_,hr',hF,hd,hty,a,len,cap,k1,k2,m1,n1,rfl,h1,h2,h3,h4,by rw [hty];exact h5⟩
 ·cases h
theorem aA5 {s : St} : ∀ (n : Nat),n≤cU→∀ {d : DV} {k : PV→OR} {r : R},uV s n d k=some r→
 ∃ pv,k pv=some r∧∀ (m : bY) (Z' : NP) (B L : NP),sN m→May m s B L→uY B L n d→aOI m Z' n d→(∀ r,m.Z r→Z' r)→
   ∀ v,m.rd d v→kX m.w Z' pv v
 | 0,_,d,k,r,h=>by unfold uV at h;cases h
 | n+1,hn,d,k,r,h=>by
   have ih:=λ{d k r}=>@aA5 s n (by omega) d k r
   have mp:=λ{ds : List DV} {k : R→OR} {r : R} (h : aIH (uV s n) ds k=some r)=>
    aGs (T:=λd pv=>∀ (m : bY) (Z' : NP) (B L : NP),sN m→May m s B L→uY B L n d→aOI m Z' n d→(∀ r,m.Z r→Z' r)→
     ∀ v,m.rd d v→kX m.w Z' pv v) (λa k r h=>ih h) h
   have part : ∀ {ds : List DV} {B L : NP} {m : bY} {Z' : NP},(∀ b∈ds.flatMap (pT n),B b)→(∀ l∈ds.flatMap (dX n),L l)→
    ((∀ r,m.owned r→Z' r)∨(ds.flatMap (pT n) = []∧∀ l∈ds.flatMap (dX n),∀ o r,m.s.list l=some o→m.ρ.fp l r→Z' r))→
    ∀ (i : Nat) d,ds[i]? = some d→uY B L n d∧aOI m Z' n d:=by
    intro ds B L m Z' hb hl hf i d hd
    have hmem:=List.mem_of_getElem? hd
    refine ⟨⟨λb hb'=>hb b (List.mem_flatMap.2 ⟨d,hmem,hb'⟩),λl hl'=>hl l (List.mem_flatMap.2 ⟨d,hmem,hl'⟩)⟩,?_⟩
    rcases hf with hf | ⟨h1,h2⟩
    ·exact .inl hf
    ·refine .inr ⟨?_,λl hl'=>h2 l (List.mem_flatMap.2 ⟨d,hmem,hl'⟩)⟩
     cases hbs : pT n d with
     | nil=>rfl
     | cons b r=>
       exfalso
       have : b∈ds.flatMap (pT n):=List.mem_flatMap.2 ⟨d,hmem,by rw [hbs];simp⟩
       rw [h1] at this
       simp at this
   unfold uV at h
   cases d with
   | p v=>exact ⟨v,h,λm Z' B L _ _ _ _ hz va hva=>by cases hva;rename_i hr;exact hr.mono hz (λ_ _=>rfl)⟩
   | nils=>exact ⟨_,h,λm Z' B L _ _ _ _ hz va hva=>by cases hva;exact .empty _ _⟩
   | agg cs=>
     obtain ⟨vs,hk,hl,H⟩:=mp h
     refine ⟨_,hk,λm Z' B L hi hm hN hF hz va hva=>?_⟩
     cases hva with
     | agg _ us hl' hc hrep=>
       refine .agg _ _ (by omega) hc (λi c v hc' hv=>?_)
       have hi' : i<cs.length:=by have:=(List.getElem?_eq_some_iff.1 hc').1;omega
       obtain ⟨h1,h2⟩:=part (m:=m) hN.1 hN.2 hF i cs[i] (List.getElem?_eq_getElem hi')
       exact H i cs[i] c (List.getElem?_eq_getElem hi') hc' m Z' B L hi hm h1 h2 hz v (hrep i _ v (List.getElem?_eq_getElem hi') hv)
   | tup cs=>
     obtain ⟨vs,hk,hl,H⟩:=mp h
     refine ⟨_,hk,λm Z' B L hi hm hN hF hz va hva=>?_⟩
     cases hva with
     | tup _ us hl' hrep=>
       refine .tup _ _ (by omega) (λi c v hc' hv=>?_)
       have hi' : i<cs.length:=by have:=(List.getElem?_eq_some_iff.1 hc').1;omega
       obtain ⟨h1,h2⟩:=part (m:=m) hN.1 hN.2 hF i cs[i] (List.getElem?_eq_getElem hi')
       exact H i cs[i] c (List.getElem?_eq_getElem hi') hc' m Z' B L hi hm h1 h2 hz v (hrep i _ v (List.getElem?_eq_getElem hi') hv)
   | fn f cs=>
     obtain ⟨vs,hk,hl,H⟩:=mp h
     refine ⟨_,hk,λm Z' B L hi hm hN hF hz va hva=>?_⟩
     cases hva with
     | fn _ _ us hl' hrep=>
       refine .fn _ _ _ (by omega) (λi c v hc' hv=>?_)
       have hi' : i<cs.length:=by have:=(List.getElem?_eq_some_iff.1 hc').1;omega
       obtain ⟨h1,h2⟩:=part (m:=m) hN.1 hN.2 hF i cs[i] (List.getElem?_eq_getElem hi')
       exact H i cs[i] c (List.getElem?_eq_getElem hi') hc' m Z' B L hi hm h1 h2 hz v (hrep i _ v (List.getElem?_eq_getElem hi') hv)
   | ptr b off=>
     simp only at h
     split at h
     ·rename_i cs hcs
      obtain ⟨vs,hk,hl,H⟩:=mp h
      refine ⟨_,hk,λm Z' B L hi hm hN hF hz va hva=>?_⟩
      have hB : B b:=hN.1 b (by simp [pT])
      have hmb : m.s.box b=some cs:=by rw [hm.b b hB];exact hcs
      obtain ⟨us,ety,hh,hlen,hone,hrep⟩:=hi.box b cs hmb
      have hown : ∀ r,m.owned r→Z' r:=by
       rcases hF with hF | ⟨hF,_⟩
       ·exact hF
       ·simp [pT] at hF
      cases hva with
      | ptr _ _ hub=>
        refine .bx vs (m.ρ.box b) 0 us.toArray ety (0,0) (λj=>us.getD j undef) (hown _ (.inl ⟨b,cs,hmb,rfl⟩)) hh ?_ ?_ ?_
        ·intro j hj
         simp [List.getD,List.getElem?_eq_getElem (show j<us.length by omega)]
        ·intro j hj
         exact hone j _ (by simp [List.getD,List.getElem?_eq_getElem (show j<us.length by omega)])
        ·intro j c hc
         have hj : j<us.length:=by have:=(List.getElem?_eq_some_iff.1 hc).1;omega
         have hjc : j<cs.length:=by omega
         have hcj : cs[j]? = some cs[j]:=List.getElem?_eq_getElem hjc
         have hN':=(hm.closed b cs hB hcs cs[j] (List.getElem_mem hjc)).mono (n:=n) (by omega)
         exact H j cs[j] c hcj hc m Z' B L hi hm hN' (.inl hown) hz _ (hrep j _ _ hcj (by simp [List.getD,List.getElem?_eq_getElem hj]))
     ·cases h
   | ref l path=>
     obtain ⟨w0,c,hw0,hk,H⟩:=aEb h
     refine ⟨c,hk,λm Z' B L hi hm hN hF hz va hva=>?_⟩
     have hml : m.s.list l=some w0:=by rw [hm.l l (hN.2 l (by simp [dX]))];exact hw0
     obtain ⟨F,hr,hsub,_,_⟩:=H m hi hml va hva
     refine hr.freeze hz (λr hr'=>?_)
     rcases hF with hF | ⟨_,hF⟩
     ·exact hF r (.inr (.inl ⟨l,w0,hml,hsub r hr'⟩))
     ·exact hF l (by simp [dX]) w0 r hml (hsub r hr')
   | sref l path lo hi=>
     obtain ⟨w0,c,y,hw0,hy,hk,H⟩:=aFn h
     refine ⟨y,hk,λm Z' B L hi' hm hN hF hz va hva=>?_⟩
     have hml : m.s.list l=some w0:=by rw [hm.l l (hN.2 l (by simp [dX]))];exact hw0
     obtain ⟨F,v0,hr,hsub,_,_,a,len,cap,k1,k2,m1,n1,hv0,h1,h2,h3,h4,rfl⟩:=H m hi' hml va hva
     have hrep : kX m.w Z' c v0:=by
      refine hr.freeze hz (λr hr'=>?_)
      rcases hF with hF | ⟨_,hF⟩
      ·exact hF r (.inr (.inl ⟨l,w0,hml,hsub r hr'⟩))
      ·exact hF l (by simp [dX]) w0 r hml (hsub r hr')
     obtain ⟨xs,m2,n2,k3,k4,rfl,h5,h6,h7,h8,rfl,hhd⟩:=rM hy
     rw [h1] at h5;cases h5
     rw [h2] at h6;cases h6
     obtain ⟨a',len',cap',h9,h10,h11⟩:=hrep.cut hhd h7 h8
     rw [hv0] at h9
     cases h9
     exact h11
   | bsl b nn=>
     simp only at h
     split at h
     ·rename_i cs hcs
      split at h
      rotate_left
      ·cases h
      rename_i hnn
      have hnn:=dH hnn
      obtain ⟨vs,hk,hl,H⟩:=mp h
      obtain ⟨c',hc',hk⟩:=bH hk
      have hcat : c' = .lst vs∧vs.all (PV.isEl 1 false)=true:=by
       simp only [aN,eK] at hc'
       split at hc'
       ·rename_i hcc
        cases hc'
        exact ⟨rfl,hcc.2⟩
       ·cases hc'
      obtain ⟨rfl,hall⟩:=hcat
      refine ⟨_,hk,λm Z' B L hi hm hN hF hz va hva=>?_⟩
      have hB : B b:=hN.1 b (by simp [pT])
      have hmb : m.s.box b=some cs:=by rw [hm.b b hB];exact hcs
      obtain ⟨us,ety,hh,hlen,hone,hrep⟩:=hi.box b cs hmb
      have hown : ∀ r,m.owned r→Z' r:=by
       rcases hF with hF | ⟨hF,_⟩
       ·exact hF
       ·simp [pT] at hF
      cases hva with
      | bsl _ _ hub=>
        have key:=kX.lst (w:=m.w) (Z:=Z') vs (m.ρ.box b) 0 1 vs.length false us.toArray ety (0,0) (λi _=>us.getD i undef) (hown _ (.inl ⟨b,cs,hmb,rfl⟩)) hh (by omega) (Nat.le_refl _)
         (λi x hx=>by rw [List.all_eq_true] at hall;exact hall x (List.mem_of_getElem? hx)) ?_ ?_ ?_
        ·have e : vs.length=nn:=by omega
         rwa [e] at key
        ·intro i j hi' hj
         have : j=0:=by omega
         subst this
         simp [List.getD,List.getElem?_eq_getElem (show i<us.length by omega)]
        ·intro i j hi' hj
         exact hone i _ (by simp [List.getD,List.getElem?_eq_getElem (show i<us.length by omega)])
        ·intro i j c hc hj
         have hic : i<us.length:=by have:=(List.getElem?_eq_some_iff.1 hc).1;omega
         have hjc : i<cs.length:=by omega
         have hcj : cs[i]? = some cs[i]:=List.getElem?_eq_getElem hjc
         have hN':=(hm.closed b cs hB hcs cs[i] (List.getElem_mem hjc)).mono (n:=n) (by omega)
         exact H i cs[i] c hcj hc m Z' B L hi hm hN' (.inl hown) hz _ (hrep i _ _ hcj (by simp [List.getD,List.getElem?_eq_getElem hic]))
     ·cases h
   | eptr=>cases h
   | fptr=>cases h
   | bptr=>cases h
   | gptr=>cases h
   | nilq=>cases h
   | dead=>cases h
variable {m : bY} {l n : Nat}
structure aPK (m m' : bY) (s s' : St) (B L WB WL : NP) (n : Nat) : Prop where
 ab : ∀ b,B b∨(n≤b∧b<n+16)→m'.s.box b=s'.box b
 al : ∀ l,L l∨(n≤l∧l<n+16)→m'.s.list l=s'.list l
 ob : ∀ b,¬ B b→¬ (n≤b∧b<n+16)→m'.s.box b=m.s.box b
 ol : ∀ l,¬ L l→¬ (n≤l∧l<n+16)→m'.s.list l=m.s.list l
 wb : ∀ b,¬ WB b→¬ (n≤b∧b<n+16)→s'.box b=s.box b
 wl : ∀ l,¬ WL l→¬ (n≤l∧l<n+16)→s'.list l=s.list l
theorem iC (l : Nat) : ∀ (ls : List Nat) (s : St),(s.killL ls).list l=if l∈ls then none else s.list l
 | [],s=>by simp [St.killL]
 | a::r,s=>by
   unfold St.killL
   rw [iC l r]
   by_cases h : l∈r
   ·simp [h]
   ·by_cases e : l=a
    ·subst e
     simp [h,St.list,oG,Nat.beq_refl]
    ·have : Nat.beq l a=false:=by
      cases hb : Nat.beq l a with
      | false=>rfl
      | true=>exact absurd (dH hb) e
     simp [h,e,St.list,oG,this]
theorem zY (b : Nat) : ∀ (ls : List Nat) (s : St),(s.killL ls).box b=s.box b
 | [],_=>rfl
 | a::r,s=>by unfold St.killL;rw [zY b r];rfl
def bY.killF (m : bY) (l : Nat) : bY:=
 { m with Z:=λr=>m.Z r∨∃ o,m.s.list l=some o∧m.ρ.fp l r,s:={ m.s with list:=λl'=>if l'=l then none else m.s.list l'}}
def bY.killM (m : bY) (l : Nat) : bY:=
 { m with L:=λr=>m.L r∨∃ o,m.s.list l=some o∧m.ρ.fp l r,s:={ m.s with list:=λl'=>if l'=l then none else m.s.list l'}}
theorem pK (o : Option (List DV)) : o=o.map (·.map id):=by cases o<;>simp
theorem bY.killF_step (inv : sN m) (hl : m.ρ.ul l) : jH m (m.killF l) id n:=by
 have hdead : ∀ o,(m.killF l).s.list l≠some o:=by intro o h;simp [bY.killF] at h
 refine jH.row (l:=l) inv ?_ (λb=>pK _) ?_ ⟨rfl,rfl⟩ ?_ (.inl hl) (λo h=>absurd h (hdead o)) ?_ (λo r h=>absurd h (hdead o)) (Nat.le_refl _) rfl rfl rfl (λ_ _ _ _=>rfl)
  (λr h=>.inl h) ?_ ?_ ?_
 ·intro d v h
  refine fG.carry (ρ:=m.ρ) ⟨λr hr=>.inl hr,λ_ _=>rfl,λb hb=>⟨hb,rfl⟩,λl h=>h,λl' hu hv=>⟨?_,rfl,rfl,.inr (.inr λr hr=>⟨hr,rfl⟩)⟩⟩ h
  unfold Sx.live bY.killF at hv
  by_cases e : l'=l
  ·simp [e] at hv
  ·unfold Sx.live;simpa [e] using hv
 ·intro l' hne
  exact ⟨by simp [bY.killF,hne],rfl,rfl,rfl⟩
 ·intro x
  exact ⟨.inl,λh=>h.elim id (λe=>e▸hl)⟩
 ·intro _ hv
  exfalso
  unfold Sx.live at hv
  exact hv (by simp [bY.killF])
 ·rintro r (h | h)
  ·exact .inl h
  ·exact .inr (.inl h)
 ·rintro r (h | ⟨o,h1,h2⟩)
  ·exact inv.zlt r h
  ·exact (inv.row l o h1).2.2.lt r h2
 ·intro r hr
  refine ⟨.inl hr,?_,(inv.Lz r hr).2,λo h=>absurd h (hdead o)⟩
  rintro (h | ⟨o,h1,h2⟩)
  ·exact (inv.Lz r hr).1 h
  ·exact inv.Ll l o r h1 h2 hr
theorem bY.killM_step (inv : sN m) (hl : m.ρ.ul l) : jH m (m.killM l) id n:=by
 have hdead : ∀ o,(m.killM l).s.list l≠some o:=by intro o h;simp [bY.killM] at h
 refine jH.row (l:=l) inv ?_ (λb=>pK _) ?_ ⟨rfl,rfl⟩ ?_ (.inl hl) (λo h=>absurd h (hdead o)) ?_ (λo r h=>absurd h (hdead o)) (Nat.le_refl _) rfl rfl rfl (λ_ _ _ _=>rfl)
  (λr h=>h) (λr h=>.inl h) inv.zlt.lt ?_
 ·intro d v h
  refine fG.carry (ρ:=m.ρ) ⟨λr hr=>hr,λ_ _=>rfl,λb hb=>⟨hb,rfl⟩,λl h=>h,λl' hu hv=>⟨?_,rfl,rfl,.inr (.inr λr hr=>⟨hr,rfl⟩)⟩⟩ h
  unfold Sx.live bY.killM at hv
  by_cases e : l'=l
  ·simp [e] at hv
  ·unfold Sx.live;simpa [e] using hv
 ·intro l' hne
  exact ⟨by simp [bY.killM,hne],rfl,rfl,rfl⟩
 ·intro x
  exact ⟨.inl,λh=>h.elim id (λe=>e▸hl)⟩
 ·intro _ hv
  exfalso
  unfold Sx.live at hv
  exact hv (by simp [bY.killM])
 ·rintro r (h | ⟨o,h1,h2⟩)
  ·exact ⟨.inl h,(inv.Lz r h).1,(inv.Lz r h).2,λo h'=>absurd h' (hdead o)⟩
  ·have:=(inv.row l o h1).2.2
   exact ⟨.inr (.inl ⟨o,h1,h2⟩),this.notZ r h2,this.lt r h2,λo h'=>absurd h' (hdead o)⟩
theorem aRx {n : Nat} : ∀ (ls : List Nat) {m : bY},sN m→(∀ l∈ls,m.ρ.ul l)→
 ∃ m',jH m m' id n∧m'.w=m.w∧m'.s.box=m.s.box∧(∀ l,m'.s.list l=if l∈ls then none else m.s.list l)∧m'.ρ=m.ρ∧m'.L=m.L∧
   (∀ l∈ls,∀ o r,m.s.list l=some o→m.ρ.fp l r→m'.Z r)
 | [],m,inv,_=>⟨m,jH.refl n inv,rfl,rfl,λl=>by simp,rfl,rfl,λl hl=>by simp at hl⟩
 | a::r,m,inv,hu=>by
   have st:=bY.killF_step (n:=n) inv (hu a (by simp))
   obtain ⟨m',h1,h2,h3,h4,h5,h6,h7⟩:=aRx r (m:=m.killF a) st.inv (λl hl=>hu l (by simp [hl]))
   refine ⟨m',st.trans h1,h2,h3,?_,h5,h6,?_⟩
   ·intro l
    rw [h4]
    by_cases e : l=a
    ·subst e;simp [bY.killF]
    ·simp [bY.killF,e]
   ·intro l hl o x hlo hx
    by_cases e : l=a
    ·subst e
     exact h1.zz x (.inr ⟨o,hlo,hx⟩)
    ·have hr : l∈r:=by simpa [e] using hl
     exact h7 l hr o x (by simp [bY.killF,e,hlo]) hx
theorem fG.used {w : World} {Z : NP} {ρ : Loc} {live : NP} : ∀ (n : Nat) {d : DV} {v : Value},fG w Z ρ live d v→(∀ l∈dX n d,ρ.ul l)∧(∀ b∈pT n d,ρ.ub b)
 | 0,d,v,h=>by
   cases h<;>simp [dX,pT]<;>assumption
 | n+1,d,v,h=>by
   have many : ∀ {ds : List DV} {vs : List Value},ds.length=vs.length→(∀ (i : Nat) d v,ds[i]? = some d→vs[i]? = some v→fG w Z ρ live d v)→
    (∀ l∈ds.flatMap (dX n),ρ.ul l)∧(∀ b∈ds.flatMap (pT n),ρ.ub b):=by
    intro ds vs hl h
    have each : ∀ d∈ds,∃ v,fG w Z ρ live d v:=by
     intro d hd
     obtain ⟨i,hi,rfl⟩:=List.getElem_of_mem hd
     exact ⟨vs[i]'(by omega),h i _ _ (List.getElem?_eq_getElem hi) (List.getElem?_eq_getElem (by omega))⟩
    constructor
    ·intro l hl'
     obtain ⟨d,hd,hl'⟩:=List.mem_flatMap.1 hl'
     obtain ⟨v,hv⟩:=each d hd
     exact (fG.used n hv).1 l hl'
    ·intro b hb
     obtain ⟨d,hd,hb⟩:=List.mem_flatMap.1 hb
     obtain ⟨v,hv⟩:=each d hd
     exact (fG.used n hv).2 b hb
   cases h with
   | agg ds vs hl _ h=>exact many hl h
   | tup ds vs hl h=>exact many hl h
   | fn f ds vs hl h=>exact many hl h
   | ptr b off hb=>simp [dX,pT];exact hb
   | bsl b n hb=>simp [dX,pT];exact hb
   | ref l path v hu _ _=>simp [dX,pT];exact hu
   | sref l path lo hi v hu _ _=>simp [dX,pT];exact hu
   | eptr l path i off v hu _ _=>simp [dX,pT];exact hu
   | p=>simp [dX,pT]
   | nils=>simp [dX,pT]
   | fptr=>simp [dX,pT]
   | bptr=>simp [dX,pT]
   | gptr=>simp [dX,pT]
   | nilq=>simp [dX,pT]
   | dead=>simp [dX,pT]
theorem aJM {s : St} {d : DV} {k : PV→St→OR} {r : R} (h : aJF s d k=some r) :
 ∃ pv,k pv (s.killL (dX cU d))=some r∧∀ (n : Nat) (m : bY) (L : NP),sN m→(∀ l,L l→m.s.list l=s.list l)→(∀ l∈dX cU d,L l)→∀ v,m.rd d v→
   ∃ m',jH m m' id n∧m'.w=m.w∧m'.s.box=m.s.box∧(∀ l,m'.s.list l=if l∈dX cU d then none else m.s.list l)∧m'.ρ=m.ρ∧m'.L=m.L∧kX m'.w m'.Z pv v:=by
 unfold aJF at h
 split at h
 ·rename_i hb
  obtain ⟨pv,hk,H⟩:=aA5 cU (Nat.le_refl _) h
  refine ⟨pv,hk,λn m L inv hL hd v hv=>?_⟩
  obtain ⟨m',h1,h2,h3,h4,h5,h6,h7⟩:=aRx (n:=n) (dX cU d) inv (fG.used cU hv).1
  refine ⟨m',h1,h2,h3,h4,h5,h6,?_⟩
  rw [h2]
  exact H m m'.Z (λ_=>False) L inv ⟨λ_ h=>h.elim,hL,λ_ _ h=>h.elim⟩ ⟨λb hb'=>by rw [hb] at hb';simp at hb',hd⟩ (.inr ⟨hb,h7⟩) h1.zz v hv
 ·cases h
variable {m m' : bY} {n : Nat} {ls : List Nat} {o : OTy} {v : Value} {d : DV}
mutual
theorem OTy.same_eq : ∀ (a b : OTy),a.same b=true→a=b
 | .leaf,.leaf,_=>rfl
 | .leaf,.own ..,h=>by unfold OTy.same at h;cases h
 | .own ..,.leaf,h=>by unfold OTy.same at h;cases h
 | .own s e g c,.own s' e' g' c',h=>by
  unfold OTy.same at h
  simp only [Bool.and_eq_true] at h
  obtain ⟨⟨⟨h1,h2⟩,h3⟩,h4⟩:=h
  rw [dH h1,dH h2,LawfulBEq.eq_of_beq h3,OTy.sames_eq c c' h4]
theorem OTy.sames_eq : ∀ (a b : List OTy),OTy.sames a b=true→a=b
 | [],[],_=>rfl
 | [],_::_,h=>by unfold OTy.sames at h;cases h
 | _::_,[],h=>by unfold OTy.sames at h;cases h
 | a::as_,b::bs,h=>by
   unfold OTy.sames at h
   simp only [Bool.and_eq_true] at h
   rw [OTy.same_eq a b h.1,OTy.sames_eq as_ bs h.2]
end
theorem aCD : ∀ (a b : List Nat) (s : St),(s.killL a).killL b=s.killL (a++b)
 | [],_,_=>rfl
 | x::a,b,s=>by
   show ((St.killL _ a).killL b)=_
   rw [aCD a b]
   rfl
structure zE (m m' : bY) (n : Nat) (ls : List Nat) : Prop where
 step : jH m m' id n
 w : m'.w=m.w
 box : m'.s.box=m.s.box
 list : ∀ l,m'.s.list l=if l∈ls then none else m.s.list l
 ρ : m'.ρ=m.ρ
 L : ∀ r,m.L r→m'.L r
theorem zE.refl {m : bY} (n : Nat) (h : sN m) : zE m m n []:=⟨jH.refl n h,rfl,rfl,λl=>by simp,rfl,λ_ h=>h⟩
theorem zE.trans {m m' m'' : bY} {n : Nat} {a b : List Nat} (h : zE m m' n a) (k : zE m' m'' n b) : zE m m'' n (a++b):=by
 refine ⟨h.step.trans k.step,k.w.trans h.w,k.box.trans h.box,λl=>?_,k.ρ.trans h.ρ,λr hr=>k.L r (h.L r hr)⟩
 rw [k.list,h.list]
 by_cases h1 : l∈b<;>by_cases h2 : l∈a<;>simp [h1,h2]
theorem zE.keepO (h : zE m m' n ls) {x : PV} {F : NP} (hr : eO m.w m.Z o x v F) (hF : ∀ r,F r→m.L r) :
 eO m'.w m'.Z o x v F:=by
 rw [h.w]
 exact hr.frame h.step.zz (λ_ _=>rfl) (λ_ _=>rfl) (λr hr=>(h.step.inv.Lz r (h.L r (hF r hr))).1)
theorem zE.keepD (h : zE m m' n ls) (hr : m.rd d v) : m'.rd d v:=h.step.rd d v hr
theorem eO.cut {w : World} {Z : NP} {xs : R} {F : NP} (h : eO w Z o (.lst xs) v F) (ho : o.isLeaf=false) (hd : aDW o.s o.g xs=true)
 {m : Nat} (hmn : m≤n) (hn : n≤xs.length) :
 ∃ a len cap F',v = .slice a len cap∧len=xs.length∧eO w Z o (.lst ((xs.take n).drop m)) (.slice (if cap=m then a else a.map (·.add (m*o.s))) (n - m) (cap - m)) F'∧∀ r,F' r→F r:=by
 have hlen : ((xs.take n).drop m).length=n - m:=by simp;omega
 cases h with
 | leaf=>cases ho
 | nil s e g cts F a hf=>
   simp at hn
   subst hn
   have : m=0:=by omega
   subst this
   refine ⟨a,0,0,λ_=>False,rfl,rfl,?_,λ_ h=>h.elim⟩
   simpa using eO.nil (w:=w) (Z:=Z) s e g cts (λ_=>False) a (λ_ h=>h)
 | own s e g cts xs b off cap cells ety cv fp F hh hs ho' hl hz he hc hv hr hf hb hd'=>
   refine ⟨some ⟨b,off,none⟩,xs.length,cap,?_⟩
   have hget : ∀ (i : Nat) x,((xs.take n).drop m)[i]? = some x→xs[m+i]? = some x:=by
    intro i x hx
    rw [List.getElem?_drop,List.getElem?_take] at hx
    split at hx
    ·exact hx
    ·cases hx
   by_cases hcm : cap=m
   ·have hnm : n=m:=by omega
    subst hnm
    have : (xs.take n).drop n = []:=by
     apply List.eq_nil_of_length_eq_zero
     omega
    refine ⟨λr=>r=b,rfl,rfl,?_,λr hr'=>(hf r).2 (.inl hr')⟩
    rw [if_pos hcm,this,Nat.sub_self,hcm,Nat.sub_self]
    have:=eO.own (w:=w) (Z:=Z) s e g cts [] b off 0 cells ety cv fp (λr=>r=b) hh hs (by omega) (by simp) hz (by simp) (by simp) (by simp) (by simp) (by intro r;simp) (by simp) (by simp)
    simpa using this
   ·rw [if_neg hcm]
    have hadd : (some (⟨b,off,none⟩ : Addr)).map (·.add (m*s))=some ⟨b,off+m*s,none⟩:=by simp [nF]
    refine ⟨λr=>r=b∨∃ i j : Nat,i<n - m∧j<s∧fp (m+i) j r,rfl,rfl,?_,?_⟩
    ·show eO w Z (.own s e g cts) _ (.slice ((some (⟨b,off,none⟩ : Addr)).map (·.add (m*s))) _ _) _
     rw [hadd,← hlen]
     have hcap : m*s+(cap - m)*s=cap*s:=by
      rw [← Nat.add_mul]
      congr 1
      omega
     refine .own s e g cts _ b (off+m*s) (cap - m) cells ety (λi j=>cv (m+i) j) (λi j=>fp (m+i) j) _ hh hs (by omega) (by omega) hz ?_ ?_ ?_ ?_ ?_ ?_ ?_
     ·intro i x hx
      exact he _ _ (hget i x hx)
     ·intro i j hi hj
      have:=hc (m+i) j (by omega) hj
      rwa [Nat.add_mul,← Nat.add_assoc] at this
     ·intro i j hi hj
      exact hv (m+i) j (by omega) hj
     ·intro i j x hx hj
      exact hr (m+i) j x (hget i x hx) hj
     ·intro r
      rw [hlen]
     ·intro i j hi hj
      exact hb (m+i) j (by omega) hj
     ·intro i j i' j' r hi hj hi' hj' h1 h2
      have:=hd' (m+i) j (m+i') j' r (by omega) hj (by omega) hj' h1 h2
      omega
    ·rintro r (rfl | ⟨i,j,hi,hj,h⟩)
     ·exact (hf _).2 (.inl rfl)
     ·exact (hf r).2 (.inr ⟨m+i,j,by omega,hj,h⟩)
theorem aCE (n l : Nat) (path : jW) : l∈dX n (.ref l path):=by cases n<;>simp [dX]
theorem aAo (n l : Nat) (path : jW) (lo hi : PV) : l∈dX n (.sref l path lo hi):=by cases n<;>simp [dX]
theorem aLk (n l : Nat) (path : jW) (i : PV) (off : Nat) : l∈dX n (.eptr l path i off):=by cases n<;>simp [dX]
theorem lB {ct : OTy} {s : St} {k : PV→St→OR} {r : R} (h : nU ct s d k=some r) :
 ∃ pv ls,k pv (s.killL ls)=some r∧(∀ l∈ls,l∈dX cU d)∧∀ (n : Nat) (m : bY) (L : NP),sN m→(∀ l,L l→m.s.list l=s.list l)→(∀ l∈dX cU d,L l)→∀ v,m.rd d v→
   ∃ m' F,zE m m' n ls∧eO m'.w m'.Z ct pv v F∧(∀ r,F r→m'.L r∧¬ m.L r):=by
 unfold nU at h
 split at h
 ·obtain ⟨pv,hk,H⟩:=aJM h
  refine ⟨pv,_,hk,λl hl=>hl,λn m L inv hL hd v hv=>?_⟩
  obtain ⟨m',h1,h2,h3,h4,h5,h6,h7⟩:=H n m L inv hL hd v hv
  exact ⟨m',λ_=>False,⟨h1,h2,h3,h4,h5,λr hr=>by rw [h6];exact hr⟩,.leaf _ _ _ h7 (λ_ h=>h),λ_ h=>h.elim⟩
 ·rename_i s0 e0 g0 cts0
  split at h
  ·refine ⟨_,[],h,by simp,λn m L inv hL hd v hv=>?_⟩
   cases hv
   exact ⟨m,λ_=>False,zE.refl n inv,.nil _ _ _ _ _ _ (λ_ h=>h),λ_ h=>h.elim⟩
  ·rename_i l
   split at h
   ·rename_i w0 hw0
    split at h
    ·rename_i hsame
     have ho:=OTy.same_eq _ _ hsame
     refine ⟨w0.c,[l],h,by simpa using aCE _ _ _,λn m L inv hL hd v hv=>?_⟩
     have hl : m.s.list l=some w0:=by rw [hL l (hd l (aCE _ _ _))];exact hw0
     obtain ⟨hty,hlf,hro⟩:=inv.row l w0 hl
     have st:=bY.killM_step (n:=n) inv (inv.ul l w0 hl)
     have sk : zE m (m.killM l) n [l]:=⟨st,rfl,rfl,λl'=>by simp [bY.killM],rfl,λr hr=>.inl hr⟩
     have hval : m.ρ.hdr l=v:=by
      cases hv with
      | ref _ _ _ _ _ hh=>exact hh (bY.live_of hl)
     refine ⟨m.killM l,m.ρ.fp l,sk,?_,λr hr=>⟨.inr ⟨w0,hl,hr⟩,inv.Ll l w0 r hl hr⟩⟩
     rw [ho,hval] at hro
     exact hro
    ·cases h
   ·cases h
  ·rename_i l lo hi
   split at h
   ·rename_i w0 hw0
    split at h
    ·rename_i hsame
     have ho:=OTy.same_eq _ _ hsame
     obtain ⟨y,hy,hk⟩:=bH h
     refine ⟨y,[l],hk,by simpa using aAo _ _ _ _ _,λn m L inv hL hd v hv=>?_⟩
     have hl : m.s.list l=some w0:=by rw [hL l (hd l (aAo _ _ _ _ _))];exact hw0
     obtain ⟨hty,hlf,hro⟩:=inv.row l w0 hl
     have st:=bY.killM_step (n:=n) inv (inv.ul l w0 hl)
     have sk : zE m (m.killM l) n [l]:=⟨st,rfl,rfl,λl'=>by simp [bY.killM],rfl,λr hr=>.inl hr⟩
     obtain ⟨xs,m2,n2,k3,k4,hc,h5,h6,h7,h8,rfl,hhd⟩:=rM hy
     cases hv with
     | sref _ _ _ _ _ _ _ hh=>
       obtain ⟨a,len,cap,k1,k2,m1,n1,h9,h10,h11,h12,h13,rfl⟩:=hh (bY.live_of hl)
       rw [h5] at h10;cases h10
       rw [h6] at h11;cases h11
       have h9 : m.ρ.hdr l = .slice a len cap:=h9
       rw [hc,h9] at hro
       obtain ⟨a',len',cap',F',h14,h15,h16,h17⟩:=hro.cut hlf hhd h7 h8
       cases h14
       refine ⟨m.killM l,F',sk,?_,λr hr=>⟨.inr ⟨w0,hl,h17 r hr⟩,inv.Ll l w0 r hl (h17 r hr)⟩⟩
       rw [← hty]
       rw [ho] at h16 ⊢
       exact h16
    ·cases h
   ·cases h
  ·cases h
variable {v : Value}
structure aSA (m m' : bY) (o : OTy) (j : Nat) (vs : R) (us : List Value) (F : Nat→Nat→Prop) : Prop where
 len : vs.length=us.length
 rep : ∀ (i : Nat) pv u,vs[i]? = some pv→us[i]? = some u→eO m'.w m'.Z (o.ct (j+i)) pv u (F i)
 own : ∀ i x : Nat,i<us.length→F i x→m'.L x∧¬ m.L x
 apart : ∀ i i' x : Nat,i<us.length→i'<us.length→F i x→F i' x→i=i'
theorem yI {o : OTy} : ∀ {ds : List DV} {s : St} {j : Nat} {k : R→St→OR} {r : R},uD o s j ds k=some r→
 ∃ vs ls,k vs (s.killL ls)=some r∧vs.length=ds.length∧(∀ l∈ls,l∈ds.flatMap (dX cU))∧
   ∀ (n : Nat) (m : bY) (L : NP),sN m→(∀ l,L l→m.s.list l=s.list l)→(∀ l∈ds.flatMap (dX cU),L l)→
     ∀ us : List Value,us.length=ds.length→(∀ (i : Nat) d u,ds[i]? = some d→us[i]? = some u→m.rd d u)→
       ∃ m' F,zE m m' n ls∧aSA m m' o j vs us F
 | [],s,j,k,r,h=>⟨[],[],h,rfl,by simp,λn m L inv _ _ us hl _=>⟨m,λ_ _=>False,zE.refl n inv,
  ⟨by simpa using hl.symm,λi pv u hp=>by simp at hp,λ_ _ _ h=>h.elim,λ_ _ _ _ _ h=>h.elim⟩⟩⟩
 | d::ds,s,j,k,r,h=>by
   unfold uD at h
   obtain ⟨pv,ls1,h1,hls1,H1⟩:=lB h
   obtain ⟨vs,ls2,h2,hlen,hls2,H2⟩:=yI h1
   refine ⟨pv::vs,ls1++ls2,by rw [← aCD];exact h2,by simp [hlen],?_,λn m L inv hL hd us hl hrd=>?_⟩
   ·intro l hl
    rw [List.flatMap_cons]
    rcases List.mem_append.1 hl with h | h
    ·exact List.mem_append.2 (.inl (hls1 l h))
    ·exact List.mem_append.2 (.inr (hls2 l h))
   ·cases us with
    | nil=>simp at hl
    | cons u us=>
      have hd1 : ∀ l∈dX cU d,L l:=λl h=>hd l (by rw [List.flatMap_cons];exact List.mem_append.2 (.inl h))
      have hd2 : ∀ l∈ds.flatMap (dX cU),L l:=λl h=>hd l (by rw [List.flatMap_cons];exact List.mem_append.2 (.inr h))
      obtain ⟨m1,F1,sk1,hr1,hF1⟩:=H1 n m L inv hL hd1 u (hrd 0 d u rfl rfl)
      obtain ⟨m2,F2,sk2,C⟩:=H2 n m1 L sk1.step.inv (λl hl=>by rw [sk1.list,iC,hL l hl]) hd2 us (by simpa using hl)
       (λi d' u' h1 h2=>sk1.keepD (hrd (i+1) d' u' (by simpa using h1) (by simpa using h2)))
      refine ⟨m2,λi=>match i with | 0=>F1 | i+1=>F2 i,sk1.trans sk2,by simp [C.len],?_,?_,?_⟩
      ·intro i pv' u' h1 h2
       cases i with
       | zero=>
         simp at h1 h2
         subst h1;subst h2
         exact sk2.keepO hr1 (λr hr=>(hF1 r hr).1)
       | succ i=>
         have:=C.rep i pv' u' (by simpa using h1) (by simpa using h2)
         rw [show j+(i+1)=j+1+i by omega]
         exact this
      ·intro i x hi hx
       cases i with
       | zero=>exact ⟨sk2.L x (hF1 x hx).1,(hF1 x hx).2⟩
       | succ i=>
         have:=C.own i x (by simpa using hi) hx
         exact ⟨this.1,λh=>this.2 (sk1.L x h)⟩
      ·intro i i' x hi hi' h1 h2
       cases i with
       | zero=>
         cases i' with
         | zero=>rfl
         | succ i'=>exact absurd (hF1 x h1).1 (C.own i' x (by simpa using hi') h2).2
       | succ i=>
         cases i' with
         | zero=>exact absurd (hF1 x h2).1 (C.own i x (by simpa using hi) h1).2
         | succ i'=>rw [C.apart i i' x (by simpa using hi) (by simpa using hi') h1 h2]
theorem kX.cellV {w : World} {Z : NP} {x : PV} (h : kX w Z x v) {s : Nat} (he : x.isEl s false=true) : eN v:=by
 cases h<;>first | trivial | assumption | (simp [PV.isEl] at he)
theorem uJ (h : eN v) : v.cells.toList = [v]:=by
 cases v<;>first | rfl | exact h.elim
theorem fG.cellV {w : World} {Z : NP} {ρ : Loc} {live : NP} {d : DV} {v : Value} (h : fG w Z ρ live d v) (hd : (∃ x,d = .p x∧x.isEl 1 false=true)∨((∀ x,d≠.p x)∧aRs d=true)) :
 eN v:=by
 rcases hd with ⟨x,rfl,hx⟩ | ⟨h1,h2⟩
 ·cases h;rename_i hr;exact hr.cellV hx
 ·cases h<;>first | (exact absurd rfl (h1 _)) | trivial | assumption | (simp [aRs] at h2;done)
theorem aJN {o : OTy} {s : St} {d : DV} {k : PV→St→OR} {r : R} (h : aK8 o s d k=some r) :
 ∃ x ls,k x (s.killL ls)=some r∧(∀ l∈ls,l∈dX (cU+1) d)∧
   ∀ (n : Nat) (m : bY) (L : NP),sN m→(∀ l,L l→m.s.list l=s.list l)→(∀ l∈dX (cU+1) d,L l)→∀ v,m.rd d v→x.isEl o.s o.g=true→
     ∃ m' vs us F,zE m m' n ls∧aSA m m' o 0 vs us F∧v.cells.toList=us∧us.length=o.s∧(∀ (i : Nat) u,us[i]? = some u→eN u)∧
       (∀ j pv,vs[j]? = some pv→gF o.g x j=pv):=by
 unfold aK8 at h
 split at h
 ·rename_i hg
  split at h
  ·rename_i cs
   split at h
   ·rename_i hl
    have hl:=dH hl
    obtain ⟨vs,ls,hk,hlen,hls,H⟩:=yI h
    refine ⟨.agg vs,ls,hk,λl h=>by simpa [dX] using hls l h,λn m L inv hL hd v hv _=>?_⟩
    cases hv with
    | agg _ us hlu hc hrep=>
      obtain ⟨m',F,sk,C⟩:=H n m L inv hL (λl h=>hd l (by simpa [dX] using h)) us hlu.symm hrep
      refine ⟨m',vs,us,F,sk,C,rfl,by omega,hc,λj pv hp=>?_⟩
      rw [hg,jO,List.getD,hp];rfl
   ·cases h
  ·rename_i x
   split at h
   ·rename_i hp
    refine ⟨x,[],h,by simp,λn m L inv hL hd v hv hx=>?_⟩
    rw [hg] at hx
    obtain ⟨cs,rfl,hl⟩:=aEa hx
    cases hv with
    | p _ _ hr=>
      cases hr with
      | agg _ us hlu hc hrep=>
        refine ⟨m,cs,us,λ_ _=>False,zE.refl n inv,⟨hlu,λi pv u h1 h2=>?_,λ_ _ _ h=>h.elim,λ_ _ _ _ _ h=>h.elim⟩,rfl,by omega,hc,λj pv hp=>?_⟩
        ·rw [OTy.plain_ct hp]
         exact .leaf _ _ _ (hrep i pv u h1 h2) (λ_ h=>h)
        ·rw [hg,jO,List.getD,hp];rfl
   ·cases h
  ·cases h
 ·rename_i hg
  have hg : o.g=false:=by simpa using hg
  have main : ∀ {d : DV},nU (o.ct 0) s d k=some r→aRs d=true→∃ x ls,k x (s.killL ls)=some r∧(∀ l∈ls,l∈dX (cU+1) d)∧
   ∀ (n : Nat) (m : bY) (L : NP),sN m→(∀ l,L l→m.s.list l=s.list l)→(∀ l∈dX (cU+1) d,L l)→∀ v,m.rd d v→x.isEl o.s o.g=true→
     ∃ m' vs us F,zE m m' n ls∧aSA m m' o 0 vs us F∧v.cells.toList=us∧us.length=o.s∧(∀ (i : Nat) u,us[i]? = some u→eN u)∧
       (∀ j pv,vs[j]? = some pv→gF o.g x j=pv):=by
   intro d h hcd
   obtain ⟨pv,ls,hk,hls,H⟩:=lB h
   refine ⟨pv,ls,hk,λl h=>wI _ (hls l h),λn m L inv hL hd v hv hx=>?_⟩
   obtain ⟨m',F,sk,hr,hF⟩:=H n m L inv hL (λl h=>hd l (wI _ h)) v hv
   rw [hg] at hx
   have hs:=aHv hx
   have hcv : eN v:=by
    have hr':=hr
    generalize o.ct 0=ct at hr'
    cases hr' with
    | leaf _ _ _ hr _=>exact hr.cellV hx
    | hole _ _ _ _ _ _ h _=>exact h
    | nil=>trivial
    | own=>trivial
   refine ⟨m',[pv],[v],λ_=>F,sk,⟨rfl,λi p u h1 h2=>?_,λi x hi hx=>hF x hx,λi i' x h1 h2 _ _=>by simp at h1 h2;omega⟩,uJ hcv,by simp [hs],λi u h=>?_,λj p h=>?_⟩
   ·cases i with
    | zero=>simp at h1 h2;subst h1;subst h2;exact hr
    | succ i=>simp at h1
   ·cases i with
    | zero=>simp at h;subst h;exact hcv
    | succ i=>simp at h
   ·cases j with
    | zero=>simp at h;subst h;rw [hg];rfl
    | succ j=>simp at h
  split at h
  ·cases h
  ·cases h
  ·rename_i h1 h2
   refine main h ?_
   cases d<;>first | rfl | (exact absurd rfl (h1 _)) | (exact absurd rfl (h2 _)) | skip
   exfalso
   unfold nU at h
   split at h
   ·unfold aJF at h
    split at h
    ·unfold uV at h;cases h
    ·cases h
   ·cases h
end
end Go.Proofs.YtllmobkkbpdchaaGreatDoor
