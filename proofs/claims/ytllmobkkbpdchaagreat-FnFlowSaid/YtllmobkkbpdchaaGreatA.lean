/-
  Texts of the proof, part 1: a value-level evaluator and its soundness, what the functions compute, laws about it.
  Conditions: none.
-/
import Derived.Calls
import Derived.KernelRfl
import Derived.Orders
import Derived.IntWalk
import Derived.Test.YtllmobkkbpdchaaGreatProg
import Derived.Lib.AppendIntMem
import Derived.Lib.SlicesCompact
import Derived.Laws.IdiomCopy
import Derived.Laws.Cells
import Derived.Below
set_option linter.all false
namespace Go.Proofs.YtllmobkkbpdchaaGreat
noncomputable section
open Go
inductive PV where
 | bool (b : Bool)
 | int (k : IntKind) (n : Int)
 | str (s : ByteArray)
 | nil
 | nilf
 | agg (cs : List PV)
 | lst (xs : List PV)
 | bx (cs : List PV)
 | fn (f : Nat) (caps : List PV)
 | tup (cs : List PV)
 | hole
 deriving Inhabited
abbrev cK:=List (PV × Nat)
inductive DV where
 | p (v : PV)
 | nils
 | agg (cs : List DV)
 | tup (cs : List DV)
 | fn (f : Nat) (caps : List DV)
 | ptr (b off : Nat)
 | ref (l : Nat) (path : cK)
 | sref (l : Nat) (path : cK) (lo hi : PV)
 | eptr (l : Nat) (path : cK) (i : PV) (off : Nat)
 | fptr (x : PV) (s : Nat) (g : Bool) (off : Nat)
 | bptr (c : PV) (off : Nat)
 | gptr (l : Nat) (path : cK) (i : PV) (off : Nat)
 | nilq (c : PV) (neg : Bool)
 | bsl (b n : Nat)
 | dead
 deriving Inhabited
inductive OTy where
 | leaf
 | own (s e : Nat) (g : Bool) (cts : List OTy)
 deriving Inhabited
namespace OTy
def s : OTy→Nat | .own s _ _ _=>s | .leaf=>0
def e : OTy→Nat | .own _ e _ _=>e | .leaf=>0
def g : OTy→Bool | .own _ _ g _=>g | .leaf=>false
def ct (o : OTy) (j : Nat) : OTy:=match o with
 | .own _ _ _ cts=>cts.getD j .leaf
 | .leaf=>.leaf
def isLeaf : OTy→Bool | .leaf=>true | _=>false
def along (o : OTy) : List (PV × Nat)→OTy
 | []=>o
 | (_,j)::r=>(o.ct j).along r
def plain (o : OTy) : Bool:=match o with
 | .own _ _ _ cts=>cts.all isLeaf
 | .leaf=>false
mutual
def same : OTy→OTy→Bool
 | .leaf,.leaf=>true
 | .own s e g c,.own s' e' g' c'=>Nat.beq s s'&&Nat.beq e e'&&g==g'&&sames c c'
 | _,_=>false
def sames : List OTy→List OTy→Bool
 | [],[]=>true
 | a::as_,b::bs=>same a b&&sames as_ bs
 | _,_=>false
end
end OTy
def _root_.Go.Proofs.YtllmobkkbpdchaaGreat.OTy.shallow (o : OTy) : Bool:=match o with
 | .own _ _ _ cts=>cts.all λc=>c.isLeaf||c.plain
 | .leaf=>true
inductive TyI where
 | bool | int (k : IntKind) | str | ptr | func
 | slice (e : Nat)
 | struct (fs : List (Nat × Nat))
 | array (n e : Nat)
 | other
 deriving Inhabited,Repr,DecidableEq
structure TyR where
 d : TyI
 size : Nat
 bytes : Nat
 eq : Bool
 deriving Inhabited,Repr,DecidableEq
abbrev Tab:=List (Option TyR)
def kindOf : TypeDesc→TyI
 | .bool=>.bool
 | .int k=>.int k
 | .string=>.str
 | .pointer _=>.ptr
 | .func ..=>.func
 | .slice e=>.slice e
 | .struct fs=>.struct (fs.toList.map λf=>(f.offset,f.type))
 | .array n e=>.array n e
 | _=>.other
def eqOf (P : Program) (t : Nat) : TypeDesc→Bool
 | .struct fs=>!P.stoodInHeld t&&!P.eqGuardType P.depth t&&fs.all λf=>f.name≠ "_"
 | _=>true
def tyOf (P : Program) (t : Nat) : Option TyR:=
 match P.info? t,P.underlying t with
 | some i,some d=>some { size:=i.size,bytes:=i.bytes,d:=kindOf d,eq:=eqOf P t d}
 | _,_=>none
def tabOf (P : Program) : Tab:=(List.range P.types.size).map (tyOf P)
def Tab.at (T : Tab) (t : Nat) : TyR:=match T[t]? with
 | some (some r)=>r
 | _=>⟨.other,0,0,false⟩
def TyR.isAgg (r : TyR) : Bool:=match r.d with | .struct _ | .array ..=>true | _=>false
def zeroCells (T : Tab) : Nat→Nat→List PV
 | 0,_=>[]
 | n+1,t=>match (T.at t).d with
   | .bool=>[.bool false]
   | .int k=>[.int k 0]
   | .str=>[.str ByteArray.empty]
   | .ptr=>[.nil]
   | .func=>[.nilf]
   | .slice _=>[.lst []]
   | .struct fs=>fs.flatMap λf=>zeroCells T n f.2
   | .array m e=>(List.replicate m ()).flatMap λ_=>zeroCells T n e
   | .other=>[]
def sliceCells (T : Tab) : Nat→Nat→List (Option Nat)
 | 0,_=>[]
 | n+1,t=>match (T.at t).d with
   | .slice e=>[some e]
   | .struct fs=>fs.flatMap λf=>sliceCells T n f.2
   | .array m e=>(List.replicate m ()).flatMap λ_=>sliceCells T n e
   | _=>[none]
def zeroDV (x : PV) : DV:=match x with
 | .lst _=>.nils
 | .bool b=>.p (.bool b)
 | .int k n=>.p (.int k n)
 | .str s=>.p (.str s)
 | .nil=>.p .nil
 | .nilf=>.p .nilf
 | _=>.dead
def zeroPV (x : PV) : PV:=match x with
 | .lst _=>.lst []
 | .bool b=>.bool b
 | .int k n=>.int k n
 | .str s=>.str s
 | .nil=>.nil
 | .nilf=>.nilf
 | _=>.hole
def zeroVl (x : PV) : Value:=match x with
 | .lst _=>.slice none 0 0
 | .bool b=>.bool b
 | .int k n=>.int k n
 | .str s=>.string s
 | .nil=>.pointer none
 | .nilf=>.nilFunc
 | _=>.pointer none
def zeroVal (T : Tab) (t : Nat) : Value:=
 let z:=(zeroCells T 20 t).map zeroVl
 if (T.at t).isAgg then .agg z.toArray else z.headD (.pointer none)
def ofScalar : Value→Option PV
 | .bool b=>some (.bool b)
 | .int k n=>some (.int k n)
 | .string s=>some (.str s)
 | .pointer none=>some .nil
 | .nilFunc=>some .nilf
 | _=>none
def ofConst : Value→Option PV
 | .agg cs=>(cs.toList.mapM ofScalar).map .agg
 | v=>ofScalar v
namespace PV
def aKx : PV→Nat
 | .agg cs=>cs.length
 | _=>1
def cell (x : PV) (j : Nat) : Option PV:=match x with
 | .agg cs=>cs[j]?
 | _=>none
def sub (x : PV) (off n : Nat) : Option PV:=match x with
 | .agg cs=>if off+n≤cs.length then some (.agg ((cs.drop off).take n)) else none
 | _=>none
def whole (n : Nat) (x : PV) : Option PV:=match x with
 | .agg cs=>if Nat.beq cs.length n then some (.agg cs) else none
 | _=>none
def isEl (s : Nat) (g : Bool) : PV→Bool
 | .agg cs=>g&&Nat.beq cs.length s
 | .tup _=>false
 | _=>!g&&Nat.beq s 1
def one (x : PV) : Option PV:=if x.isEl 1 false then some x else none
def at_ (s : Nat) (g : Bool) (c i : PV) : Option PV:=match c,i with
 | .lst xs,.int _ n=>if 0≤n then match xs[n.toNat]? with
  | some x=>if x.isEl s g then some x else none
  | none=>none
  else none
 | _,_=>none
def len (c : PV) : Option PV:=match c with
 | .lst xs=>some (.int .i64 xs.length)
 | _=>none
def slen (c : PV) : Option PV:=match c with
 | .str s=>some (.int .i64 s.size)
 | _=>none
def chr (c i : PV) : Option PV:=match c,i with
 | .str s,.int _ n=>if 0≤n then match s[n.toNat]? with
  | some b=>some (.int .u8 b.toNat)
  | none=>none
  else none
 | _,_=>none
def ite {β : Type} (c : PV) (a b : Option β) : Option β:=match c with
 | .bool true=>a
 | .bool false=>b
 | _=>none
def eqScalar (q : Nat) (x y : PV) : Option Bool:=match q with
 | 0=>match x,y with
   | .bool a,.bool b=>some (a==b)
   | _,_=>none
 | 1=>match x,y with
   | .int k a,.int k' b=>if k=k' then some (a==b) else none
   | _,_=>none
 | _=>match x,y with
   | .str a,.str b=>some (a.toList==b.toList)
   | _,_=>none
def eqCells : List Nat→List PV→List PV→Option Bool
 | [],[],[]=>some true
 | q::qs,a::as_,b::bs=>match eqScalar q a b,eqCells qs as_ bs with
   | some x,some y=>some (x&&y)
   | _,_=>none
 | _,_,_=>none
def eqOr (op : BinOp) (b : Option Bool) : Option PV:=match op with
 | .eql=>b.map .bool
 | .neq=>b.map λb=>.bool (!b)
 | _=>none
def beq (op : BinOp) (x y : PV) : Option PV:=eqOr op (eqScalar 0 x y)
def peq (op : BinOp) (x y : PV) : Option PV:=match x,y with
 | .nil,.nil=>eqOr op (some true)
 | .nil,.bx _=>eqOr op (some false)
 | .bx _,.nil=>eqOr op (some false)
 | _,_=>none
def ceq (qs : List Nat) (op : BinOp) (x y : PV) : Option PV:=match x,y with
 | .agg as_,.agg bs=>eqOr op (eqCells qs as_ bs)
 | _,_=>none
def bytesLt : List UInt8→List UInt8→Bool
 | _,[]=>false
 | [],_::_=>true
 | a::x,b::y=>a<b||(a==b&&bytesLt x y)
def intBin (op : BinOp) (k : IntKind) (a b : Int) : Option PV:=match op with
 | .add=>some (.int k (k.wrap (a+b)))
 | .sub=>some (.int k (k.wrap (a - b)))
 | .mul=>some (.int k (k.wrap (a*b)))
 | .quo=>if b=0 then none else some (.int k (k.wrap (a.tdiv b)))
 | .rem=>if b=0 then none else some (.int k (a.tmod b))
 | .and=>some (.int k (k.wrap (BitVec.ofInt k.bits a&&& BitVec.ofInt k.bits b).toNat))
 | .or=>some (.int k (k.wrap (BitVec.ofInt k.bits a||| BitVec.ofInt k.bits b).toNat))
 | .xor=>some (.int k (k.wrap (BitVec.ofInt k.bits a ^^^ BitVec.ofInt k.bits b).toNat))
 | .eql=>some (.bool (a==b))
 | .neq=>some (.bool (a != b))
 | .lss=>some (.bool (decide (a<b)))
 | .leq=>some (.bool (decide (a≤b)))
 | .gtr=>some (.bool (decide (a>b)))
 | .geq=>some (.bool (decide (a≥b)))
 | _=>none
def strBin (op : BinOp) (a b : ByteArray) : Option PV:=match op with
 | .add=>if a.size+b.size≤2 ^ 62 then some (.str (a++b)) else none
 | .eql=>some (.bool (a.toList==b.toList))
 | .neq=>some (.bool !(a.toList==b.toList))
 | .lss=>some (.bool (bytesLt a.toList b.toList))
 | .leq=>some (.bool (bytesLt a.toList b.toList||a.toList==b.toList))
 | .gtr=>some (.bool (!(bytesLt a.toList b.toList||a.toList==b.toList)))
 | .geq=>some (.bool (!bytesLt a.toList b.toList))
 | _=>none
def bin (op : BinOp) (x y : PV) : Option PV:=match op with
 | .shl=>match x,y with
  | .int k a,.int _ b=>if b<0 then none else some (.int k (k.wrap (a*2 ^ min b.toNat k.bits)))
  | _,_=>none
 | .shr=>match x,y with
  | .int k a,.int _ b=>if b<0 then none else some (.int k (a.fdiv (2 ^ min b.toNat k.bits)))
  | _,_=>none
 | _=>match x,y with
   | .int k a,.int k' b=>if k=k' then intBin op k a b else none
   | .str a,.str b=>strBin op a b
   | _,_=>none
def neg (x : PV) : Option PV:=match x with
 | .int k n=>some (.int k (k.wrap (0 - n)))
 | _=>none
def not (x : PV) : Option PV:=match x with
 | .bool b=>some (.bool !b)
 | _=>none
def conv (k : IntKind) (x : PV) : Option PV:=match x with
 | .int _ n=>some (.int k (k.wrap n))
 | _=>none
def bound (m : Nat) (x : PV) : Option Nat:=match x with
 | .int _ n=>if 0≤n∧n≤m then some n.toNat else none
 | _=>none
def headIs (s : Nat) (g : Bool) : List PV→Bool
 | []=>true
 | x::_=>x.isEl s g
def cut (s : Nat) (g : Bool) (c lo hi : PV) : Option PV:=match c with
 | .lst xs=>if headIs s g xs then (bound xs.length hi).bind λh=>(bound h lo).bind λl=>some (.lst ((xs.take h).drop l)) else none
 | _=>none
def scut (c lo hi : PV) : Option PV:=match c with
 | .str s=>(bound s.size hi).bind λh=>(bound h lo).bind λl=>some (.str (s.extract l h))
 | _=>none
def zero : PV:=.int .i64 0
def elems : PV→Option (List PV)
 | .lst xs=>some xs
 | .str s=>some (s.data.toList.map λb=>.int .u8 b.toNat)
 | _=>none
def cat (s e : Nat) (g : Bool) (c d : PV) : Option PV:=match elems c,elems d with
 | some xs,some ys=>if (xs.length+ys.length)*e≤2 ^ 47∧ys.all (isEl s g) then some (.lst (xs++ys)) else none
 | _,_=>none
def setAt (s : Nat) (g : Bool) (c i v : PV) : Option PV:=match c,i with
 | .lst xs,.int _ n=>if 0≤n∧n<xs.length∧v.isEl s g then some (.lst (xs.set n.toNat v)) else none
 | _,_=>none
def setCell (s : Nat) (c i : PV) (off : Nat) (v : PV) : Option PV:=match c,i with
 | .lst xs,.int _ n=>if 0≤n then match xs[n.toNat]? with
  | some (.agg cs)=>if cs.length=s∧off<s∧v.isEl 1 false then some (.lst (xs.set n.toNat (.agg (cs.set off v)))) else none
  | _=>none
  else none
 | _,_=>none
def ncopy (c lo hi d : PV) : Option PV:=match bound (2 ^ 62) lo,bound (2 ^ 62) hi,elems c,elems d with
 | some l,some h,some xs,some ys=>if l≤h∧h≤xs.length then some (.int .i64 (min (h - l) ys.length : Nat)) else none
 | _,_,_,_=>none
def copyIn (s : Nat) (g : Bool) (c lo hi d : PV) : Option PV:=match bound (2 ^ 62) lo,bound (2 ^ 62) hi,elems c,elems d with
 | some l,some h,some xs,some ys=>
   if l≤h∧h≤xs.length∧ys.all (isEl s g) then some (.lst (xs.take l++ys.take (h - l)++xs.drop (l+min (h - l) ys.length))) else none
 | _,_,_,_=>none
def zeros (e : Nat) (z : PV) (n : PV) : Option PV:=match n with
 | .int _ m=>if 0≤m∧m.toNat*e≤2 ^ 47∧m<2 ^ 62 then some (.lst (List.replicate m.toNat z)) else none
 | _=>none
def byteOf : PV→Option UInt8
 | .int .u8 n=>some (UInt8.ofNat n.toNat)
 | _=>none
def toStr (c : PV) : Option PV:=match c with
 | .lst xs=>(xs.mapM byteOf).map λbs=>.str ⟨bs.toArray⟩
 | _=>none
def toBytes (c : PV) : Option PV:=match c with
 | .str s=>if s.size≤2 ^ 47 then some (.lst (s.data.toList.map λb=>.int .u8 b.toNat)) else none
 | _=>none
def deref (c : PV) (j : Nat) : Option PV:=match c with
 | .bx cs=>cs[j]?
 | _=>none
def isPtr (c : PV) : Option PV:=match c with
 | .bx _=>some c
 | _=>none
def comp (c : PV) (j : Nat) : Option PV:=match c with
 | .tup cs=>cs[j]?
 | _=>none
def flatA : PV→Bool
 | .bool _ | .int .. | .str _ | .nil | .nilf=>true
 | .agg cs=>cs.all λ| .bool _ | .int .. | .str _ | .nil | .nilf=>true | _=>false
 | _=>false
def flat : PV→Bool
 | .bool _ | .int .. | .str _ | .nil | .nilf=>true
 | .agg cs=>cs.all λ| .bool _ | .int .. | .str _ | .nil | .nilf=>true | _=>false
 | .tup cs=>cs.all flatA
 | _=>false
mutual
def flatO : OTy→PV→Bool
 | .own _ _ g cts,.lst xs=>flatEs g cts xs
 | _,_=>false
def flatEs (g : Bool) (cts : List OTy) : List PV→Bool
 | []=>true
 | x::r=>flatE g cts x&&flatEs g cts r
def flatE (g : Bool) (cts : List OTy) : PV→Bool
 | .agg cs=>g&&flatCs cts cs
 | .lst xs=>match cts with
  | .own _ _ g' cts'::_=>!g&&flatEs g' cts' xs
  | _=>false
 | v=>!g&&v.flat
def flatCs (cts : List OTy) : List PV→Bool
 | []=>true
 | .lst xs::r=>(match cts with
  | .own _ _ g' cts'::_=>flatEs g' cts' xs
  | _=>false)&&flatCs cts.tail r
 | v::r=>v.flat&&flatCs cts.tail r
end
def guardOwn {β : Type} (o : OTy) (c : PV) (k : Option β) : Option β:=if flatO o c then k else none
def guardFlat {β : Type} (r : PV) (k : Option β) : Option β:=if r.flat then k else none
def sel (n : Nat) (c i : PV) : Option PV:=match c,i with
 | .bx cs,.int _ j=>if 0≤j∧j<n∧cs.length=n then match cs[j.toNat]? with
  | some x=>if x.isEl 1 false then some x else none
  | none=>none
  else none
 | _,_=>none
def inb (c i : PV) : Option PV:=match c,i with
 | .lst xs,.int _ n=>if 0≤n∧n<xs.length then some c else none
 | _,_=>none
def imin (x y : PV) : Option PV:=match x,y with
 | .int k a,.int _ b=>some (.int k (if b<a then b else a))
 | _,_=>none
def imax (x y : PV) : Option PV:=match x,y with
 | .int k a,.int _ b=>some (.int k (if b>a then b else a))
 | _,_=>none
def off (lo i : PV) : Option PV:=match lo,i with
 | .int _ a,.int _ b=>some (.int .i64 (a+b))
 | _,_=>none
def isLst (c : PV) : Option PV:=match c with
 | .lst _=>some c
 | _=>none
def isInt (c : PV) : Option PV:=match c with
 | .int _ _=>some c
 | _=>none
def ix (n : Nat) (c i : PV) : Option PV:=match c,i with
 | .agg cs,.int _ j=>if 0≤j∧j<n∧cs.length=n then match cs[j.toNat]? with
  | some x=>if x.isEl 1 false then some x else none
  | none=>none
  else none
 | _,_=>none
def nilT {β : Type} (c : PV) (a b : Option β) : Option β:=match c with
 | .lst []=>@_root_.ite _ (a=b) (Classical.propDecidable _) a none
 | .lst (_::_)=>b
 | _=>none
end PV
def bd {α β : Type} (o : Option α) (k : α→Option β) : Option β:=match o with
 | some a=>k a
 | none=>none
abbrev Env:=List (Nat × DV)
def Env.get : Env→Nat→DV
 | [],_=>.dead
 | (t',d)::r,t=>if Nat.beq t t' then d else Env.get r t
structure Own where
 o : OTy
 c : PV
structure St where
 boxes : List (Nat × Option (List DV))
 lists : List (Nat × Option Own)
 nb : Nat
 nl : Nat
 base : Nat
structure Tmpl where
 lent : Bool
 keep : Bool
 res : DV
 boxes : List (Option (List DV))
 lists : List (Option Own)
 asis : Bool:=false
structure Hints where
 cut : Nat→Nat→Option (List Nat)
 frz : Nat→Nat→List (Nat × Option Nat)
 mode : Nat→Option Tmpl
 own : Nat→Nat→List OTy
 prim : Nat→Option (List PV→Option (List PV))
 glob : Nat→Option (List PV)
 zok : Nat→Bool
 primS : Nat→Option (List DV→St→Option (List PV)):=λ_=>none
abbrev R:=List PV
abbrev Kont:=Env→St→Option R
def hd : R→PV
 | v::_=>v
 | []=>.hole
def gd (l : R) (i : Nat) : PV:=l.getD i .hole
structure Orc where
 L : List Item→Env→St→Option R
 C : Nat→List PV→Option R
 S : Nat→List DV→St→Option R
structure Cx where
 T : Tab
 res : List ResultVar
 cut : Nat→Option (List Nat)
 frz : Nat→List (Nat × Option Nat)
 mode : Nat→Option Tmpl
 own : Nat→List OTy
 glob : Nat→Option (List PV)
 zok : Nat→Bool
 out : Option Tmpl
 nb : Nat
 nl : Nat
section
variable (X : Cx) (O : Orc)
def isNils : Value→Bool
 | .slice none 0 0=>true
 | _=>false
def ev (e : Env) : Operand→DV
 | .tmp t=>e.get t
 | .const v=>if isNils v then .nils else match ofConst v with | some pv=>.p pv | none=>.dead
 | .func f=>.fn f []
 | .global g=>match X.glob g with | some cs=>.p (.bx cs) | none=>.dead
def look {α : Type} (n : Nat) : List (Nat × Option α)→Option α
 | []=>none
 | (m,a)::r=>if Nat.beq n m then a else look n r
def St.box (s : St) (b : Nat) : Option (List DV):=look b s.boxes
def St.list (s : St) (l : Nat) : Option Own:=look l s.lists
def St.setBox (s : St) (b : Nat) (cs : List DV) : St:={ s with boxes:=(b,some cs)::s.boxes}
def St.setList (s : St) (l : Nat) (c : Own) : St:={ s with lists:=(l,some c)::s.lists}
def St.killL (s : St) : List Nat→St
 | []=>s
 | l::r=>St.killL { s with lists:=(l,none)::s.lists} r
def St.addList (s : St) (c : Own) : St:={ s with lists:=(s.nl,some c)::s.lists,nl:=s.nl+1}
def St.addBox (s : St) (cs : List DV) : St:={ s with boxes:=(s.nb,some cs)::s.boxes,nb:=s.nb+1}
def cellsK (n : Nat) (d : DV) (k : List DV→Option R) : Option R:=match d with
 | .agg cs=>if Nat.beq cs.length n then k cs else none
 | .p v=>bd (PV.whole n v) λv=>go v n (λl=>k (l.map .p))
 | _=>none
where
 go (v : PV) : Nat→(List PV→Option R)→Option R
  | 0,k=>k []
  | m+1,k=>go v m (λl=>bd (v.cell m) λc=>k (l++[c]))
def getK (o : OTy) (c : PV) : cK→(OTy→PV→Option R)→Option R
 | [],k=>k o c
 | (i,j)::r,k=>bd (PV.at_ o.s o.g c i) λx=>
   if o.g then bd (x.cell j) λy=>getK (o.ct j) y r k
   else if Nat.beq j 0 then getK (o.ct 0) x r k else none
def setK (o : OTy) (c : PV) : cK→PV→(PV→Option R)→Option R
 | [],y,k=>k y
 | (i,j)::r,y,k=>bd (PV.at_ o.s o.g c i) λx=>
   if o.g then bd (x.cell j) λz=>setK (o.ct j) z r y λz'=>bd (PV.setCell o.s c i j z') k
   else if Nat.beq j 0 then setK (o.ct 0) x r y λz'=>bd (PV.setAt o.s o.g c i z') k else none
def rowK (s : St) (d : DV) (k : OTy→PV→Option R) : Option R:=match d with
 | .ref l path=>match s.list l with
  | some w=>getK w.o w.c path k
  | none=>none
 | .sref l path lo hi=>match s.list l with
  | some w=>getK w.o w.c path λo c=>bd (PV.cut o.s o.g c lo hi) λc=>k o c
  | none=>none
 | _=>none
def stp (e : Env) (s : St) (k : Env→St→Option R) : Option R:=k e s
def mapK {α β : Type} (f : α→(β→Option R)→Option R) : List α→(List β→Option R)→Option R
 | [],k=>k []
 | d::r,k=>f d λv=>mapK f r λvs=>k (v::vs)
def snapK (s : St) : Nat→DV→(PV→Option R)→Option R
 | 0,_,_=>none
 | n+1,d,k=>match d with
   | .p v=>k v
   | .nils=>k (.lst [])
   | .agg cs=>mapK (snapK s n) cs λvs=>k (.agg vs)
   | .tup cs=>mapK (snapK s n) cs λvs=>k (.tup vs)
   | .fn f cs=>mapK (snapK s n) cs λvs=>k (.fn f vs)
   | .ptr b off=>match off,s.box b with
    | 0,some cs=>mapK (snapK s n) cs λvs=>k (.bx vs)
    | _,_=>none
   | .ref l path=>rowK s (.ref l path) λ_ c=>k c
   | .sref l path lo hi=>rowK s (.sref l path lo hi) λ_ c=>k c
   | .bsl b m=>match s.box b with
    | some cs=>if Nat.beq cs.length m then mapK (snapK s n) cs λvs=>bd (PV.cat 1 1 false (.lst []) (.lst vs)) k else none
    | none=>none
   | _=>none
def snapL (s : St) (n : Nat) : List DV→(List PV→Option R)→Option R:=mapK (snapK s n)
end
def lsOf : Nat→DV→List Nat
 | 0,d=>match d with
   | .ref l _ | .sref l _ _ _ | .eptr l _ _ _=>[l]
   | _=>[]
 | n+1,d=>match d with
   | .ref l _ | .sref l _ _ _ | .eptr l _ _ _=>[l]
   | .agg cs | .tup cs | .fn _ cs=>cs.flatMap (lsOf n)
   | _=>[]
def bsOf : Nat→DV→List Nat
 | 0,d=>match d with
   | .ptr b _ | .bsl b _=>[b]
   | _=>[]
 | n+1,d=>match d with
   | .ptr b _ | .bsl b _=>[b]
   | .agg cs | .tup cs | .fn _ cs=>cs.flatMap (bsOf n)
   | _=>[]
def deep : Nat:=12
def sinkK (s : St) (d : DV) (k : PV→St→Option R) : Option R:=
 match bsOf deep d with
 | []=>snapK s deep d λv=>k v (s.killL (lsOf deep d))
 | _=>none
def sinkAs (ct : OTy) (s : St) (d : DV) (k : PV→St→Option R) : Option R:=match ct with
 | .leaf=>sinkK s d k
 | .own ..=>match d with
  | .nils=>k (.lst []) s
  | .ref l []=>match s.list l with
   | some w=>if w.o.same ct then k w.c (s.killL [l]) else none
   | none=>none
  | .sref l [] lo hi=>match s.list l with
   | some w=>if w.o.same ct then bd (PV.cut w.o.s w.o.g w.c lo hi) λc=>k c (s.killL [l]) else none
   | none=>none
  | _=>none
def sinkCells (o : OTy) (s : St) : Nat→List DV→(List PV→St→Option R)→Option R
 | _,[],k=>k [] s
 | j,d::r,k=>sinkAs (o.ct j) s d λv s=>sinkCells o s (j+1) r λvs s=>k (v::vs) s
def elemK (o : OTy) (s : St) (d : DV) (k : PV→St→Option R) : Option R:=
 if o.g then match d with
  | .agg cs=>if Nat.beq cs.length o.s then sinkCells o s 0 cs λvs s=>k (.agg vs) s else none
  | .p x=>if o.plain then k x s else none
  | _=>none
 else match d with
  | .agg _ | .tup _=>none
  | d=>sinkAs (o.ct 0) s d k
def mem (x : Nat) : List Nat→Bool
 | []=>false
 | y::r=>if Nat.beq x y then true else mem x r
def idx (x : Nat) : List Nat→Nat→Option Nat
 | [],_=>none
 | y::r,n=>if Nat.beq x y then some n else idx x r (n+1)
structure Seen where
 bs : List Nat
 ls : List Nat
def reach (s : St) : Nat→List DV→Seen→Seen
 | 0,_,a=>a
 | _+1,[],a=>a
 | n+1,d::r,a=>match d with
   | .ptr b _ | .bsl b _=>if mem b a.bs then reach s n r a else match s.box b with
    | some cs=>reach s n (cs++r) { a with bs:=a.bs++[b]}
    | none=>reach s n r a
   | .ref l _ | .sref l _ _ _ | .eptr l _ _ _=>if mem l a.ls then reach s n r a else match s.list l with
    | some _=>reach s n r { a with ls:=a.ls++[l]}
    | none=>reach s n r a
   | .agg cs | .tup cs | .fn _ cs=>reach s n (cs++r) a
   | _=>reach s n r a
def ren1 (fb fl : Nat→Option Nat) (f : DV→DV) (d : DV) : DV:=match d with
 | .ptr b off=>match fb b with | some b'=>.ptr b' off | none=>.dead
 | .ref l path=>match fl l with | some l'=>.ref l' path | none=>.dead
 | .sref l path lo hi=>match fl l with | some l'=>.sref l' path lo hi | none=>.dead
 | .eptr l path i off=>match fl l with | some l'=>.eptr l' path i off | none=>.dead
 | .gptr l path i off=>match fl l with | some l'=>.gptr l' path i off | none=>.dead
 | .bsl b n=>match fb b with | some b'=>.bsl b' n | none=>.dead
 | .agg cs=>.agg (cs.map f)
 | .tup cs=>.tup (cs.map f)
 | .fn g cs=>.fn g (cs.map f)
 | d=>d
def ren (fb fl : Nat→Option Nat) : Nat→DV→DV
 | 0,d=>ren1 fb fl (λ_=>.dead) d
 | n+1,d=>ren1 fb fl (ren fb fl n) d
def fuelR : Nat:=400
def pickBoxes (s : St) (fb fl : Nat→Option Nat) : Nat→List Nat→List (Nat × Option (List DV))
 | _,[]=>[]
 | n,b::r=>(n,(s.box b).map λcs=>cs.map (ren fb fl deep))::pickBoxes s fb fl (n+1) r
def pickLists (s : St) : Nat→List Nat→List (Nat × Option Own)
 | _,[]=>[]
 | n,l::r=>(n,s.list l)::pickLists s (n+1) r
def St.pick (s : St) (a : Seen) : St:=
 { boxes:=pickBoxes s (idx · a.bs 0) (idx · a.ls 0) 0 a.bs,lists:=pickLists s 0 a.ls,nb:=0,nl:=0,base:=a.bs.length+a.ls.length}
def keepEnv (e : Env) (fb fl : Nat→Option Nat) : List Nat→Env
 | []=>[]
 | t::r=>(t,ren fb fl deep (e.get t))::keepEnv e fb fl r
def rootsOf (e : Env) : List Nat→List DV
 | []=>[]
 | t::r=>e.get t::rootsOf e r
def boxRoots (s : St) : Nat→List DV
 | 0=>[]
 | n+1=>boxRoots s n++((s.box n).getD [])
def seenAt (nb nl : Nat) (s : St) (roots : List DV) : Seen:=reach s fuelR (boxRoots s nb++roots) ⟨List.range nb,List.range nl⟩
def scrub1 (l : List Nat) (n : Nat) (f : DV→DV) (d : DV) : DV:=match d with
 | .ref m path=>if mem m l&&Nat.blt n path.length then .dead else .ref m path
 | .sref m path lo hi=>if mem m l&&Nat.blt n path.length then .dead else .sref m path lo hi
 | .eptr m path i off=>if mem m l&&Nat.blt n path.length then .dead else .eptr m path i off
 | .gptr m path i off=>if mem m l&&Nat.blt n path.length then .dead else .gptr m path i off
 | .agg cs=>.agg (cs.map f)
 | .tup cs=>.tup (cs.map f)
 | .fn g cs=>.fn g (cs.map f)
 | d=>d
def scrub (l : List Nat) (n : Nat) : Nat→DV→DV
 | 0,d=>scrub1 l n (λ_=>.dead) d
 | k+1,d=>scrub1 l n (scrub l n k) d
def scrubEnv (l : List Nat) (n : Nat) : Env→Env
 | []=>[]
 | (t,d)::r=>(t,scrub l n deep d)::scrubEnv l n r
def scrubBoxes (l : List Nat) (n : Nat) : List (Nat × Option (List DV))→List (Nat × Option (List DV))
 | []=>[]
 | (b,some cs)::r=>(b,some (cs.map (scrub l n deep)))::scrubBoxes l n r
 | (b,none)::r=>(b,none)::scrubBoxes l n r
def St.scrub (l : List Nat) (s : St) : St:={ s with boxes:=scrubBoxes l 0 s.boxes}
def _root_.Go.Proofs.YtllmobkkbpdchaaGreat.OTy.stays (o : OTy) (path : cK) : Bool:=o.plain||(o.shallow&&!path.isEmpty)
def touchK (l : Nat) (w : Own) (path : cK) (e : Env) (s : St) (k : Env→St→Option R) : Option R:=
 if w.o.stays path then k e s else k (scrubEnv [l] 0 e) (s.scrub [l])
def subst1 (l : Nat) (c : PV) (f : DV→DV) (d : DV) : DV:=match d with
 | .ref m path=>if Nat.beq l m then (match path with | []=>.p c | _=>.dead) else .ref m path
 | .agg cs=>.agg (cs.map f)
 | .tup cs=>.tup (cs.map f)
 | .fn g cs=>.fn g (cs.map f)
 | d=>d
def substD (l : Nat) (c : PV) : Nat→DV→DV
 | 0,d=>subst1 l c (λ_=>.dead) d
 | k+1,d=>subst1 l c (substD l c k) d
def substEnv (l : Nat) (c : PV) : Env→Env
 | []=>[]
 | (t,d)::r=>(t,substD l c deep d)::substEnv l c r
def substBoxes (l : Nat) (c : PV) : List (Nat × Option (List DV))→List (Nat × Option (List DV))
 | []=>[]
 | (b,some cs)::r=>(b,some (cs.map (substD l c deep)))::substBoxes l c r
 | (b,none)::r=>(b,none)::substBoxes l c r
def frz1 (d : DV) (e : Env) (s : St) (k : Env→St→Option R) : Option R:=match d with
 | .ref l []=>match s.list l with
  | some w=>k (substEnv l w.c e) { s with boxes:=substBoxes l w.c s.boxes,lists:=(l,none)::s.lists}
  | none=>k e s
 | _=>k e s
def frzK : List (Nat × Option Nat)→Env→St→(Env→St→Option R)→Option R
 | [],e,s,k=>k e s
 | (t,none)::r,e,s,k=>frz1 (e.get t) e s λe s=>frzK r e s k
 | (t,some j)::r,e,s,k=>match e.get t with
   | .ptr b _=>match s.box b with
    | some cs=>frz1 (cs.getD j .dead) e s λe s=>frzK r e s k
    | none=>frzK r e s k
   | _=>frzK r e s k
def setAtOff (cs : List DV) (off : Nat) : List DV→List DV
 | []=>cs
 | v::r=>setAtOff (cs.set off v) (off+1) r
section
variable (X : Cx) (O : Orc)
def elemOf (t : Nat) : Option Nat:=match (X.T.at t).d with | .slice e=>some e | _=>none
def rowOf (u : Nat) : OTy:=let r:=X.T.at u;.own r.size r.bytes r.isAgg (X.own u)
def ownCells : List DV→List (Option Nat)→St→(List DV→St→Option R)→Option R
 | d::ds,t::ts,s,k=>match d,t with
   | .nils,some u=>ownCells ds ts (s.addList ⟨rowOf X u,.lst []⟩) λds' s'=>k (.ref s.nl []::ds') s'
   | d,_=>ownCells ds ts s λds' s'=>k (d::ds') s'
 | ds,_,s,k=>k ds s
def cellsE (l : Nat) (path : cK) (i : PV) (o : OTy) (x : PV) : Nat→Nat→(List DV→Option R)→Option R
 | 0,_,k=>k []
 | m+1,off,k=>if (o.ct off).isLeaf then bd (x.cell off) λy=>cellsE l path i o x m (off+1) λds=>k (.p y::ds)
  else cellsE l path i o x m (off+1) λds=>k (.ref l (path++[(i,off)])::ds)
def partK (x : PV) (s : Nat) (g : Bool) (off : Nat) (r : TyR) (k : DV→Option R) : Option R:=
 if r.isAgg then (if Nat.beq off 0&&Nat.beq r.size s&&g then k (.p x) else bd (x.sub off r.size) λy=>k (.p y))
 else if g then bd (x.cell off) λy=>k (.p y)
 else if Nat.beq off 0 then k (.p x) else none
def loadK (t : Nat) (a : DV) (s : St) (k : DV→Option R) : Option R:=
 let r:=X.T.at t
 if Nat.beq r.size 0 then none else match a with
 | .ptr b off=>match s.box b with
  | some cs=>if r.isAgg then (if Nat.ble (off+r.size) cs.length then k (.agg ((cs.drop off).take r.size)) else none) else match cs[off]? with
    | some d=>k d
    | none=>none
  | none=>none
 | .eptr l path i off=>match s.list l with
  | some w=>getK w.o w.c path λo c=>bd (PV.at_ o.s o.g c i) λx=>
   if o.plain then partK x o.s o.g off r k
   else if r.isAgg then (if o.g&&Nat.ble (off+r.size) o.s then cellsE l path i o x r.size off λds=>k (.agg ds) else none)
   else if o.g then (if (o.ct off).isLeaf then bd (x.cell off) λy=>k (.p y) else if Nat.blt off o.s then k (.ref l (path++[(i,off)])) else none)
   else if Nat.beq off 0&&!(o.ct 0).isLeaf then k (.ref l (path++[(i,0)])) else none
  | none=>none
 | .fptr x n g off=>partK x n g off r k
 | .p c=>if r.isAgg then cellsB c r.size 0 (λl=>k (.agg (l.map .p))) else bd (c.deref 0) λy=>k (.p y)
 | .bptr c off=>if r.isAgg then cellsB c r.size off (λl=>k (.agg (l.map .p))) else bd (c.deref off) λy=>k (.p y)
 | _=>none
where
 cellsB (c : PV) : Nat→Nat→(List PV→Option R)→Option R
  | 0,_,k=>k []
  | m+1,off,k=>bd (c.deref off) λv=>cellsB c m (off+1) (λl=>k (v::l))
def isCell : DV→Bool
 | .agg _ | .tup _ | .dead=>false
 | _=>true
def oneK (d : DV) (k : DV→Option R) : Option R:=match d with
 | .p x=>bd (PV.one x) λx=>k (.p x)
 | .agg _ | .tup _ | .dead=>none
 | d=>k d
def storeB (t b off : Nat) (v : DV) (s : St) (k : St→Option R) : Option R:=
 let r:=X.T.at t
 match s.box b with
 | some cs=>if Nat.ble (off+r.size) cs.length then (if r.isAgg then cellsK r.size v λvs=>ownCells X vs (sliceCells X.T 20 t) s λvs s=>k (s.setBox b (setAtOff cs off vs))
  else if Nat.beq r.size 1 then oneK v λv=>match v with
   | .nils=>match elemOf X t with
    | some u=>k ((s.addList ⟨rowOf X u,.lst []⟩).setBox b (cs.set off (.ref s.nl [])))
    | none=>none
   | .sref l [] lo hi=>match cs[off]? with
    | some (.ref l' [])=>if Nat.beq l l' then (match s.list l with
     | some w=>bd (PV.cut w.o.s w.o.g w.c lo hi) λc=>k (((s.killL [l]).addList ⟨w.o,c⟩).setBox b (cs.set off (.ref s.nl [])))
     | none=>none) else k (s.setBox b (cs.set off v))
    | _=>k (s.setBox b (cs.set off v))
   | v=>k (s.setBox b (cs.set off v))
  else none) else none
 | none=>none
def storeK (t : Nat) (a v : DV) (e : Env) (s : St) (k : Env→St→Option R) : Option R:=
 let r:=X.T.at t
 if Nat.beq r.size 0 then none else
 match a with
 | .ptr b off=>storeB X t b off v s λs=>k e s
 | .eptr l path i off=>match s.list l with
  | some w=>getK w.o w.c path λo c=>
   if Nat.beq off 0&&Nat.beq r.size o.s&&r.isAgg==o.g then elemK o s v λx s=>match s.list l with
    | some w=>getK w.o w.c path λo c=>bd (PV.setAt o.s o.g c i x) λc=>fin l path w c s
    | none=>none
   else if r.isAgg then cellsK r.size v λds=>setIn o ds off l path i s
   else if Nat.beq r.size 1&&o.g then oneK v λv=>setIn o [v] off l path i s
   else none
  | none=>none
 | _=>none
where
 fin (l : Nat) (path : cK) (w : Own) (c : PV) (s : St) : Option R:=
  setK w.o w.c path c λc'=>touchK l w path e (s.setList l ⟨w.o,c'⟩) k
 setIn (o : OTy) (ds : List DV) (off : Nat) (l : Nat) (path : cK) (i : PV) (s : St) : Option R:=
  sinkCells o s off ds λys s=>match s.list l with
   | some w=>getK w.o w.c path λo c=>setAll o.s c i off ys λc=>fin l path w c s
   | none=>none
 setAll (n : Nat) (c i : PV) : Nat→List PV→(PV→Option R)→Option R
  | _,[],k=>k c
  | off,y::ys,k=>bd (PV.setCell n c i off y) λc=>setAll n c i (off+1) ys k
def pieceK (o : OTy) (c : PV) (q : Option (PV × PV)) (k : PV→Option R) : Option R:=match q with
 | none=>k c
 | some (lo,hi)=>bd (PV.cut o.s o.g c lo hi) k
def leaveK (l : Nat) (path : cK) (q : Option (PV × PV)) (s : St) (k : DV→St→Option R) : Option R:=match s.list l with
 | some w=>getK w.o w.c path λo c=>if o.plain&&w.o.shallow then
  pieceK o c q λc1=>setK w.o w.c path .hole λc'=>k (.ref s.nl []) ((s.setList l ⟨w.o,c'⟩).addList ⟨o,c1⟩) else none
 | none=>none
def leaveRowK (l : Nat) (path : cK) (s : St) (k : Nat→St→Option R) : Option R:=match s.list l with
 | some w=>getK w.o w.c path λo c=>if o.plain&&w.o.shallow&&!(w.o.along path).isLeaf then setK w.o w.c path .hole λc'=>k s.nl ((s.setList l ⟨w.o,c'⟩).addList ⟨w.o.along path,c⟩) else none
 | none=>none
def leaveCells (l : Nat) : List DV→St→(List DV→St→Option R)→Option R
 | [],s,k=>k [] s
 | d::r,s,k=>match d with
   | .ref m (p::path)=>if Nat.beq l m then leaveRowK l (p::path) s λx s1=>leaveCells l r s1 λds s2=>k (.ref x []::ds) s2
    else leaveCells l r s λds s1=>k (.ref m (p::path)::ds) s1
   | d=>leaveCells l r s λds s1=>k (d::ds) s1
def storeLK (t : Nat) (a v : DV) (e : Env) (s : St) (k : Env→St→Option R) : Option R:=match a,v with
 | .eptr la pa i off,.agg ds=>leaveCells la ds s λds' s1=>storeK X t (.eptr la pa i off) (.agg ds') e s1 λe s2=>if Nat.ble s1.nl s2.nl then k e s2 else none
 | .eptr la pa i off,.sref l (p::path) lo hi=>leaveK l (p::path) (some (lo,hi)) s λv s1=>storeK X t (.eptr la pa i off) v e s1 λe s2=>if Nat.ble s1.nl s2.nl then k e s2 else none
 | a,v=>storeK X t a v e s k
def put (dst : Option Nat) (d : DV) (e : Env) : Env:=match dst with
 | some t=>(t,d)::e
 | none=>e
def buildK (fs : List (Nat × Nat)) : List (Nat × DV)→List DV→(List DV→Option R)→Option R
 | [],cs,k=>k cs
 | (i,v)::r,cs,k=>match fs[i]? with
   | some (off,t)=>if Nat.ble (off+(X.T.at t).size) cs.length then
    (if (X.T.at t).isAgg then cellsK (X.T.at t).size v λvs=>buildK fs r (setAtOff cs off vs) k
    else if Nat.beq (X.T.at t).size 1 then oneK v λv=>buildK fs r (cs.set off v) k else none) else none
   | none=>none
def zeroOk (t : Nat) : Bool:=X.zok t&&Nat.beq (zeroCells X.T 20 t).length (X.T.at t).size&&((X.T.at t).isAgg||Nat.beq (X.T.at t).size 1)
def zeroOf (t : Nat) : PV:=
 let z:=(zeroCells X.T 20 t).map zeroPV
 if (X.T.at t).isAgg then .agg z else z.headD .hole
def elemsK (o : OTy) (s : St) : List DV→(List PV→St→Option R)→Option R
 | [],k=>k [] s
 | d::r,k=>elemK o s d λv s=>elemsK o s r λvs s=>k (v::vs) s
def inOrder : Nat→List (Nat × DV)→Bool
 | _,[]=>true
 | n,(i,_)::r=>Nat.beq i n&&inOrder (n+1) r
def okCells : List PV→List OTy→Bool
 | z::zs,c::cs=>(c.isLeaf||(match z with | .lst _=>true | _=>false))&&okCells zs cs
 | _,_=>true
def rowOk (t : Nat) : Bool:=zeroOk X t&&!Nat.beq (X.T.at t).size 0&&okCells (zeroCells X.T 20 t) (X.own t)
def lives : Nat→DV→Bool
 | 0,d=>match d with
   | .p _ | .nils=>false
   | _=>true
 | n+1,d=>match d with
   | .p _ | .nils=>false
   | .agg cs | .tup cs | .fn _ cs=>cs.any (lives n)
   | _=>true
def pureK (f : Nat) (args : List DV) (s : St) (k : DV→St→Option R) : Option R:=
 if args.any (lives deep) then snapL s deep args λvs=>bd (O.C f vs) λr=>PV.guardFlat (hd r) (k (.p (hd r)) s)
 else snapL s deep args λvs=>bd (O.C f vs) λr=>k (.p (hd r)) s
mutual
def fillD (l : R) : DV→DV
 | .p (.int _ i)=>.p (gd l i.toNat)
 | .agg cs=>.agg (fillDs l cs)
 | .tup cs=>.tup (fillDs l cs)
 | .fn f cs=>.fn f (fillDs l cs)
 | .eptr b [] (.int _ i) off=>.eptr b [] (gd l i.toNat) off
 | .gptr b [(.int _ j,n)] (.int _ i) off=>.gptr b [(gd l j.toNat,n)] (gd l i.toNat) off
 | d=>d
def fillDs (l : R) : List DV→List DV
 | []=>[]
 | d::r=>fillD l d::fillDs l r
end
def fillB (l : R) : List (Option (List DV))→List (Option (List DV))
 | []=>[]
 | some cs::r=>some (fillDs l cs)::fillB l r
 | none::r=>none::fillB l r
def fillO (l : R) : List (Option Own)→List (Option Own)
 | []=>[]
 | some w::r=>some ⟨w.o,match w.c with | .int _ i=>gd l i.toNat | c=>c⟩::fillO l r
 | none::r=>none::fillO l r
mutual
def readD : DV→DV→Option R
 | .p (.int _ _),.p v=>some [v]
 | .agg ts,.agg cs=>readDs ts cs
 | .tup ts,.tup cs=>readDs ts cs
 | .fn f ts,.fn g cs=>if Nat.beq f g then readDs ts cs else none
 | .ptr b off,.ptr b' off'=>if Nat.beq b b'&&Nat.beq off off' then some [] else none
 | .ref l [],.ref l' []=>if Nat.beq l l' then some [] else none
 | .eptr l [] (.int _ _) off,.eptr l' [] i off'=>if Nat.beq l l'&&Nat.beq off off' then some [i] else none
 | .gptr _ [_] _ _,.p .nil=>some [.nil,.nil]
 | .gptr l [(_,n)] _ off,.eptr l' [(j,n')] i off'=>if Nat.beq l l'&&Nat.beq n n'&&Nat.beq off off' then some [j,i] else none
 | .nils,.nils=>some []
 | .dead,_=>some []
 | _,_=>none
def readDs : List DV→List DV→Option R
 | [],[]=>some []
 | t::ts,c::cs=>match readD t c with
   | some a=>match readDs ts cs with
     | some b=>some (a++b)
     | none=>none
   | none=>none
 | _,_=>none
end
def readB : List (Option (List DV))→List (Nat × Option (List DV))→Option R
 | [],[]=>some []
 | some ts::tr,(_,some cs)::cr=>match readDs ts cs with
   | some a=>match readB tr cr with
     | some b=>some (a++b)
     | none=>none
   | none=>none
 | none::tr,_::cr=>readB tr cr
 | _,_=>none
def readO : List (Option Own)→List (Nat × Option Own)→Option R
 | [],[]=>some []
 | some t::tr,(_,some w)::r=>if t.o.same w.o then match readO tr r with
    | some b=>some (w.c::b)
    | none=>none
   else none
 | none::tr,_::r=>readO tr r
 | _,_=>none
def Tmpl.read (t : Tmpl) (d : DV) (s : St) : Option R:=
 match readD t.res d with
 | some a=>match readB t.boxes s.boxes with
   | some b=>match readO t.lists s.lists with
     | some c=>some (a++b++c)
     | none=>none
   | none=>none
 | none=>none
mutual
def numD : DV→Nat→Option Nat
 | .p (.int _ i),n=>if i=n then some (n+1) else none
 | .agg cs,n=>numDs cs n
 | .tup cs,n=>numDs cs n
 | .fn _ cs,n=>numDs cs n
 | .ptr _ _,n=>some n
 | .ref _ [],n=>some n
 | .eptr _ [] (.int _ i) _,n=>if i=n then some (n+1) else none
 | .gptr _ [(.int _ j,_)] (.int _ i) _,n=>if j=n∧i=n+1 then some (n+2) else none
 | .nils,n=>some n
 | .dead,n=>some n
 | _,_=>none
def numDs : List DV→Nat→Option Nat
 | [],n=>some n
 | d::r,n=>match numD d n with
   | some n'=>numDs r n'
   | none=>none
end
def numB : List (Option (List DV))→Nat→Option Nat
 | [],n=>some n
 | some cs::r,n=>match numDs cs n with
   | some n'=>numB r n'
   | none=>none
 | none::r,n=>numB r n
def numO : List (Option Own)→Nat→Option Nat
 | [],n=>some n
 | some w::r,n=>match w.c with
   | .int _ i=>if i=n then numO r (n+1) else none
   | _=>none
 | none::r,n=>numO r n
def Tmpl.wf (t : Tmpl) : Bool:=match numD t.res 0 with
 | some n=>match numB t.boxes n with
   | some n'=>(numO t.lists n').isSome
   | none=>false
 | none=>false
def ownArgs : List DV→List Nat→St→(List DV→St→Option R)→Option R
 | d::ds,t::ts,s,k=>match d,elemOf X t with
   | .nils,some u=>ownArgs ds ts (s.addList ⟨rowOf X u,.lst []⟩) λds' s'=>k (.ref s.nl []::ds') s'
   | d,_=>ownArgs ds ts s λds' s'=>k (d::ds') s'
 | ds,_,s,k=>k ds s
def guardCells (l : R) : List DV→Option R→Option R
 | [],k=>k
 | .p (.int _ i)::r,k=>PV.guardFlat (gd l i.toNat) (guardCells l r k)
 | .ref _ _::r,k=>guardCells l r k
 | _,_=>none
def guardAggs (l : R) : List DV→Option R→Option R
 | [],k=>k
 | .agg cs::r,k=>guardCells l cs (guardAggs l r k)
 | d::r,k=>guardCells l [d] (guardAggs l r k)
def guardRes (l : R) (d : DV) (k : Option R) : Option R:=match d with
 | .tup cs=>guardAggs l cs k
 | d=>guardAggs l [d] k
def guardRows (l : R) : List (Option Own)→Option R→Option R
 | [],k=>k
 | some w::r,k=>match w.c with
   | .int _ i=>PV.guardOwn w.o (gd l i.toNat) (guardRows l r k)
   | _=>none
 | none::_,_=>none
structure Foot where
 rb : List Nat
 rl : List Nat
 wb : List Nat
 wl : List Nat
 last : Bool
 ok : Bool
def Foot.none : Foot:=⟨[],[],[],[],false,true⟩
def uniq : List Nat→List Nat
 | []=>[]
 | x::r=>if mem x r then uniq r else x::uniq r
def reached (s : St) (ds : List DV) (a : Seen) : List DV:=ds++a.bs.flatMap λb=>(s.box b).getD []
def deepFoot (s : St) (ds : List DV) (write : Bool) : Foot:=
 let a:=reach s fuelR ds ⟨[],[]⟩
 let all:=reached s ds a
 let ls:=uniq (a.ls++all.flatMap (lsOf deep))
 let ok:=all.all λd=>(bsOf deep d).all λb=>mem b a.bs
 if write then ⟨a.bs,ls,a.bs,ls,false,ok⟩ else ⟨a.bs,ls,[],[],false,ok⟩
def backB {α : Type} (ob : List Nat) (n : Nat) : List (Option α)→List (Nat × Option α)→List (Nat × Option α)
 | [],old=>old
 | c::r,old=>match ob with
   | b::ob=>backB ob n r ((b,c)::old)
   | []=>backB [] (n+1) r ((n,c)::old)
def backO (n : Nat) : List (Option Own)→List (Nat × Option Own)→List (Nat × Option Own)
 | [],old=>old
 | c::r,old=>backO (n+1) r ((n,c)::old)
def backFb (bs : List Nat) (n : Nat) (b : Nat) : Option Nat:=match bs[b]? with
 | some c=>some c
 | none=>some (n+(b - bs.length))
def backFl (n : Nat) (l : Nat) : Option Nat:=some (n+l)
def allSome {α : Type} : List (Option α)→Bool
 | []=>true
 | some _::r=>allSome r
 | none::_=>false
def scrubKept (keep : Bool) (kl : List Nat) (bs : List (Nat × Option (List DV))) : List (Nat × Option (List DV)):=if keep then scrubBoxes kl 0 bs else bs
def scrubKeptE (keep : Bool) (kl : List Nat) (e : Env) : Env:=if keep then scrubEnv kl 0 e else e
def scrubKeptD (keep : Bool) (kl : List Nat) : DV→DV:=if keep then scrub kl 0 deep else id
def fitO : List (Option Own)→List (Option OTy)→List (Option Own)
 | some w::r,some o::q=>some ⟨o,w.c⟩::fitO r q
 | t::r,_::q=>t::fitO r q
 | ts,[]=>ts
 | [],_::_=>[]
def Tmpl.fitK (t : Tmpl) (ks : List (Option OTy)) : Tmpl:=match t.keep with
 | true=>{ t with lists:=fitO t.lists ks}
 | false=>t
def kindsOf (l : List (Nat × Option Own)) : List (Option OTy):=l.map λp=>p.2.map (·.o)
def treeRefs : List DV→List DV→List Nat
 | t::ts,d::ds=>match t,d with
   | .ref i [],.p _=>i::treeRefs ts ds
   | _,_=>treeRefs ts ds
 | _,_=>[]
def treeBoxes : List (Option (List DV))→Nat→List (Nat × Option (List DV))→List Nat
 | [],_,_=>[]
 | none::r,n,bs=>treeBoxes r (n+1) bs
 | some ts::r,n,bs=>match look n bs with
   | some ds=>treeRefs ts ds++treeBoxes r (n+1) bs
   | none=>treeBoxes r (n+1) bs
def fewer : List Nat→Nat→Nat
 | [],_=>0
 | x::r,i=>if Nat.blt x i then fewer r i+1 else fewer r i
def treeD (ls : List Nat) (d : DV) : DV:=match d with
 | .ref i []=>if mem i ls then .p (.int .i64 0) else .ref (i - fewer ls i) []
 | d=>d
def renC : List DV→Nat→List DV × Nat
 | [],n=>([],n)
 | d::r,n=>match d with
   | .p _=>match renC r (n+1) with | (q,k)=>(.p (.int .i64 n)::q,k)
   | d=>match renC r n with | (q,k)=>(d::q,k)
def renB : List (Option (List DV))→Nat→List (Option (List DV)) × Nat
 | [],n=>([],n)
 | some cs::r,n=>match renC cs n with
   | (c,k)=>match renB r k with | (q,j)=>(some c::q,j)
 | none::r,n=>match renB r n with | (q,j)=>(none::q,j)
def renO (ls : List Nat) : List (Option Own)→Nat→Nat→List (Option Own)
 | [],_,_=>[]
 | w::r,i,n=>if mem i ls then renO ls r (i+1) n else match w with
   | some w=>some ⟨w.o,.int .i64 n⟩::renO ls r (i+1) (n+1)
   | none=>none::renO ls r (i+1) n
def Tmpl.fitB (t : Tmpl) (bs : List (Nat × Option (List DV))) : Tmpl:=match treeBoxes t.boxes 0 bs with
 | []=>t
 | l::ls=>match renC [treeD (l::ls) t.res] 0 with
   | (d,n)=>match renB (t.boxes.map λo=>o.map λcs=>cs.map (treeD (l::ls))) n with
     | (b,k)=>
       let t' : Tmpl:={ t with res:=d.headD .dead,boxes:=b,lists:=renO (l::ls) t.lists 0 k}
       if t'.wf then t' else t
def Tmpl.fit (t : Tmpl) (s : St) : Tmpl:=match t.keep with
 | true=>t.fitK (kindsOf s.lists)
 | false=>t.fitB s.boxes
def liveK (ft : Foot) (n0 : Nat) (t : Tmpl) (f : Nat) (args : List DV) (s : St) (k : DV→St→List Nat→Option R) : Option R:=
 let a:=reach s fuelR args ⟨[],[]⟩
 let t:=t.fit (s.pick a)
 let kl:=if t.keep then a.ls else []
 if Nat.ble a.bs.length t.boxes.length&&allSome (t.boxes.take a.bs.length)&&(a.bs.all λb=>mem b ft.rb)&&(a.ls.all λl=>mem l ft.rl||(Nat.ble n0 l&&Nat.blt l s.nl))&&Nat.ble kl.length t.lists.length then
  bd (O.S f (args.map (ren (idx · a.bs 0) (idx · a.ls 0) deep)) (s.pick a)) λl=>
   k (ren (backFb a.bs s.nb) (backFb kl s.nl) deep (fillD l t.res))
     { s with boxes:=backB a.bs s.nb ((fillB l t.boxes).map λo=>o.map λcs=>cs.map (ren (backFb a.bs s.nb) (backFb kl s.nl) deep)) (scrubKept t.keep kl s.boxes),
              lists:=backB kl s.nl (fillO l t.lists) (s.killL a.ls).lists,
              nb:=s.nb+(t.boxes.length - a.bs.length),nl:=s.nl+(t.lists.length - kl.length)} kl
 else none
def lentK (t : Tmpl) (f : Nat) (args : List DV) (s : St) (k : DV→St→Option R) : Option R:=
 snapL s deep args λvs=>bd (O.S f (vs.map .p) ⟨[],[],0,0,0⟩) λl=>
  guardRes l t.res (guardRows l t.lists
   (k (ren (λ_=>none) (backFl s.nl) deep (fillD l t.res)) { s with lists:=backO s.nl (fillO l t.lists) s.lists,nl:=s.nl+t.lists.length}))
def backRowK (l : Nat) (path : cK) (x : Nat) (s : St) (k : St→Option R) : Option R:=match s.list l with
 | some w=>if w.o.shallow&&!(w.o.along path).isLeaf then sinkAs (w.o.along path) s (.ref x []) λy s1=>match s1.list l with
    | some w1=>setK w1.o w1.c path y λc'=>k (s1.setList l ⟨w1.o,c'⟩)
    | none=>none
   else none
 | none=>none
def nestedArg (t : Tmpl) (args : List DV) : Option (Nat × cK × List DV):=match args with
 | .ref l (p::path)::rest=>if t.keep&&t.asis then some (l,p::path,rest) else none
 | _=>none
def callK (f : Nat) (args : List DV) (ts : List Nat) (e : Env) (s : St) (k : DV→Env→St→Option R) : Option R:=
 match X.mode f with
 | none=>pureK O f args s λd s=>k d e s
 | some t=>if t.lent then lentK O t f args s λd s=>k d e s else match nestedArg t args with
   | some (l,path,rest)=>leaveRowK l path s λx s1=>liveK O (deepFoot s args true) s.nl t f (.ref x []::rest) s1 λd s2 kl=>if mem l kl then none else backRowK l path x s2 λs3=>k d (scrubKeptE t.keep kl e) s3
   | none=>ownArgs X args (if t.asis then [] else ts) s λargs' s'=>liveK O (deepFoot s args true) s.nl t f args' s' λd s kl=>k d (scrubKeptE t.keep kl e) s
def _root_.Go.Proofs.YtllmobkkbpdchaaGreat.PV.apply (C : Nat→List PV→Option R) (v : PV) (args : List PV) : Option R:=match v with
 | .fn f caps=>C f (args++caps)
 | _=>none
def applyK (d : DV) (args : List DV) (ts : List Nat) (e : Env) (s : St) (k : DV→Env→St→Option R) : Option R:=match d with
 | .fn f caps=>callK X O f (args++caps) ts e s k
 | .p v=>if args.any (lives deep) then snapL s deep args λvs=>bd (PV.apply O.C v vs) λr=>PV.guardFlat (hd r) (k (.p (hd r)) e s)
  else snapL s deep args λvs=>bd (PV.apply O.C v vs) λr=>k (.p (hd r)) e s
 | _=>none
def intD (n : Nat) : PV:=.int .i64 n
def srcK (d : DV) (s : St) (k : PV→Option R) : Option R:=match d with
 | .p v=>k v
 | .nils=>k (.lst [])
 | .ref l path=>rowK s (.ref l path) λo c=>if o.plain then k c else none
 | .sref l path lo hi=>rowK s (.sref l path lo hi) λo c=>if o.plain then k c else none
 | _=>none
def convK (src dst : Nat) (x : DV) (s : St) (k : DV→Option R) : Option R:=match (X.T.at src).d,(X.T.at dst).d,x with
 | .int _,.int n,.p v=>bd (PV.conv n v) λy=>k (.p y)
 | .str,.str,.p v=>bd (PV.slen v) λ_=>k (.p v)
 | .slice e,.str,d=>match (X.T.at e).d with
  | .int .u8=>srcK d s λc=>bd (PV.toStr c) λy=>k (.p y)
  | _=>none
 | .str,.slice e,.p v=>match (X.T.at e).d with
  | .int .u8=>bd (PV.toBytes v) λc=>k (.p c)
  | _=>none
 | _,_,_=>none
def appendedK (o : OTy) (d : DV) (s : St) (k : PV→St→Option R) : Option R:=
 if o.plain then srcK d s λy=>k y s else sinkAs o s d k
def fits (o : OTy) (t : Nat) : Bool:=!o.isLeaf&&Nat.beq o.s (X.T.at t).size&&Nat.beq o.e (X.T.at t).bytes&&o.g==(X.T.at t).isAgg&&Nat.ble 1 o.s&&Nat.ble 1 o.e&&X.zok t&&Nat.beq (zeroCells X.T 20 t).length (X.T.at t).size&&((X.T.at t).isAgg||Nat.beq (X.T.at t).size 1)
def baseTy (te : Nat) (s : St) : DV→Option OTy
 | .nils=>some (rowOf X te)
 | .ref l [] | .sref l [] _ _=>(s.list l).map (·.o)
 | _=>none
def appendK (base d : DV) (te : Nat) (e : Env) (s : St) (k : DV→Env→St→Option R) : Option R:=match base with
 | .ref l (p::path)=>nest l (p::path) none
 | .sref l (p::path) lo hi=>nest l (p::path) (some (lo,hi))
 | base=>match baseTy X te s base with
   | some o=>if fits X o te then appendedK o d s λy s=>sinkAs o s base λc s=>bd (PV.cat o.s o.e o.g c y) λc'=>k (.ref s.nl []) e (s.addList ⟨o,c'⟩) else none
   | none=>none
where
 nest (l : Nat) (path : cK) (q : Option (PV × PV)) : Option R:=match s.list l with
  | some w=>getK w.o w.c path λo c=>if fits X o te&&o.plain&&w.o.shallow then
     srcK d s λy=>pieceK o c q λc=>setK w.o w.c path .hole λc'=>bd (PV.cat o.s o.e o.g c y) λc2=>k (.ref s.nl []) e ((s.setList l ⟨w.o,c'⟩).addList ⟨o,c2⟩)
    else none
  | none=>none
def copyK (te : Nat) (dst src : DV) (s : St) (k : DV→St→Option R) : Option R:=
 match dst with
 | .ref l []=>match s.list l with
  | some w=>bd (PV.len w.c) λn=>go l w PV.zero n
  | none=>none
 | .sref l [] lo hi=>match s.list l with
  | some w=>go l w lo hi
  | none=>none
 | _=>none
where
 go (l : Nat) (w : Own) (lo hi : PV) : Option R:=if w.o.plain&&fits X w.o te then srcK src s λy=>bd (PV.ncopy w.c lo hi y) λn=>
  bd (PV.copyIn w.o.s w.o.g w.c lo hi y) λc=>k (.p n) (s.setList l ⟨w.o,c⟩) else none
def isRow (t : Nat) : Bool:=match (X.T.at t).d with | .slice _ | .str=>true | _=>false
def lenK (t : Nat) (d : DV) (s : St) (k : DV→Option R) : Option R:=match (X.T.at t).d with
 | .str=>match d with
  | .p v=>bd (PV.slen v) λn=>k (.p n)
  | _=>none
 | .slice _=>match d with
  | .p v=>bd (PV.len v) λn=>k (.p n)
  | .nils=>k (.p (.int .i64 0))
  | .ref l path=>rowK s (.ref l path) λ_ c=>bd (PV.len c) λn=>k (.p n)
  | .sref l path lo hi=>rowK s (.sref l path lo hi) λ_ c=>bd (PV.len c) λn=>k (.p n)
  | _=>none
 | .array n _=>k (.p (intD n))
 | _=>none
def builtinK (b : Builtin) (ts : List Nat) (args : List DV) (e : Env) (s : St) (k : DV→Env→St→Option R) : Option R:=match b,ts,args with
 | .len,[t],[d]=>lenK X t d s λn=>k n e s
 | .append,[t,u],[a,d]=>match elemOf X t with
  | some te=>if isRow X u then appendK X a d te e s k else none
  | none=>none
 | .copy,[t,_],[a,d]=>match elemOf X t with
  | some te=>copyK X te a d s λd s=>k d e s
  | none=>none
 | .min,_,[.p a,.p b]=>bd (PV.imin a b) λc=>k (.p c) e s
 | .max,_,[.p a,.p b]=>bd (PV.imax a b) λc=>k (.p c) e s
 | _,_,_=>none
def eqKinds : Nat→Nat→Option (List Nat)
 | 0,_=>none
 | n+1,t=>match kinds (eqKinds n) t with
   | some qs=>if Nat.beq qs.length (X.T.at t).size then some qs else none
   | none=>none
where
 kinds (f : Nat→Option (List Nat)) (t : Nat) : Option (List Nat):=match (X.T.at t).d with
  | .bool=>some [0]
  | .int _=>some [1]
  | .str=>some [2]
  | .struct fs=>if (X.T.at t).eq then parts f 0 fs else none
  | _=>none
 parts (f : Nat→Option (List Nat)) : Nat→List (Nat × Nat)→Option (List Nat)
  | _,[]=>some []
  | at_,(o,t)::r=>if Nat.beq o at_ then (match f t with
   | some a=>match parts f (at_+a.length) r with
     | some b=>some (a++b)
     | none=>none
   | none=>none) else none
def eqK (op : BinOp) (t : Nat) (x y : DV) (k : DV→Option R) : Option R:=match eqKinds X 10 t with
 | some qs=>cellsK qs.length x λas_=>cellsK qs.length y λbs=>trees as_ λas_=>trees bs λbs=>bd (PV.ceq qs op (.agg as_) (.agg bs)) λv=>k (.p v)
 | none=>none
where
 trees : List DV→(List PV→Option R)→Option R
  | [],k=>k []
  | .p v::r,k=>trees r λvs=>k (v::vs)
  | _,_=>none
def nilK (op : BinOp) (x : DV) (k : DV→Option R) : Option R:=match op,x with
 | .eql,.p c=>bd (PV.isLst c) λc=>k (.nilq c false)
 | .neq,.p c=>bd (PV.isLst c) λc=>k (.nilq c true)
 | _,_=>none
def binK (op : BinOp) (t : Nat) (x y : DV) (k : DV→Option R) : Option R:=match (X.T.at t).d with
 | .slice _=>match y with
  | .nils=>nilK op x k
  | _=>none
 | .bool=>match x,y with
  | .p a,.p b=>bd (PV.beq op a b) λv=>k (.p v)
  | _,_=>none
 | .ptr=>match x,y with
  | .p a,.p b=>bd (PV.peq op a b) λv=>k (.p v)
  | .ptr ..,.p .nil=>match op with
   | .eql=>k (.p (.bool false))
   | .neq=>k (.p (.bool true))
   | _=>none
  | _,_=>none
 | .struct _=>eqK X op t x y k
 | .int _ | .str=>match x,y with
  | .p a,.p b=>bd (PV.bin op a b) λv=>k (.p v)
  | _,_=>none
 | _=>none
def indexAddrK (t : Nat) (x i : DV) (s : St) (k : DV→Option R) : Option R:=match (X.T.at t).d,i with
 | .slice e,.p i=>
  let r:=X.T.at e
  if Nat.beq r.size 0 then none else match x with
  | .p c=>bd (PV.at_ r.size r.isAgg c i) λv=>k (.fptr v r.size r.isAgg 0)
  | .ref l path=>rowK s (.ref l path) λo c=>if Nat.beq o.s r.size&&o.g==r.isAgg then bd (PV.inb c i) λ_=>k (.eptr l path i 0) else none
  | .sref l path lo hi=>rowK s (.sref l path lo hi) λo c=>if Nat.beq o.s r.size&&o.g==r.isAgg then bd (PV.inb c i) λ_=>bd (PV.off lo i) λj=>k (.eptr l path j 0) else none
  | _=>none
 | .array n e,.p i=>
  let r:=X.T.at e
  if Nat.ble n 1||Nat.beq r.size 0 then none else match x,i with
   | .ptr b off,.int _ j=>if 0≤j∧j<n then k (.ptr b (off+j.toNat*r.size)) else none
   | .fptr x m g off,.int _ j=>if 0≤j∧j<n then k (.fptr x m g (off+j.toNat*r.size)) else none
   | .bptr c off,.int _ j=>if 0≤j∧j<n then k (.bptr c (off+j.toNat*r.size)) else none
   | .p c,i=>if Nat.beq r.size 1&&!r.isAgg then bd (PV.sel n c i) λv=>k (.fptr v 1 false 0) else none
   | _,_=>none
 | _,_=>none
def fieldAddrK (t : Nat) (x : DV) (f : Nat) (s : St) (k : DV→Option R) : Option R:=match (X.T.at t).d with
 | .struct fs=>match fs[f]? with
  | some (o,u)=>if Nat.beq (X.T.at u).size 0 then none else match x with
    | .ptr b off=>k (.ptr b (off+o))
    | .eptr l path i off=>match s.list l with
     | some _=>k (.eptr l path i (off+o))
     | none=>none
    | .fptr x n g off=>k (.fptr x n g (off+o))
    | .bptr c off=>k (.bptr c (off+o))
    | .p c=>bd (PV.isPtr c) λc=>k (.bptr c o)
    | _=>none
  | none=>none
 | _=>none
def fieldK (t : Nat) (x : DV) (f : Nat) (k : DV→Option R) : Option R:=match (X.T.at t).d with
 | .struct fs=>match fs[f]? with
  | some (o,u)=>
    let r:=X.T.at u
    if Nat.beq r.size 0 then none else match x with
    | .agg cs=>if r.isAgg then (if Nat.ble (o+r.size) cs.length then k (.agg ((cs.drop o).take r.size)) else none) else match cs[o]? with
     | some d=>k d
     | none=>none
    | .p v=>if r.isAgg then bd (v.sub o r.size) λy=>k (.p y) else bd (v.cell o) λy=>k (.p y)
    | _=>none
  | none=>none
 | _=>none
def sliceK (t : Nat) (x : DV) (lo hi : Option DV) (s : St) (k : DV→Option R) : Option R:=
 match lowOf lo with
 | none=>none
 | some l=>match (X.T.at t).d with
   | .str=>match x with
    | .p v=>match hi with
     | none=>bd (PV.slen v) λh=>bd (PV.scut v l h) λy=>k (.p y)
     | some (.p h)=>bd (PV.scut v l h) λy=>k (.p y)
     | _=>none
    | _=>none
   | .slice u=>if Nat.beq (X.T.at u).size 0 then none else match x with
    | .p v=>match hi with
     | none=>bd (PV.len v) λh=>bd (PV.cut (X.T.at u).size (X.T.at u).isAgg v l h) λy=>k (.p y)
     | some (.p h)=>bd (PV.cut (X.T.at u).size (X.T.at u).isAgg v l h) λy=>k (.p y)
     | _=>none
    | .ref n path=>rowK s (.ref n path) λo c=>if Nat.beq o.s (X.T.at u).size then (match hi with
     | none=>bd (PV.len c) λh=>bd (PV.cut o.s o.g c l h) λ_=>k (.sref n path l h)
     | some (.p h)=>bd (PV.cut o.s o.g c l h) λ_=>k (.sref n path l h)
     | _=>none) else none
    | _=>none
   | _=>none
where
 lowOf : Option DV→Option PV
  | none=>some PV.zero
  | some (.p v)=>some v
  | _=>none
def moveK (dst : Option Nat) (t : Nat) (d : DV) (e : Env) (s : St) (k : DV→St→Option R) : Option R:=match d with
 | .dead=>none
 | .nils=>match elemOf X t with
  | some u=>k (.ref s.nl []) (s.addList ⟨rowOf X u,.lst []⟩)
  | none=>k .nils s
 | .sref l [] lo hi=>match dst with
  | some t=>match e.get t with
    | .ref l' []=>if Nat.beq l l' then (match s.list l with
     | some w=>bd (PV.cut w.o.s w.o.g w.c lo hi) λc=>k (.ref s.nl []) ((s.killL [l]).addList ⟨w.o,c⟩)
     | none=>none) else k d s
    | _=>k d s
  | none=>k d s
 | d=>k d s
def allocK (t : Nat) (s : St) (k : DV→St→Option R) : Option R:=
 if zeroOk X t then
  ownCells X ((zeroCells X.T 20 t).map zeroDV) (sliceCells X.T 20 t) s λcs s=>k (.ptr s.nb 0) (s.addBox cs)
 else none
def boxK (t : Nat) (x : DV) (s : St) (k : DV→St→Option R) : Option R:=
 if (X.T.at t).isAgg then cellsK (X.T.at t).size x λcs=>ownCells X cs (sliceCells X.T 20 t) s λcs s=>k (.ptr s.nb 0) (s.addBox cs)
 else oneK x λd=>ownCells X [d] (sliceCells X.T 20 t) s λcs s=>k (.ptr s.nb 0) (s.addBox cs)
def extractK (x : DV) (i : Nat) (k : DV→Option R) : Option R:=match x with
 | .tup cs=>match cs[i]? with
  | some d=>k d
  | none=>none
 | .p v=>bd (PV.comp v i) λy=>k (.p y)
 | _=>none
def pickK (c : DV) (a b : DV) (e : Env) (s : St) (k : DV→St→Option R) : Option R:=match c with
 | .p v=>PV.ite v (moveK X none 0 a e s k) (moveK X none 0 b e s k)
 | _=>none
def buildTK (t : Nat) (ps : List (Nat × DV)) (k : DV→Option R) : Option R:=match (X.T.at t).d with
 | .struct fs=>if zeroOk X t&&(fs.all λf=>!Nat.beq (X.T.at f.2).size 0) then buildK X fs ps ((zeroCells X.T 20 t).map zeroDV) λcs=>k (.agg cs) else none
 | .array n e=>if zeroOk X t&&!Nat.beq (X.T.at e).size 0 then buildK X ((List.range n).map λi=>(i*(X.T.at e).size,e)) ps ((zeroCells X.T 20 t).map zeroDV) λcs=>k (.agg cs) else none
 | _=>none
def _root_.Go.Proofs.YtllmobkkbpdchaaGreat.DV.isRowD : DV→Bool
 | .ref _ _ | .sref _ _ _ _=>true
 | _=>false
def _root_.Go.Proofs.YtllmobkkbpdchaaGreat.DV.inRowD : DV→Bool
 | .ref _ (_::_) | .sref _ (_::_) _ _=>true
 | _=>false
def lendK (u n : Nat) (ps : List (Nat × DV)) (s : St) (k : DV→St→Option R) : Option R:=
 if rowOk X u&&Nat.beq (X.T.at u).size 1&&Nat.ble n (2 ^ 24)&&inOrder 0 ps&&Nat.beq ps.length n&&(ps.all λp=>p.2.isRowD) then k (.bsl s.nb n) (s.addBox (ps.map (·.2))) else none
def buildSliceK (t n : Nat) (ps : List (Nat × DV)) (s : St) (k : DV→St→Option R) : Option R:=match elemOf X t with
 | some u=>if ps.any λp=>p.2.inRowD then lendK X u n ps s k else if rowOk X u&&Nat.ble (n*(X.T.at u).size) (2 ^ 24)&&inOrder 0 ps&&Nat.beq ps.length n then elemsK (rowOf X u) s (ps.map (·.2)) λvs s=>
    bd (PV.cat (rowOf X u).s (rowOf X u).e (rowOf X u).g (.lst []) (.lst vs)) λc=>k (.ref s.nl []) (s.addList ⟨rowOf X u,c⟩)
   else none
 | none=>none
def makeSliceK (t : Nat) (l c : DV) (s : St) (k : DV→St→Option R) : Option R:=match elemOf X t,l,c with
 | some u,.p n,.p m=>if rowOk X u then
    bd (PV.zeros (rowOf X u).e (zeroOf X u) m) λ_=>bd (PV.bin .leq n m) λy=>PV.ite y
     (bd (PV.zeros (rowOf X u).e (zeroOf X u) n) λc=>k (.ref s.nl []) (s.addList ⟨rowOf X u,c⟩)) none
   else none
 | _,_,_=>none
def noRoomK (t : Nat) (x : DV) (lo hi : Option DV) (mx : DV) (s : St) (k : DV→St→Option R) : Option R:=match elemOf X t,x,lo,hi,mx with
 | some u,.p v,none,some (.p h),.p n=>if rowOk X u&&isZ h&&isZ n then bd (PV.len v) λ_=>k (.ref s.nl []) (s.addList ⟨rowOf X u,.lst []⟩) else none
 | _,_,_,_,_=>none
where
 isZ : PV→Bool
  | .int _ (.ofNat 0)=>true
  | _=>false
def nilCheckK (x : DV) (s : St) (k : DV→Option R) : Option R:=match x with
 | .p v=>bd (PV.isPtr v) λv=>k (.p v)
 | .ptr b off=>k (.ptr b off)
 | .eptr l path i off=>match s.list l with
  | some _=>k (.eptr l path i off)
  | none=>none
 | .fptr x n g off=>k (.fptr x n g off)
 | .bptr c off=>k (.bptr c off)
 | .fn f cs=>k (.fn f cs)
 | _=>none
def soK (d : DV) (k : DV→Option R) : Option R:=match d with
 | .gptr l path i off=>bd (PV.isInt i) λi=>k (.eptr l path i off)
 | d=>k d
def unOpK (op : UnOp) (x : DV) (k : DV→Option R) : Option R:=match op,x with
 | .not,.p v=>bd (PV.not v) λy=>k (.p y)
 | .neg,.p v=>bd (PV.neg v) λy=>k (.p y)
 | _,_=>none
def litsOf : List DV→Option (List PV)
 | []=>some []
 | .p v::r=>(litsOf r).map (v::·)
 | .fn f []::r=>(litsOf r).map (.fn f []::·)
 | _=>none
def indexK (t : Nat) (x i : DV) (k : DV→Option R) : Option R:=match (X.T.at t).d,x,i with
 | .str,.p v,.p j=>bd (PV.chr v j) λy=>k (.p y)
 | .array n e,.agg ds,.p j=>if Nat.beq (X.T.at e).size 1&&!(X.T.at e).isAgg then (match litsOf ds with
  | some cs=>bd (PV.ix n (.agg cs) j) λy=>k (.p y)
  | none=>none) else none
 | _,_,_=>none
def exec (o : Oper) (e : Env) (s : St) (k : Kont) : Option R:=
 let set:=λ(d : DV) (s : St)=>k (put o.dst d e) s
 match o.op with
 | .move x | .assign x=>moveK X o.dst o.type (ev X e x) e s set
 | .pick c a b=>pickK X (ev X e c) (ev X e a) (ev X e b) e s set
 | .alloc t=>allocK X t s λd s=>set d s
 | .box t x=>boxK X t (ev X e x) s λd s=>set d s
 | .build t ps=>buildTK X t (ps.toList.map λp=>(p.1,ev X e p.2)) λd=>set d s
 | .buildSlice t n ps=>buildSliceK X t n (ps.toList.map λp=>(p.1,ev X e p.2)) s set
 | .makeSlice t l c=>makeSliceK X t (ev X e l) (ev X e c) s set
 | .load t a=>soK (ev X e a) λa=>loadK X t a s λd=>set d s
 | .store t a x=>soK (ev X e a) λa=>storeLK X t a (ev X e x) e s λe s=>k (put o.dst .dead e) s
 | .nilCheck x=>soK (ev X e x) λx=>nilCheckK x s λd=>set d s
 | .binOp op t x y _=>binK X op t (ev X e x) (ev X e y) λd=>set d s
 | .unOp op _ x=>unOpK op (ev X e x) λd=>set d s
 | .convert a b x=>convK X a b (ev X e x) s λd=>set d s
 | .slice t x lo hi none=>sliceK X t (ev X e x) (lo.map (ev X e)) (hi.map (ev X e)) s λd=>set d s
 | .slice t x lo hi (some mx)=>noRoomK X t (ev X e x) (lo.map (ev X e)) (hi.map (ev X e)) (ev X e mx) s set
 | .fieldAddr t x f=>fieldAddrK X t (ev X e x) f s λd=>set d s
 | .field t x f=>fieldK X t (ev X e x) f λd=>set d s
 | .indexAddr t x i=>indexAddrK X t (ev X e x) (ev X e i) s λd=>set d s
 | .index t x i=>indexK X t (ev X e x) (ev X e i) λd=>set d s
 | .extract x i=>extractK (ev X e x) i λd=>set d s
 | .makeFunc (.func f) first caps=>if Nat.beq first.size 0 then set (.fn f (caps.toList.map (ev X e))) s else none
 | .call c=>match c.callee with
  | .value f=>applyK X O (ev X e f) (c.args.toList.map (ev X e)) c.argTypes.toList e s λd e s=>k (put o.dst d e) s
  | .builtin b=>builtinK X b c.argTypes.toList (c.args.toList.map (ev X e)) e s λd e s=>k (put o.dst d e) s
  | _=>none
 | _=>none
def guardDst : List Oper→Nat→Option Nat
 | [],_=>none
 | o::_,0=>o.dst
 | _::r,n+1=>guardDst r n
def soD (d : DV) : DV:=match d with
 | .gptr l path i off=>.eptr l path i off
 | d=>d
def rowFoot (d : DV) : Foot:=match d with
 | .ref l _ | .sref l _ _ _ | .eptr l _ _ _=>⟨[],[l],[],[],false,true⟩
 | .ptr b _=>⟨[b],[],[],[],false,true⟩
 | _=>.none
def isPlainL (s : St) (l : Nat) : Bool:=match s.list l with
 | some w=>w.o.plain
 | none=>true
def sunk (ds : List DV) : List Nat:=ds.flatMap (lsOf (deep+1))
def storeFoot (s : St) (a v : DV) : Foot:=match a with
 | .ptr b _=>⟨[b],sunk [v],[b],sunk [v],false,true⟩
 | .eptr l _ _ _=>⟨[],l::sunk [v],[],l::sunk [v],!isPlainL s l,true⟩
 | _=>.none
def moveFoot (d : DV) : Foot:=match d with
 | .sref l _ _ _=>⟨[],[l],[],[l],false,true⟩
 | _=>.none
def sunkFoot (ds : List DV) : Foot:=⟨[],sunk ds,[],sunk ds,false,true⟩
def callFoot (f : DV) (args : List DV) (s : St) : Foot:=match f with
 | .fn g caps=>match X.mode g with
  | some t=>{ deepFoot s (args++caps) (!t.lent) with last:=!t.lent&&t.keep}
  | none=>deepFoot s (args++caps) false
 | _=>deepFoot s args false
def builtinFoot (b : Builtin) (args : List DV) (s : St) : Foot:=match b with
 | .append | .copy=>sunkFoot args
 | .len=>match args with
  | [d]=>rowFoot d
  | _=>.none
 | _=>.none
def footOf (o : Oper) (e : Env) (s : St) : Foot:=match o.op with
 | .move x | .assign x=>moveFoot (ev X e x)
 | .load _ a=>rowFoot (soD (ev X e a))
 | .store _ a x=>storeFoot s (soD (ev X e a)) (ev X e x)
 | .indexAddr _ x _=>rowFoot (ev X e x)
 | .fieldAddr _ x _=>rowFoot (ev X e x)
 | .nilCheck x=>rowFoot (soD (ev X e x))
 | .slice _ x _ _ _=>rowFoot (ev X e x)
 | .convert _ _ x=>rowFoot (ev X e x)
 | .buildSlice _ _ ps=>sunkFoot (ps.toList.map λp=>ev X e p.2)
 | .call c=>match c.callee with
  | .value f=>callFoot X (ev X e f) (c.args.toList.map (ev X e)) s
  | .builtin b=>builtinFoot b (c.args.toList.map (ev X e)) s
  | _=>.none
 | _=>.none
def meet (a b : List Nat) : Bool:=a.any λx=>mem x b
def Foot.clash (a b : Foot) : Bool:=meet a.wb b.rb||meet a.rb b.wb||meet a.wb b.wb||meet a.wl b.rl||meet a.rl b.wl||meet a.wl b.wl||a.last||b.last
def Foot.names (f : Foot) (n : Nat) : Bool:=inR f.rb||inR f.rl||inR f.wb||inR f.wl
where
 inR (l : List Nat) : Bool:=l.any λx=>Nat.ble n x&&Nat.blt x (n+16)
def meets (base : Nat) (p q : Nat × Foot) : Bool:=p.2.clash q.2||q.2.names (base+16*p.1)||p.2.names (base+16*q.1)
def masks : List Oper→List Nat→List Nat
 | [],acc=>acc
 | o::r,acc=>masks r (acc++[o.after.toList.foldl (λb e=>if Region.binds .any e then b||| 2 ^ e.on||| acc.getD e.on 0 else b) 0])
def apartAll (ms : List Nat) (base : Nat) : List (Nat × Foot)→Bool
 | []=>true
 | (j,f)::r=>f.ok&&(r.all λp=>!meets base p (j,f)||(ms.getD j 0).testBit p.1)&&apartAll ms base r
def backOk : Nat→List Oper→Bool
 | _,[]=>true
 | j,o::r=>(o.after.toList.all λe=>!Region.binds .any e||Nat.blt e.on j)&&backOk (j+1) r
def tempsOk1 (ops : Array Oper) (y : Oper) (b : Nat) : Nat→List Oper→Bool
 | _,[]=>true
 | i,x::xs=>(x.apart ops y||b.testBit i)&&tempsOk1 ops y b (i+1) xs
def tempsOk (ops : Array Oper) (ms : List Nat) : Nat→List Oper→Bool
 | _,[]=>true
 | j,o::r=>tempsOk1 ops o (ms.getD j 0) 0 (ops.toList.take j)&&tempsOk ops ms (j+1) r
def stf (acc : List (Nat × Foot)) (k : List (Nat × Foot)→Option R) : Option R:=k acc
def execOps (ops : Array Oper) (draw : Bool) : Nat→List (Nat × Foot)→List Oper→Env→St→Kont→Option R
 | i,acc,[],e,s,k=>if draw&&!apartAll (masks ops.toList []) s.base acc then none else k e { s with base:=s.base+16*i,nb:=0,nl:=0}
 | i,acc,o::r,e,s,k=>
   let n:=s.base+16*i
   let one:=λ(e : Env)=>
    stf (if draw then (i,footOf X o e { s with nb:=n,nl:=n})::acc else []) λacc'=>
    exec X O o e { s with nb:=n,nl:=n} λe s'=>
     if Nat.ble s'.nb (n+16)&&Nat.ble s'.nl (n+16)&&Nat.beq s'.base s.base then stp e s' λe s'=>execOps ops draw (i+1) acc' r e s' k else none
   let skip:=λ(e : Env)=>execOps ops draw (i+1) (if draw then (i,Foot.none)::acc else []) r (put o.dst (.tup []) e) { s with nb:=n,nl:=n} k
   match o.guard with
   | none=>one e
   | some (j,want)=>match guardDst ops.toList j with
     | none=>none
     | some t=>match e.get t with
       | .p c=>PV.ite c
        (if want then one ((t,.p (.bool true))::e) else skip ((t,.p (.bool true))::e))
        (if want then skip ((t,.p (.bool false))::e) else one ((t,.p (.bool false))::e))
       | .tup []=>skip e
       | _=>none
def resultsK (e : Env) (s : St) : List ResultVar→(List DV→Option R)→Option R
 | [],k=>k []
 | .tmp t::r,k=>match e.get t with
  | .dead=>none
  | d=>resultsK e s r λds=>k (d::ds)
 | .cell a t::r,k=>loadK X t (e.get a) s λd=>resultsK e s r λds=>k (d::ds)
def oneOf : List DV→DV
 | [d]=>d
 | ds=>.tup ds
def leafs (s : St) : List DV→List DV→(List DV→St→Option R)→Option R
 | .p _::ts,d::ds,k=>sinkK s d λv s=>leafs s ts ds λds s=>k (.p v::ds) s
 | _::ts,d::ds,k=>leafs s ts ds λds s=>k (d::ds) s
 | _,ds,k=>k ds s
def partsOf : DV→List DV
 | .tup cs=>cs
 | d=>[d]
def finishK (e : Env) (s : St) : Option R:=
 resultsK X e s X.res λds=>
  match X.out with
  | none=>snapK s deep (oneOf ds) λv=>some [v]
  | some t=>leafs s (partsOf t.res) ds λds s=>
    let a:=seenAt X.nb X.nl s [oneOf ds]
    t.read (ren (idx · a.bs 0) (idx · a.ls 0) deep (oneOf ds)) (s.pick a)
def eval : Nat→Bool→List Item→Env→St→Option R
 | 0,_,_,_,_=>none
 | n+1,first,todo,e,s=>match todo with
   | []=>finishK X e s
   | .inBlock _::k=>eval n first k e s
   | .inScope _::k=>eval n first k e s
   | .inLoop body::k=>eval n first (.code body::.inLoop body::k) e s
   | .code c::k=>match c with
    | .ret=>finishK X e s
    | .skip=>eval n first k e s
    | .label _=>eval n first k e s
    | .seq a b=>eval n first (.code a::.code b::k) e s
    | .block id c=>eval n first (.code c::.inBlock id::k) e s
    | .loop c=>eval n first (.code c::.inLoop c::k) e s
    | .scope c=>eval n first (.code c::.inScope c::k) e s
    | .exit id=>match exitTo id k with
     | some k'=>eval n first k' e s
     | none=>none
    | .goto l=>match gotoIn l k with
     | some k'=>eval n first k' e s
     | none=>none
    | .cond c a b=>match ev X e c with
     | .nilq v neg=>PV.nilT v (eval n false (.code (if neg then b else a)::k) e s) (eval n false (.code (if neg then a else b)::k) e s)
     | .p v=>match c with
      | .tmp t=>PV.ite v (eval n false (.code a::k) ((t,.p (.bool true))::e) s) (eval n false (.code b::k) ((t,.p (.bool false))::e) s)
      | _=>PV.ite v (eval n false (.code a::k) e s) (eval n false (.code b::k) e s)
     | _=>none
    | .region id ops draw=>frzK (X.frz id) e s λe s=>match first,X.cut id with
     | false,some keep=>
       let a:=seenAt X.nb X.nl s (rootsOf e keep)
       O.L todo (keepEnv e (idx · a.bs 0) (idx · a.ls 0) keep) (s.pick a)
     | _,_=>execOps X O ops draw 0 [] ops.toList e s λe s=>eval n false k e s
    | _=>none
   | _=>none
end
def regOk (n : Nat) (ops : Array Oper) (draw : Bool) : Bool:=
 (ops.toList.all λo=>match o.dst with | some t=>Nat.blt t n | none=>true)&&
 (!draw||(backOk 0 ops.toList&&tempsOk ops (masks ops.toList []) 0 ops.toList))
def codeOk (n : Nat) : Code→Bool
 | .seq a b=>codeOk n a&&codeOk n b
 | .cond _ a b=>codeOk n a&&codeOk n b
 | .block _ b=>codeOk n b
 | .loop b=>codeOk n b
 | .scope b=>codeOk n b
 | .region _ ops d=>regOk n ops d
 | _=>true
def evalFuel : Nat:=2000
def cxOf (P : Program) (T : Tab) (H : Hints) (f nb nl : Nat) (out : Option Tmpl) : Cx:=
 { T,res:=((P.funcs[f]?).map (·.results.toList)).getD [],cut:=H.cut f,frz:=H.frz f,mode:=H.mode,own:=H.own f,glob:=H.glob,zok:=H.zok,out,nb,nl}
def bodyOf (P : Program) (f : Nat) : Option Code:=(P.funcs[f]?).bind (·.body)
def lk {α : Type} (n : Nat) : List (Nat × α)→Option α
 | []=>none
 | (m,a)::r=>if Nat.beq n m then some a else lk n r
def bs (l : List UInt8) : ByteArray:=⟨⟨l⟩⟩
def todoAt (rid : Nat) : Code→List Item→Option (List Item)
 | .region id ops d,k=>if Nat.beq id rid then some (.code (.region id ops d)::k) else none
 | .seq a b,k=>match todoAt rid a (.code b::k) with
  | some t=>some t
  | none=>todoAt rid b k
 | .cond _ a b,k=>match todoAt rid a k with
  | some t=>some t
  | none=>todoAt rid b k
 | .block id b,k=>todoAt rid b (.inBlock id::k)
 | .loop b,k=>todoAt rid b (.inLoop b::k)
 | .scope b,k=>todoAt rid b (.inScope b::k)
 | _,_=>none
def todoOf (P : Program) (f rid : Nat) : List Item:=match bodyOf P f with
 | some c=>(todoAt rid c []).getD []
 | none=>[]
def startOf (P : Program) (f : Nat) : List Item:=match bodyOf P f with
 | some c=>[.code c]
 | none=>[.code (.refuse "")]
def argEnv : Nat→List DV→Env
 | _,[]=>[]
 | n,d::r=>(n,d)::argEnv (n+1) r
def orcOf (P : Program) (H : Hints) (run : Nat→Nat→Nat→Option Tmpl→List Item→Env→St→Option R) (f nb nl : Nat) (out : Option Tmpl) : Orc:=
 { L:=run f nb nl out
   C:=λg args=>match H.prim g with
    | some h=>h args
    | none=>run g 0 0 none (startOf P g) (argEnv 0 (args.map .p)) ⟨[],[],0,0,0⟩
   S:=λg args s=>match H.mode g with
    | some t=>(match H.primS g with
      | some h=>h args s
      | none=>run g s.boxes.length (if t.keep then s.lists.length else 0) (some (t.fit s)) (startOf P g) (argEnv 0 args) s)
    | none=>none}
def runN (P : Program) (T : Tab) (H : Hints) : Nat→Nat→Nat→Nat→Option Tmpl→List Item→Env→St→Option R
 | 0,_,_,_,_,_,_,_=>none
 | n+1,f,nb,nl,out,todo,e,s=>eval (cxOf P T H f nb nl out) (orcOf P H (runN P T H n) f nb nl out) evalFuel true todo e s
end
noncomputable section
open Go Go.IntWalk
def Ok (P : R→Prop) (o : Option R) : Prop:=∃ r,o=some r∧P r
section
variable {P Q : R → Prop}
theorem Ok.eq {r : R} {o : Option R} (h : Ok (λx=>x=r) o) : o=some r:=by
 obtain ⟨x,h1,rfl⟩:=h
 exact h1
theorem Ok.of {r : R} {o : Option R} (h : o=some r) : Ok (λx=>x=r) o:=⟨r,h,rfl⟩
theorem Ok.mono {o : Option R} (h : Ok Q o) (hq : ∀ r,Q r→P r) : Ok P o:=by
 obtain ⟨x,h1,h2⟩:=h
 exact ⟨x,h1,hq x h2⟩
theorem aB {r : R} (h : P r) : Ok P (some r):=⟨r,rfl,h⟩
theorem dO {α : Type} {o : Option α} {k : α→Option R} (a : α) (h : o=some a) (hk : Ok P (k a)) : Ok P (bd o k):=by rw [h];exact hk
theorem aI {o : Option R} {k : R→Option R} (h : Ok Q o) (hk : ∀ r,Q r→Ok P (k r)) : Ok P (bd o k):=by
 obtain ⟨r,h1,h2⟩:=h
 rw [h1]
 exact hk r h2
theorem aD {p : Prop} [Decidable p] {x y : Option R} (h1 : p→Ok P x) (h2 : ¬ p→Ok P y) : Ok P (PV.ite (.bool (decide p)) x y):=by
 by_cases h : p
 ·rw [decide_eq_true h];exact h1 h
 ·rw [decide_eq_false h];exact h2 h
theorem bA {p : Prop} [Decidable p] {x y : Option R} (h1 : ¬ p→Ok P x) (h2 : p→Ok P y) : Ok P (PV.ite (.bool (!decide p)) x y):=by
 by_cases h : p
 ·rw [decide_eq_true h];exact h2 h
 ·rw [decide_eq_false h];exact h1 h
theorem aS {b : Bool} {x y : Option R} (h1 : b=true→Ok P x) (h2 : b=false→Ok P y) : Ok P (PV.ite (.bool b) x y):=by
 cases b
 ·exact h2 rfl
 ·exact h1 rfl
theorem eE {x y : Option R} (h1 : Ok P x) : Ok P (PV.ite (.bool true) x y):=h1
theorem bU {x y : Option R} (h1 : Ok P y) : Ok P (PV.ite (.bool false) x y):=h1
variable {k : PV → Option R} {kk : IntKind} {a b : Int}
theorem gW {op : BinOp} (h1 : op≠.shl) (h2 : op≠.shr) : PV.bin op (.int kk a) (.int kk b)=PV.intBin op kk a b:=by
 cases op<;>simp [PV.bin]<;>first | exact absurd rfl h1 | exact absurd rfl h2
theorem aM (h : Ok P (k (.bool (decide (a<b))))) : Ok P (bd (PV.bin .lss (.int kk a) (.int kk b)) k):=dO _ (by rw [gW (by simp) (by simp)];rfl) h
theorem cE (h : Ok P (k (.bool (decide (a≤b))))) : Ok P (bd (PV.bin .leq (.int kk a) (.int kk b)) k):=dO _ (by rw [gW (by simp) (by simp)];rfl) h
theorem cG (h : Ok P (k (.bool (decide (b<a))))) : Ok P (bd (PV.bin .gtr (.int kk a) (.int kk b)) k):=dO _ (by rw [gW (by simp) (by simp)];rfl) h
theorem dA (h : Ok P (k (.bool (decide (b≤a))))) : Ok P (bd (PV.bin .geq (.int kk a) (.int kk b)) k):=dO _ (by rw [gW (by simp) (by simp)];rfl) h
theorem aP (h : Ok P (k (.bool (decide (a=b))))) : Ok P (bd (PV.bin .eql (.int kk a) (.int kk b)) k):=dO _ (by rw [gW (by simp) (by simp)];rfl) h
theorem dB (h : Ok P (k (.bool (!decide (a=b))))) : Ok P (bd (PV.bin .neq (.int kk a) (.int kk b)) k):=dO _ (by rw [gW (by simp) (by simp)];rfl) h
theorem aK (hr : -9223372036854775808≤a+b∧a+b≤9223372036854775807) (h : Ok P (k (.int .i64 (a+b)))) : Ok P (bd (PV.bin .add (.int .i64 a) (.int .i64 b)) k):=
 dO _ (by rw [gW (by simp) (by simp)];simp only [PV.intBin];rw [i64_in _ hr]) h
theorem bO (hr : -9223372036854775808≤a - b∧a - b≤9223372036854775807) (h : Ok P (k (.int .i64 (a - b)))) : Ok P (bd (PV.bin .sub (.int .i64 a) (.int .i64 b)) k):=
 dO _ (by rw [gW (by simp) (by simp)];simp only [PV.intBin];rw [i64_in _ hr]) h
theorem gG (hr : -9223372036854775808≤a*b∧a*b≤9223372036854775807) (h : Ok P (k (.int .i64 (a*b)))) : Ok P (bd (PV.bin .mul (.int .i64 a) (.int .i64 b)) k):=
 dO _ (by rw [gW (by simp) (by simp)];simp only [PV.intBin];rw [i64_in _ hr]) h
theorem fV (h0 : 0≤a) (hb : 0<b) (h : Ok P (k (.int kk (a % b)))) : Ok P (bd (PV.bin .rem (.int kk a) (.int kk b)) k):=
 dO _ (by rw [gW (by simp) (by simp)];simp only [PV.intBin];rw [if_neg (by omega),Int.tmod_eq_emod_of_nonneg h0]) h
theorem gH (h0 : 0≤a) (hb : 0<b) (hr : a≤9223372036854775807) (h : Ok P (k (.int .i64 (a / b)))) : Ok P (bd (PV.bin .quo (.int .i64 a) (.int .i64 b)) k):=
 dO _ (by rw [gW (by simp) (by simp)];simp only [PV.intBin];rw [if_neg (by omega),i64_quo _ _ ⟨h0,hr,by omega⟩]) h
theorem gI (hr : -9223372036854775808≤0 - a∧0 - a≤9223372036854775807) (h : Ok P (k (.int .i64 (0 - a)))) : Ok P (bd (PV.neg (.int .i64 a)) k):=
 dO _ (by simp only [PV.neg];rw [i64_in _ hr]) h
theorem bB {x : Bool} (h : Ok P (k (.bool (!x)))) : Ok P (bd (PV.not (.bool x)) k):=h
theorem aBi {x y : Bool} (h : Ok P (k (.bool (!(x==y))))) : Ok P (bd (PV.beq .neq (.bool x) (.bool y)) k):=h
theorem cT {xs : List PV} (h : Ok P (k (.int .i64 xs.length))) : Ok P (bd (PV.len (.lst xs)) k):=h
theorem dF {s : ByteArray} (h : Ok P (k (.int .i64 s.size))) : Ok P (bd (PV.slen (.str s)) k):=h
theorem fP (hr : -9223372036854775808≤a∧a≤9223372036854775807) (h : Ok P (k (.int .i64 a))) : Ok P (bd (PV.conv .i64 (.int kk a)) k):=dO _ (by simp only [PV.conv];rw [i64_in _ hr]) h
theorem aIJ {s : Nat} {g : Bool} {xs : List PV} {i : Int} (h0 : 0≤i) (h1 : i<xs.length) (he : ∀ x∈xs,x.isEl s g=true) : ∃ x,x∈xs∧xs[i.toNat]? = some x∧PV.at_ s g (.lst xs) (.int kk i)=some x:=by
 have hlt : i.toNat<xs.length:=by omega
 refine ⟨xs[i.toNat],List.getElem_mem _,List.getElem?_eq_getElem hlt,?_⟩
 simp only [PV.at_]
 rw [if_pos h0,List.getElem?_eq_getElem hlt]
 simp only
 rw [if_pos (he _ (List.getElem_mem _))]
theorem tD {s : Nat} {g : Bool} {xs : List PV} {i : Int} (h0 : 0≤i) (h1 : i<xs.length) (he : ∀ x∈xs,x.isEl s g=true) (h : ∀ x,x∈xs→xs[i.toNat]? = some x→Ok P (k x)) :
 Ok P (bd (PV.at_ s g (.lst xs) (.int kk i)) k):=by
 obtain ⟨x,h2,h3,h4⟩:=aIJ (kk:=kk) h0 h1 he
 exact dO x h4 (h x h2 h3)
theorem cB {xs : List PV} {i : Int} (h0 : 0≤i) (h1 : i<xs.length) (h : Ok P (k (.lst xs))) : Ok P (bd (PV.inb (.lst xs) (.int kk i)) k):=
 dO _ (by simp only [PV.inb];rw [if_pos ⟨h0,h1⟩]) h
theorem nW {s e : Nat} {g : Bool} {xs ys : List PV} (hb : (xs.length+ys.length)*e≤140737488355328) (he : ∀ x∈ys,x.isEl s g=true) (h : Ok P (k (.lst (xs++ys)))) : Ok P (bd (PV.cat s e g (.lst xs) (.lst ys)) k):=
 dO _ (by
  simp only [PV.cat,PV.elems]
  rw [if_pos ⟨hb,List.all_eq_true.2 he⟩]) h
theorem aDF {s : Nat} {g : Bool} {xs : List PV} {m n : Int} {k1 k2 : IntKind} (h0 : 0≤m) (h1 : m≤n) (h2 : n≤xs.length) (he : ∀ x∈xs,x.isEl s g=true) (h : Ok P (k (.lst ((xs.take n.toNat).drop m.toNat)))) :
 Ok P (bd (PV.cut s g (.lst xs) (.int k1 m) (.int k2 n)) k):=
 dO _ (by
  have hh : PV.headIs s g xs=true:=by
   cases xs with
   | nil=>rfl
   | cons x r=>exact he x List.mem_cons_self
  simp only [PV.cut,hh,if_true,PV.bound]
  rw [if_pos ⟨by omega,h2⟩,Option.bind_some,if_pos ⟨h0,by omega⟩,Option.bind_some]) h
theorem fQ {s : Nat} {xs cs : List PV} {i : Int} {off : Nat} {v : PV} (h0 : 0≤i) (hx : xs[i.toNat]? = some (.agg cs)) (hc : cs.length=s) (ho : off<s) (hv : v.isEl 1 false=true) (h : Ok P (k (.lst (xs.set i.toNat (.agg (cs.set off v)))))) :
 Ok P (bd (PV.setCell s (.lst xs) (.int kk i) off v) k):=
 dO _ (by
  simp only [PV.setCell]
  rw [if_pos h0,hx]
  simp only
  rw [if_pos ⟨hc,ho,hv⟩]) h
theorem aBj {s : Nat} {g : Bool} {xs : List PV} {i : Int} {v : PV} (h0 : 0≤i) (h1 : i<xs.length) (hv : v.isEl s g=true) (h : Ok P (k (.lst (xs.set i.toNat v)))) :
 Ok P (bd (PV.setAt s g (.lst xs) (.int kk i) v) k):=
 dO _ (by simp only [PV.setAt];rw [if_pos ⟨h0,h1,hv⟩]) h
theorem bI {x : PV} (hx : x.isEl 1 false=true) (h : Ok P (k x)) : Ok P (bd (PV.one x) k):=dO x (by simp only [PV.one];rw [if_pos hx]) h
theorem aA {cs : List PV} {j : Nat} {y : PV} (hy : cs[j]? = some y) (h : Ok P (k y)) : Ok P (bd (PV.cell (.agg cs) j) k):=dO y hy h
theorem bQ {cs : List PV} {j : Nat} {y : PV} (hy : cs[j]? = some y) (h : Ok P (k y)) : Ok P (bd (PV.comp (.tup cs) j) k):=dO y hy h
theorem aG {cs : List PV} {n : Nat} (hy : cs.length=n) (h : Ok P (k (.agg cs))) : Ok P (bd (PV.whole n (.agg cs)) k):=dO _ (by simp only [PV.whole];rw [if_pos (by rw [hy];exact Nat.beq_refl n)]) h
theorem jY {r : PV} {o : Option R} (hf : r.flat=true) (h : Ok P o) : Ok P (PV.guardFlat r o):=by
 unfold PV.guardFlat;rw [if_pos hf];exact h
theorem dH {t : OTy} {r : PV} {o : Option R} (hf : PV.flatO t r=true) (h : Ok P o) : Ok P (PV.guardOwn t r o):=by
 unfold PV.guardOwn;rw [if_pos hf];exact h
theorem aBk {C : Nat→List PV→Option R} {kr : R→Option R} {f : Nat} {caps args : List PV} {o : Option R} (e : C f (args++caps)=o) (h : Ok Q o) (hk : ∀ r,Q r→Ok P (kr r)) : Ok P (bd (PV.apply C (.fn f caps) args) kr):=by
 refine aI (Q:=Q) ?_ hk
 show Ok Q (C f (args++caps))
 rw [e]
 exact h
theorem nX {cs : List PV} {j : Nat} {y : PV} (hy : cs[j]? = some y) (h : Ok P (k y)) : Ok P (bd (PV.deref (.bx cs) j) k):=dO y hy h
def aZ (l : List Int) : PV:=.lst (l.map (PV.int .u8))
theorem aHV {l : List Int} : ∀ x∈l.map (PV.int .u8),x.isEl 1 false=true:=by
 intro x hx
 obtain ⟨a,_,rfl⟩:=List.mem_map.1 hx
 rfl
theorem bF {l : List Int} (h : Ok P (k (.int .i64 l.length))) : Ok P (bd (PV.len (aZ l)) k):=by
 refine dO _ ?_ h
 show some (PV.int .i64 ((l.map (PV.int .u8)).length : Int))=_
 rw [List.length_map]
theorem xT {s e : Nat} {g : Bool} {ys : List PV} (hb : ys.length*e≤140737488355328) (he : ∀ x∈ys,x.isEl s g=true) (h : Ok P (k (.lst ys))) : Ok P (bd (PV.cat s e g (.lst []) (.lst ys)) k):=
 nW (by simpa using hb) he h
theorem aAr {l : List Int} {i : Int} (h0 : 0≤i) (h1 : i<l.length) (h : ∀ x,x∈l→l[i.toNat]? = some x→Ok P (k (.int .u8 x))) : Ok P (bd (PV.at_ 1 false (aZ l) (.int kk i)) k):=by
 refine tD h0 (by rw [List.length_map];exact h1) aHV (λx hx hi=>?_)
 rw [List.getElem?_map] at hi
 cases hl : l[i.toNat]? with
 | none=>rw [hl] at hi;cases hi
 | some y=>
   rw [hl] at hi
   cases hi
   exact h y (List.mem_of_getElem? hl) hl
theorem aFv {s : Nat} {g : Bool} {xs : List PV} {i : Int} {x : PV} (h0 : 0≤i) (hx : xs[i.toNat]? = some x) (he : x.isEl s g=true) (h : Ok P (k x)) : Ok P (bd (PV.at_ s g (.lst xs) (.int kk i)) k):=
 dO x (by simp only [PV.at_];rw [if_pos h0,hx];simp only;rw [if_pos he]) h
end
end
noncomputable section
open Go
def T : Tab:=[
 some ⟨.other,1,0,true⟩,
 some ⟨.func,1,8,true⟩,
 some ⟨(.int .i64),1,8,true⟩,
 some ⟨(.int .i64),1,8,true⟩,
 some ⟨.bool,1,1,true⟩,
 some ⟨(.int .u8),1,1,true⟩,
 some ⟨(.int .u8),1,1,true⟩,
 some ⟨(.struct [(0,2),(1,3),(2,4),(3,6)]),4,24,true⟩,
 some ⟨(.struct [(0,2),(1,3),(2,4),(3,6)]),4,24,true⟩,
 some ⟨.str,1,16,true⟩,
 some ⟨.str,1,16,true⟩,
 some ⟨.str,1,16,true⟩,
 some ⟨(.int .u64),1,8,true⟩,
 some ⟨(.struct [(0,9),(1,12)]),2,24,false⟩,
 some ⟨(.struct [(0,9),(1,12)]),2,24,false⟩,
 some ⟨.ptr,1,8,true⟩,
 some ⟨.ptr,1,8,true⟩,
 some ⟨.ptr,1,8,true⟩,
 some ⟨(.struct [(0,17)]),1,8,false⟩,
 some ⟨(.struct [(0,17)]),1,8,false⟩,
 some ⟨.other,1,16,true⟩,
 some ⟨(.int .i32),1,4,true⟩,
 some ⟨(.slice 5),1,24,true⟩,
 some ⟨.func,1,8,true⟩,
 some ⟨(.slice 9),1,24,true⟩,
 some ⟨(.slice 36),1,24,true⟩,
 some ⟨(.struct [(0,24),(1,25)]),2,48,true⟩,
 some ⟨(.struct [(0,24),(1,25)]),2,48,true⟩,
 some ⟨.other,1,0,true⟩,
 some ⟨.func,1,8,true⟩,
 some ⟨(.slice 3),1,24,true⟩,
 some ⟨.func,1,8,true⟩,
 some ⟨.func,1,8,true⟩,
 some ⟨.func,1,8,true⟩,
 some ⟨(.slice 39),1,24,true⟩,
 some ⟨(.struct [(0,3),(1,3),(2,34)]),3,40,true⟩,
 some ⟨(.struct [(0,3),(1,3),(2,34)]),3,40,true⟩,
 some ⟨.func,1,8,true⟩,
 some ⟨(.struct [(0,3),(1,3)]),2,16,true⟩,
 some ⟨(.struct [(0,3),(1,3)]),2,16,true⟩,
 some ⟨(.slice 67),1,24,true⟩,
 some ⟨.other,1,0,true⟩,
 some ⟨.func,1,8,true⟩,
 some ⟨.func,1,8,true⟩,
 some ⟨.func,1,8,true⟩,
 some ⟨.func,1,8,true⟩,
 some ⟨(.slice 83),1,24,true⟩,
 some ⟨(.slice 81),1,24,true⟩,
 some ⟨(.struct [(0,3),(1,3),(2,9)]),3,32,true⟩,
 some ⟨(.struct [(0,3),(1,3),(2,9)]),3,32,true⟩,
 some ⟨(.struct [(0,46),(1,47),(2,3),(3,24),(4,3),(5,3),(6,49),(9,3)]),10,136,true⟩,
 some ⟨(.struct [(0,46),(1,47),(2,3),(3,24),(4,3),(5,3),(6,49),(9,3)]),10,136,true⟩,
 some ⟨.other,1,0,true⟩,
 some ⟨.func,1,8,true⟩,
 some ⟨.func,1,8,true⟩,
 some ⟨.func,1,8,true⟩,
 some ⟨.func,1,8,true⟩,
 some ⟨.func,1,8,true⟩,
 some ⟨.ptr,1,8,true⟩,
 some ⟨.func,1,8,true⟩,
 some ⟨.func,1,8,true⟩,
 some ⟨.func,1,8,true⟩,
 some ⟨.func,1,8,true⟩,
 some ⟨.func,1,8,true⟩,
 some ⟨.func,1,8,true⟩,
 some ⟨.func,1,8,true⟩,
 some ⟨(.struct [(0,3),(1,3),(2,3),(3,3)]),4,32,true⟩,
 some ⟨(.struct [(0,3),(1,3),(2,3),(3,3)]),4,32,true⟩,
 some ⟨.other,1,0,true⟩,
 some ⟨.func,1,8,true⟩,
 some ⟨.func,1,8,true⟩,
 some ⟨.func,1,8,true⟩,
 some ⟨.func,1,8,true⟩,
 some ⟨.func,1,8,true⟩,
 some ⟨.func,1,8,true⟩,
 some ⟨.func,1,8,true⟩,
 some ⟨.func,1,8,true⟩,
 some ⟨.func,1,8,true⟩,
 some ⟨.func,1,8,true⟩,
 some ⟨(.slice 49),1,24,true⟩,
 some ⟨(.struct [(0,79)]),1,24,true⟩,
 some ⟨(.struct [(0,79)]),1,24,true⟩,
 some ⟨(.struct [(0,3),(1,3),(2,79),(3,79)]),4,64,true⟩,
 some ⟨(.struct [(0,3),(1,3),(2,79),(3,79)]),4,64,true⟩,
 some ⟨.func,1,8,true⟩,
 some ⟨(.slice 30),1,24,true⟩,
 some ⟨.func,1,8,true⟩,
 some ⟨.func,1,8,true⟩,
 some ⟨.func,1,8,true⟩,
 some ⟨.func,1,8,true⟩,
 some ⟨.func,1,8,true⟩,
 some ⟨.func,1,8,true⟩,
 some ⟨.func,1,8,true⟩,
 some ⟨.ptr,1,8,true⟩,
 some ⟨(.struct [(0,47),(1,30),(2,30)]),3,72,true⟩,
 some ⟨(.struct [(0,47),(1,30),(2,30)]),3,72,true⟩,
 some ⟨.func,1,8,true⟩,
 some ⟨.func,1,8,true⟩,
 some ⟨(.struct [(0,22),(1,3),(2,3)]),3,40,true⟩,
 some ⟨(.struct [(0,22),(1,3),(2,3)]),3,40,true⟩,
 some ⟨.func,1,8,true⟩,
 some ⟨.func,1,8,true⟩,
 some ⟨.func,1,8,true⟩,
 some ⟨.func,1,8,true⟩,
 some ⟨(.slice 4),1,24,true⟩,
 some ⟨.func,1,8,true⟩,
 some ⟨.func,1,8,true⟩,
 some ⟨.func,1,8,true⟩,
 some ⟨.func,1,8,true⟩,
 some ⟨.func,1,8,true⟩,
 some ⟨.func,1,8,true⟩,
 some ⟨.func,1,8,true⟩,
 some ⟨.func,1,8,true⟩,
 some ⟨.func,1,8,true⟩,
 some ⟨.func,1,8,true⟩,
 some ⟨.func,1,8,true⟩,
 some ⟨.func,1,8,true⟩,
 some ⟨.func,1,8,true⟩,
 some ⟨(.int .u64),1,8,true⟩,
 some ⟨.func,1,8,true⟩,
 some ⟨.func,1,8,true⟩,
 some ⟨.func,1,8,true⟩,
 some ⟨.func,1,8,true⟩,
 some ⟨.func,1,8,true⟩,
 some ⟨(.struct [(0,3),(1,3),(2,3)]),3,24,true⟩,
 some ⟨(.struct [(0,3),(1,3),(2,3)]),3,24,true⟩,
 some ⟨.func,1,8,true⟩,
 some ⟨.func,1,8,true⟩,
 some ⟨.func,1,8,true⟩,
 some ⟨.func,1,8,true⟩,
 some ⟨.func,1,8,true⟩,
 some ⟨.func,1,8,true⟩,
 some ⟨.func,1,8,true⟩,
 some ⟨.func,1,8,true⟩,
 some ⟨.func,1,8,true⟩,
 some ⟨.func,1,8,true⟩,
 some ⟨.func,1,8,true⟩,
 some ⟨.func,1,8,true⟩,
 some ⟨.func,1,8,true⟩,
 some ⟨.func,1,8,true⟩,
 some ⟨.func,1,8,true⟩,
 some ⟨.func,1,8,true⟩,
 some ⟨.func,1,8,true⟩,
 some ⟨.func,1,8,true⟩,
 some ⟨.func,1,8,true⟩,
 some ⟨.func,1,8,true⟩,
 some ⟨.func,1,8,true⟩,
 some ⟨.func,1,8,true⟩,
 some ⟨.other,1,0,true⟩,
 some ⟨.func,1,8,true⟩,
 some ⟨.func,1,8,true⟩,
 some ⟨.func,1,8,true⟩,
 some ⟨.other,1,0,true⟩,
 some ⟨.func,1,8,true⟩,
 some ⟨.func,1,8,true⟩,
 some ⟨.other,1,0,true⟩,
 some ⟨.func,1,8,true⟩,
 some ⟨.func,1,8,true⟩,
 some ⟨.func,1,8,true⟩,
 some ⟨.func,1,8,true⟩,
 some ⟨.other,1,0,true⟩,
 some ⟨.func,1,8,true⟩,
 some ⟨.func,1,8,true⟩,
 some ⟨.func,1,8,true⟩,
 some ⟨.func,1,8,true⟩,
 some ⟨.func,1,8,true⟩,
 some ⟨.func,1,8,true⟩,
 some ⟨.func,1,8,true⟩,
 some ⟨.func,1,8,true⟩,
 some ⟨.func,1,8,true⟩,
 some ⟨.func,1,8,true⟩,
 some ⟨(.int .u32),1,4,true⟩,
 some ⟨.other,1,0,true⟩,
 some ⟨.func,1,8,true⟩,
 some ⟨(.int .u64),1,8,true⟩,
 some ⟨.other,1,0,true⟩,
 some ⟨.func,1,8,true⟩,
 some ⟨.ptr,1,8,true⟩,
 some ⟨(.struct [(0,58),(1,34),(2,25),(3,3),(4,3),(5,4)]),6,80,true⟩,
 some ⟨(.struct [(0,58),(1,34),(2,25),(3,3),(4,3),(5,4)]),6,80,true⟩,
 some ⟨.func,1,8,true⟩,
 some ⟨.func,1,8,true⟩,
 some ⟨.func,1,8,true⟩,
 some ⟨.other,1,0,true⟩,
 some ⟨.func,1,8,true⟩,
 some ⟨.func,1,8,true⟩,
 some ⟨.ptr,1,8,true⟩,
 some ⟨(.struct [(0,27),(2,51),(12,3)]),13,192,true⟩,
 some ⟨(.struct [(0,27),(2,51),(12,3)]),13,192,true⟩,
 some ⟨.ptr,1,8,true⟩,
 some ⟨.func,1,8,true⟩,
 some ⟨.func,1,8,true⟩,
 some ⟨.func,1,8,true⟩,
 some ⟨.func,1,8,true⟩,
 some ⟨.func,1,8,true⟩,
 some ⟨.func,1,8,true⟩,
 some ⟨(.slice 79),1,24,true⟩,
 some ⟨.func,1,8,true⟩,
 some ⟨.func,1,8,true⟩,
 some ⟨(.int .i64),1,8,true⟩,
 some ⟨.other,1,0,true⟩,
 some ⟨.func,1,8,true⟩,
 some ⟨.func,1,8,true⟩,
 some ⟨.func,1,8,true⟩,
 some ⟨.func,1,8,true⟩,
 some ⟨.func,1,8,true⟩,
 some ⟨.func,1,8,true⟩,
 some ⟨.func,1,8,true⟩,
 some ⟨.other,1,0,true⟩,
 some ⟨.func,1,8,true⟩,
 some ⟨.func,1,8,true⟩,
 some ⟨.func,1,8,true⟩,
 some ⟨.func,1,8,true⟩,
 some ⟨(.int .u64),1,8,true⟩,
 some ⟨.func,1,8,true⟩,
 some ⟨.func,1,8,true⟩,
 some ⟨.func,1,8,true⟩,
 some ⟨.ptr,1,8,true⟩,
 some ⟨.func,1,8,true⟩,
 some ⟨.func,1,8,true⟩,
 some ⟨.func,1,8,true⟩,
 some ⟨.func,1,8,true⟩,
 some ⟨.ptr,1,8,true⟩,
 some ⟨.func,1,8,true⟩,
 some ⟨.func,1,8,true⟩,
 some ⟨.func,1,8,true⟩,
 some ⟨(.struct [(0,17),(1,17),(2,17),(3,9)]),4,40,false⟩,
 some ⟨(.struct [(0,17),(1,17),(2,17),(3,9)]),4,40,false⟩,
 some ⟨(.array 0 16),0,0,true⟩,
 some ⟨(.struct [(0,228)]),0,0,false⟩,
 some ⟨(.struct [(0,228)]),0,0,false⟩,
 some ⟨(.int .u8),1,1,true⟩,
 some ⟨(.int .u8),1,1,true⟩,
 some ⟨.func,1,8,true⟩,
 some ⟨.ptr,1,8,true⟩,
 some ⟨(.int .i32),1,4,true⟩,
 some ⟨(.int .i32),1,4,true⟩,
 some ⟨(.struct [(0,12),(1,12),(2,171),(3,231),(4,5),(5,5),(6,232),(7,233),(8,234),(9,235),(10,236)]),11,48,false⟩,
 some ⟨(.struct [(0,12),(1,12),(2,171),(3,231),(4,5),(5,5),(6,232),(7,233),(8,234),(9,235),(10,236)]),11,48,false⟩,
 some ⟨.other,1,8,true⟩]
set_option maxRecDepth 100000 in
theorem aJp : tabOf Tryz.prog=T:=by kernel_rfl
def aJy : List (Nat × List (Nat × List Nat)):=[
 (3,[(14,[5,6,7,8,9,10]),(19,[5,6,7,8,9,11])]),
 (12,[(4,[0,1,5])]),
 (19,[(2,[0,1,5])]),
 (21,[(5,[3,7,24,25,26])]),
 (22,[(4,[0,1,5])]),
 (23,[(5,[2,3,7,8])]),
 (27,[(4,[2,3,5]),(9,[2,3,6])]),
 (34,[(5,[3,4,5,6]),(9,[3,4,5,7]),(15,[3,4,5,8]),(21,[3,4,5,9,10,11]),(29,[3,4,5,9,12,13]),(34,[3,4,9,12,14])]),
 (38,[(3,[5,6,18,19,20])]),
 (39,[(3,[5,6,18,19,20]),(6,[5,6,8,18,19,20])]),
 (42,[(6,[5,6,7,8])]),
 (43,[(5,[5,6,7,8]),(9,[5,6,7,8])]),
 (45,[(3,[5,16,17,18])]),
 (47,[(4,[1,22,23,24])]),
 (49,[(5,[2,5,6,7]),(8,[2,5,6,7,27,28,29]),(13,[2,5,6,7,10,11,27,28,29,51,52,53]),(16,[2,5,6,10,11,13,27,28,29,51,52,53])]),
 (51,[(4,[0,2,4,7]),(19,[0,2,7]),(6,[0,2,4,7,8]),(9,[0,2,4,7,8,9])]),
 (52,[(2,[1,2,7,8,9])]),
 (54,[(3,[0,2,4,8,9,10])]),
 (59,[(4,[1,3,5,7,8,9]),(7,[1,3,5,7,9]),(9,[1,3,5,7,8,9]),(10,[1,3,5,7,9])]),
 (61,[(6,[0,6,7])]),
 (62,[(8,[3,4,5,6,7,8,9]),(12,[3,4,5,6,7,8,10]),(16,[3,4,7,8,11])]),
 (64,[(4,[0,1,5])]),
 (65,[(4,[0,1,5])]),
 (66,[(3,[1,2,3,4]),(8,[1,2,3,5,6]),(15,[1,2,3,5,9])]),
 (68,[(5,[2,3,5,6]),(10,[2,3,5,7]),(21,[2,3,5,8])]),
 (69,[(8,[1,3,5,7,43,44,45])]),
 (70,[(3,[1,3,8,9])]),
 (72,[(5,[2,4,5,6,18,19,20]),(10,[2,4,5,6,39,40,41]),(16,[2,4,5,6,55,56,57])]),
 (75,[(4,[1,3,4,11,12,13]),(11,[1,3,4,7])]),
 (76,[(3,[0,1,5,6])]),
 (77,[(6,[0,3,4])]),
 (78,[(3,[1,2,3,4])]),
 (79,[(9,[0,1,5])]),
 (83,[(4,[2,5,6,7]),(9,[2,5,6,8]),(12,[2,5,6,8,9]),(19,[2,5,6,8,9,12,13,14]),(22,[2,5,6,9,12,13,14])]),
 (84,[(3,[0,3,4])]),
 (88,[(2,[0,5,6])]),
 (92,[(3,[0,1]),(6,[0,6]),(8,[7,8])]),
 (98,[(6,[2,3,7,8,10])]),
 (99,[(3,[0,3,5,6])]),
 (101,[(5,[2,3]),(6,[3,5])]),
 (102,[(3,[3,6,7,8])]),
 (106,[(4,[1,2,5]),(13,[1,2,5,6]),(15,[1,2,5,6,7])]),
 (109,[(4,[1,2,16,17]),(8,[1,2,3,4,16,17,28,29,30])]),
 (110,[(5,[2,3,6,7,9])]),
 (113,[(4,[1,2,3]),(9,[1,2,3,4,5,6]),(18,[1,2,3,4,5,6,9,10,11]),(23,[1,2,3,4,5,6,9,10,12])]),
 (115,[(2,[1,2,3,7])]),
 (116,[(4,[0,3])]),
 (120,[(2,[1,2,13,14,15]),(5,[1,2,13,14,15,24,25,26]),(11,[1,2,36,37,38]),(14,[1,2,36,37,38,43,44,45])]),
 (124,[(4,[1,2,15,16,17])]),
 (126,[(4,[1,2,15,16,17])]),
 (128,[(4,[0,1,12,13])]),
 (129,[(1,[0,1,5,6,7])]),
 (130,[(2,[0,1,7,8])]),
 (135,[(1,[0,5,6,7])]),
 (136,[(1,[1,5,6,7]),(4,[1,4,5,6,7])]),
 (139,[(3,[0,3,4])]),
 (140,[(4,[0,3]),(9,[0,3,4,5])]),
 (142,[(4,[2,5]),(3,[1,2,5]),(5,[2,5])]),
 (143,[(2,[0,1,7,8])]),
 (144,[(2,[0,1,7,8])]),
 (147,[(24,[2,3]),(25,[2,3])]),
 (148,[(3,[0,2,3,4]),(8,[0,2,3,5,6]),(15,[0,2,3,5,6,7,8])]),
 (149,[(21,[0,4,5]),(6,[0,4,5,6,8])]),
 (150,[(4,[1,2,4,6]),(10,[1,4,7,8])]),
 (161,[(4,[1,3]),(9,[1,4]),(15,[1,4,5,6])]),
 (165,[(3,[0,3,9,10,11]),(11,[6,25,26,27])]),
 (166,[(4,[0,1,12,13])]),
 (167,[(3,[3,7,8,9])]),
 (168,[(3,[3,7,8,9])]),
 (171,[(2,[0,1,2,3,8,9]),(10,[0,1,2,3,8,9,10]),(15,[0,1,2,3,8,9,10,11,12]),(17,[0,1,2,3,8,9,10,11]),(18,[0,1,2,3,8,9,11])]),
 (175,[(1,[0,1,6])]),
 (176,[(2,[0,4]),(38,[0,1,5,6]),(50,[0,1,7]),(51,[0,1,7,8])]),
 (179,[(3,[1,2,3,4])]),
 (181,[(2,[0,1,2,6,7])]),
 (184,[(1,[0,2,3])]),
 (185,[(2,[0,1,7,8])]),
 (187,[(2,[0,1,7,8])]),
 (188,[(3,[0,1])]),
 (189,[(1,[0,1,2,6]),(4,[0,1,2,6,7])]),
 (190,[(4,[0,6,7,8,9]),(8,[0,6,7,10])]),
 (191,[(5,[0,1,6,7,8,9]),(10,[0,1,6,7,8,9,10])]),
 (192,[(12,[9,11]),(11,[0,9,10,11,12])]),
 (193,[(2,[0,6,7])]),
 (194,[(3,[0,1,2,7,8]),(5,[0,1,2,7,8]),(18,[0,1,2,7,8]),(14,[0,1,2,7,8,9]),(20,[0,1,2,7,8,10])]),
 (196,[(3,[0,1,9,10]),(5,[0,1,9,10])]),
 (197,[(3,[0,1,10,11]),(5,[0,1,10,11]),(13,[0,1,10,11]),(15,[0,1,10,11])]),
 (198,[(4,[0,2]),(7,[0,2])]),
 (199,[(4,[0,2]),(7,[0,2]),(10,[0,2])]),
 (200,[(7,[0,1,4,6])]),
 (201,[(3,[0,1,4,5])]),
 (207,[(5,[0,1,2,7,8]),(10,[0,1,7])]),
 (209,[(1,[0,2,3,8]),(5,[0,2,3,8,9])]),
 (215,[(2,[2,3,4])]),
 (218,[(2,[2,3,4]),(3,[2,3,4]),(4,[2,3,4])])]
def aJ4 (args : List PV) : Option R:=match args with
 | [.int .i64 n]=>if -9223372036854775808≤n∧n≤9223372036854775807 then some [.str ⟨(Lib.itoa n).toArray⟩] else none
 | _=>none
def aJ5 (e : Nat) (args : List DV) (s : St) : Option R:=match args,s.boxes with
 | [.nils,.p (.int .i64 n)],[]=>if 0≤n∧n.toNat*e≤140737488355328∧n≤1000000000000 then some [.lst []] else none
 | _,_=>none
def aJ6 : OTy:=.own 4 32 true []
def aKy (i : Int) (c d : PV) : Option R:=match c,d with
 | .lst xs,.lst [y]=>if 0≤i∧i≤xs.length∧xs.length≤1000000 then some [.lst (xs.take i.toNat++y::xs.drop i.toNat)] else none
 | _,_=>none
def aJz (args : List DV) (s : St) : Option R:=match args,s.boxes with
 | [.ref 0 [],.p (.int .i64 i),.ref 1 []],[]=>sinkAs aJ6 s (.ref 0 []) λc s1=>sinkAs aJ6 s1 (.ref 1 []) λd _=>aKy i c d
 | _,_=>none
def rH : List PV→Option (List Int)
 | []=>some []
 | .int .i64 n::r=>match rH r with
  | some l=>some (n::l)
  | none=>none
 | _=>none
def aJA (f : Nat) (args : List PV) : Option R:=match args with
 | [.fn g [.bx [.lst xs]]]=>if Nat.beq g f then match rH xs with
  | some l=>if l.length≤1000000 then some [.lst ((l.mergeSort λx y=>decide (x≤y)).map (PV.int .i64))] else none
  | none=>none
  else none
 | _=>none
def jJ (l : List Int) : List Int:=Lib.compact (l.mergeSort λx y=>decide (x≤y))
def pA (args : List DV) (s : St) : Option R:=match args with
 | [.p (.lst xs)]=>match s.boxes,rH xs with
  | [],some l=>if l.length≤1000000 then some [.lst ((jJ l).map (PV.int .i64))] else none
  | _,_=>none
 | _=>none
def aGp : List (Nat × Tmpl):=[
 (35,⟨false,false,.ptr 0 0,[some [.p (.int .i64 0),.p (.int .i64 1),.p (.int .i64 2)]],[],false⟩),
 (79,⟨false,false,.p (.int .i64 0),[some [.p (.int .i64 1),.p (.int .i64 2),.p (.int .i64 3)]],[],false⟩),
 (178,⟨false,false,.p (.int .i64 0),[some [.p (.int .i64 1),.p (.int .i64 2),.p (.int .i64 3)]],[],false⟩),
 (95,⟨false,false,.p (.int .i64 0),[some [.p (.int .i64 1),.p (.int .i64 2),.p (.int .i64 3)]],[],false⟩),
 (111,⟨false,false,.p (.int .i64 0),[some [.p (.int .i64 1),.p (.int .i64 2),.p (.int .i64 3)]],[],false⟩),
 (177,⟨false,false,.tup [],[some [.ptr 1 0,.ref 0 [],.p (.int .i64 0),.p (.int .i64 1),.p (.int .i64 2),.p (.int .i64 3)],some [.p (.int .i64 4),.p (.int .i64 5),.p (.int .i64 6)]],[some ⟨(.own 2 16 true []),(.int .i64 7)⟩],false⟩),
 (176,⟨false,false,.tup [],[some [.ptr 1 0,.ref 0 [],.p (.int .i64 0),.p (.int .i64 1),.p (.int .i64 2),.p (.int .i64 3)],some [.p (.int .i64 4),.p (.int .i64 5),.p (.int .i64 6)]],[some ⟨(.own 2 16 true []),(.int .i64 7)⟩],false⟩),
 (201,⟨false,false,.tup [],[some [.ptr 1 0,.ref 0 [],.p (.int .i64 0),.p (.int .i64 1),.p (.int .i64 2),.p (.int .i64 3)],some [.p (.int .i64 4),.p (.int .i64 5),.p (.int .i64 6)]],[some ⟨(.own 2 16 true []),(.int .i64 7)⟩],false⟩),
 (214,⟨false,false,.tup [],[some [.ptr 1 0,.ref 0 [],.p (.int .i64 0),.p (.int .i64 1),.p (.int .i64 2),.p (.int .i64 3)],some [.p (.int .i64 4),.p (.int .i64 5),.p (.int .i64 6)]],[some ⟨(.own 2 16 true []),(.int .i64 7)⟩],false⟩),
 (200,⟨false,false,.tup [],[some [.ptr 1 0,.ref 0 [],.p (.int .i64 0),.p (.int .i64 1),.p (.int .i64 2),.p (.int .i64 3)],some [.p (.int .i64 4),.p (.int .i64 5),.p (.int .i64 6)]],[some ⟨(.own 2 16 true []),(.int .i64 7)⟩],false⟩),
 (175,⟨false,false,.tup [],[some [.ptr 1 0,.ref 0 [],.p (.int .i64 0),.p (.int .i64 1),.p (.int .i64 2),.p (.int .i64 3)],some [.p (.int .i64 4),.p (.int .i64 5),.p (.int .i64 6)]],[some ⟨(.own 2 16 true []),(.int .i64 7)⟩],false⟩),
 (202,⟨false,false,.p (.int .i64 0),[some [.ptr 1 0,.ref 0 [],.p (.int .i64 1),.p (.int .i64 2),.p (.int .i64 3),.p (.int .i64 4)],some [.p (.int .i64 5),.p (.int .i64 6),.p (.int .i64 7)]],[some ⟨(.own 2 16 true []),(.int .i64 8)⟩],false⟩),
 (148,⟨false,false,.p (.int .i64 0),[some [.p (.int .i64 1),.p (.int .i64 2),.p (.int .i64 3)]],[],false⟩),
 (96,⟨false,false,.p (.int .i64 0),[some [.p (.int .i64 1),.p (.int .i64 2),.p (.int .i64 3)]],[],false⟩),
 (149,⟨false,false,.p (.int .i64 0),[some [.p (.int .i64 1),.p (.int .i64 2),.p (.int .i64 3)]],[],false⟩),
 (179,⟨true,false,.agg [.ref 0 [],.ref 1 []],[],[some ⟨(.own 1 16 false []),(.int .i64 0)⟩,some ⟨(.own 3 40 true [.leaf,.leaf,(.own 2 16 true [])]),(.int .i64 1)⟩],false⟩),
 (112,⟨false,false,.p (.int .i64 0),[some [.p (.int .i64 1),.p (.int .i64 2),.p (.int .i64 3)]],[],false⟩),
 (99,⟨false,false,.p (.int .i64 0),[some [.p (.int .i64 1),.p (.int .i64 2),.p (.int .i64 3)]],[],false⟩),
 (97,⟨false,false,.p (.int .i64 0),[some [.p (.int .i64 1),.p (.int .i64 2),.p (.int .i64 3)]],[],false⟩),
 (50,⟨false,false,.p (.int .i64 0),[some [.p (.int .i64 1),.p (.int .i64 2),.p (.int .i64 3)]],[],false⟩),
 (92,⟨true,false,.ref 0 [],[],[some ⟨(.own 1 8 false []),(.int .i64 0)⟩],false⟩),
 (81,⟨true,false,.ref 0 [],[],[some ⟨(.own 1 8 false []),(.int .i64 0)⟩],false⟩),
 (38,⟨true,false,.ref 0 [],[],[some ⟨(.own 1 8 false []),(.int .i64 0)⟩],false⟩),
 (39,⟨true,false,.ref 0 [],[],[some ⟨(.own 1 8 false []),(.int .i64 0)⟩],false⟩),
 (40,⟨true,false,.ref 0 [],[],[some ⟨(.own 1 8 false []),(.int .i64 0)⟩],false⟩),
 (9,⟨true,false,.ref 0 [],[],[some ⟨(.own 1 8 false []),(.int .i64 0)⟩],false⟩),
 (10,⟨true,false,.ref 0 [],[],[some ⟨(.own 1 8 false []),(.int .i64 0)⟩],false⟩),
 (11,⟨true,false,.ref 0 [],[],[some ⟨(.own 1 8 false []),(.int .i64 0)⟩],false⟩),
 (84,⟨true,false,.ref 0 [],[],[some ⟨(.own 1 8 false []),(.int .i64 0)⟩],false⟩),
 (42,⟨true,false,.ref 0 [],[],[some ⟨(.own 1 8 false []),(.int .i64 0)⟩],false⟩),
 (43,⟨true,false,.ref 0 [],[],[some ⟨(.own 1 8 false []),(.int .i64 0)⟩],false⟩),
 (44,⟨true,false,.ref 0 [],[],[some ⟨(.own 1 8 false []),(.int .i64 0)⟩],false⟩),
 (13,⟨true,false,.ref 0 [],[],[some ⟨(.own 1 8 false []),(.int .i64 0)⟩],false⟩),
 (14,⟨true,false,.ref 0 [],[],[some ⟨(.own 1 8 false []),(.int .i64 0)⟩],false⟩),
 (15,⟨true,false,.ref 0 [],[],[some ⟨(.own 1 8 false []),(.int .i64 0)⟩],false⟩),
 (36,⟨false,false,.tup [.p (.int .i64 0),.p (.int .i64 1)],[some [.p (.int .i64 2),.p (.int .i64 3),.p (.int .i64 4)]],[],false⟩)]
def aJB : List (Nat × List (Nat × List OTy)):=[(179,[(36,[.leaf,.leaf,.own 2 16 true []])]),(149,[(36,[.leaf,.leaf,.own 2 16 true []])])]
def aJC : List (Nat × List (Nat × List (Nat × Option Nat))):=[(148,[(13,[(8,some 2)]),(21,[(10,some 2)])])]
def aIK : List (Nat × (List PV→Option (List PV))):=[]
def aBl : List (Nat × (List DV→St→Option (List PV))):=[(81,pA)]
def aIL : List Nat:=[1,2,3,4,5,6,7,8,9,10,11,12,13,14,15,16,17,18,19,21,22,23,24,25,26,27,29,30,31,32,33,34,35,36,37,38,39,40,42,43,44,45,46,47,48,49,50,51,53,54,55,56,57,58,59,60,61,62,63,64,65,66,67,69,70,71,72,73,74,75,76,77,78,79,80,81,82,83,84,85,86,87,88,89,90,91,92,93,94,95,96,97,98,99,100,101,102,103,104,105,106,107,108,109,110,111,112,113,114,115,116,117,118,119,120,121,122,123,124,125,126,127,128,129,130,131,132,133,134,135,136,137,138,139,140,141,142,143,144,145,146,147,149,150,151,153,154,156,157,158,159,161,162,163,164,165,166,167,168,169,170,171,173,174,176,177,178,179,180,181,182,184,185,186,187,188,189,190,191,192,193,194,195,196,197,198,199,201,202,203,204,205,206,207,209,210,211,212,213,214,215,216,217,218,219,220,221,222,223,224,225,226,227,231,232,233,234,235,236,237,238]
def aKz (t : Nat) : Bool:=mem t aIL
set_option maxRecDepth 100000 in
theorem aJ7 : (aIL.map λt=>(Tryz.prog.info? t).bind (·.zero))=aIL.map λt=>some (zeroVal T t):=by kernel_rfl
def jC : Hints:={ cut:=λf r=>(lk f aJy).bind (lk r),mode:=λf=>lk f aGp,frz:=λf r=>((lk f aJC).bind (lk r)).getD [],own:=λf u=>((lk f aJB).bind (lk u)).getD [],prim:=λf=>lk f aIK,primS:=λf=>lk f aBl,glob:=λ_=>none,zok:=aKz}
def aBm (_ : World) (_ : Nat→Prop) : Prop:=True
theorem aBm.mono {w w' : World} {Z Z' : Nat→Prop} (_ : aBm w Z) (_ : ∀ r,Z r→Z' r) (_ : ∀ r,Z r→w'.heap[r]? = w.heap[r]?) : aBm w' Z':=trivial
structure ZOk (w : World) (Z : Nat→Prop) : Prop where
 lt : ∀ r,Z r→r<w.heap.size
 glob : aBm w Z
instance {w : World} {Z : Nat→Prop} : CoeFun (ZOk w Z) (λ_=>∀ r,Z r→r<w.heap.size):=⟨ZOk.lt⟩
theorem ZOk.next {w w' : World} {Z Z' : Nat→Prop} (h : ZOk w Z) (hz : ∀ r,Z r→Z' r) (hw : ∀ r,Z r→w'.heap[r]? = w.heap[r]?) (hl : ∀ r,Z' r→r<w'.heap.size) : ZOk w' Z':=⟨hl,h.glob.mono hz hw⟩
def bY : Value→Prop
 | .agg _ | .tuple _=>False
 | _=>True
def cH (g : Bool) (x : PV) (j : Nat) : PV:=if g then (match x with | .agg cs=>cs.getD j .hole | _=>.hole) else x
inductive eV (w : World) (Z : Nat→Prop) : PV→Value→Prop
 | bool (b : Bool) : eV w Z (.bool b) (.bool b)
 | int (k : IntKind) (n : Int) : eV w Z (.int k n) (.int k n)
 | str (s : ByteArray) : eV w Z (.str s) (.string s)
 | nil : eV w Z .nil (.pointer none)
 | nilf : eV w Z .nilf .nilFunc
 | hole (v : Value) : bY v→eV w Z .hole v
 | agg (cs : List PV) (vs : List Value) : cs.length=vs.length→(∀ (i : Nat) (v : Value),vs[i]? = some v→bY v)→
  (∀ (i : Nat) c v,cs[i]? = some c→vs[i]? = some v→eV w Z c v)→eV w Z (.agg cs) (.agg vs.toArray)
 | tup (cs : List PV) (vs : List Value) : cs.length=vs.length→
  (∀ (i : Nat) c v,cs[i]? = some c→vs[i]? = some v→eV w Z c v)→eV w Z (.tup cs) (.tuple vs.toArray)
 | fn (f : Nat) (cs : List PV) (vs : List Value) : cs.length=vs.length→
  (∀ (i : Nat) c v,cs[i]? = some c→vs[i]? = some v→eV w Z c v)→eV w Z (.fn f cs) (.func (.func f) #[] vs.toArray)
 | empty (a : Option Addr) (cap : Nat) : eV w Z (.lst []) (.slice a 0 cap)
 | lst (xs : List PV) (b o s cap : Nat) (g : Bool) (cells : Array Value) (e : TypeId) (fz : Nat × Nat) (cv : Nat→Nat→Value) :
  Z b→w.heap[b]? = some (.cells cells e fz)→0<s→xs.length≤cap→
  (∀ (i : Nat) x,xs[i]? = some x→x.isEl s g=true)→
  (∀ i j : Nat,i<xs.length→j<s→cells[o+i*s+j]? = some (cv i j))→
  (∀ i j : Nat,i<xs.length→j<s→bY (cv i j))→
  (∀ (i j : Nat) x,xs[i]? = some x→j<s→eV w Z (cH g x j) (cv i j))→
  eV w Z (.lst xs) (.slice (some ⟨b,o,none⟩) xs.length cap)
 | bx (cs : List PV) (b o : Nat) (cells : Array Value) (e : TypeId) (fz : Nat × Nat) (cv : Nat→Value) :
  Z b→w.heap[b]? = some (.cells cells e fz)→
  (∀ j : Nat,j<cs.length→cells[o+j]? = some (cv j))→(∀ j : Nat,j<cs.length→bY (cv j))→
  (∀ (j : Nat) c,cs[j]? = some c→eV w Z c (cv j))→eV w Z (.bx cs) (.pointer (some ⟨b,o,none⟩))
theorem eV.mono {w w' : World} {Z Z' : Nat→Prop} (hZ : ∀ r,Z r→Z' r) (hw : ∀ r,Z r→w'.heap[r]? = w.heap[r]?) {x : PV} {v : Value}
 (h : eV w Z x v) : eV w' Z' x v:=by
 induction h with
 | bool b=>exact .bool b
 | int k n=>exact .int k n
 | str s=>exact .str s
 | nil=>exact .nil
 | nilf=>exact .nilf
 | hole v h=>exact .hole v h
 | agg cs vs hl hc _ ih=>exact .agg cs vs hl hc ih
 | tup cs vs hl _ ih=>exact .tup cs vs hl ih
 | fn f cs vs hl _ ih=>exact .fn f cs vs hl ih
 | empty a cap=>exact .empty a cap
 | lst xs b o s cap g cells e fz cv hb hh hs hcap he hc hv _ ih=>exact .lst xs b o s cap g cells e fz cv (hZ b hb) ((hw b hb).trans hh) hs hcap he hc hv ih
 | bx cs b o cells e fz cv hb hh hc hv _ ih=>exact .bx cs b o cells e fz cv (hZ b hb) ((hw b hb).trans hh) hc hv ih
inductive bL (w : World) (Z : Nat→Prop) : OTy→PV→Value→(Nat→Prop)→Prop
 | leaf (x : PV) (v : Value) (F : Nat→Prop) : eV w Z x v→(∀ r,¬ F r)→bL w Z .leaf x v F
 | hole (s e : Nat) (g : Bool) (cts : List OTy) (v : Value) (F : Nat→Prop) : bY v→(∀ r,¬ F r)→bL w Z (.own s e g cts) .hole v F
 | nil (s e : Nat) (g : Bool) (cts : List OTy) (F : Nat→Prop) (a : Option Addr) : (∀ r,¬ F r)→bL w Z (.own s e g cts) (.lst []) (.slice a 0 0) F
 | own (s e : Nat) (g : Bool) (cts : List OTy) (xs : List PV) (b o cap : Nat) (cells : Array Value) (ety : TypeId) (cv : Nat→Nat→Value)
  (fp : Nat→Nat→Nat→Prop) (F : Nat→Prop) :
  w.heap[b]? = some (.cells cells ety (0,0))→0<s→o+cap*s≤cells.size→xs.length≤cap→¬ Z b→
  (∀ (i : Nat) x,xs[i]? = some x→x.isEl s g=true)→
  (∀ i j : Nat,i<xs.length→j<s→cells[o+i*s+j]? = some (cv i j))→
  (∀ i j : Nat,i<xs.length→j<s→bY (cv i j))→
  (∀ (i j : Nat) x,xs[i]? = some x→j<s→bL w Z (cts.getD j .leaf) (cH g x j) (cv i j) (fp i j))→
  (∀ r,F r↔r=b∨∃ i j : Nat,i<xs.length∧j<s∧fp i j r)→
  (∀ i j : Nat,i<xs.length→j<s→¬ fp i j b)→
  (∀ i j i' j' r : Nat,i<xs.length→j<s→i'<xs.length→j'<s→fp i j r→fp i' j' r→i=i'∧j=j')→
  bL w Z (.own s e g cts) (.lst xs) (.slice (some ⟨b,o,none⟩) xs.length cap) F
theorem bL.frame {w w' : World} {Z Z' : Nat→Prop} {o : OTy} {x : PV} {v : Value} {F : Nat→Prop} (h : bL w Z o x v F)
 (hZ : ∀ r,Z r→Z' r) (hw : ∀ r,Z r→w'.heap[r]? = w.heap[r]?) (hF : ∀ r,F r→w'.heap[r]? = w.heap[r]?) (hn : ∀ r,F r→¬ Z' r) :
 bL w' Z' o x v F:=by
 induction h with
 | leaf x v F h hf=>exact .leaf x v F (h.mono hZ hw) hf
 | hole s e g cts v F h hf=>exact .hole s e g cts v F h hf
 | nil s e g cts F a hf=>exact .nil s e g cts F a hf
 | own s e g cts xs b o cap cells ety cv fp F hh hs ho hl hz he hc hv _ hf hb hd ih=>
   refine .own s e g cts xs b o cap cells ety cv fp F ((hF b ((hf b).2 (.inl rfl))).trans hh) hs ho hl (hn b ((hf b).2 (.inl rfl))) he hc hv ?_ hf hb hd
   intro i j x hx hj
   have hi : i<xs.length:=(List.getElem?_eq_some_iff.1 hx).1
   exact ih i j x hx hj (λr hr=>hF r ((hf r).2 (.inr ⟨i,j,hi,hj,hr⟩))) (λr hr=>hn r ((hf r).2 (.inr ⟨i,j,hi,hj,hr⟩)))
theorem bL.freeze {w : World} {Z Z' : Nat→Prop} {o : OTy} {x : PV} {v : Value} {F : Nat→Prop} (h : bL w Z o x v F)
 (hZ : ∀ r,Z r→Z' r) (hF : ∀ r,F r→Z' r) : eV w Z' x v:=by
 induction h with
 | leaf x v F h hf=>exact h.mono hZ (λ_ _=>rfl)
 | hole s e g cts v F h hf=>exact .hole v h
 | nil s e g cts F a hf=>exact .empty a 0
 | own s e g cts xs b o cap cells ety cv fp F hh hs ho hl hz he hc hv _ hf hb hd ih=>
   refine .lst xs b o s cap g cells ety (0,0) cv (hF b ((hf b).2 (.inl rfl))) hh hs hl he hc hv ?_
   intro i j x hx hj
   have hi : i<xs.length:=(List.getElem?_eq_some_iff.1 hx).1
   exact ih i j x hx hj (λr hr=>hF r ((hf r).2 (.inr ⟨i,j,hi,hj,hr⟩)))
structure Loc where
 box : Nat→Nat
 hdr : Nat→Value
 fp : Nat→Nat→Prop
 ty : Nat→OTy
 ub : Nat→Prop
 ul : Nat→Prop
def cC (w : World) (G : Nat→Prop) : OTy→Value→cK→Value→Prop
 | _,v,[],v'=>v=v'
 | o,v,(i,j)::r,v'=>∃ (b o' len cap n : Nat) (k : IntKind) (cells : Array Value) (ety : TypeId) (fz : Nat × Nat) (u : Value),
  v = .slice (some ⟨b,o',none⟩) len cap∧i = .int k n∧n<len∧w.heap[b]? = some (.cells cells ety fz)∧
  cells[o'+n*o.s+j]? = some u∧G b∧(o.ct j).isLeaf=false∧cC w G (o.ct j) u r v'
inductive bX (w : World) (Z : Nat→Prop) (ρ : Loc) (live : Nat→Prop) : DV→Value→Prop
 | p (x : PV) (v : Value) : eV w Z x v→bX w Z ρ live (.p x) v
 | nils : bX w Z ρ live .nils (.slice none 0 0)
 | agg (ds : List DV) (vs : List Value) : ds.length=vs.length→(∀ (i : Nat) (v : Value),vs[i]? = some v→bY v)→
  (∀ (i : Nat) d v,ds[i]? = some d→vs[i]? = some v→bX w Z ρ live d v)→bX w Z ρ live (.agg ds) (.agg vs.toArray)
 | tup (ds : List DV) (vs : List Value) : ds.length=vs.length→
  (∀ (i : Nat) d v,ds[i]? = some d→vs[i]? = some v→bX w Z ρ live d v)→bX w Z ρ live (.tup ds) (.tuple vs.toArray)
 | fn (f : Nat) (ds : List DV) (vs : List Value) : ds.length=vs.length→
  (∀ (i : Nat) d v,ds[i]? = some d→vs[i]? = some v→bX w Z ρ live d v)→bX w Z ρ live (.fn f ds) (.func (.func f) #[] vs.toArray)
 | ptr (b off : Nat) : ρ.ub b→bX w Z ρ live (.ptr b off) (.pointer (some ⟨ρ.box b,off,none⟩))
 | ref (l : Nat) (path : cK) (v : Value) : ρ.ul l→bY v→(live l→cC w (ρ.fp l) (ρ.ty l) (ρ.hdr l) path v)→bX w Z ρ live (.ref l path) v
 | sref (l : Nat) (path : cK) (lo hi : PV) (v : Value) : ρ.ul l→bY v→
  (live l→∃ (a : Option Addr) (len cap : Nat) (k k' : IntKind) (m n : Nat),cC w (ρ.fp l) (ρ.ty l) (ρ.hdr l) path (.slice a len cap)∧lo = .int k m∧hi = .int k' n∧m≤n∧n≤len∧
   v = .slice (if cap=m then a else a.map (·.add (m*((ρ.ty l).along path).s))) (n - m) (cap - m))→bX w Z ρ live (.sref l path lo hi) v
 | eptr (l : Nat) (path : cK) (i : PV) (off : Nat) (v : Value) : ρ.ul l→bY v→
  (live l→∃ (b o len cap : Nat) (k : IntKind) (n : Nat),cC w (ρ.fp l) (ρ.ty l) (ρ.hdr l) path (.slice (some ⟨b,o,none⟩) len cap)∧i = .int k n∧n<len∧
   v = .pointer (some ⟨b,o+n*((ρ.ty l).along path).s+off,none⟩))→bX w Z ρ live (.eptr l path i off) v
 | fptr (x : PV) (s : Nat) (g : Bool) (off b o : Nat) (cells : Array Value) (e : TypeId) (fz : Nat × Nat) (cv : Nat→Value) :
  Z b→w.heap[b]? = some (.cells cells e fz)→x.isEl s g=true→(∀ j : Nat,j<s→cells[o+j]? = some (cv j))→(∀ j : Nat,j<s→bY (cv j))→
  (∀ j : Nat,j<s→eV w Z (cH g x j) (cv j))→bX w Z ρ live (.fptr x s g off) (.pointer (some ⟨b,o+off,none⟩))
 | bptr (c : PV) (off b o : Nat) : eV w Z c (.pointer (some ⟨b,o,none⟩))→bX w Z ρ live (.bptr c off) (.pointer (some ⟨b,o+off,none⟩))
 | gptr (l : Nat) (path : cK) (i : PV) (off : Nat) (v : Value) : bY v→
  (∀ (k0 : IntKind) (n0 : Int),i = .int k0 n0→ρ.ul l∧(live l→∃ (b o len cap : Nat) (k : IntKind) (n : Nat),cC w (ρ.fp l) (ρ.ty l) (ρ.hdr l) path (.slice (some ⟨b,o,none⟩) len cap)∧i = .int k n∧n<len∧
   v = .pointer (some ⟨b,o+n*((ρ.ty l).along path).s+off,none⟩)))→bX w Z ρ live (.gptr l path i off) v
 | nilq (c : PV) (neg b : Bool) : ((b != neg)=true→c = .lst [])→bX w Z ρ live (.nilq c neg) (.bool b)
 | bsl (b n : Nat) : ρ.ub b→bX w Z ρ live (.bsl b n) (.slice (some ⟨ρ.box b,0,none⟩) n n)
 | dead (v : Value) : bX w Z ρ live .dead v
theorem Tab.at_spec (P : Program) (t : Nat) :
 (∃ i d,P.info? t=some i∧P.underlying t=some d∧(tabOf P).at t=⟨kindOf d,i.size,i.bytes,eqOf P t d⟩)∨(tabOf P).at t=⟨.other,0,0,false⟩:=by
 unfold Tab.at tabOf
 by_cases h : t<P.types.size
 ·rw [List.getElem?_map,List.getElem?_range h]
  simp only [Option.map_some]
  unfold tyOf
  cases hi : P.info? t with
  | none=>right;rfl
  | some i=>
    cases hd : P.underlying t with
    | none=>right;rfl
    | some d=>left;exact ⟨i,d,rfl,rfl,rfl⟩
 ·right
  rw [List.getElem?_eq_none (by simpa using Nat.le_of_not_lt h)]
theorem Tab.known {P : Program} {t : Nat} (h : ((tabOf P).at t).size≠0∨((tabOf P).at t).d≠.other) :
 ∃ i d,P.info? t=some i∧P.underlying t=some d∧(tabOf P).at t=⟨kindOf d,i.size,i.bytes,eqOf P t d⟩:=by
 rcases Tab.at_spec P t with h' | h'
 ·exact h'
 ·rw [h'] at h;simp at h
theorem aDG {d : TypeDesc} {e : Nat} (h : kindOf d = .slice e) : d = .slice e:=by
 cases d<;>simp [kindOf] at h<;>simp_all
theorem aBn {d : TypeDesc} (h : kindOf d = .str) : d = .string:=by
 cases d<;>simp [kindOf] at h<;>rfl
theorem nY {d : TypeDesc} {k : IntKind} (h : kindOf d = .int k) : d = .int k:=by
 cases d<;>simp [kindOf] at h<;>simp_all
theorem pY {d : TypeDesc} {fs : List (Nat × Nat)} (h : kindOf d = .struct fs) :
 ∃ f : Array Field,d = .struct f∧fs=f.toList.map λf=>(f.offset,f.type):=by
 cases d<;>simp [kindOf] at h
 exact ⟨_,rfl,h.symm⟩
theorem aDH {d : TypeDesc} {n e : Nat} (h : kindOf d = .array n e) : d = .array n e:=by
 cases d<;>simp [kindOf] at h<;>simp_all
theorem Tab.slice {P : Program} {t e : Nat} (h : ((tabOf P).at t).d = .slice e) : P.underlying t=some (.slice e):=by
 obtain ⟨i,d,_,hd,hr⟩:=Tab.known (P:=P) (t:=t) (.inr (by rw [h];simp))
 rw [hr] at h
 rw [hd,aDG h]
theorem Tab.under {P : Program} {t : Nat} {k : TyI} (h : ((tabOf P).at t).d=k) (hk : k≠.other) : ∃ d,P.underlying t=some d∧kindOf d=k∧((tabOf P).at t).eq=eqOf P t d:=by
 obtain ⟨i,d,_,hd,hr⟩:=Tab.known (P:=P) (t:=t) (.inr (by rw [h];exact hk))
 rw [hr] at h
 exact ⟨d,hd,h,by rw [hr]⟩
theorem fR {P : Program} {t : Nat} {w : World} (h : ((tabOf P).at t).size≠0∨((tabOf P).at t).d≠.other) :
 (sizeOf t).run P w = .ok ((tabOf P).at t).size w:=by
 obtain ⟨i,d,hi,hd,hr⟩:=Tab.known h
 simp [sizeOf,typeInfo,hi,hr]
theorem nS {P : Program} {t : Nat} {w : World} (h : ((tabOf P).at t).size≠0∨((tabOf P).at t).d≠.other) :
 (isAgg t).run P w = .ok ((tabOf P).at t).isAgg w:=by
 obtain ⟨i,d,hi,hd,hr⟩:=Tab.known h
 rw [hr]
 simp only [isAgg,underlying,Sem.run_bind,run_program,Result.andThen_ok,hd,Sem.run_pure]
 cases d<;>simp [TyR.isAgg,kindOf]
theorem lW {w : World} {b o : Nat} {cells : Array Value} {e : TypeId} {fz : Nat × Nat} {v : Value} (h : w.heap[b]? = some (.cells cells e fz)) (hc : cells[o]? = some v) :
 w.cell? ⟨b,o,none⟩=some v:=by
 simp [World.cell?,h,hc]
theorem fW (b o j : Nat) : (⟨b,o,none⟩ : Addr).add j=⟨b,o+j,none⟩:=by
 unfold Addr.add;split<;>simp_all
structure Sx where
 box : Nat→Option (List DV)
 list : Nat→Option Own
def St.sx (s : St) : Sx:=⟨s.box,s.list⟩
def Sx.live (s : Sx) (l : Nat) : Prop:=s.list l≠none
structure aN where
 w : World
 Z : Nat→Prop
 ρ : Loc
 s : Sx
 L : Nat→Prop
def aN.rd (m : aN) (d : DV) (v : Value) : Prop:=bX m.w m.Z m.ρ m.s.live d v
def aN.owned (m : aN) (r : Nat) : Prop:=(∃ b cs,m.s.box b=some cs∧r=m.ρ.box b)∨(∃ l o,m.s.list l=some o∧m.ρ.fp l r)∨m.L r
structure jK (m : aN) : Prop where
 ub : ∀ b cs,m.s.box b=some cs→m.ρ.ub b
 ul : ∀ l o,m.s.list l=some o→m.ρ.ul l
 zlt : ZOk m.w m.Z
 box : ∀ b cs,m.s.box b=some cs→∃ (vs : List Value) (ety : TypeId),m.w.heap[m.ρ.box b]? = some (.cells vs.toArray ety (0,0))∧vs.length=cs.length∧
  (∀ (i : Nat) v,vs[i]? = some v→bY v)∧∀ (i : Nat) d v,cs[i]? = some d→vs[i]? = some v→m.rd d v
 row : ∀ l o,m.s.list l=some o→o.o=m.ρ.ty l∧o.o.isLeaf=false∧bL m.w m.Z o.o o.c (m.ρ.hdr l) (m.ρ.fp l)
 bz : ∀ b cs,m.s.box b=some cs→¬ m.Z (m.ρ.box b)
 bb : ∀ b cs b' cs',m.s.box b=some cs→m.s.box b'=some cs'→m.ρ.box b=m.ρ.box b'→b=b'
 bl : ∀ b cs l o,m.s.box b=some cs→m.s.list l=some o→¬ m.ρ.fp l (m.ρ.box b)
 ll : ∀ l o l' o' r,m.s.list l=some o→m.s.list l'=some o'→m.ρ.fp l r→m.ρ.fp l' r→l=l'
 Lz : ∀ r,m.L r→¬ m.Z r∧r<m.w.heap.size
 Lb : ∀ b cs,m.s.box b=some cs→¬ m.L (m.ρ.box b)
 Ll : ∀ l o r,m.s.list l=some o→m.ρ.fp l r→¬ m.L r
theorem bL.notZ {w : World} {Z : Nat→Prop} {o : OTy} {x : PV} {v : Value} {F : Nat→Prop} (h : bL w Z o x v F) : ∀ r,F r→¬ Z r:=by
 induction h with
 | leaf x v F h hf=>exact λr hr=>(hf r hr).elim
 | hole s e g cts v F h hf=>exact λr hr=>(hf r hr).elim
 | nil s e g cts F a hf=>exact λr hr=>(hf r hr).elim
 | own s e g cts xs b o cap cells ety cv fp F hh hs ho hl hz he hc hv _ hf hb hd ih=>
   intro r hr
   rcases (hf r).1 hr with rfl | ⟨i,j,hi,hj,h⟩
   ·exact hz
   ·exact ih i j xs[i] (List.getElem?_eq_getElem hi) hj r h
theorem bL.lt {w : World} {Z : Nat→Prop} {o : OTy} {x : PV} {v : Value} {F : Nat→Prop} (h : bL w Z o x v F) : ∀ r,F r→r<w.heap.size:=by
 induction h with
 | leaf x v F h hf=>exact λr hr=>(hf r hr).elim
 | hole s e g cts v F h hf=>exact λr hr=>(hf r hr).elim
 | nil s e g cts F a hf=>exact λr hr=>(hf r hr).elim
 | own s e g cts xs b o cap cells ety cv fp F hh hs ho hl hz he hc hv _ hf hb hd ih=>
   intro r hr
   rcases (hf r).1 hr with rfl | ⟨i,j,hi,hj,h⟩
   ·exact (Array.getElem?_eq_some_iff.1 hh).1
   ·exact ih i j xs[i] (List.getElem?_eq_getElem hi) hj r h
theorem jK.owned_lt {m : aN} (h : jK m) {r : Nat} (hr : m.owned r) : r<m.w.heap.size:=by
 rcases hr with ⟨b,cs,hb,rfl⟩ | ⟨l,o,hl,hf⟩ | hL
 ·obtain ⟨vs,ety,hh,_⟩:=h.box b cs hb
  exact (Array.getElem?_eq_some_iff.1 hh).1
 ·exact (h.row l o hl).2.2.lt r hf
 ·exact (h.Lz r hL).2
theorem jK.owned_notZ {m : aN} (h : jK m) {r : Nat} (hr : m.owned r) : ¬ m.Z r:=by
 rcases hr with ⟨b,cs,hb,rfl⟩ | ⟨l,o,hl,hf⟩ | hL
 ·exact h.bz b cs hb
 ·exact (h.row l o hl).2.2.notZ r hf
 ·exact (h.Lz r hL).1
structure dS (m m' : aN) (scr : DV→DV) (n : Nat) : Prop where
 inv : jK m'
 rd : ∀ d v,m.rd d v→m'.rd (scr d) v
 size : m.w.heap.size≤m'.w.heap.size
 os : m'.w.os=m.w.os
 tape : m'.w.tape=m.w.tape
 output : m'.w.output=m.w.output
 keep : ∀ r,r<m.w.heap.size→¬ m.owned r→m'.w.heap[r]? = m.w.heap[r]?
 own : ∀ r,m'.owned r→m.owned r∨m.w.heap.size≤r
 z : ∀ r,m'.Z r→m.Z r∨m.owned r∨m.w.heap.size≤r
 zz : ∀ r,m.Z r→m'.Z r
 ub : ∀ b,m'.ρ.ub b→m.ρ.ub b∨(n≤b∧b<n+16)
 ul : ∀ l,m'.ρ.ul l→m.ρ.ul l∨(n≤l∧l<n+16)
 mub : ∀ b,m.ρ.ub b→m'.ρ.ub b∧m'.ρ.box b=m.ρ.box b
 mul : ∀ l,m.ρ.ul l→m'.ρ.ul l
 bx : ∀ b cs,m.s.box b=some cs→∃ cs',m'.s.box b=some cs'
 hd : ∀ l,m.ρ.ul l→m'.s.live l→m.s.live l∧m'.ρ.hdr l=m.ρ.hdr l∧m'.ρ.ty l=m.ρ.ty l
theorem dS.refl {m : aN} (n : Nat) (h : jK m) : dS m m id n where
 inv:=h
 rd:=λ_ _ h=>h
 size:=Nat.le_refl _
 os:=rfl
 tape:=rfl
 output:=rfl
 keep:=λ_ _ _=>rfl
 own:=λ_ h=>.inl h
 z:=λ_ h=>.inl h
 zz:=λ_ h=>h
 ub:=λ_ h=>.inl h
 ul:=λ_ h=>.inl h
 mub:=λ_ h=>⟨h,rfl⟩
 mul:=λ_ h=>h
 bx:=λ_ cs h=>⟨cs,h⟩
 hd:=λ_ _ h=>⟨h,rfl,rfl⟩
theorem dS.trans {m m' m'' : aN} {f g : DV→DV} {n : Nat} (h : dS m m' f n) (k : dS m' m'' g n) : dS m m'' (λd=>g (f d)) n where
 inv:=k.inv
 rd:=λd v hd=>k.rd _ _ (h.rd d v hd)
 size:=Nat.le_trans h.size k.size
 os:=k.os.trans h.os
 tape:=k.tape.trans h.tape
 output:=k.output.trans h.output
 keep:=λr hr ho=>(k.keep r (Nat.lt_of_lt_of_le hr h.size) (λho'=>(h.own r ho').elim ho (λhle=>by omega))).trans (h.keep r hr ho)
 own:=λr ho=>(k.own r ho).elim (λh'=>h.own r h') (λhle=>.inr (Nat.le_trans h.size hle))
 z:=λr hz=>(k.z r hz).elim (λh'=>h.z r h') (λh'=>h'.elim (λh''=>(h.own r h'').elim (λx=>.inr (.inl x)) (λx=>.inr (.inr x))) (λhle=>.inr (.inr (Nat.le_trans h.size hle))))
 zz:=λr hz=>k.zz r (h.zz r hz)
 ub:=λb hb=>(k.ub b hb).elim (λh'=>h.ub b h') .inr
 ul:=λl hl=>(k.ul l hl).elim (λh'=>h.ul l h') .inr
 mub:=λb hb=>⟨(k.mub b (h.mub b hb).1).1,(k.mub b (h.mub b hb).1).2.trans (h.mub b hb).2⟩
 mul:=λl hl=>k.mul l (h.mul l hl)
 bx:=λb cs hb=>let ⟨cs',h'⟩:=h.bx b cs hb;k.bx b cs' h'
 hd:=λl hl hv=>by
  obtain ⟨h1,h2,h3⟩:=k.hd l (h.mul l hl) hv
  obtain ⟨h4,h5,h6⟩:=h.hd l hl h1
  exact ⟨h4,h2.trans h5,h3.trans h6⟩
def vO (P : Program) (r : Result Next) (post : Value→World→Prop) : Prop:=match r with
 | .ok (.value v) w'=>post v w'
 | .ok .skip w'=>post undef w'
 | .ok (.enter f args) w'=>Calls P f args w' (λe w''=>∃ v,e = .returned v∧post v w'')
 | _=>False
theorem vO.wp {P : Program} {o : Oper} {a : Act} {w : World} {post : Value→World→Prop} {Q : Exit→Act→World→Prop}
 (h : vO P ((execOp a.eval o).run P w) post) : o.wp P a w (λa' w'=>∃ v,a'=a.put o.dst v∧post v w') Q:=by
 unfold Oper.wp
 unfold vO at h
 split at h
 ·rename_i v w' hr
  rw [hr,Oper.upon_value]
  exact ⟨v,rfl,h⟩
 ·rename_i w' hr
  rw [hr,Oper.upon_skip]
  exact ⟨undef,rfl,h⟩
 ·rename_i f args w' hr
  rw [hr,Oper.upon_enter]
  refine h.mono ?_
  rintro e w'' ⟨v,rfl,hp⟩
  exact ⟨v,rfl,hp⟩
 ·exact h.elim
section
variable {P : Program} {w : World} {Z : Nat → Prop}
theorem eV.int_inv {k : IntKind} {n : Int} {v : Value} (h : eV w Z (.int k n) v) : v = .int k n:=by cases h;rfl
theorem eV.bool_inv {b : Bool} {v : Value} (h : eV w Z (.bool b) v) : v = .bool b:=by cases h;rfl
theorem eV.str_inv {s : ByteArray} {v : Value} (h : eV w Z (.str s) v) : v = .string s:=by cases h;rfl
theorem aCG {op : BinOp} {t : TypeId} {x y : Operand} {a b : Value} (h1 : ¬ (a = .nilIface∧b = .nilIface)) (h2 : ∀ c d,¬ (a = .agg c∧b = .agg d)) :
 (eqGuard op t x y a b).run P w = .ok () w:=by
 unfold eqGuard
 cases a<;>cases b<;>first
  | (exfalso;exact h1 ⟨rfl,rfl⟩)
  | (exfalso;exact h2 _ _ ⟨rfl,rfl⟩)
  | (cases op<;>simp)
def kS (P : Program) (op : BinOp) (t : TypeId) (x y : Operand) (a b : Value) (w : World) : Result Value:=
 (do eqGuard op t x y a b;binOp op t a b : Sem Value).run P w
theorem fI {op : BinOp} {t : TypeId} {x y : Operand} {a b : Value} (h1 : ¬ (a = .nilIface∧b = .nilIface)) (h2 : ∀ c d,¬ (a = .agg c∧b = .agg d)) :
 kS P op t x y a b w=(binOp op t a b).run P w:=by
 unfold kS
 rw [Sem.run_bind,aCG h1 h2,Result.andThen_ok]
theorem aDI {op : BinOp} {k : IntKind} {a b : Int} {z : PV} (h : PV.intBin op k a b=some z) (t : TypeId) (x y : Operand) :
 ∃ v,kS P op t x y (.int k a) (.int k b) w = .ok v w∧eV w Z z v:=by
 rw [fI (by simp) (by simp)]
 cases op<;>simp only [PV.intBin] at h
 case quo=>
  by_cases hb : b=0
  ·simp [hb] at h
  ·simp only [hb,if_false,Option.some.injEq] at h;subst h
   exact ⟨_,by simp only [binOp,Op.intDiv];simp [hb],.int _ _⟩
 case rem=>
  by_cases hb : b=0
  ·simp [hb] at h
  ·simp only [hb,if_false,Option.some.injEq] at h;subst h
   exact ⟨_,by simp only [binOp,Op.intDiv];simp [hb],.int _ _⟩
 all_goals first
  | (cases h;done)
  | (simp only [Option.some.injEq] at h;subst h;refine ⟨_,?_,.int _ _⟩;simp [binOp,Op.intArith,Op.intBits,Op.intCmp];done)
  | (simp only [Option.some.injEq] at h;subst h;refine ⟨_,?_,.bool _⟩;simp [binOp,Op.intArith,Op.intBits,Op.intCmp];done)
theorem aBo : ∀ a b : List UInt8,Op.bytesLess a b=PV.bytesLt a b
 | a,[]=>by cases a<;>rfl
 | [],_::_=>rfl
 | a::x,b::y=>by simp only [Op.bytesLess,PV.bytesLt,aBo x y]
theorem aDJ {op : BinOp} {a b : ByteArray} {z : PV} (h : PV.strBin op a b=some z) (t : TypeId) (x y : Operand) :
 ∃ v,kS P op t x y (.string a) (.string b) w = .ok v w∧eV w Z z v:=by
 rw [fI (by simp) (by simp)]
 cases op<;>simp only [PV.strBin] at h
 case add=>
  split at h
  ·rename_i hs
   cases h
   refine ⟨_,?_,.str _⟩
   have : ¬ (((a.size+b.size : Nat) : Int)>IntKind.i64.max):=by
    simp only [IntKind.max,IntKind.signed,IntKind.bits,if_true]
    have : (a.size+b.size : Nat)≤2 ^ 62:=hs
    omega
   simp only [binOp,Op.stringOp]
   rw [if_neg this]
   rfl
  ·cases h
 all_goals first
  | (cases h;done)
  | (simp only [Option.some.injEq] at h;subst h;refine ⟨_,?_,.bool _⟩;simp [binOp,Op.stringOp,aBo];done)
theorem aGW {op : BinOp} {x y z : PV} {a b : Value} (h : PV.bin op x y=some z) (hx : eV w Z x a) (hy : eV w Z y b) (t : TypeId) (u v : Operand) :
 ∃ r,kS P op t u v a b w = .ok r w∧eV w Z z r:=by
 unfold PV.bin at h
 split at h
 ·
  split at h
  ·cases hx;cases hy
   split at h
   ·cases h
   ·rename_i hb
    cases h
    refine ⟨_,?_,.int _ _⟩
    rw [fI (by simp) (by simp)]
    simp only [binOp,Op.shift]
    rw [if_neg hb]
    rfl
  ·cases h
 ·split at h
  ·cases hx;cases hy
   split at h
   ·cases h
   ·rename_i hb
    cases h
    refine ⟨_,?_,.int _ _⟩
    rw [fI (by simp) (by simp)]
    simp only [binOp,Op.shift]
    rw [if_neg hb]
    rfl
  ·cases h
 ·split at h
  ·cases hx;cases hy
   split at h
   ·rename_i hk;subst hk
    exact aDI h t u v
   ·cases h
  ·cases hx;cases hy
   exact aDJ h t u v
  ·cases h
theorem zF {op : BinOp} {o : Option Bool} {z : PV} (h : PV.eqOr op o=some z) :
 ∃ b,o=some b∧((op = .eql∧z = .bool b)∨(op = .neq∧z = .bool (!b))):=by
 unfold PV.eqOr at h
 cases o with
 | none=>cases op<;>simp at h
 | some b=>cases op<;>simp at h<;>exact ⟨b,rfl,by simp [h]⟩
theorem aC3 {x y : PV} {b : Bool} (h : PV.eqScalar 0 x y=some b) : ∃ p q,x = .bool p∧y = .bool q∧b=(p==q):=by
 unfold PV.eqScalar at h
 simp only at h
 split at h
 ·cases h;exact ⟨_,_,rfl,rfl,rfl⟩
 ·cases h
theorem aGX {x y : PV} {b : Bool} (h : PV.eqScalar 1 x y=some b) : ∃ k p q,x = .int k p∧y = .int k q∧b=(p==q):=by
 unfold PV.eqScalar at h
 simp only at h
 split at h
 ·split at h
  ·rename_i hk;subst hk;cases h;exact ⟨_,_,_,rfl,rfl,rfl⟩
  ·cases h
 ·cases h
theorem aGY {x y : PV} {b : Bool} (h : PV.eqScalar 2 x y=some b) : ∃ p q,x = .str p∧y = .str q∧b=(p.toList==q.toList):=by
 unfold PV.eqScalar at h
 simp only at h
 split at h
 ·cases h;exact ⟨_,_,rfl,rfl,rfl⟩
 ·cases h
theorem tE {t : TypeId} (ht : P.underlying t=some .bool) (a b : Bool) : (Op.equal t (.bool a) (.bool b)).run P w = .ok (a==b) w:=by
 obtain ⟨n,hn⟩ : ∃ n,Op.maxDepth=n+1:=⟨9999,rfl⟩
 unfold Op.equal
 rw [hn]
 unfold Op.equalIn
 simp only [underlying,Sem.run_bind,run_program,Result.andThen_ok,ht,Sem.run_pure]
theorem aGZ {op : BinOp} {x y z : PV} {a b : Value} (h : PV.beq op x y=some z) (hx : eV w Z x a) (hy : eV w Z y b) {t : TypeId} (ht : P.underlying t=some .bool)
 (u v : Operand) : ∃ r,kS P op t u v a b w = .ok r w∧eV w Z z r:=by
 obtain ⟨c,hc,ho⟩:=zF h
 obtain ⟨p,q,rfl,rfl,rfl⟩:=aC3 hc
 cases hx;cases hy
 rw [fI (by simp) (by simp)]
 rcases ho with ⟨rfl,rfl⟩ | ⟨rfl,rfl⟩
 ·refine ⟨_,?_,.bool _⟩
  show ((do pure (.bool (← Op.equal t (.bool p) (.bool q))) : Sem Value)).run P w=_
  rw [Sem.run_bind,tE ht];rfl
 ·refine ⟨_,?_,.bool _⟩
  show ((do pure (.bool (!(← Op.equal t (.bool p) (.bool q)))) : Sem Value)).run P w=_
  rw [Sem.run_bind,tE ht];rfl
end
theorem aL {α β : Type} {o : Option α} {k : α→Option β} {r : β} (h : bd o k=some r) : ∃ a,o=some a∧k a=some r:=by
 unfold bd at h
 split at h
 ·exact ⟨_,rfl,h⟩
 ·cases h
theorem aV {a b : Nat} (h : Nat.beq a b=true) : a=b:=Nat.eq_of_beq_eq_true h
section
variable {P : Program} {w : World} {Z : Nat → Prop}
theorem gN {t : Nat} (ha : ((tabOf P).at t).isAgg=true) {b o : Nat} {cells : Array Value} {e : TypeId} {fz : Nat × Nat}
 (hh : w.heap[b]? = some (.cells cells e fz)) (vs : List Value) (hl : vs.length=((tabOf P).at t).size) (hc : ∀ (j : Nat) v,vs[j]? = some v→cells[o+j]? = some v) :
 (loadVar t ⟨b,o,none⟩).run P w = .ok (.agg vs.toArray) w:=by
 have hk : ((tabOf P).at t).size≠0∨((tabOf P).at t).d≠.other:=by
  right;intro h;unfold TyR.isAgg at ha;rw [h] at ha;simp at ha
 unfold loadVar
 rw [Sem.run_bind,nS hk,Result.andThen_ok,ha]
 simp only [if_true,Sem.run_bind,fR hk,Result.andThen_ok]
 rw [← hl,run_loadCells_list w _ vs (λj v hv=>by rw [fW];exact lW hh (hc j v hv))]
 rfl
theorem eI {t : Nat} (ha : ((tabOf P).at t).isAgg=false) (hs : ((tabOf P).at t).size≠0) {b o : Nat} {cells : Array Value} {e : TypeId} {fz : Nat × Nat}
 (hh : w.heap[b]? = some (.cells cells e fz)) {v : Value} (hc : cells[o]? = some v) :
 (loadVar t ⟨b,o,none⟩).run P w = .ok v w:=by
 unfold loadVar
 rw [Sem.run_bind,nS (.inl hs),Result.andThen_ok,ha]
 simp only [Bool.false_eq_true,if_false,run_load,lW hh hc]
theorem tF {x : PV} {s : Nat} (h : x.isEl s true=true) : ∃ cs,x = .agg cs∧cs.length=s:=by
 cases x<;>simp [PV.isEl] at h
 exact ⟨_,rfl,h⟩
theorem xU {x : PV} {s : Nat} (h : x.isEl s false=true) : s=1:=by
 cases x<;>simp [PV.isEl] at h<;>exact h
structure aJ8 (w : World) (Z : Nat→Prop) (x : PV) (s : Nat) (g : Bool) (b o : Nat) (cells : Array Value) (cv : Nat→Value) : Prop where
 el : x.isEl s g=true
 at_ : ∀ j : Nat,j<s→cells[o+j]? = some (cv j)
 one : ∀ j : Nat,j<s→bY (cv j)
 rep : ∀ j : Nat,j<s→eV w Z (cH g x j) (cv j)
theorem dW (cs : List PV) (j : Nat) : cH true (.agg cs) j=cs.getD j .hole:=rfl
theorem aAs {x : PV} {s : Nat} {g : Bool} {off : Nat} {t : Nat} {k : DV→Option R} {r : R}
 (h : partK x s g off ((tabOf P).at t) k=some r) (hs : ((tabOf P).at t).size≠0) :
 ∃ y,k (.p y)=some r∧∀ (w : World) (Z : Nat→Prop) (b o : Nat) (cells : Array Value) (e : TypeId) (fz : Nat × Nat) (cv : Nat→Value),
   w.heap[b]? = some (.cells cells e fz)→aJ8 w Z x s g b o cells cv→
   ∃ v,(loadVar t ⟨b,o+off,none⟩).run P w = .ok v w∧eV w Z y v:=by
 unfold partK at h
 cases ha : ((tabOf P).at t).isAgg with
 | true=>
   rw [ha] at h
   simp only [if_true] at h
   split at h
   ·rename_i hc
    simp only [Bool.and_eq_true] at hc
    obtain ⟨⟨h0,h1⟩,rfl⟩:=hc
    have h0:=aV h0
    have h1:=aV h1
    subst h0
    refine ⟨x,h,λw Z b o cells e fz cv hh E=>?_⟩
    obtain ⟨cs,rfl,hl⟩:=tF E.el
    have hg : ∀ (j : Nat) v,((List.range s).map cv)[j]? = some v→j<s∧v=cv j:=by
     intro j v hv
     rw [List.getElem?_map] at hv
     rcases Nat.lt_or_ge j s with hj | hj
     ·rw [List.getElem?_range hj] at hv;simp at hv;exact ⟨hj,hv.symm⟩
     ·rw [List.getElem?_eq_none (by simpa using hj)] at hv;simp at hv
    refine ⟨_,gN ha hh ((List.range s).map cv) (by simp [h1]) ?_,.agg cs _ (by simp [hl]) ?_ ?_⟩
    ·intro j v hv
     obtain ⟨hj,rfl⟩:=hg j v hv
     exact E.at_ j hj
    ·intro j v hv
     obtain ⟨hj,rfl⟩:=hg j v hv
     exact E.one j hj
    ·intro j c v hc hv
     obtain ⟨hj,rfl⟩:=hg j v hv
     have:=E.rep j hj
     rw [dW,List.getD,hc] at this
     exact this
   ·obtain ⟨y,hy,hk⟩:=aL h
    refine ⟨y,hk,λw Z b o cells e fz cv hh E=>?_⟩
    cases x<;>simp [PV.sub] at hy
    rename_i cs
    obtain ⟨hle,rfl⟩:=hy
    have hgt : g=true∧cs.length=s:=by
     have:=E.el
     simp [PV.isEl] at this
     exact this
    obtain ⟨rfl,hl⟩:=hgt
    have hg : ∀ (j : Nat) v,((List.range ((tabOf P).at t).size).map λj=>cv (off+j))[j]? = some v→j<((tabOf P).at t).size∧v=cv (off+j):=by
     intro j v hv
     rw [List.getElem?_map] at hv
     rcases Nat.lt_or_ge j ((tabOf P).at t).size with hj | hj
     ·rw [List.getElem?_range hj] at hv;simp at hv;exact ⟨hj,hv.symm⟩
     ·rw [List.getElem?_eq_none (by simpa using hj)] at hv;simp at hv
    refine ⟨_,gN ha hh ((List.range ((tabOf P).at t).size).map λj=>cv (off+j)) (by simp) ?_,.agg _ _ (by simp;omega) ?_ ?_⟩
    ·intro j v hv
     obtain ⟨hj,rfl⟩:=hg j v hv
     rw [Nat.add_assoc]
     exact E.at_ (off+j) (by omega)
    ·intro j v hv
     obtain ⟨hj,rfl⟩:=hg j v hv
     exact E.one _ (by omega)
    ·intro j c v hc hv
     obtain ⟨hj,rfl⟩:=hg j v hv
     have:=E.rep (off+j) (by omega)
     rw [dW,List.getD] at this
     rw [List.getElem?_take,if_pos hj,List.getElem?_drop] at hc
     rw [hc] at this
     exact this
 | false=>
   rw [ha] at h
   simp only [Bool.false_eq_true,if_false] at h
   split at h
   ·rename_i hg
    subst hg
    obtain ⟨y,hy,hk⟩:=aL h
    refine ⟨y,hk,λw Z b o cells e fz cv hh E=>?_⟩
    obtain ⟨cs,rfl,hl⟩:=tF E.el
    simp [PV.cell] at hy
    have hj : off<s:=by
     have:=(List.getElem?_eq_some_iff.1 hy).1
     omega
    refine ⟨cv off,eI ha hs hh (E.at_ off hj),?_⟩
    have:=E.rep off hj
    rw [dW,List.getD,hy] at this
    exact this
   ·rename_i hg
    have hg : g=false:=by simpa using hg
    subst hg
    split at h
    ·rename_i h0
     have h0:=aV h0
     subst h0
     refine ⟨x,h,λw Z b o cells e fz cv hh E=>?_⟩
     have h1:=xU E.el
     subst h1
     exact ⟨cv 0,eI ha hs hh (by simpa using E.at_ 0 (by omega)),by simpa [cH] using E.rep 0 (by omega)⟩
    ·cases h
end
structure mX (w : World) (Z : Nat→Prop) (o : OTy) (xs : List PV) (b off cap : Nat) (cells : Array Value) (ety : TypeId) (cv : Nat→Nat→Value)
 (fp : Nat→Nat→Nat→Prop) (F : Nat→Prop) : Prop where
 leaf : o.isLeaf=false
 heap : w.heap[b]? = some (.cells cells ety (0,0))
 pos : 0<o.s
 room : off+cap*o.s≤cells.size
 len : xs.length≤cap
 nz : ¬ Z b
 el : ∀ (i : Nat) x,xs[i]? = some x→x.isEl o.s o.g=true
 at_ : ∀ i j : Nat,i<xs.length→j<o.s→cells[off+i*o.s+j]? = some (cv i j)
 one : ∀ i j : Nat,i<xs.length→j<o.s→bY (cv i j)
 rep : ∀ (i j : Nat) x,xs[i]? = some x→j<o.s→bL w Z (o.ct j) (cH o.g x j) (cv i j) (fp i j)
 foot : ∀ r,F r↔r=b∨∃ i j : Nat,i<xs.length∧j<o.s∧fp i j r
 fb : ∀ i j : Nat,i<xs.length→j<o.s→¬ fp i j b
 fd : ∀ i j i' j' r : Nat,i<xs.length→j<o.s→i'<xs.length→j'<o.s→fp i j r→fp i' j' r→i=i'∧j=j'
theorem PV.at_inv {s : Nat} {g : Bool} {c i x : PV} (h : PV.at_ s g c i=some x) :
 ∃ (xs : List PV) (k : IntKind) (n : Nat),c = .lst xs∧i = .int k n∧xs[n]? = some x∧x.isEl s g=true:=by
 unfold PV.at_ at h
 split at h
 ·rename_i xs k n
  split at h
  ·rename_i hn
   split at h
   ·rename_i y hy
    split at h
    ·rename_i he
     cases h
     exact ⟨xs,k,n.toNat,rfl,by rw [Int.toNat_of_nonneg hn],hy,he⟩
    ·cases h
   ·cases h
  ·cases h
 ·cases h
section
variable {w : World} {Z : Nat → Prop}
theorem bL.row_inv {o : OTy} {c : PV} {v : Value} {F : Nat→Prop} (h : bL w Z o c v F) {i x : PV} (hx : PV.at_ o.s o.g c i=some x) :
 ∃ (xs : List PV) (b off cap : Nat) (cells : Array Value) (ety : TypeId) (cv : Nat→Nat→Value) (fp : Nat→Nat→Nat→Prop) (k : IntKind) (n : Nat),
   c = .lst xs∧v = .slice (some ⟨b,off,none⟩) xs.length cap∧i = .int k n∧xs[n]? = some x∧x.isEl o.s o.g=true∧mX w Z o xs b off cap cells ety cv fp F:=by
 obtain ⟨xs,k,n,rfl,rfl,hn,he⟩:=PV.at_inv hx
 cases h with
 | leaf _ _ _ h hf=>
   exfalso
   cases x<;>simp [PV.isEl,OTy.s,OTy.g] at he
 | nil s e g cts F a hf=>simp at hn
 | own s e g cts xs b o cap cells ety cv fp F hh hs ho hl hz he' hc hv hr hf hb hd=>
   exact ⟨xs,b,o,cap,cells,ety,cv,fp,k,n,rfl,rfl,rfl,hn,he,⟨rfl,hh,hs,ho,hl,hz,he',hc,hv,hr,hf,hb,hd⟩⟩
theorem cC.unique {G G' : Nat→Prop} {o : OTy} {v v1 v2 : Value} {path : cK} (h1 : cC w G o v path v1) (h2 : cC w G' o v path v2) : v1=v2:=by
 induction path generalizing o v with
 | nil=>exact (show v=v1 from h1).symm.trans h2
 | cons p r ih=>
   obtain ⟨i,j⟩:=p
   obtain ⟨b,o',len,cap,n,k,cells,ety,fz,u,rfl,rfl,hn,hh,hc,_,_,hr⟩:=h1
   obtain ⟨b2,o2,len2,cap2,n2,k2,cells2,ety2,fz2,u2,hv,hi,hn2,hh2,hc2,_,_,hr2⟩:=h2
   cases hv
   cases hi
   rw [hh] at hh2
   cases hh2
   rw [hc] at hc2
   cases hc2
   exact ih hr hr2
theorem cC.append {G : Nat→Prop} {o : OTy} {v v' v'' : Value} {path : cK} {q : cK} (h : cC w G o v path v') (h' : cC w G (o.along path) v' q v'') :
 cC w G o v (path++q) v'':=by
 induction path generalizing o v with
 | nil=>have h : v=v':=h;subst h;exact h'
 | cons p r ih=>
   obtain ⟨i,j⟩:=p
   obtain ⟨b,o',len,cap,n,k,cells,ety,fz,u,hv,hi,hn,hh,hc,hg,hl,hr⟩:=h
   exact ⟨b,o',len,cap,n,k,cells,ety,fz,u,hv,hi,hn,hh,hc,hg,hl,ih hr h'⟩
theorem cC.mono {w' : World} {G G' : Nat→Prop} {o : OTy} {v v' : Value} {path : cK} (h : cC w G o v path v') (hG : ∀ r,G r→G' r)
 (hw : ∀ r,G r→w'.heap[r]? = w.heap[r]?) : cC w' G' o v path v':=by
 induction path generalizing o v with
 | nil=>exact h
 | cons p r ih=>
   obtain ⟨i,j⟩:=p
   obtain ⟨b,o',len,cap,n,k,cells,ety,fz,u,hv,hi,hn,hh,hc,hg,hl,hr⟩:=h
   exact ⟨b,o',len,cap,n,k,cells,ety,fz,u,hv,hi,hn,(hw b hg).trans hh,hc,hG b hg,hl,ih hr⟩
theorem PV.cell_inv {x y : PV} {j : Nat} (h : x.cell j=some y) : ∃ cs,x = .agg cs∧cs[j]? = some y:=by
 cases x<;>simp [PV.cell] at h
 exact ⟨_,rfl,h⟩
theorem mX.cell {o : OTy} {xs : List PV} {b off cap : Nat} {cells : Array Value} {ety : TypeId} {cv : Nat→Nat→Value} {fp : Nat→Nat→Nat→Prop} {F : Nat→Prop}
 (h : mX w Z o xs b off cap cells ety cv fp F) {n : Nat} {x : PV} (hx : xs[n]? = some x) (hg : o.g=true) {j : Nat} {y : PV} (hy : x.cell j=some y) :
 j<o.s∧cH o.g x j=y:=by
 obtain ⟨cs,rfl,hc⟩:=PV.cell_inv hy
 have he:=h.el n _ hx
 rw [hg] at he
 obtain ⟨cs',hcs,hl⟩:=tF he
 cases hcs
 refine ⟨by have:=(List.getElem?_eq_some_iff.1 hc).1;omega,?_⟩
 rw [hg,dW,List.getD,hc];rfl
theorem nZ : ∀ {path : cK} {o : OTy} {c : PV} {k : OTy→PV→Option R} {r : R},getK o c path k=some r→
 ∃ c',k (o.along path) c'=some r∧∀ (w : World) (Z : Nat→Prop) (v : Value) (F : Nat→Prop),bL w Z o c v F→(o.along path).isLeaf=false→
   ∃ v' F',cC w F o v path v'∧bL w Z (o.along path) c' v' F'∧∀ r,F' r→F r
 | [],o,c,k,r,h=>⟨c,h,λw Z v F hr _=>⟨v,F,rfl,hr,λ_ h=>h⟩⟩
 | (i,j)::path,o,c,k,r,h=>by
   unfold getK at h
   obtain ⟨x,hx,h1⟩:=aL h
   clear h
   have leafy : ∀ {o : OTy} {p : cK},(o.along p).isLeaf=false→o.isLeaf=false:=by
    intro o p hp
    cases o with
    | own=>rfl
    | leaf=>
      exfalso
      have : ∀ p : cK,OTy.leaf.along p = .leaf:=by
       intro p
       induction p with
       | nil=>rfl
       | cons a r ih=>obtain ⟨i,j⟩:=a;exact ih
      rw [this p] at hp
      cases hp
   split at h1
   ·rename_i hg
    obtain ⟨y,hy,h2⟩:=aL h1
    obtain ⟨c',hk,hc'⟩:=nZ h2
    refine ⟨c',hk,λw Z v F hr hlf=>?_⟩
    obtain ⟨xs,b,off,cap,cells,ety,cv,fp,kk,n,rfl,rfl,rfl,hn,he,R⟩:=hr.row_inv hx
    obtain ⟨hj,hy'⟩:=R.cell hn hg hy
    have hi : n<xs.length:=(List.getElem?_eq_some_iff.1 hn).1
    have hrr:=R.rep n j x hn hj
    rw [hy'] at hrr
    obtain ⟨v',F',hh,hr',hF⟩:=hc' w Z _ _ hrr hlf
    exact ⟨v',F',⟨b,off,xs.length,cap,n,kk,cells,ety,(0,0),cv n j,rfl,rfl,hi,R.heap,R.at_ n j hi hj,(R.foot b).2 (.inl rfl),leafy hlf,
     hh.mono (λr h=>(R.foot r).2 (.inr ⟨n,j,hi,hj,h⟩)) (λ_ _=>rfl)⟩,hr',
     λr h=>(R.foot r).2 (.inr ⟨n,j,hi,hj,hF r h⟩)⟩
   ·rename_i hg
    have hg : o.g=false:=by simpa using hg
    by_cases hb0 : Nat.beq j 0=true
    ·rw [if_pos hb0] at h1
     have h0:=aV hb0
     subst h0
     obtain ⟨c',hk,hc'⟩:=nZ h1
     refine ⟨c',hk,λw Z v F hr hlf=>?_⟩
     obtain ⟨xs,b,off,cap,cells,ety,cv,fp,kk,n,rfl,rfl,rfl,hn,he,R⟩:=hr.row_inv hx
     have hi : n<xs.length:=(List.getElem?_eq_some_iff.1 hn).1
     have hrr:=R.rep n 0 x hn R.pos
     rw [hg] at hrr
     have hrr : bL w Z (o.ct 0) x (cv n 0) (fp n 0):=hrr
     obtain ⟨v',F',hh,hr',hF⟩:=hc' w Z _ _ hrr hlf
     exact ⟨v',F',⟨b,off,xs.length,cap,n,kk,cells,ety,(0,0),cv n 0,rfl,rfl,hi,R.heap,R.at_ n 0 hi R.pos,(R.foot b).2 (.inl rfl),leafy hlf,
      hh.mono (λr h=>(R.foot r).2 (.inr ⟨n,0,hi,R.pos,h⟩)) (λ_ _=>rfl)⟩,hr',
      λr h=>(R.foot r).2 (.inr ⟨n,0,hi,R.pos,hF r h⟩)⟩
    ·rw [if_neg hb0] at h1;cases h1
theorem OTy.plain_ct {o : OTy} (h : o.plain=true) (j : Nat) : o.ct j = .leaf:=by
 cases o with
 | leaf=>rfl
 | own s e g cts=>
   simp only [OTy.plain,List.all_eq_true] at h
   simp only [OTy.ct,List.getD]
   cases hj : cts[j]? with
   | none=>rfl
   | some c=>
     have:=h c (List.mem_of_getElem? hj)
     cases c<;>simp [OTy.isLeaf] at this
     rfl
theorem bL.leaf_inv {x : PV} {v : Value} {F : Nat→Prop} (h : bL w Z .leaf x v F) : eV w Z x v:=by cases h;assumption
theorem mX.plainEl {o : OTy} {xs : List PV} {b off cap : Nat} {cells : Array Value} {ety : TypeId} {cv : Nat→Nat→Value} {fp : Nat→Nat→Nat→Prop} {F : Nat→Prop}
 (h : mX w Z o xs b off cap cells ety cv fp F) (hp : o.plain=true) {n : Nat} {x : PV} (hx : xs[n]? = some x) :
 aJ8 w Z x o.s o.g b (off+n*o.s) cells (cv n):=by
 have hi : n<xs.length:=(List.getElem?_eq_some_iff.1 hx).1
 refine ⟨h.el n x hx,λj hj=>h.at_ n j hi hj,λj hj=>h.one n j hi hj,λj hj=>?_⟩
 have:=h.rep n j x hx hj
 rw [OTy.plain_ct hp] at this
 exact this.leaf_inv
end
section
variable {P : Program} {X : Cx}
theorem rI {l : Nat} {path : cK} {i : PV} {o : OTy} {x : PV} : ∀ {n off : Nat} {k : List DV→Option R} {r : R},cellsE l path i o x n off k=some r→
 ∃ ds : List DV,k ds=some r∧ds.length=n∧∀ j : Nat,j<n→
   ((o.ct (off+j)).isLeaf=true∧∃ y,x.cell (off+j)=some y∧ds[j]? = some (.p y))∨
   ((o.ct (off+j)).isLeaf=false∧ds[j]? = some (.ref l (path++[(i,off+j)])))
 | 0,off,k,r,h=>⟨[],h,rfl,λj hj=>by omega⟩
 | n+1,off,k,r,h=>by
   unfold cellsE at h
   split at h
   ·rename_i hl
    obtain ⟨y,hy,h1⟩:=aL h
    obtain ⟨ds,hk,hlen,hds⟩:=rI h1
    refine ⟨.p y::ds,hk,by simp [hlen],λj hj=>?_⟩
    cases j with
    | zero=>exact .inl ⟨hl,y,hy,rfl⟩
    | succ j=>
      have:=hds j (by omega)
      rw [show off+1+j=off+(j+1) by omega] at this
      simpa using this
   ·rename_i hl
    obtain ⟨ds,hk,hlen,hds⟩:=rI h
    refine ⟨_,hk,by simp [hlen],λj hj=>?_⟩
    cases j with
    | zero=>exact .inr ⟨by simpa using hl,rfl⟩
    | succ j=>
      have:=hds j (by omega)
      rw [show off+1+j=off+(j+1) by omega] at this
      simpa using this
theorem rJ {c : PV} : ∀ {n off : Nat} {k : List PV→Option R} {r : R},loadK.cellsB c n off k=some r→
 ∃ vs : List PV,k vs=some r∧vs.length=n∧∀ j : Nat,j<n→∃ y,c.deref (off+j)=some y∧vs[j]? = some y
 | 0,off,k,r,h=>⟨[],h,rfl,λj hj=>by omega⟩
 | n+1,off,k,r,h=>by
   unfold loadK.cellsB at h
   obtain ⟨y,hy,h1⟩:=aL h
   obtain ⟨vs,hk,hlen,hvs⟩:=rJ h1
   refine ⟨y::vs,hk,by simp [hlen],λj hj=>?_⟩
   cases j with
   | zero=>exact ⟨y,hy,rfl⟩
   | succ j=>
     obtain ⟨z,hz,hv⟩:=hvs j (by omega)
     exact ⟨z,by rw [← hz];congr 1;omega,by simpa using hv⟩
theorem qO {c y : PV} {j : Nat} (h : c.deref j=some y) : ∃ cs,c = .bx cs∧cs[j]? = some y:=by
 cases c<;>simp [PV.deref] at h
 exact ⟨_,rfl,h⟩
theorem fS {t : TypeId} {a : Addr} {w : World} : (Instr.loadAt t (.pointer (some a))).run P w=(loadVar t a).run P w:=by
 simp [Instr.loadAt,Instr.sureAddr]
theorem cW {α : Type} {n : Nat} {f : Nat→α} {j : Nat} {v : α} (h : ((List.range n).map f)[j]? = some v) : j<n∧v=f j:=by
 rw [List.getElem?_map] at h
 rcases Nat.lt_or_ge j n with hj | hj
 ·rw [List.getElem?_range hj] at h;simp at h;exact ⟨hj,h.symm⟩
 ·rw [List.getElem?_eq_none (by simpa using hj)] at h;simp at h
theorem aAt {t : Nat} {c : PV} {off : Nat} {k : DV→Option R} {r : R} (hs : ((tabOf P).at t).size≠0)
 (h : (if ((tabOf P).at t).isAgg=true then loadK.cellsB c ((tabOf P).at t).size off (λl=>k (.agg (l.map .p))) else bd (c.deref off) λy=>k (.p y))=some r) :
 ∃ d,k d=some r∧∀ (m : aN) (b o : Nat),eV m.w m.Z c (.pointer (some ⟨b,o,none⟩))→
   ∃ v,(loadVar t ⟨b,o+off,none⟩).run P m.w = .ok v m.w∧m.rd d v:=by
 cases ha : ((tabOf P).at t).isAgg with
 | true=>
   rw [ha] at h
   simp only [if_true] at h
   obtain ⟨vs,hk,hlen,hvs⟩:=rJ h
   refine ⟨_,hk,λm b o hr=>?_⟩
   obtain ⟨y0,hy0,_⟩:=hvs 0 (by omega)
   obtain ⟨cs,rfl,_⟩:=qO hy0
   cases hr with
   | bx _ _ _ cells e fz cv hb hh hc hv hrep=>
     have hd : ∀ j : Nat,j<vs.length→∃ y,cs[off+j]? = some y∧vs[j]? = some y:=by
      intro j hj
      obtain ⟨y,hy,hv⟩:=hvs j (by omega)
      obtain ⟨cs',h1,h2⟩:=qO hy
      cases h1
      exact ⟨y,h2,hv⟩
     have hlt : ∀ j : Nat,j<vs.length→off+j<cs.length:=λj hj=>by
      obtain ⟨y,hy,_⟩:=hd j hj
      exact (List.getElem?_eq_some_iff.1 hy).1
     refine ⟨_,gN ha hh ((List.range vs.length).map λj=>cv (off+j)) (by simp [hlen]) ?_,.agg _ _ (by simp) ?_ ?_⟩
     ·intro j v hv'
      obtain ⟨hj,rfl⟩:=cW hv'
      rw [Nat.add_assoc]
      exact hc _ (hlt j hj)
     ·intro j v hv'
      obtain ⟨hj,rfl⟩:=cW hv'
      exact hv _ (hlt j hj)
     ·intro j d v hd' hv'
      obtain ⟨hj,rfl⟩:=cW hv'
      obtain ⟨y,hy,hvy⟩:=hd j hj
      rw [List.getElem?_map,hvy] at hd'
      simp at hd'
      subst hd'
      exact .p _ _ (hrep _ _ hy)
 | false=>
   rw [ha] at h
   simp only [Bool.false_eq_true,if_false] at h
   obtain ⟨y,hy,hk⟩:=aL h
   refine ⟨_,hk,λm b o hr=>?_⟩
   obtain ⟨cs,rfl,hcs⟩:=qO hy
   cases hr with
   | bx _ _ _ cells e fz cv hb hh hc hv hrep=>
     have hlt:=(List.getElem?_eq_some_iff.1 hcs).1
     exact ⟨cv off,eI ha hs hh (hc off hlt),.p _ _ (hrep off y hcs)⟩
theorem aN.live_of {m : aN} {l : Nat} {o : Own} (h : m.s.list l=some o) : m.s.live l:=by
 unfold Sx.live;rw [h];simp
theorem aAu (hT : X.T=tabOf P) {t : Nat} {da : DV} {s : St} {k : DV→Option R} {r : R} (h : loadK X t da s k=some r) :
 ∃ d,k d=some r∧∀ (m : aN),jK m→(∀ b∈(rowFoot da).rb,m.s.box b=s.box b)→(∀ l∈(rowFoot da).rl,m.s.list l=s.list l)→
   ∀ va,m.rd da va→∃ v,(Instr.loadAt t va).run P m.w = .ok v m.w∧m.rd d v:=by
 unfold loadK at h
 simp only [hT] at h
 split at h
 ·cases h
 rename_i hs
 have hs : ((tabOf P).at t).size≠0:=λe=>hs (by rw [e];rfl)
 cases da with
 | p c=>
   have h' : (if ((tabOf P).at t).isAgg=true then loadK.cellsB c ((tabOf P).at t).size 0 (λl=>k (.agg (l.map .p))) else bd (c.deref 0) λy=>k (.p y))=some r:=h
   obtain ⟨d,hk,H⟩:=aAt hs h'
   refine ⟨d,hk,λm _ _ _ va hva=>?_⟩
   have hrep : eV m.w m.Z c va:=by cases hva;assumption
   have hc : ∃ cs,c = .bx cs:=by
    split at h'
    ·obtain ⟨vs,_,hlen,hvs⟩:=rJ h'
     obtain ⟨y0,hy0,_⟩:=hvs 0 (by omega)
     obtain ⟨cs,rfl,_⟩:=qO hy0
     exact ⟨cs,rfl⟩
    ·obtain ⟨y,hy,_⟩:=aL h'
     obtain ⟨cs,rfl,_⟩:=qO hy
     exact ⟨cs,rfl⟩
   obtain ⟨cs,rfl⟩:=hc
   cases hrep with
   | bx _ b o cells e fz cv hb hh hc hv hrep=>
     obtain ⟨v,h1,h2⟩:=H m b o (.bx _ b o cells e fz cv hb hh hc hv hrep)
     exact ⟨v,by rw [fS];exact h1,h2⟩
 | bptr c off=>
   obtain ⟨d,hk,H⟩:=aAt hs h
   refine ⟨d,hk,λm _ _ _ va hva=>?_⟩
   cases hva with
   | bptr _ _ b o hrep=>
     obtain ⟨v,h1,h2⟩:=H m b o hrep
     exact ⟨v,by rw [fS];exact h1,h2⟩
 | fptr x n g off=>
   obtain ⟨y,hk,H⟩:=aAs hs (h:=h)
   refine ⟨_,hk,λm _ _ _ va hva=>?_⟩
   cases hva with
   | fptr _ _ _ _ b o cells e fz cv hz hh hel hat hone hrep=>
     obtain ⟨v,h1,h2⟩:=H m.w m.Z b o cells e fz cv hh ⟨hel,hat,hone,hrep⟩
     exact ⟨v,by rw [fS];exact h1,.p _ _ h2⟩
 | ptr b off=>
   simp only at h
   split at h
   ·rename_i cs hcs
    have hbox : ∀ (m : aN),jK m→(∀ b'∈(rowFoot (.ptr b off)).rb,m.s.box b'=s.box b')→∃ (vs : List Value) (ety : TypeId),m.w.heap[m.ρ.box b]? = some (.cells vs.toArray ety (0,0))∧vs.length=cs.length∧
     (∀ (i : Nat) v,vs[i]? = some v→bY v)∧∀ (i : Nat) d v,cs[i]? = some d→vs[i]? = some v→m.rd d v:=
     λm hi hag=>hi.box b cs (by rw [hag b (by simp [rowFoot]),hcs])
    cases ha : ((tabOf P).at t).isAgg with
    | true=>
      simp only [ha,if_true] at h
      split at h
      ·rename_i hle
       have hle : off+((tabOf P).at t).size≤cs.length:=Nat.le_of_ble_eq_true hle
       refine ⟨_,h,λm hi hag _ va hva=>?_⟩
       obtain ⟨vs,ety,hh,hl,hone,hrep⟩:=hbox m hi hag
       cases hva
       have hg : ∀ (j : Nat) v,((vs.drop off).take ((tabOf P).at t).size)[j]? = some v→j<((tabOf P).at t).size∧vs[off+j]? = some v:=by
        intro j v hv
        rw [List.getElem?_take] at hv
        split at hv
        ·rename_i hj
         rw [List.getElem?_drop] at hv
         exact ⟨hj,hv⟩
        ·cases hv
       refine ⟨_,fS.trans (gN ha hh ((vs.drop off).take ((tabOf P).at t).size) (by simp;omega) ?_),.agg _ _ (by simp;omega) ?_ ?_⟩
       ·intro j v hv
        simpa using (hg j v hv).2
       ·intro j v hv
        exact hone _ _ (hg j v hv).2
       ·intro j d v hd hv
        obtain ⟨hj,hv⟩:=hg j v hv
        rw [List.getElem?_take,if_pos hj,List.getElem?_drop] at hd
        exact hrep _ _ _ hd hv
      ·cases h
    | false=>
      simp only [ha,Bool.false_eq_true,if_false] at h
      split at h
      ·rename_i d hd
       refine ⟨_,h,λm hi hag _ va hva=>?_⟩
       obtain ⟨vs,ety,hh,hl,hone,hrep⟩:=hbox m hi hag
       cases hva
       have hlt : off<vs.length:=by
        have:=(List.getElem?_eq_some_iff.1 hd).1
        omega
       have hv : vs[off]? = some vs[off]:=List.getElem?_eq_getElem hlt
       exact ⟨vs[off],by rw [fS];exact eI ha hs hh (by simpa using hv),hrep _ _ _ hd hv⟩
      ·cases h
   ·cases h
 | eptr l path i off=>
   simp only at h
   split at h
   ·rename_i w0 hw0
    obtain ⟨c',h1,H⟩:=nZ h
    obtain ⟨x,hx,h2⟩:=aL h1
    clear h h1
    have row : ∀ (m : aN),jK m→(∀ l'∈(rowFoot (.eptr l path i off)).rl,m.s.list l'=s.list l')→∀ va,m.rd (.eptr l path i off) va→
     ∃ (xs : List PV) (b o cap : Nat) (cells : Array Value) (ety : TypeId) (cv : Nat→Nat→Value) (fp : Nat→Nat→Nat→Prop) (F : Nat→Prop) (kk : IntKind) (n : Nat),
       m.ρ.fp l b∧m.s.live l∧m.ρ.ul l∧w0.o=m.ρ.ty l∧cC m.w (m.ρ.fp l) (m.ρ.ty l) (m.ρ.hdr l) path (.slice (some ⟨b,o,none⟩) xs.length cap)∧
       i = .int kk n∧xs[n]? = some x∧mX m.w m.Z (w0.o.along path) xs b o cap cells ety cv fp F∧va = .pointer (some ⟨b,o+n*(w0.o.along path).s+off,none⟩):=by
     intro m hi hag va hva
     have hl : m.s.list l=some w0:=by rw [hag l (by simp [rowFoot]),hw0]
     obtain ⟨hty,_,hro⟩:=hi.row l w0 hl
     have hlf : (w0.o.along path).isLeaf=false:=by
      cases ho : w0.o.along path with
      | own=>rfl
      | leaf=>
        exfalso
        rw [ho] at hx
        obtain ⟨_,_,_,_,_,_,he⟩:=PV.at_inv hx
        cases x<;>simp [PV.isEl,OTy.s,OTy.g] at he
     obtain ⟨v',F',hh,hr',hFF⟩:=H m.w m.Z _ _ hro hlf
     obtain ⟨xs,b,o,cap,cells,ety,cv,fp,kk,n,hc',hv',hi',hn,he,R⟩:=hr'.row_inv hx
     have hlive : m.s.live l:=aN.live_of hl
     cases hva with
     | eptr _ _ _ _ _ hul hcell hd=>
       obtain ⟨b2,o2,len2,cap2,k2,n2,hh2,hi2,hn2,hva⟩:=hd hlive
       rw [← hty] at hh2
       have:=hh.unique hh2
       rw [hv'] at this
       cases this
       rw [hi'] at hi2
       cases hi2
       refine ⟨xs,b,o,cap,cells,ety,cv,fp,F',kk,n,hFF b ((R.foot b).2 (.inl rfl)),hlive,hul,hty,?_,hi',hn,R,?_⟩
       ·rw [← hty];rw [hv'] at hh;exact hh
       ·rw [hva,hty]
    split at h2
    ·rename_i hp
     obtain ⟨y,hk,HP⟩:=aAs hs (h:=h2)
     refine ⟨_,hk,λm hi _ hag va hva=>?_⟩
     obtain ⟨xs,b,o,cap,cells,ety,cv,fp,F,kk,n,HB,hlive,hul,hty,hh,hi',hn,R,rfl⟩:=row m hi hag va hva
     obtain ⟨v,hv1,hv2⟩:=HP m.w m.Z b _ cells ety (0,0) (cv n) R.heap (R.plainEl hp hn)
     exact ⟨v,by rw [fS];exact hv1,.p _ _ hv2⟩
    ·rename_i hp
     split at h2
     ·rename_i ha
      split at h2
      ·rename_i hgl
       simp only [Bool.and_eq_true] at hgl
       obtain ⟨hg,hle⟩:=hgl
       have hle:=Nat.le_of_ble_eq_true hle
       obtain ⟨ds,hk,hlen,hds⟩:=rI h2
       refine ⟨_,hk,λm hi _ hag va hva=>?_⟩
       obtain ⟨xs,b,o,cap,cells,ety,cv,fp,F,kk,n,HB,hlive,hul,hty,hh,hi',hn,R,rfl⟩:=row m hi hag va hva
       have hi2 : n<xs.length:=(List.getElem?_eq_some_iff.1 hn).1
       refine ⟨_,fS.trans (gN ha R.heap ((List.range ((tabOf P).at t).size).map λj=>cv n (off+j)) (by simp) ?_),.agg _ _ (by simp [hlen]) ?_ ?_⟩
       ·intro j v hv
        obtain ⟨hj,rfl⟩:=cW hv
        have:=R.at_ n (off+j) hi2 (by omega)
        rwa [show o+n*(w0.o.along path).s+off+j=o+n*(w0.o.along path).s+(off+j) by omega]
       ·intro j v hv
        obtain ⟨hj,rfl⟩:=cW hv
        exact R.one n (off+j) hi2 (by omega)
       ·intro j d v hd hv
        obtain ⟨hj,rfl⟩:=cW hv
        have hro:=R.rep n (off+j) x hn (by omega)
        rcases hds j hj with ⟨hlf,y,hy,hd'⟩ | ⟨hlf,hd'⟩
        ·rw [hd'] at hd;cases hd
         obtain ⟨_,he⟩:=R.cell hn hg hy
         rw [he] at hro
         have : (w0.o.along path).ct (off+j) = .leaf:=by cases hct : (w0.o.along path).ct (off+j)<;>rw [hct] at hlf<;>simp [OTy.isLeaf] at hlf ⊢
         rw [this] at hro
         exact .p _ _ hro.leaf_inv
        ·rw [hd'] at hd;cases hd
         refine .ref _ _ _ hul (R.one n (off+j) hi2 (by omega)) (λ_=>hh.append ?_)
         rw [← hty]
         exact ⟨b,o,xs.length,cap,n,kk,cells,ety,(0,0),cv n (off+j),rfl,hi',hi2,R.heap,R.at_ n (off+j) hi2 (by omega),HB,hlf,rfl⟩
      ·cases h2
     ·rename_i ha
      have ha : ((tabOf P).at t).isAgg=false:=by simpa using ha
      split at h2
      ·rename_i hg
       split at h2
       ·rename_i hlf
        obtain ⟨y,hy,hk⟩:=aL h2
        refine ⟨_,hk,λm hi _ hag va hva=>?_⟩
        obtain ⟨xs,b,o,cap,cells,ety,cv,fp,F,kk,n,HB,hlive,hul,hty,hh,hi',hn,R,rfl⟩:=row m hi hag va hva
        have hi2 : n<xs.length:=(List.getElem?_eq_some_iff.1 hn).1
        obtain ⟨hj,he⟩:=R.cell hn hg hy
        have hro:=R.rep n off x hn hj
        rw [he] at hro
        have : (w0.o.along path).ct off = .leaf:=by cases hct : (w0.o.along path).ct off<;>rw [hct] at hlf<;>simp [OTy.isLeaf] at hlf ⊢
        rw [this] at hro
        exact ⟨cv n off,by rw [fS];exact eI ha hs R.heap (R.at_ n off hi2 hj),.p _ _ hro.leaf_inv⟩
       ·rename_i hlf
        split at h2
        ·rename_i hlt
         have hj : off<(w0.o.along path).s:=by simpa [Nat.blt_eq] using hlt
         refine ⟨_,h2,λm hi _ hag va hva=>?_⟩
         obtain ⟨xs,b,o,cap,cells,ety,cv,fp,F,kk,n,HB,hlive,hul,hty,hh,hi',hn,R,rfl⟩:=row m hi hag va hva
         have hi2 : n<xs.length:=(List.getElem?_eq_some_iff.1 hn).1
         refine ⟨cv n off,by rw [fS];exact eI ha hs R.heap (R.at_ n off hi2 hj),.ref _ _ _ hul (R.one n off hi2 hj) (λ_=>hh.append ?_)⟩
         rw [← hty]
         exact ⟨b,o,xs.length,cap,n,kk,cells,ety,(0,0),cv n off,rfl,hi',hi2,R.heap,R.at_ n off hi2 hj,HB,by simpa using hlf,rfl⟩
        ·cases h2
      ·split at h2
       ·rename_i h0
        simp only [Bool.and_eq_true,Bool.not_eq_true'] at h0
        obtain ⟨h0,HL⟩:=h0
        have h0:=aV h0
        subst h0
        refine ⟨_,h2,λm hi _ hag va hva=>?_⟩
        obtain ⟨xs,b,o,cap,cells,ety,cv,fp,F,kk,n,HB,hlive,hul,hty,hh,hi',hn,R,rfl⟩:=row m hi hag va hva
        have hi2 : n<xs.length:=(List.getElem?_eq_some_iff.1 hn).1
        refine ⟨cv n 0,by rw [fS];exact eI ha hs R.heap (R.at_ n 0 hi2 R.pos),.ref _ _ _ hul (R.one n 0 hi2 R.pos) (λ_=>hh.append ?_)⟩
        rw [← hty]
        exact ⟨b,o,xs.length,cap,n,kk,cells,ety,(0,0),cv n 0,rfl,hi',hi2,R.heap,R.at_ n 0 hi2 R.pos,HB,HL,rfl⟩
       ·cases h2
   ·cases h
 | nils=>cases h
 | agg=>cases h
 | tup=>cases h
 | fn=>cases h
 | ref=>cases h
 | sref=>cases h
 | gptr=>cases h
 | nilq=>cases h
 | bsl=>cases h
 | dead=>cases h
theorem zG {d : DV} {k : DV→Option R} {r : R} (h : soK d k=some r) :
 ∃ d',k d'=some r∧rowFoot d'=rowFoot (soD d)∧(∀ s v,storeFoot s d' v=storeFoot s (soD d) v)∧∀ (m : aN) v,m.rd d v→m.rd d' v:=by
 cases d with
 | gptr l path i off=>
   obtain ⟨i',hi,hk⟩:=aL h
   have : ∃ k0 n0,i = .int k0 n0∧i'=i:=by
    unfold PV.isInt at hi
    split at hi
    ·cases hi;exact ⟨_,_,rfl,rfl⟩
    ·cases hi
   obtain ⟨k0,n0,h1,rfl⟩:=this
   refine ⟨_,hk,rfl,λ_ _=>rfl,λm v hv=>?_⟩
   cases hv with
   | gptr _ _ _ _ _ hc hh=>exact .eptr _ _ _ _ _ (hh k0 n0 h1).1 hc (λhl=>(hh k0 n0 h1).2 hl)
 | _=>exact ⟨_,h,rfl,λ_ _=>rfl,λ_ _ hv=>hv⟩
end
theorem aDK {w : World} {b o : Nat} {v : Value} {cells : Array Value} {e : TypeId} {fz : Nat × Nat} (h : w.heap[b]? = some (.cells cells e fz)) :
 (w.setCell ⟨b,o,none⟩ v).heap[b]? = some (.cells (cells.setIfInBounds o v) e fz):=by
 simp only [World.setCell,Array.getElem?_modify,if_true,h,Option.map_some]
 rfl
theorem aAQ {w : World} {b o r : Nat} {v : Value} (h : r≠b) : (w.setCell ⟨b,o,none⟩ v).heap[r]? = w.heap[r]?:=by
 simp only [World.setCell,Array.getElem?_modify]
 rw [if_neg (λe=>h e.symm)]
theorem dX {b r : Nat} (h : r≠b) : ∀ (vs : List Value) (o : Nat) (w : World),(w.setCells b o vs).heap[r]? = w.heap[r]?
 | [],_,_=>rfl
 | v::vs,o,w=>by rw [World.setCells,dX h vs,aAQ h]
theorem jM : ∀ (vs : List Value) (b o : Nat) (w : World),(w.setCells b o vs).heap.size=w.heap.size∧(w.setCells b o vs).os=w.os∧
 (w.setCells b o vs).tape=w.tape∧(w.setCells b o vs).output=w.output
 | [],_,_,_=>⟨rfl,rfl,rfl,rfl⟩
 | v::vs,b,o,w=>by
   obtain ⟨h1,h2,h3,h4⟩:=jM vs b (o+1) (w.setCell ⟨b,o,none⟩ v)
   rw [World.setCells]
   exact ⟨by rw [h1];simp,by rw [h2];rfl,by rw [h3];rfl,by rw [h4];rfl⟩
theorem jN {b : Nat} {e : TypeId} {fz : Nat × Nat} : ∀ (vs : List Value) (o : Nat) (w : World) (cells : Array Value),w.heap[b]? = some (.cells cells e fz)→
 o+vs.length≤cells.size→∃ cells',(w.setCells b o vs).heap[b]? = some (.cells cells' e fz)∧cells'.size=cells.size∧
  (∀ j : Nat,j<vs.length→cells'[o+j]? = vs[j]?)∧∀ k : Nat,(k<o∨o+vs.length≤k)→cells'[k]? = cells[k]?
 | [],o,w,cells,h,_=>⟨cells,h,rfl,λj hj=>by simp at hj,λ_ _=>rfl⟩
 | v::vs,o,w,cells,h,hle=>by
   simp only [List.length_cons] at hle
   obtain ⟨c',h1,h2,h3,h4⟩:=jN vs (o+1) _ _ (aDK (o:=o) (v:=v) h) (by simp;omega)
   refine ⟨c',h1,by rw [h2];simp,?_,?_⟩
   ·intro j hj
    cases j with
    | zero=>
      rw [h4 (o+0) (.inl (by omega))]
      simp only [Nat.add_zero,Array.getElem?_setIfInBounds,if_true]
      rw [if_pos (by omega)]
      rfl
    | succ j=>
      have:=h3 j (by simp at hj;omega)
      rw [show o+(j+1)=o+1+j by omega,this]
      rfl
   ·intro k hk
    simp only [List.length_cons] at hk
    rw [h4 k (by omega)]
    rw [Array.getElem?_setIfInBounds,if_neg (by omega)]
section
variable {w : World} {Z : Nat → Prop}
theorem mX.repO {o : OTy} {xs : List PV} {b off cap : Nat} {cells : Array Value} {ety : TypeId} {cv : Nat→Nat→Value} {fp : Nat→Nat→Nat→Prop} {F : Nat→Prop}
 (R : mX w Z o xs b off cap cells ety cv fp F) : bL w Z o (.lst xs) (.slice (some ⟨b,off,none⟩) xs.length cap) F:=by
 cases o with
 | leaf=>cases R.leaf
 | own s e g cts=>exact .own s e g cts xs b off cap cells ety cv fp F R.heap R.pos R.room R.len R.nz R.el R.at_ R.one R.rep R.foot R.fb R.fd
theorem mX.update {o : OTy} {xs : List PV} {b off cap : Nat} {cells : Array Value} {ety : TypeId} {cv : Nat→Nat→Value} {fp : Nat→Nat→Nat→Prop} {F : Nat→Prop}
 (R : mX w Z o xs b off cap cells ety cv fp F) {n : Nat} {x x' : PV} (hn : xs[n]? = some x) (hx' : x'.isEl o.s o.g=true) (j0 : Nat) (us : List Value)
 (hle : j0+us.length≤o.s) (hus : ∀ (j : Nat) u,us[j]? = some u→bY u) (G : Nat→Nat→Prop)
 (hkeep : ∀ j : Nat,j<o.s→(j<j0∨j0+us.length≤j)→cH o.g x' j=cH o.g x j)
 (hnew : ∀ (j : Nat) u,us[j]? = some u→bL (w.setCells b (off+n*o.s+j0) us) Z (o.ct (j0+j)) (cH o.g x' (j0+j)) u (G j))
 (hGF : ∀ j r : Nat,j<us.length→G j r→¬ F r) (hGG : ∀ j j' r : Nat,j<us.length→j'<us.length→G j r→G j' r→j=j') :
 ∃ (cells' : Array Value) (cv' : Nat→Nat→Value) (fp' : Nat→Nat→Nat→Prop) (F' : Nat→Prop),
   mX (w.setCells b (off+n*o.s+j0) us) Z o (xs.set n x') b off cap cells' ety cv' fp' F'∧(∀ r,F' r→F r∨∃ j : Nat,j<us.length∧G j r):=by
 have hi : n<xs.length:=(List.getElem?_eq_some_iff.1 hn).1
 have hpos:=R.pos
 have hnm : n*o.s+o.s≤xs.length*o.s:=by
  have : (n+1)*o.s≤xs.length*o.s:=Nat.mul_le_mul_right _ hi
  rwa [Nat.succ_mul] at this
 have hcm : xs.length*o.s≤cap*o.s:=Nat.mul_le_mul_right _ R.len
 have hroom:=R.room
 obtain ⟨cells',h1,h2,h3,h4⟩:=jN us (off+n*o.s+j0) w cells R.heap (by omega)
 have hb : F b:=(R.foot b).2 (.inl rfl)
 have place : ∀ i j : Nat,i<xs.length→j<o.s→¬ (i=n∧j0≤j∧j<j0+us.length)→
  (off+i*o.s+j<off+n*o.s+j0∨off+n*o.s+j0+us.length≤off+i*o.s+j):=by
  intro i j hi' hj hne
  rcases Nat.lt_trichotomy i n with h | h | h
  ·left
   have : (i+1)*o.s≤n*o.s:=Nat.mul_le_mul_right _ h
   rw [Nat.succ_mul] at this
   omega
  ·subst h
   by_cases hj0 : j<j0
   ·left;omega
   ·right
    have : ¬ (j<j0+us.length):=λh'=>hne ⟨rfl,by omega,h'⟩
    omega
  ·right
   have : (n+1)*o.s≤i*o.s:=Nat.mul_le_mul_right _ h
   rw [Nat.succ_mul] at this
   omega
 have hfr : ∀ r,F r→r≠b→(w.setCells b (off+n*o.s+j0) us).heap[r]? = w.heap[r]?:=λr _ h=>dX h us _ w
 have hzr : ∀ r,Z r→(w.setCells b (off+n*o.s+j0) us).heap[r]? = w.heap[r]?:=λr hz=>dX (λe=>R.nz (by rw [← e];exact hz)) us _ w
 have hlen : (xs.set n x').length=xs.length:=List.length_set
 refine ⟨cells',λi j=>if i=n∧j0≤j∧j<j0+us.length then us.getD (j - j0) undef else cv i j,
  λi j r=>if i=n∧j0≤j∧j<j0+us.length then G (j - j0) r else fp i j r,
  λr=>r=b∨∃ i j : Nat,i<xs.length∧j<o.s∧(if i=n∧j0≤j∧j<j0+us.length then G (j - j0) r else fp i j r),?_,?_⟩
 ·refine ⟨R.leaf,h1,hpos,by rw [h2];exact hroom,by rw [hlen];exact R.len,R.nz,?_,?_,?_,?_,?_,?_,?_⟩
  ·intro i y hy
   rw [List.getElem?_set] at hy
   split at hy
   ·have : x'=y:=by simpa [hi] using hy
    rw [← this];exact hx'
   ·exact R.el i y hy
  ·intro i j hi' hj
   rw [hlen] at hi'
   by_cases hin : i=n∧j0≤j∧j<j0+us.length
   ·rw [if_pos hin]
    obtain ⟨rfl,ha,hb'⟩:=hin
    have:=h3 (j - j0) (by omega)
    rw [show off+i*o.s+j0+(j - j0)=off+i*o.s+j by omega] at this
    rw [this,List.getD,List.getElem?_eq_getElem (by omega)]
    rfl
   ·rw [if_neg hin,h4 _ (place i j hi' hj hin),R.at_ i j hi' hj]
  ·intro i j hi' hj
   rw [hlen] at hi'
   split
   ·rename_i hin
    exact hus (j - j0) _ (by rw [List.getD,List.getElem?_eq_getElem (by omega)];rfl)
   ·exact R.one i j hi' hj
  ·intro i j y hy hj
   by_cases hin : i=n∧j0≤j∧j<j0+us.length
   ·rw [if_pos hin]
    have e2 : (λr=>if i=n∧j0≤j∧j<j0+us.length then G (j - j0) r else fp i j r)=G (j - j0):=by funext r;rw [if_pos hin]
    show bL _ Z (o.ct j) (cH o.g y j) _ (λr=>if i=n∧j0≤j∧j<j0+us.length then G (j - j0) r else fp i j r)
    rw [e2]
    obtain ⟨hin0,ha,hb'⟩:=hin
    subst hin0
    rw [List.getElem?_set_self hi] at hy
    cases hy
    have hu : us[j - j0]? = some us[j - j0]:=List.getElem?_eq_getElem (by omega)
    have:=hnew (j - j0) _ hu
    rw [show j0+(j - j0)=j by omega] at this
    rw [List.getD,hu]
    exact this
   ·rw [if_neg hin]
    have e2 : (λr=>if i=n∧j0≤j∧j<j0+us.length then G (j - j0) r else fp i j r)=fp i j:=by funext r;rw [if_neg hin]
    show bL _ Z (o.ct j) (cH o.g y j) _ (λr=>if i=n∧j0≤j∧j<j0+us.length then G (j - j0) r else fp i j r)
    rw [e2]
    have hxi : ∃ z,xs[i]? = some z∧cH o.g y j=cH o.g z j:=by
     by_cases hni : n=i
     ·subst hni
      rw [List.getElem?_set_self hi] at hy
      cases hy
      refine ⟨x,hn,hkeep j hj ?_⟩
      by_cases hj0 : j<j0
      ·exact .inl hj0
      ·right
       have : ¬ (j<j0+us.length):=λh'=>hin ⟨rfl,by omega,h'⟩
       omega
     ·rw [List.getElem?_set_ne hni] at hy
      exact ⟨y,hy,rfl⟩
    obtain ⟨z,hz,he⟩:=hxi
    have hi' : i<xs.length:=(List.getElem?_eq_some_iff.1 hz).1
    rw [he]
    have hro:=R.rep i j z hz hj
    exact hro.frame (λ_ h=>h) hzr (λr hr=>hfr r ((R.foot r).2 (.inr ⟨i,j,hi',hj,hr⟩)) (λe=>R.fb i j hi' hj (by rw [← e];exact hr))) (λr hr=>hro.notZ r hr)
  ·intro r
   rw [hlen]
  ·intro i j hi' hj
   rw [hlen] at hi'
   split
   ·rename_i hin
    exact λh=>hGF _ b (by omega) h hb
   ·exact R.fb i j hi' hj
  ·intro i j i' j' r hi1 hj1 hi2 hj2 hr1 hr2
   rw [hlen] at hi1 hi2
   split at hr1<;>split at hr2
   ·rename_i ha hb'
    have:=hGG _ _ r (by omega) (by omega) hr1 hr2
    omega
   ·exact absurd ((R.foot r).2 (.inr ⟨i',j',hi2,hj2,hr2⟩)) (hGF _ r (by omega) hr1)
   ·exact absurd ((R.foot r).2 (.inr ⟨i,j,hi1,hj1,hr1⟩)) (hGF _ r (by omega) hr2)
   ·exact R.fd i j i' j' r hi1 hj1 hi2 hj2 hr1 hr2
 ·rintro r (rfl | ⟨i,j,hi',hj,hr⟩)
  ·exact .inl hb
  ·split at hr
   ·rename_i hin
    exact .inr ⟨j - j0,by omega,hr⟩
   ·exact .inl ((R.foot r).2 (.inr ⟨i,j,hi',hj,hr⟩))
theorem mX.replace {w' : World} {o : OTy} {xs : List PV} {b off cap : Nat} {cells : Array Value} {ety : TypeId} {cv : Nat→Nat→Value} {fp : Nat→Nat→Nat→Prop} {F : Nat→Prop}
 (R : mX w Z o xs b off cap cells ety cv fp F) {n j0 : Nat} {x x' : PV} (hn : xs[n]? = some x) (hj0 : j0<o.s) (hx' : x'.isEl o.s o.g=true)
 (hkeep : ∀ j : Nat,j<o.s→j≠j0→cH o.g x' j=cH o.g x j) {G : Nat→Prop} (hnew : bL w' Z (o.ct j0) (cH o.g x' j0) (cv n j0) G)
 (hw : ∀ r,Z r∨(F r∧¬ fp n j0 r)→w'.heap[r]? = w.heap[r]?) (hG : ∀ r,G r→fp n j0 r∨¬ F r) :
 ∃ (fp' : Nat→Nat→Nat→Prop) (F' : Nat→Prop),mX w' Z o (xs.set n x') b off cap cells ety cv fp' F'∧(∀ r,F' r→(F r∧¬ fp n j0 r)∨G r):=by
 have hi : n<xs.length:=(List.getElem?_eq_some_iff.1 hn).1
 have hlen : (xs.set n x').length=xs.length:=List.length_set
 have hb : F b:=(R.foot b).2 (.inl rfl)
 have hbn : ¬ fp n j0 b:=R.fb n j0 hi hj0
 have hGb : ¬ G b:=λh=>(hG b h).elim hbn (λh'=>h' hb)
 refine ⟨λi j r=>if i=n∧j=j0 then G r else fp i j r,λr=>r=b∨∃ i j : Nat,i<xs.length∧j<o.s∧(if i=n∧j=j0 then G r else fp i j r),?_,?_⟩
 ·refine ⟨R.leaf,(hw b (.inr ⟨hb,hbn⟩)).trans R.heap,R.pos,R.room,by rw [hlen];exact R.len,R.nz,?_,?_,?_,?_,?_,?_,?_⟩
  ·intro i y hy
   rw [List.getElem?_set] at hy
   split at hy
   ·have : x'=y:=by simpa [hi] using hy
    rw [← this];exact hx'
   ·exact R.el i y hy
  ·intro i j hi' hj
   rw [hlen] at hi'
   exact R.at_ i j hi' hj
  ·intro i j hi' hj
   rw [hlen] at hi'
   exact R.one i j hi' hj
  ·intro i j y hy hj
   by_cases hin : i=n∧j=j0
   ·have e2 : (λr=>if i=n∧j=j0 then G r else fp i j r)=G:=by funext r;rw [if_pos hin]
    show bL _ Z (o.ct j) (cH o.g y j) _ (λr=>if i=n∧j=j0 then G r else fp i j r)
    rw [e2]
    obtain ⟨h1,h2⟩:=hin
    subst h1;subst h2
    rw [List.getElem?_set_self hi] at hy
    cases hy
    exact hnew
   ·have e2 : (λr=>if i=n∧j=j0 then G r else fp i j r)=fp i j:=by funext r;rw [if_neg hin]
    show bL _ Z (o.ct j) (cH o.g y j) _ (λr=>if i=n∧j=j0 then G r else fp i j r)
    rw [e2]
    have hxi : ∃ z,xs[i]? = some z∧cH o.g y j=cH o.g z j:=by
     by_cases hni : n=i
     ·subst hni
      rw [List.getElem?_set_self hi] at hy
      cases hy
      exact ⟨x,hn,hkeep j hj (λe=>hin ⟨rfl,e⟩)⟩
     ·rw [List.getElem?_set_ne hni] at hy
      exact ⟨y,hy,rfl⟩
    obtain ⟨z,hz,he⟩:=hxi
    have hi' : i<xs.length:=(List.getElem?_eq_some_iff.1 hz).1
    rw [he]
    have hro:=R.rep i j z hz hj
    refine hro.frame (λ_ h=>h) (λr hr=>hw r (.inl hr)) (λr hr=>hw r (.inr ⟨(R.foot r).2 (.inr ⟨i,j,hi',hj,hr⟩),λh=>?_⟩)) (λr hr=>hro.notZ r hr)
    have:=R.fd i j n j0 r hi' hj hi hj0 hr h
    exact hin this
  ·intro r
   rw [hlen]
  ·intro i j hi' hj
   rw [hlen] at hi'
   split
   ·exact hGb
   ·exact R.fb i j hi' hj
  ·intro i j i' j' r hi1 hj1 hi2 hj2 hr1 hr2
   rw [hlen] at hi1 hi2
   have no : ∀ i j : Nat,i<xs.length→j<o.s→¬ (i=n∧j=j0)→fp i j r→¬ G r:=by
    intro i j hi' hj hne h hg
    rcases hG r hg with h' | h'
    ·exact hne (R.fd i j n j0 r hi' hj hi hj0 h h')
    ·exact h' ((R.foot r).2 (.inr ⟨i,j,hi',hj,h⟩))
   split at hr1<;>split at hr2
   ·omega
   ·rename_i ha hb';exact absurd hr1 (no i' j' hi2 hj2 hb' hr2)
   ·rename_i ha hb';exact absurd hr2 (no i j hi1 hj1 ha hr1)
   ·exact R.fd i j i' j' r hi1 hj1 hi2 hj2 hr1 hr2
 ·rintro r (rfl | ⟨i,j,hi',hj,hr⟩)
  ·exact .inl ⟨hb,hbn⟩
  ·split at hr
   ·exact .inr hr
   ·rename_i hne
    exact .inl ⟨(R.foot r).2 (.inr ⟨i,j,hi',hj,hr⟩),λh=>hne (R.fd i j n j0 r hi' hj hi hj0 hr h)⟩
def zH (o : OTy) (c : PV) : cK→Option PV
 | []=>some c
 | (i,j)::r=>match PV.at_ o.s o.g c i with
   | some x=>if o.g then (match x.cell j with | some y=>zH (o.ct j) y r | none=>none) else if Nat.beq j 0 then zH (o.ct 0) x r else none
   | none=>none
theorem kM : ∀ {path : cK} {o : OTy} {c : PV} {k : OTy→PV→Option R} {r : R},getK o c path k=some r→∃ c',zH o c path=some c'∧k (o.along path) c'=some r
 | [],o,c,k,r,h=>⟨c,rfl,h⟩
 | (i,j)::path,o,c,k,r,h=>by
   unfold getK at h
   obtain ⟨x,hx,h1⟩:=aL h
   unfold zH
   rw [hx]
   dsimp only
   split at h1
   ·rename_i hg
    obtain ⟨y,hy,h2⟩:=aL h1
    obtain ⟨c',hc,hk⟩:=kM h2
    exact ⟨c',by rw [if_pos hg,hy];exact hc,hk⟩
   ·rename_i hg
    by_cases hb0 : Nat.beq j 0=true
    ·rw [if_pos hb0] at h1
     have h0:=aV hb0
     subst h0
     obtain ⟨c',hc,hk⟩:=kM h1
     exact ⟨c',by rw [if_neg hg,if_pos hb0];exact hc,hk⟩
    ·rw [if_neg hb0] at h1;cases h1
theorem OTy.leaf_along : ∀ p : cK,OTy.leaf.along p = .leaf
 | []=>rfl
 | (_,_)::r=>OTy.leaf_along r
theorem OTy.along_leaf {o : OTy} {p : cK} (hp : (o.along p).isLeaf=false) : o.isLeaf=false:=by
 cases o with
 | own=>rfl
 | leaf=>rw [OTy.leaf_along p] at hp;cases hp
theorem PV.setCell_inv {s : Nat} {xs : List PV} {k : IntKind} {n : Nat} {x : PV} (hn : xs[n]? = some x) {j : Nat} {v c' : PV}
 (h : PV.setCell s (.lst xs) (.int k n) j v=some c') :
 ∃ cs,x = .agg cs∧cs.length=s∧j<s∧v.isEl 1 false=true∧c' = .lst (xs.set n (.agg (cs.set j v))):=by
 unfold PV.setCell at h
 simp only [Int.natCast_nonneg,if_true,Int.toNat_natCast] at h
 rw [hn] at h
 split at h
 ·rename_i cs he
  cases he
  split at h
  ·rename_i hc
   cases h
   exact ⟨cs,rfl,hc.1,hc.2.1,hc.2.2,rfl⟩
  ·cases h
 ·cases h
theorem PV.setAt_inv {s : Nat} {g : Bool} {xs : List PV} {k : IntKind} {n : Nat} {v c' : PV} (h : PV.setAt s g (.lst xs) (.int k n) v=some c') :
 n<xs.length∧v.isEl s g=true∧c' = .lst (xs.set n v):=by
 unfold PV.setAt at h
 simp only [Int.natCast_nonneg,true_and,Int.toNat_natCast] at h
 split at h
 ·rename_i hc
  cases h
  exact ⟨by omega,hc.2,rfl⟩
 ·cases h
theorem iD : ∀ {path : cK} {o : OTy} {c y : PV} {k : PV→Option R} {r : R},setK o c path y k=some r→
 ∃ c' c1,k c'=some r∧zH o c path=some c1∧∀ (w : World) (Z : Nat→Prop) (v : Value) (F : Nat→Prop),bL w Z o c v F→(o.along path).isLeaf=false→
   ∃ v1 F1,cC w F o v path v1∧bL w Z (o.along path) c1 v1 F1∧(∀ r,F1 r→F r)∧
     ∀ (w' : World) (G : Nat→Prop),bL w' Z (o.along path) y v1 G→(∀ r,Z r∨(F r∧¬ F1 r)→w'.heap[r]? = w.heap[r]?)→(∀ r,G r→F1 r∨¬ F r)→
       ∃ F',bL w' Z o c' v F'∧∀ r,F' r→(F r∧¬ F1 r)∨G r
 | [],o,c,y,k,r,h=>⟨y,c,h,rfl,λw Z v F hr _=>⟨v,F,rfl,hr,λ_ h=>h,λw' G hy _ _=>⟨G,hy,λ_ h=>.inr h⟩⟩⟩
 | (i,j)::path,o,c,y,k,r,h=>by
   unfold setK at h
   obtain ⟨x,hx,h1⟩:=aL h
   clear h
   split at h1
   ·rename_i hg
    obtain ⟨z,hz,h2⟩:=aL h1
    obtain ⟨z',c1,h3,hget,H⟩:=iD h2
    obtain ⟨c',hc',hk⟩:=aL h3
    refine ⟨c',c1,hk,by unfold zH;rw [hx];dsimp only;rw [if_pos hg,hz];exact hget,λw Z v F hr hlf=>?_⟩
    obtain ⟨xs,b,off,cap,cells,ety,cv,fp,kk,n,rfl,rfl,rfl,hn,he,R⟩:=hr.row_inv hx
    obtain ⟨hj,hz'⟩:=R.cell hn hg hz
    have hi : n<xs.length:=(List.getElem?_eq_some_iff.1 hn).1
    have hrr:=R.rep n j x hn hj
    rw [hz'] at hrr
    obtain ⟨v1,F1,hh,hr1,hF1,H'⟩:=H w Z _ _ hrr hlf
    obtain ⟨cs,rfl,hl,hjs,hzel,rfl⟩:=PV.setCell_inv hn hc'
    refine ⟨v1,F1,⟨b,off,xs.length,cap,n,kk,cells,ety,(0,0),cv n j,rfl,rfl,hi,R.heap,R.at_ n j hi hj,(R.foot b).2 (.inl rfl),OTy.along_leaf hlf,
     hh.mono (λr h=>(R.foot r).2 (.inr ⟨n,j,hi,hj,h⟩)) (λ_ _=>rfl)⟩,hr1,λr h=>(R.foot r).2 (.inr ⟨n,j,hi,hj,hF1 r h⟩),λw' G hy hw hG=>?_⟩
    have sub : ∀ r,fp n j r→F r:=λr h=>(R.foot r).2 (.inr ⟨n,j,hi,hj,h⟩)
    obtain ⟨F',hr',hF'⟩:=H' w' G hy (λr h=>hw r (h.imp id (λh=>⟨sub r h.1,h.2⟩)))
     (λr h=>(hG r h).imp id (λh h'=>h (sub r h')))
    have hel : (PV.agg (cs.set j z')).isEl o.s o.g=true:=by
     rw [hg];simp [PV.isEl,hl]
    have hc0 : cH o.g (.agg (cs.set j z')) j=z':=by
     rw [hg,dW,List.getD,List.getElem?_set_self (by omega)];rfl
    obtain ⟨fp',F'',R',hF''⟩:=R.replace (w':=w') hn hj hel (λj' hj' hne=>by
     rw [hg,dW,dW,List.getD,List.getD,List.getElem?_set_ne (Ne.symm hne)]) (G:=F') (by rw [hc0];exact hr')
     (λr h=>hw r (h.imp id (λh=>⟨h.1,λh'=>h.2 (hF1 r h')⟩)))
     (λr h=>by
      rcases hF' r h with h' | h'
      ·exact .inl h'.1
      ·rcases hG r h' with h'' | h''
       ·exact .inl (hF1 r h'')
       ·exact .inr h'')
    refine ⟨F'',?_,λr h=>?_⟩
    ·have:=R'.repO
     rwa [List.length_set] at this
    ·rcases hF'' r h with h' | h'
     ·exact .inl ⟨h'.1,λh''=>h'.2 (hF1 r h'')⟩
     ·rcases hF' r h' with h'' | h''
      ·exact .inl ⟨sub r h''.1,h''.2⟩
      ·exact .inr h''
   ·rename_i hg
    have hgf : o.g=false:=by simpa using hg
    by_cases hb0 : Nat.beq j 0=true
    ·rw [if_pos hb0] at h1
     have h0:=aV hb0
     subst h0
     obtain ⟨z',c1,h3,hget,H⟩:=iD h1
     obtain ⟨c',hc',hk⟩:=aL h3
     refine ⟨c',c1,hk,by unfold zH;rw [hx];dsimp only;rw [if_neg hg,if_pos hb0];exact hget,λw Z v F hr hlf=>?_⟩
     obtain ⟨xs,b,off,cap,cells,ety,cv,fp,kk,n,rfl,rfl,rfl,hn,he,R⟩:=hr.row_inv hx
     have hi : n<xs.length:=(List.getElem?_eq_some_iff.1 hn).1
     have hrr:=R.rep n 0 x hn R.pos
     rw [hgf] at hrr
     have hrr : bL w Z (o.ct 0) x (cv n 0) (fp n 0):=hrr
     obtain ⟨v1,F1,hh,hr1,hF1,H'⟩:=H w Z _ _ hrr hlf
     obtain ⟨_,hel,rfl⟩:=PV.setAt_inv hc'
     refine ⟨v1,F1,⟨b,off,xs.length,cap,n,kk,cells,ety,(0,0),cv n 0,rfl,rfl,hi,R.heap,R.at_ n 0 hi R.pos,(R.foot b).2 (.inl rfl),OTy.along_leaf hlf,
      hh.mono (λr h=>(R.foot r).2 (.inr ⟨n,0,hi,R.pos,h⟩)) (λ_ _=>rfl)⟩,hr1,λr h=>(R.foot r).2 (.inr ⟨n,0,hi,R.pos,hF1 r h⟩),λw' G hy hw hG=>?_⟩
     have sub : ∀ r,fp n 0 r→F r:=λr h=>(R.foot r).2 (.inr ⟨n,0,hi,R.pos,h⟩)
     obtain ⟨F',hr',hF'⟩:=H' w' G hy (λr h=>hw r (h.imp id (λh=>⟨sub r h.1,h.2⟩)))
      (λr h=>(hG r h).imp id (λh h'=>h (sub r h')))
     have hs1 : o.s=1:=by
      have:=R.el n x hn
      rw [hgf] at this
      exact xU this
     obtain ⟨fp',F'',R',hF''⟩:=R.replace (w':=w') hn R.pos (x':=z') hel (λj' hj' hne=>by omega) (G:=F')
      (by rw [hgf];exact hr')
      (λr h=>hw r (h.imp id (λh=>⟨h.1,λh'=>h.2 (hF1 r h')⟩)))
      (λr h=>by
       rcases hF' r h with h' | h'
       ·exact .inl h'.1
       ·rcases hG r h' with h'' | h''
        ·exact .inl (hF1 r h'')
        ·exact .inr h'')
     refine ⟨F'',?_,λr h=>?_⟩
     ·have:=R'.repO
      rwa [List.length_set] at this
     ·rcases hF'' r h with h' | h'
      ·exact .inl ⟨h'.1,λh''=>h'.2 (hF1 r h'')⟩
      ·rcases hF' r h' with h'' | h''
       ·exact .inl ⟨sub r h''.1,h''.2⟩
       ·exact .inr h''
    ·rw [if_neg hb0] at h1;cases h1
end
structure sF (w w' : World) (Z Z' : Nat→Prop) (ρ ρ' : Loc) (live live' : Nat→Prop) (gone : Nat→Prop) : Prop where
 z : ∀ r,Z r→Z' r
 hw : ∀ r,Z r→w'.heap[r]? = w.heap[r]?
 b : ∀ b,ρ.ub b→ρ'.ub b∧ρ'.box b=ρ.box b
 u : ∀ l,ρ.ul l→ρ'.ul l
 l : ∀ l,ρ.ul l→live' l→live l∧ρ'.hdr l=ρ.hdr l∧ρ'.ty l=ρ.ty l∧
  (gone l∨(ρ.ty l).plain=true∨∀ r,ρ.fp l r→ρ'.fp l r∧w'.heap[r]? = w.heap[r]?)
theorem lX {x : Nat} : ∀ {l : List Nat},mem x l=true↔x∈l
 | []=>by simp [mem]
 | y::r=>by
   unfold mem
   split
   ·rename_i h;have:=aV h;subst this;simp
   ·rename_i h
    have hne : x≠y:=λe=>h (by subst e;simp)
    rw [lX]
    simp [hne]
theorem cC.plain {w : World} {G : Nat→Prop} {o : OTy} {v v' : Value} {path : cK} (h : cC w G o v path v') (hp : o.plain=true) : path = []:=by
 cases path with
 | nil=>rfl
 | cons p r=>
   obtain ⟨i,j⟩:=p
   obtain ⟨_,_,_,_,_,_,_,_,_,_,_,_,_,_,_,_,hl,_⟩:=h
   rw [OTy.plain_ct hp] at hl
   cases hl
theorem sF.hdr {w w' : World} {Z Z' : Nat→Prop} {ρ ρ' : Loc} {live live' gone : Nat→Prop} (C : sF w w' Z Z' ρ ρ' live live' gone) {l : Nat} (hu : ρ.ul l) (hl : live' l)
 {path : cK} {v : Value} (hg : gone l→path = []) (h : live l→cC w (ρ.fp l) (ρ.ty l) (ρ.hdr l) path v) : cC w' (ρ'.fp l) (ρ'.ty l) (ρ'.hdr l) path v:=by
 obtain ⟨h1,h2,h3,h4⟩:=C.l l hu hl
 have h:=h h1
 rw [h2,h3]
 by_cases hp : path = []
 ·subst hp;exact h
 ·rcases h4 with h4 | h4 | h4
  ·exact absurd (hg h4) hp
  ·exact absurd (h.plain h4) hp
  ·exact h.mono (λr hr=>(h4 r hr).1) (λr hr=>(h4 r hr).2)
theorem bX.carry {w w' : World} {Z Z' : Nat→Prop} {ρ ρ' : Loc} {live live' : Nat→Prop} (C : sF w w' Z Z' ρ ρ' live live' (λ_=>False)) {d : DV} {v : Value}
 (h : bX w Z ρ live d v) : bX w' Z' ρ' live' d v:=by
 induction h with
 | p x v h=>exact .p x v (h.mono C.z C.hw)
 | nils=>exact .nils
 | agg ds vs hl hc _ ih=>exact .agg ds vs hl hc ih
 | tup ds vs hl _ ih=>exact .tup ds vs hl ih
 | fn f ds vs hl _ ih=>exact .fn f ds vs hl ih
 | ptr b off hb=>rw [← (C.b b hb).2];exact .ptr b off (C.b b hb).1
 | bsl b n hb=>rw [← (C.b b hb).2];exact .bsl b n (C.b b hb).1
 | ref l path v hu hc h=>exact .ref l path v (C.u l hu) hc (λhl=>C.hdr hu hl False.elim h)
 | sref l path lo hi v hu hc h=>
   refine .sref l path lo hi v (C.u l hu) hc (λhl=>?_)
   obtain ⟨a,len,cap,k,k',mm,n,h1,h2⟩:=h (C.l l hu hl).1
   have e:=(C.l l hu hl).2.2.1
   exact ⟨a,len,cap,k,k',mm,n,C.hdr hu hl False.elim (λ_=>h1),by rw [e];exact h2⟩
 | eptr l path i off v hu hc h=>
   refine .eptr l path i off v (C.u l hu) hc (λhl=>?_)
   obtain ⟨b,o,len,cap,k,n,h1,h2⟩:=h (C.l l hu hl).1
   have e:=(C.l l hu hl).2.2.1
   exact ⟨b,o,len,cap,k,n,C.hdr hu hl False.elim (λ_=>h1),by rw [e];exact h2⟩
 | fptr x s g off b o cells e fz cv hz hh hel hat hone hrep=>
   exact .fptr x s g off b o cells e fz cv (C.z b hz) ((C.hw b hz).trans hh) hel hat hone (λj hj=>(hrep j hj).mono C.z C.hw)
 | bptr c off b o h=>exact .bptr c off b o (h.mono C.z C.hw)
 | gptr l path i off v hc h=>
   refine .gptr l path i off v hc (λk0 n0 hi=>⟨C.u l (h k0 n0 hi).1,λhl=>?_⟩)
   obtain ⟨hu,h⟩:=h k0 n0 hi
   obtain ⟨b,o,len,cap,k,n,h1,h2⟩:=h (C.l l hu hl).1
   have e:=(C.l l hu hl).2.2.1
   exact ⟨b,o,len,cap,k,n,C.hdr hu hl False.elim (λ_=>h1),by rw [e];exact h2⟩
 | nilq c neg b h=>exact .nilq c neg b h
 | dead v=>exact .dead v
theorem bX.scrub {w w' : World} {Z Z' : Nat→Prop} {ρ ρ' : Loc} {live live' : Nat→Prop} {l0 : List Nat} (C : sF w w' Z Z' ρ ρ' live live' (λl=>l∈l0)) :
 ∀ (n : Nat) {d : DV} {v : Value},bX w Z ρ live d v→bX w' Z' ρ' live' (scrub l0 0 n d) v:=by
 have key : ∀ (f : DV→DV),(∀ d v,bX w Z ρ live d v→bX w' Z' ρ' live' (f d) v)→∀ {d : DV} {v : Value},bX w Z ρ live d v→bX w' Z' ρ' live' (scrub1 l0 0 f d) v:=by
  intro f hf d v h
  have path0 : ∀ {l : Nat} {path : cK},¬ ((mem l l0&&Nat.blt 0 path.length)=true)→l∈l0→path = []:=by
   intro l path hn e
   have e:=lX.2 e
   cases path with
   | nil=>rfl
   | cons a r=>exact absurd (by simp [Nat.blt_eq,e]) hn
  cases h with
  | p x v h=>exact .p x v (h.mono C.z C.hw)
  | nils=>exact .nils
  | agg ds vs hl hc h=>
    refine .agg _ vs (by simp [hl]) hc (λi d v hd hv=>?_)
    rw [List.getElem?_map] at hd
    cases hdi : ds[i]? with
    | none=>rw [hdi] at hd;cases hd
    | some d0=>rw [hdi] at hd;cases hd;exact hf _ _ (h i d0 v hdi hv)
  | tup ds vs hl h=>
    refine .tup _ vs (by simp [hl]) (λi d v hd hv=>?_)
    rw [List.getElem?_map] at hd
    cases hdi : ds[i]? with
    | none=>rw [hdi] at hd;cases hd
    | some d0=>rw [hdi] at hd;cases hd;exact hf _ _ (h i d0 v hdi hv)
  | fn g ds vs hl h=>
    refine .fn g _ vs (by simp [hl]) (λi d v hd hv=>?_)
    rw [List.getElem?_map] at hd
    cases hdi : ds[i]? with
    | none=>rw [hdi] at hd;cases hd
    | some d0=>rw [hdi] at hd;cases hd;exact hf _ _ (h i d0 v hdi hv)
  | ptr b off hb=>rw [← (C.b b hb).2];exact .ptr b off (C.b b hb).1
  | bsl b n hb=>rw [← (C.b b hb).2];exact .bsl b n (C.b b hb).1
  | ref l path v hu hc h=>
    unfold scrub1
    dsimp only
    split
    ·exact .dead v
    ·rename_i hn
     exact .ref l path v (C.u l hu) hc (λhl=>C.hdr hu hl (path0 hn) h)
  | sref l path lo hi v hu hc h=>
    unfold scrub1
    dsimp only
    split
    ·exact .dead v
    ·rename_i hn
     refine .sref l path lo hi v (C.u l hu) hc (λhl=>?_)
     obtain ⟨a,len,cap,k,k',mm,n,h1,h2⟩:=h (C.l l hu hl).1
     have e:=(C.l l hu hl).2.2.1
     exact ⟨a,len,cap,k,k',mm,n,C.hdr hu hl (path0 hn) (λ_=>h1),by rw [e];exact h2⟩
  | eptr l path i off v hu hc h=>
    unfold scrub1
    dsimp only
    split
    ·exact .dead v
    ·rename_i hn
     refine .eptr l path i off v (C.u l hu) hc (λhl=>?_)
     obtain ⟨b,o,len,cap,k,n,h1,h2⟩:=h (C.l l hu hl).1
     have e:=(C.l l hu hl).2.2.1
     exact ⟨b,o,len,cap,k,n,C.hdr hu hl (path0 hn) (λ_=>h1),by rw [e];exact h2⟩
  | fptr x s g off b o cells e fz cv hz hh hel hat hone hrep=>
    exact .fptr x s g off b o cells e fz cv (C.z b hz) ((C.hw b hz).trans hh) hel hat hone (λj hj=>(hrep j hj).mono C.z C.hw)
  | bptr c off b o h=>exact .bptr c off b o (h.mono C.z C.hw)
  | gptr l path i off v hc h=>
    unfold scrub1
    dsimp only
    split
    ·exact .dead v
    ·rename_i hn
     refine .gptr l path i off v hc (λk0 n0 hi=>⟨C.u l (h k0 n0 hi).1,λhl=>?_⟩)
     obtain ⟨hu,h⟩:=h k0 n0 hi
     obtain ⟨b,o,len,cap,k,n,h1,h2⟩:=h (C.l l hu hl).1
     have e:=(C.l l hu hl).2.2.1
     exact ⟨b,o,len,cap,k,n,C.hdr hu hl (path0 hn) (λ_=>h1),by rw [e];exact h2⟩
  | nilq c neg b h=>exact .nilq c neg b h
  | dead v=>exact .dead v
 intro n
 induction n with
 | zero=>intro d v h;exact key _ (λ_ _ _=>.dead _) h
 | succ n ih=>intro d v h;exact key _ (λ_ _ h=>ih h) h
theorem OTy.shallow_ct {o : OTy} (h : o.shallow=true) (j i : Nat) : ((o.ct j).ct i).isLeaf=true:=by
 cases o with
 | leaf=>rfl
 | own s e g cts=>
   simp only [OTy.shallow,List.all_eq_true,Bool.or_eq_true] at h
   have hct : (OTy.own s e g cts).ct j=cts.getD j .leaf:=rfl
   rw [hct]
   cases hj : cts[j]? with
   | none=>rw [List.getD,hj];rfl
   | some c=>
     rw [List.getD,hj]
     show (c.ct i).isLeaf=true
     rcases h c (List.mem_of_getElem? hj) with h | h
     ·cases c with
      | leaf=>rfl
      | own=>cases h
     ·rw [OTy.plain_ct h];rfl
theorem bX.carryH {w w' : World} {Z Z' : Nat→Prop} {ρ ρ' : Loc} {live live' : Nat→Prop} (hz : ∀ r,Z r→Z' r) (hw : ∀ r,Z r→w'.heap[r]? = w.heap[r]?) (hb : ∀ b,ρ.ub b→ρ'.ub b∧ρ'.box b=ρ.box b) (hu : ∀ l,ρ.ul l→ρ'.ul l)
 (hl : ∀ l,ρ.ul l→live' l→live l∧ρ'.ty l=ρ.ty l∧∀ path v,cC w (ρ.fp l) (ρ.ty l) (ρ.hdr l) path v→cC w' (ρ'.fp l) (ρ'.ty l) (ρ'.hdr l) path v) {d : DV} {v : Value}
 (h : bX w Z ρ live d v) : bX w' Z' ρ' live' d v:=by
 induction h with
 | p x v h=>exact .p x v (h.mono hz hw)
 | nils=>exact .nils
 | agg ds vs hl hc _ ih=>exact .agg ds vs hl hc ih
 | tup ds vs hl _ ih=>exact .tup ds vs hl ih
 | fn f ds vs hl _ ih=>exact .fn f ds vs hl ih
 | ptr b off hub=>rw [← (hb b hub).2];exact .ptr b off (hb b hub).1
 | bsl b n hub=>rw [← (hb b hub).2];exact .bsl b n (hb b hub).1
 | ref l path v hul hc h=>exact .ref l path v (hu l hul) hc (λhv=>(hl l hul hv).2.2 path v (h (hl l hul hv).1))
 | sref l path lo hi v hul hc h=>
   refine .sref l path lo hi v (hu l hul) hc (λhv=>?_)
   obtain ⟨a,len,cap,k,k',mm,n,h1,h2⟩:=h (hl l hul hv).1
   obtain ⟨_,e,H⟩:=hl l hul hv
   exact ⟨a,len,cap,k,k',mm,n,H _ _ h1,by rw [e];exact h2⟩
 | eptr l path i off v hul hc h=>
   refine .eptr l path i off v (hu l hul) hc (λhv=>?_)
   obtain ⟨b,o,len,cap,k,n,h1,h2⟩:=h (hl l hul hv).1
   obtain ⟨_,e,H⟩:=hl l hul hv
   exact ⟨b,o,len,cap,k,n,H _ _ h1,by rw [e];exact h2⟩
 | fptr x s g off b o cells e fz cv hzb hh hel hat hone hrep=>
   exact .fptr x s g off b o cells e fz cv (hz b hzb) ((hw b hzb).trans hh) hel hat hone (λj hj=>(hrep j hj).mono hz hw)
 | bptr c off b o h=>exact .bptr c off b o (h.mono hz hw)
 | gptr l path i off v hc h=>
   refine .gptr l path i off v hc (λk0 n0 hi=>⟨hu l (h k0 n0 hi).1,λhv=>?_⟩)
   obtain ⟨hul,h⟩:=h k0 n0 hi
   obtain ⟨b,o,len,cap,k,n,h1,h2⟩:=h (hl l hul hv).1
   obtain ⟨_,e,H⟩:=hl l hul hv
   exact ⟨b,o,len,cap,k,n,H _ _ h1,by rw [e];exact h2⟩
 | nilq c neg b h=>exact .nilq c neg b h
 | dead v=>exact .dead v
theorem dS.row {m m' : aN} {scr : DV→DV} {n l : Nat} (inv : jK m)
 (hrd : ∀ d v,m.rd d v→m'.rd (scr d) v)
 (hbox : ∀ b,m'.s.box b=(m.s.box b).map (·.map scr))
 (hoth : ∀ l',l'≠l→m'.s.list l'=m.s.list l'∧m'.ρ.hdr l'=m.ρ.hdr l'∧m'.ρ.fp l'=m.ρ.fp l'∧m'.ρ.ty l'=m.ρ.ty l')
 (hρ : m'.ρ.box=m.ρ.box∧m'.ρ.ub=m.ρ.ub) (hul : ∀ x,m'.ρ.ul x↔m.ρ.ul x∨x=l) (hl : m.ρ.ul l∨(n≤l∧l<n+16))
 (hrow : ∀ o,m'.s.list l=some o→o.o=m'.ρ.ty l∧o.o.isLeaf=false∧bL m'.w m'.Z o.o o.c (m'.ρ.hdr l) (m'.ρ.fp l))
 (hsame : m.ρ.ul l→m'.s.live l→m.s.live l∧m'.ρ.hdr l=m.ρ.hdr l∧m'.ρ.ty l=m.ρ.ty l)
 (hfp : ∀ o r,m'.s.list l=some o→m'.ρ.fp l r→(∃ o0,m.s.list l=some o0∧m.ρ.fp l r)∨m.L r∨m.w.heap.size≤r)
 (hsize : m.w.heap.size≤m'.w.heap.size) (hos : m'.w.os=m.w.os) (htape : m'.w.tape=m.w.tape) (hout : m'.w.output=m.w.output)
 (hw : ∀ r,r<m.w.heap.size→¬ (∃ o0,m.s.list l=some o0∧m.ρ.fp l r)→¬ m.L r→m'.w.heap[r]? = m.w.heap[r]?)
 (hzz : ∀ r,m.Z r→m'.Z r) (hz : ∀ r,m'.Z r→m.Z r∨(∃ o0,m.s.list l=some o0∧m.ρ.fp l r)∨m.w.heap.size≤r) (hzlt : ∀ r,m'.Z r→r<m'.w.heap.size)
 (hLL : ∀ r,m'.L r→(m.L r∨(∃ o0,m.s.list l=some o0∧m.ρ.fp l r)∨m.w.heap.size≤r)∧¬ m'.Z r∧r<m'.w.heap.size∧∀ o,m'.s.list l=some o→¬ m'.ρ.fp l r) :
 dS m m' scr n:=by
 have size_of : ∀ {r},m.owned r→r<m.w.heap.size:=λh=>inv.owned_lt h
 have boxof : ∀ {b cs'},m'.s.box b=some cs'→∃ cs,m.s.box b=some cs∧cs'=cs.map scr:=by
  intro b cs' h
  rw [hbox] at h
  cases hb : m.s.box b with
  | none=>rw [hb] at h;cases h
  | some cs=>rw [hb] at h;cases h;exact ⟨cs,rfl,rfl⟩
 have listof : ∀ {l' o},l'≠l→m'.s.list l'=some o→m.s.list l'=some o:=λhne h=>by rw [← (hoth _ hne).1];exact h
 have rowfree : ∀ {l' o r},l'≠l→m.s.list l'=some o→m.ρ.fp l' r→¬ (∃ o0,m.s.list l=some o0∧m.ρ.fp l r):=λhne hl' hf h=>by
  obtain ⟨o0,h0,hf0⟩:=h
  exact hne (inv.ll _ _ _ _ _ hl' h0 hf hf0)
 have boxfree : ∀ {b cs},m.s.box b=some cs→¬ (∃ o0,m.s.list l=some o0∧m.ρ.fp l (m.ρ.box b)):=λhb h=>by
  obtain ⟨o0,h0,hf0⟩:=h
  exact inv.bl _ _ _ _ hb h0 hf0
 have boxlt : ∀ {b cs},m.s.box b=some cs→m.ρ.box b<m.w.heap.size:=λhb=>size_of (.inl ⟨_,_,hb,rfl⟩)
 have rowlt : ∀ {l' o r},m.s.list l'=some o→m.ρ.fp l' r→r<m.w.heap.size:=λhl' hf=>size_of (.inr (.inl ⟨_,_,hl',hf⟩))
 have zfree : ∀ {r},m.owned r→¬ (∃ o0,m.s.list l=some o0∧m.ρ.fp l r)→¬ m'.Z r:=λho hn hz'=>by
  rcases hz _ hz' with h | h | h
  ·exact inv.owned_notZ ho h
  ·exact hn h
  ·have:=size_of ho;omega
 have inv' : jK m':=by
  refine ⟨?_,?_,inv.zlt.next hzz (λr hr=>hw r (inv.zlt r hr) (λ⟨o0,h4,h5⟩=>(inv.row l o0 h4).2.2.notZ r h5 hr) (λhL=>(inv.Lz r hL).1 hr)) hzlt,?_,?_,?_,?_,?_,?_,?_,?_,?_⟩
  ·intro b cs' h
   obtain ⟨cs,hb,_⟩:=boxof h
   rw [hρ.2];exact inv.ub b cs hb
  ·intro l' o h
   by_cases e : l'=l
   ·subst e;exact (hul _).2 (.inr rfl)
   ·exact (hul _).2 (.inl (inv.ul l' o (listof e h)))
  ·intro b cs' h
   obtain ⟨cs,hb,rfl⟩:=boxof h
   obtain ⟨vs,ety,hh,hlen,hone,hrep⟩:=inv.box b cs hb
   refine ⟨vs,ety,?_,by simp [hlen],hone,?_⟩
   ·rw [hρ.1,hw _ (boxlt hb) (boxfree hb) (inv.Lb b cs hb)];exact hh
   ·intro i d v hd hv
    rw [List.getElem?_map] at hd
    cases hc : cs[i]? with
    | none=>rw [hc] at hd;cases hd
    | some d0=>rw [hc] at hd;cases hd;exact hrd _ _ (hrep i d0 v hc hv)
  ·intro l' o h
   by_cases e : l'=l
   ·subst e;exact hrow o h
   ·have h0:=listof e h
    obtain ⟨h1,h2,h3⟩:=inv.row l' o h0
    obtain ⟨_,e1,e2,e3⟩:=hoth l' e
    refine ⟨h1.trans e3.symm,h2,?_⟩
    rw [e1,e2]
    refine h3.frame hzz (λr hr=>hw r (inv.zlt r hr) (λ⟨o0,h4,h5⟩=>(inv.row l o0 h4).2.2.notZ r h5 hr) (λhL=>(inv.Lz r hL).1 hr))
     (λr hr=>hw r (rowlt h0 hr) (rowfree e h0 hr) (inv.Ll l' o r h0 hr)) (λr hr=>zfree (.inr (.inl ⟨l',o,h0,hr⟩)) (rowfree e h0 hr))
  ·intro b cs' h
   obtain ⟨cs,hb,_⟩:=boxof h
   rw [hρ.1]
   exact zfree (.inl ⟨b,cs,hb,rfl⟩) (boxfree hb)
  ·intro b cs b' cs' h h' e
   obtain ⟨c1,h1,_⟩:=boxof h
   obtain ⟨c2,h2,_⟩:=boxof h'
   rw [hρ.1] at e
   exact inv.bb b c1 b' c2 h1 h2 e
  ·intro b cs l' o h h' hf
   obtain ⟨c1,h1,_⟩:=boxof h
   rw [hρ.1] at hf
   by_cases e : l'=l
   ·subst e
    rcases hfp o _ h' hf with h2 | h2 | h2
    ·exact boxfree h1 h2
    ·exact inv.Lb b c1 h1 h2
    ·have:=boxlt h1;omega
   ·rw [(hoth l' e).2.2.1] at hf
    exact inv.bl b c1 l' o h1 (listof e h') hf
  ·intro l1 o1 l2 o2 r h1 h2 hf1 hf2
   by_cases e1 : l1=l
   ·by_cases e2 : l2=l
    ·rw [e1,e2]
    ·exfalso
     subst e1
     rw [(hoth l2 e2).2.2.1] at hf2
     have h2':=listof e2 h2
     rcases hfp o1 r h1 hf1 with h3 | h3 | h3
     ·exact rowfree e2 h2' hf2 h3
     ·exact inv.Ll l2 o2 r h2' hf2 h3
     ·have:=rowlt h2' hf2;omega
   ·by_cases e2 : l2=l
    ·exfalso
     subst e2
     rw [(hoth l1 e1).2.2.1] at hf1
     have h1':=listof e1 h1
     rcases hfp o2 r h2 hf2 with h3 | h3 | h3
     ·exact rowfree e1 h1' hf1 h3
     ·exact inv.Ll l1 o1 r h1' hf1 h3
     ·have:=rowlt h1' hf1;omega
    ·rw [(hoth l1 e1).2.2.1] at hf1
     rw [(hoth l2 e2).2.2.1] at hf2
     exact inv.ll l1 o1 l2 o2 r (listof e1 h1) (listof e2 h2) hf1 hf2
  ·intro r hr
   exact ⟨(hLL r hr).2.1,(hLL r hr).2.2.1⟩
  ·intro b cs h hL
   obtain ⟨c1,h1,_⟩:=boxof h
   rw [hρ.1] at hL
   rcases (hLL _ hL).1 with h2 | h2 | h2
   ·exact inv.Lb b c1 h1 h2
   ·exact boxfree h1 h2
   ·have:=boxlt h1;omega
  ·intro l' o r h hf hL
   by_cases e : l'=l
   ·subst e;exact (hLL r hL).2.2.2 o h hf
   ·rw [(hoth l' e).2.2.1] at hf
    have h':=listof e h
    rcases (hLL r hL).1 with h2 | h2 | h2
    ·exact inv.Ll l' o r h' hf h2
    ·exact rowfree e h' hf h2
    ·have:=rowlt h' hf;omega
 refine ⟨inv',hrd,hsize,hos,htape,hout,?_,?_,?_,hzz,?_,?_,?_,?_,?_,?_⟩
 ·intro r hr ho
  exact hw r hr (λ⟨o0,h1,h2⟩=>ho (.inr (.inl ⟨l,o0,h1,h2⟩))) (λh=>ho (.inr (.inr h)))
 ·rintro r (⟨b,cs',h,rfl⟩ | ⟨l',o,h,hf⟩ | hL)
  ·obtain ⟨cs,hb,_⟩:=boxof h
   rw [hρ.1]
   exact .inl (.inl ⟨b,cs,hb,rfl⟩)
  ·by_cases e : l'=l
   ·subst e
    rcases hfp o r h hf with ⟨o0,h1,h2⟩ | h2 | h2
    ·exact .inl (.inr (.inl ⟨l',o0,h1,h2⟩))
    ·exact .inl (.inr (.inr h2))
    ·exact .inr h2
   ·rw [(hoth l' e).2.2.1] at hf
    exact .inl (.inr (.inl ⟨l',o,listof e h,hf⟩))
  ·rcases (hLL r hL).1 with h2 | ⟨o0,h1,h2⟩ | h2
   ·exact .inl (.inr (.inr h2))
   ·exact .inl (.inr (.inl ⟨l,o0,h1,h2⟩))
   ·exact .inr h2
 ·intro r hr
  rcases hz r hr with h | ⟨o0,h1,h2⟩ | h
  ·exact .inl h
  ·exact .inr (.inl (.inr (.inl ⟨l,o0,h1,h2⟩)))
  ·exact .inr (.inr h)
 ·intro b hb
  rw [hρ.2] at hb
  exact .inl hb
 ·intro x hx
  rcases (hul x).1 hx with h | rfl
  ·exact .inl h
  ·exact hl.imp id id
 ·intro b hb
  rw [hρ.1,hρ.2]
  exact ⟨hb,rfl⟩
 ·intro x hx
  exact (hul x).2 (.inl hx)
 ·intro b cs hb
  exact ⟨cs.map scr,by rw [hbox,hb];rfl⟩
 ·intro x hx hv
  by_cases e : x=l
  ·subst e;exact hsame hx hv
  ·obtain ⟨h1,h2,h3,h4⟩:=hoth x e
   refine ⟨?_,h2,h4⟩
   unfold Sx.live at hv ⊢
   rwa [← h1]
theorem kN {m n : Nat} {x : PV} (h : PV.bound m x=some n) : ∃ k,x = .int k n∧n≤m:=by
 unfold PV.bound at h
 split at h
 ·rename_i k i
  split at h
  ·rename_i hb
   cases h
   exact ⟨k,by rw [Int.toNat_of_nonneg hb.1],by omega⟩
  ·cases h
 ·cases h
theorem iT {s : Nat} {g : Bool} {c lo hi y : PV} (h : PV.cut s g c lo hi=some y) :
 ∃ (xs : List PV) (m n : Nat) (k k' : IntKind),c = .lst xs∧lo = .int k m∧hi = .int k' n∧m≤n∧n≤xs.length∧y = .lst ((xs.take n).drop m)∧PV.headIs s g xs=true:=by
 unfold PV.cut at h
 split at h
 ·rename_i xs
  split at h
  ·rename_i hh
   cases hb : PV.bound xs.length hi with
   | none=>rw [hb] at h;cases h
   | some n=>
     rw [hb] at h
     simp only [Option.bind_some] at h
     cases hb2 : PV.bound n lo with
     | none=>rw [hb2] at h;cases h
     | some m=>
       rw [hb2] at h
       simp only [Option.bind_some] at h
       cases h
       obtain ⟨k',h1,h2⟩:=kN hb
       obtain ⟨k,h3,h4⟩:=kN hb2
       exact ⟨xs,m,n,k,k',rfl,h3,h1,h4,h2,rfl,hh⟩
  ·cases h
 ·cases h
theorem zI {x : PV} {s s' : Nat} {g g' : Bool} (h : x.isEl s g=true) (h' : x.isEl s' g'=true) : s=s'∧g=g':=by
 cases x<;>simp [PV.isEl] at h h'<;>simp_all
section
variable {w : World} {Z : Nat → Prop}
theorem eV.cut {s : Nat} {g : Bool} {xs : List PV} {v : Value} (h : eV w Z (.lst xs) v) (hd : PV.headIs s g xs=true) {m n : Nat} (hmn : m≤n) (hn : n≤xs.length) :
 ∃ a len cap,v = .slice a len cap∧len=xs.length∧eV w Z (.lst ((xs.take n).drop m)) (.slice (if cap=m then a else a.map (·.add (m*s))) (n - m) (cap - m)):=by
 have hlen : ((xs.take n).drop m).length=n - m:=by simp;omega
 cases h with
 | empty a cap=>
   simp at hn
   subst hn
   have : m=0:=by omega
   subst this
   refine ⟨a,0,cap,rfl,rfl,?_⟩
   simpa using eV.empty (w:=w) (Z:=Z) _ _
 | lst _ b o s0 cap g0 cells e fz cv hb hh hs hcap he hc hv hr=>
   refine ⟨_,_,cap,rfl,rfl,?_⟩
   by_cases hnm : n=m
   ·subst hnm
    have : (xs.take n).drop n = []:=by
     apply List.eq_nil_of_length_eq_zero
     omega
    rw [this,Nat.sub_self]
    exact .empty _ _
   ·have hx0 : ∃ x,xs[0]? = some x:=⟨xs[0]'(by omega),List.getElem?_eq_getElem (by omega)⟩
    obtain ⟨x0,hx0⟩:=hx0
    have hs0 : s0=s:=by
     cases xs with
     | nil=>simp at hx0
     | cons a r=>
       simp at hx0
       subst hx0
       exact (zI (he 0 a rfl) hd).1
    subst hs0
    have hcm : cap≠m:=by omega
    rw [if_neg hcm]
    have hadd : (some (⟨b,o,none⟩ : Addr)).map (·.add (m*s0))=some ⟨b,o+m*s0,none⟩:=by simp [fW]
    rw [hadd,← hlen]
    have hget : ∀ (i : Nat) x,((xs.take n).drop m)[i]? = some x→xs[m+i]? = some x:=by
     intro i x hx
     rw [List.getElem?_drop,List.getElem?_take] at hx
     split at hx
     ·exact hx
     ·cases hx
    refine .lst _ b (o+m*s0) s0 (cap - m) g0 cells e fz (λi j=>cv (m+i) j) hb hh hs (by omega) ?_ ?_ ?_ ?_
    ·intro i x hx
     exact he _ _ (hget i x hx)
    ·intro i j hi hj
     have:=hc (m+i) j (by omega) hj
     rwa [Nat.add_mul,← Nat.add_assoc] at this
    ·intro i j hi hj
     exact hv (m+i) j (by omega) hj
    ·intro i j x hx hj
     exact hr (m+i) j x (hget i x hx) hj
end
theorem cC.along_notLeaf {w : World} {G : Nat→Prop} {o : OTy} {v v' : Value} {path : cK} (h : cC w G o v path v') (ho : o.isLeaf=false) : (o.along path).isLeaf=false:=by
 induction path generalizing o v with
 | nil=>exact ho
 | cons p r ih=>
   obtain ⟨i,j⟩:=p
   obtain ⟨_,_,_,_,_,_,_,_,_,_,_,_,_,_,_,_,hl,hr⟩:=h
   exact ih hr hl
def kT (B L : Nat→Prop) (n : Nat) (d : DV) : Prop:=(∀ b∈bsOf n d,B b)∧(∀ l∈lsOf n d,L l)
theorem lJ : ∀ (n : Nat) {d : DV} {l : Nat},l∈lsOf n d→l∈lsOf (n+1) d
 | 0,d,l,h=>by
   unfold lsOf at h ⊢
   cases d<;>simp at h ⊢<;>exact h
 | n+1,d,l,h=>by
   unfold lsOf at h ⊢
   cases d<;>simp only [List.mem_flatMap,List.mem_singleton,List.not_mem_nil] at h ⊢<;>first
    | exact h
    | (obtain ⟨a,ha,hl⟩:=h;exact ⟨a,ha,lJ n hl⟩)
theorem aC4 : ∀ (n : Nat) {d : DV} {l : Nat},l∈bsOf n d→l∈bsOf (n+1) d
 | 0,d,l,h=>by
   unfold bsOf at h ⊢
   cases d<;>simp at h ⊢<;>exact h
 | n+1,d,l,h=>by
   unfold bsOf at h ⊢
   cases d<;>simp only [List.mem_flatMap,List.mem_singleton,List.not_mem_nil] at h ⊢<;>first
    | exact h
    | (obtain ⟨a,ha,hl⟩:=h;exact ⟨a,ha,aC4 n hl⟩)
theorem kT.mono {B L : Nat→Prop} {n m : Nat} (h : n≤m) {d : DV} (hd : kT B L m d) : kT B L n d:=by
 induction h with
 | refl=>exact hd
 | step _ ih=>exact ih ⟨λb hb=>hd.1 b (aC4 _ hb),λl hl=>hd.2 l (lJ _ hl)⟩
structure May (m : aN) (s : St) (B L : Nat→Prop) : Prop where
 b : ∀ b,B b→m.s.box b=s.box b
 l : ∀ l,L l→m.s.list l=s.list l
 closed : ∀ b cs,B b→s.box b=some cs→∀ d∈cs,kT B L deep d
def aDL (m : aN) (Z' : Nat→Prop) (n : Nat) (d : DV) : Prop:=
 (∀ r,m.owned r→Z' r)∨(bsOf n d = []∧∀ l∈lsOf n d,∀ o r,m.s.list l=some o→m.ρ.fp l r→Z' r)
theorem wF {α β : Type} {f : α→(β→Option R)→Option R} {T : α→β→Prop} (hf : ∀ a k r,f a k=some r→∃ b,k b=some r∧T a b) :
 ∀ {as_ : List α} {k : List β→Option R} {r : R},mapK f as_ k=some r→∃ bs : List β,k bs=some r∧as_.length=bs.length∧∀ (i : Nat) a b,as_[i]? = some a→bs[i]? = some b→T a b
 | [],k,r,h=>⟨[],h,rfl,λi a b ha=>by simp at ha⟩
 | a::as_,k,r,h=>by
   unfold mapK at h
   obtain ⟨b,h1,hT⟩:=hf _ _ _ h
   obtain ⟨bs,hk,hl,hTs⟩:=wF hf h1
   refine ⟨b::bs,hk,by simp [hl],λi x y hx hy=>?_⟩
   cases i with
   | zero=>simp at hx hy;subst hx;subst hy;exact hT
   | succ i=>simp at hx hy;exact hTs i x y hx hy
theorem tG {s : St} {l : Nat} {path : cK} {k : OTy→PV→Option R} {r : R} (h : rowK s (.ref l path) k=some r) :
 ∃ w0 c,s.list l=some w0∧k (w0.o.along path) c=some r∧∀ (m : aN),jK m→m.s.list l=some w0→∀ va,m.rd (.ref l path) va→
   ∃ F,bL m.w m.Z (w0.o.along path) c va F∧(∀ r,F r→m.ρ.fp l r)∧cC m.w (m.ρ.fp l) (m.ρ.ty l) (m.ρ.hdr l) path va∧w0.o=m.ρ.ty l:=by
 unfold rowK at h
 simp only at h
 split at h
 ·rename_i w0 hw0
  obtain ⟨c,hk,H⟩:=nZ h
  refine ⟨w0,c,hw0,hk,λm hi hm va hva=>?_⟩
  obtain ⟨hty,hlf,hro⟩:=hi.row l w0 hm
  cases hva with
  | ref _ _ _ hul hc hd=>
    have hd:=hd (aN.live_of hm)
    have hd':=hd
    rw [← hty] at hd'
    obtain ⟨v',F',hh,hr',hF⟩:=H m.w m.Z _ _ hro (hd'.along_notLeaf hlf)
    have:=hh.unique hd'
    subst this
    exact ⟨F',hr',hF,hd,hty⟩
 ·cases h
theorem uM {s : St} {l : Nat} {path : cK} {lo hi : PV} {k : OTy→PV→Option R} {r : R} (h : rowK s (.sref l path lo hi) k=some r) :
 ∃ w0 c y,s.list l=some w0∧PV.cut (w0.o.along path).s (w0.o.along path).g c lo hi=some y∧k (w0.o.along path) y=some r∧∀ (m : aN),jK m→m.s.list l=some w0→∀ va,m.rd (.sref l path lo hi) va→
   ∃ F v0,bL m.w m.Z (w0.o.along path) c v0 F∧(∀ r,F r→m.ρ.fp l r)∧cC m.w (m.ρ.fp l) (m.ρ.ty l) (m.ρ.hdr l) path v0∧w0.o=m.ρ.ty l∧
     ∃ (a : Option Addr) (len cap : Nat) (k k' : IntKind) (m' n : Nat),v0 = .slice a len cap∧lo = .int k m'∧hi = .int k' n∧m'≤n∧n≤len∧
       va = .slice (if cap=m' then a else a.map (·.add (m'*(w0.o.along path).s))) (n - m') (cap - m'):=by
 unfold rowK at h
 simp only at h
 split at h
 ·rename_i w0 hw0
  obtain ⟨c,hk,H⟩:=nZ h
  obtain ⟨y,hy,hk⟩:=aL hk
  refine ⟨w0,c,y,hw0,hy,hk,λm hi' hm va hva=>?_⟩
  obtain ⟨hty,hlf,hro⟩:=hi'.row l w0 hm
  cases hva with
  | sref _ _ _ _ _ hul hc hd=>
    obtain ⟨a,len,cap,k1,k2,m1,n1,hd,h1,h2,h3,h4,h5⟩:=hd (aN.live_of hm)
    have hd':=hd
    rw [← hty] at hd'
    obtain ⟨v',F',hh,hr',hF⟩:=H m.w m.Z _ _ hro (hd'.along_notLeaf hlf)
    have:=hh.unique hd'
    subst this
    exact ⟨F',_,hr',hF,hd,hty,a,len,cap,k1,k2,m1,n1,rfl,h1,h2,h3,h4,by rw [hty];exact h5⟩
 ·cases h
theorem pB {s : St} : ∀ (n : Nat),n≤deep→∀ {d : DV} {k : PV→Option R} {r : R},snapK s n d k=some r→
 ∃ pv,k pv=some r∧∀ (m : aN) (Z' : Nat→Prop) (B L : Nat→Prop),jK m→May m s B L→kT B L n d→aDL m Z' n d→(∀ r,m.Z r→Z' r)→
   ∀ v,m.rd d v→eV m.w Z' pv v
 | 0,_,d,k,r,h=>by unfold snapK at h;cases h
 | n+1,hn,d,k,r,h=>by
   have ih:=λ{d k r}=>@pB s n (by omega) d k r
   have mp:=λ{ds : List DV} {k : List PV→Option R} {r : R} (h : mapK (snapK s n) ds k=some r)=>
    wF (T:=λd pv=>∀ (m : aN) (Z' : Nat→Prop) (B L : Nat→Prop),jK m→May m s B L→kT B L n d→aDL m Z' n d→(∀ r,m.Z r→Z' r)→
     ∀ v,m.rd d v→eV m.w Z' pv v) (λa k r h=>ih h) h
   have part : ∀ {ds : List DV} {B L : Nat→Prop} {m : aN} {Z' : Nat→Prop},(∀ b∈ds.flatMap (bsOf n),B b)→(∀ l∈ds.flatMap (lsOf n),L l)→
    ((∀ r,m.owned r→Z' r)∨(ds.flatMap (bsOf n) = []∧∀ l∈ds.flatMap (lsOf n),∀ o r,m.s.list l=some o→m.ρ.fp l r→Z' r))→
    ∀ (i : Nat) d,ds[i]? = some d→kT B L n d∧aDL m Z' n d:=by
    intro ds B L m Z' hb hl hf i d hd
    have hmem:=List.mem_of_getElem? hd
    refine ⟨⟨λb hb'=>hb b (List.mem_flatMap.2 ⟨d,hmem,hb'⟩),λl hl'=>hl l (List.mem_flatMap.2 ⟨d,hmem,hl'⟩)⟩,?_⟩
    rcases hf with hf | ⟨h1,h2⟩
    ·exact .inl hf
    ·refine .inr ⟨?_,λl hl'=>h2 l (List.mem_flatMap.2 ⟨d,hmem,hl'⟩)⟩
     cases hbs : bsOf n d with
     | nil=>rfl
     | cons b r=>
       exfalso
       have : b∈ds.flatMap (bsOf n):=List.mem_flatMap.2 ⟨d,hmem,by rw [hbs];simp⟩
       rw [h1] at this
       simp at this
   unfold snapK at h
   cases d with
   | p v=>exact ⟨v,h,λm Z' B L _ _ _ _ hz va hva=>by cases hva;rename_i hr;exact hr.mono hz (λ_ _=>rfl)⟩
   | nils=>exact ⟨_,h,λm Z' B L _ _ _ _ hz va hva=>by cases hva;exact .empty _ _⟩
   | agg cs=>
     obtain ⟨vs,hk,hl,H⟩:=mp h
     refine ⟨_,hk,λm Z' B L hi hm hN hF hz va hva=>?_⟩
     cases hva with
     | agg _ us hl' hc hrep=>
       refine .agg _ _ (by omega) hc (λi c v hc' hv=>?_)
       have hi' : i<cs.length:=by have:=(List.getElem?_eq_some_iff.1 hc').1;omega
       obtain ⟨h1,h2⟩:=part (m:=m) hN.1 hN.2 hF i cs[i] (List.getElem?_eq_getElem hi')
       exact H i cs[i] c (List.getElem?_eq_getElem hi') hc' m Z' B L hi hm h1 h2 hz v (hrep i _ v (List.getElem?_eq_getElem hi') hv)
   | tup cs=>
     obtain ⟨vs,hk,hl,H⟩:=mp h
     refine ⟨_,hk,λm Z' B L hi hm hN hF hz va hva=>?_⟩
     cases hva with
     | tup _ us hl' hrep=>
       refine .tup _ _ (by omega) (λi c v hc' hv=>?_)
       have hi' : i<cs.length:=by have:=(List.getElem?_eq_some_iff.1 hc').1;omega
       obtain ⟨h1,h2⟩:=part (m:=m) hN.1 hN.2 hF i cs[i] (List.getElem?_eq_getElem hi')
       exact H i cs[i] c (List.getElem?_eq_getElem hi') hc' m Z' B L hi hm h1 h2 hz v (hrep i _ v (List.getElem?_eq_getElem hi') hv)
   | fn f cs=>
     obtain ⟨vs,hk,hl,H⟩:=mp h
     refine ⟨_,hk,λm Z' B L hi hm hN hF hz va hva=>?_⟩
     cases hva with
     | fn _ _ us hl' hrep=>
       refine .fn _ _ _ (by omega) (λi c v hc' hv=>?_)
       have hi' : i<cs.length:=by have:=(List.getElem?_eq_some_iff.1 hc').1;omega
       obtain ⟨h1,h2⟩:=part (m:=m) hN.1 hN.2 hF i cs[i] (List.getElem?_eq_getElem hi')
       exact H i cs[i] c (List.getElem?_eq_getElem hi') hc' m Z' B L hi hm h1 h2 hz v (hrep i _ v (List.getElem?_eq_getElem hi') hv)
   | ptr b off=>
     simp only at h
     split at h
     ·rename_i cs hcs
      obtain ⟨vs,hk,hl,H⟩:=mp h
      refine ⟨_,hk,λm Z' B L hi hm hN hF hz va hva=>?_⟩
      have hB : B b:=hN.1 b (by simp [bsOf])
      have hmb : m.s.box b=some cs:=by rw [hm.b b hB];exact hcs
      obtain ⟨us,ety,hh,hlen,hone,hrep⟩:=hi.box b cs hmb
      have hown : ∀ r,m.owned r→Z' r:=by
       rcases hF with hF | ⟨hF,_⟩
       ·exact hF
       ·simp [bsOf] at hF
      cases hva with
      | ptr _ _ hub=>
        refine .bx vs (m.ρ.box b) 0 us.toArray ety (0,0) (λj=>us.getD j undef) (hown _ (.inl ⟨b,cs,hmb,rfl⟩)) hh ?_ ?_ ?_
        ·intro j hj
         simp [List.getD,List.getElem?_eq_getElem (show j<us.length by omega)]
        ·intro j hj
         exact hone j _ (by simp [List.getD,List.getElem?_eq_getElem (show j<us.length by omega)])
        ·intro j c hc
         have hj : j<us.length:=by have:=(List.getElem?_eq_some_iff.1 hc).1;omega
         have hjc : j<cs.length:=by omega
         have hcj : cs[j]? = some cs[j]:=List.getElem?_eq_getElem hjc
         have hN':=(hm.closed b cs hB hcs cs[j] (List.getElem_mem hjc)).mono (n:=n) (by omega)
         exact H j cs[j] c hcj hc m Z' B L hi hm hN' (.inl hown) hz _ (hrep j _ _ hcj (by simp [List.getD,List.getElem?_eq_getElem hj]))
     ·cases h
   | ref l path=>
     obtain ⟨w0,c,hw0,hk,H⟩:=tG h
     refine ⟨c,hk,λm Z' B L hi hm hN hF hz va hva=>?_⟩
     have hml : m.s.list l=some w0:=by rw [hm.l l (hN.2 l (by simp [lsOf]))];exact hw0
     obtain ⟨F,hr,hsub,_,_⟩:=H m hi hml va hva
     refine hr.freeze hz (λr hr'=>?_)
     rcases hF with hF | ⟨_,hF⟩
     ·exact hF r (.inr (.inl ⟨l,w0,hml,hsub r hr'⟩))
     ·exact hF l (by simp [lsOf]) w0 r hml (hsub r hr')
   | sref l path lo hi=>
     obtain ⟨w0,c,y,hw0,hy,hk,H⟩:=uM h
     refine ⟨y,hk,λm Z' B L hi' hm hN hF hz va hva=>?_⟩
     have hml : m.s.list l=some w0:=by rw [hm.l l (hN.2 l (by simp [lsOf]))];exact hw0
     obtain ⟨F,v0,hr,hsub,_,_,a,len,cap,k1,k2,m1,n1,hv0,h1,h2,h3,h4,rfl⟩:=H m hi' hml va hva
     have hrep : eV m.w Z' c v0:=by
      refine hr.freeze hz (λr hr'=>?_)
      rcases hF with hF | ⟨_,hF⟩
      ·exact hF r (.inr (.inl ⟨l,w0,hml,hsub r hr'⟩))
      ·exact hF l (by simp [lsOf]) w0 r hml (hsub r hr')
     obtain ⟨xs,m2,n2,k3,k4,rfl,h5,h6,h7,h8,rfl,hhd⟩:=iT hy
     rw [h1] at h5;cases h5
     rw [h2] at h6;cases h6
     obtain ⟨a',len',cap',h9,h10,h11⟩:=hrep.cut hhd h7 h8
     rw [hv0] at h9
     cases h9
     exact h11
   | bsl b nn=>
     simp only at h
     split at h
     ·rename_i cs hcs
      split at h
      rotate_left
      ·cases h
      rename_i hnn
      have hnn:=aV hnn
      obtain ⟨vs,hk,hl,H⟩:=mp h
      obtain ⟨c',hc',hk⟩:=aL hk
      have hcat : c' = .lst vs∧vs.all (PV.isEl 1 false)=true:=by
       simp only [PV.cat,PV.elems] at hc'
       split at hc'
       ·rename_i hcc
        cases hc'
        exact ⟨rfl,hcc.2⟩
       ·cases hc'
      obtain ⟨rfl,hall⟩:=hcat
      refine ⟨_,hk,λm Z' B L hi hm hN hF hz va hva=>?_⟩
      have hB : B b:=hN.1 b (by simp [bsOf])
      have hmb : m.s.box b=some cs:=by rw [hm.b b hB];exact hcs
      obtain ⟨us,ety,hh,hlen,hone,hrep⟩:=hi.box b cs hmb
      have hown : ∀ r,m.owned r→Z' r:=by
       rcases hF with hF | ⟨hF,_⟩
       ·exact hF
       ·simp [bsOf] at hF
      cases hva with
      | bsl _ _ hub=>
        have key:=eV.lst (w:=m.w) (Z:=Z') vs (m.ρ.box b) 0 1 vs.length false us.toArray ety (0,0) (λi _=>us.getD i undef) (hown _ (.inl ⟨b,cs,hmb,rfl⟩)) hh (by omega) (Nat.le_refl _)
         (λi x hx=>by rw [List.all_eq_true] at hall;exact hall x (List.mem_of_getElem? hx)) ?_ ?_ ?_
        ·have e : vs.length=nn:=by omega
         rwa [e] at key
        ·intro i j hi' hj
         have : j=0:=by omega
         subst this
         simp [List.getD,List.getElem?_eq_getElem (show i<us.length by omega)]
        ·intro i j hi' hj
         exact hone i _ (by simp [List.getD,List.getElem?_eq_getElem (show i<us.length by omega)])
        ·intro i j c hc hj
         have hic : i<us.length:=by have:=(List.getElem?_eq_some_iff.1 hc).1;omega
         have hjc : i<cs.length:=by omega
         have hcj : cs[i]? = some cs[i]:=List.getElem?_eq_getElem hjc
         have hN':=(hm.closed b cs hB hcs cs[i] (List.getElem_mem hjc)).mono (n:=n) (by omega)
         exact H i cs[i] c hcj hc m Z' B L hi hm hN' (.inl hown) hz _ (hrep i _ _ hcj (by simp [List.getD,List.getElem?_eq_getElem hic]))
     ·cases h
   | eptr=>cases h
   | fptr=>cases h
   | bptr=>cases h
   | gptr=>cases h
   | nilq=>cases h
   | dead=>cases h
structure aEr (m m' : aN) (s s' : St) (B L WB WL : Nat→Prop) (n : Nat) : Prop where
 ab : ∀ b,B b∨(n≤b∧b<n+16)→m'.s.box b=s'.box b
 al : ∀ l,L l∨(n≤l∧l<n+16)→m'.s.list l=s'.list l
 ob : ∀ b,¬ B b→¬ (n≤b∧b<n+16)→m'.s.box b=m.s.box b
 ol : ∀ l,¬ L l→¬ (n≤l∧l<n+16)→m'.s.list l=m.s.list l
 wb : ∀ b,¬ WB b→¬ (n≤b∧b<n+16)→s'.box b=s.box b
 wl : ∀ l,¬ WL l→¬ (n≤l∧l<n+16)→s'.list l=s.list l
theorem dK (l : Nat) : ∀ (ls : List Nat) (s : St),(s.killL ls).list l=if l∈ls then none else s.list l
 | [],s=>by simp [St.killL]
 | a::r,s=>by
   unfold St.killL
   rw [dK l r]
   by_cases h : l∈r
   ·simp [h]
   ·by_cases e : l=a
    ·subst e
     simp [h,St.list,look,Nat.beq_refl]
    ·have : Nat.beq l a=false:=by
      cases hb : Nat.beq l a with
      | false=>rfl
      | true=>exact absurd (aV hb) e
     simp [h,e,St.list,look,this]
theorem nT (b : Nat) : ∀ (ls : List Nat) (s : St),(s.killL ls).box b=s.box b
 | [],_=>rfl
 | a::r,s=>by unfold St.killL;rw [nT b r];rfl
def aN.killF (m : aN) (l : Nat) : aN:=
 { m with Z:=λr=>m.Z r∨∃ o,m.s.list l=some o∧m.ρ.fp l r,s:={ m.s with list:=λl'=>if l'=l then none else m.s.list l'}}
def aN.killM (m : aN) (l : Nat) : aN:=
 { m with L:=λr=>m.L r∨∃ o,m.s.list l=some o∧m.ρ.fp l r,s:={ m.s with list:=λl'=>if l'=l then none else m.s.list l'}}
theorem gJ (o : Option (List DV)) : o=o.map (·.map id):=by cases o<;>simp
theorem aN.killF_step {m : aN} (inv : jK m) {l n : Nat} (hl : m.ρ.ul l) : dS m (m.killF l) id n:=by
 have hdead : ∀ o,(m.killF l).s.list l≠some o:=by intro o h;simp [aN.killF] at h
 refine dS.row (l:=l) inv ?_ (λb=>gJ _) ?_ ⟨rfl,rfl⟩ ?_ (.inl hl) (λo h=>absurd h (hdead o)) ?_ (λo r h=>absurd h (hdead o)) (Nat.le_refl _) rfl rfl rfl (λ_ _ _ _=>rfl)
  (λr h=>.inl h) ?_ ?_ ?_
 ·intro d v h
  refine bX.carry (ρ:=m.ρ) ⟨λr hr=>.inl hr,λ_ _=>rfl,λb hb=>⟨hb,rfl⟩,λl h=>h,λl' hu hv=>⟨?_,rfl,rfl,.inr (.inr λr hr=>⟨hr,rfl⟩)⟩⟩ h
  unfold Sx.live aN.killF at hv
  by_cases e : l'=l
  ·simp [e] at hv
  ·unfold Sx.live;simpa [e] using hv
 ·intro l' hne
  exact ⟨by simp [aN.killF,hne],rfl,rfl,rfl⟩
 ·intro x
  exact ⟨.inl,λh=>h.elim id (λe=>e▸hl)⟩
 ·intro _ hv
  exfalso
  unfold Sx.live at hv
  exact hv (by simp [aN.killF])
 ·rintro r (h | h)
  ·exact .inl h
  ·exact .inr (.inl h)
 ·rintro r (h | ⟨o,h1,h2⟩)
  ·exact inv.zlt r h
  ·exact (inv.row l o h1).2.2.lt r h2
 ·intro r hr
  refine ⟨.inl hr,?_,(inv.Lz r hr).2,λo h=>absurd h (hdead o)⟩
  rintro (h | ⟨o,h1,h2⟩)
  ·exact (inv.Lz r hr).1 h
  ·exact inv.Ll l o r h1 h2 hr
theorem aN.killM_step {m : aN} (inv : jK m) {l n : Nat} (hl : m.ρ.ul l) : dS m (m.killM l) id n:=by
 have hdead : ∀ o,(m.killM l).s.list l≠some o:=by intro o h;simp [aN.killM] at h
 refine dS.row (l:=l) inv ?_ (λb=>gJ _) ?_ ⟨rfl,rfl⟩ ?_ (.inl hl) (λo h=>absurd h (hdead o)) ?_ (λo r h=>absurd h (hdead o)) (Nat.le_refl _) rfl rfl rfl (λ_ _ _ _=>rfl)
  (λr h=>h) (λr h=>.inl h) inv.zlt.lt ?_
 ·intro d v h
  refine bX.carry (ρ:=m.ρ) ⟨λr hr=>hr,λ_ _=>rfl,λb hb=>⟨hb,rfl⟩,λl h=>h,λl' hu hv=>⟨?_,rfl,rfl,.inr (.inr λr hr=>⟨hr,rfl⟩)⟩⟩ h
  unfold Sx.live aN.killM at hv
  by_cases e : l'=l
  ·simp [e] at hv
  ·unfold Sx.live;simpa [e] using hv
 ·intro l' hne
  exact ⟨by simp [aN.killM,hne],rfl,rfl,rfl⟩
 ·intro x
  exact ⟨.inl,λh=>h.elim id (λe=>e▸hl)⟩
 ·intro _ hv
  exfalso
  unfold Sx.live at hv
  exact hv (by simp [aN.killM])
 ·rintro r (h | ⟨o,h1,h2⟩)
  ·exact ⟨.inl h,(inv.Lz r h).1,(inv.Lz r h).2,λo h'=>absurd h' (hdead o)⟩
  ·have:=(inv.row l o h1).2.2
   exact ⟨.inr (.inl ⟨o,h1,h2⟩),this.notZ r h2,this.lt r h2,λo h'=>absurd h' (hdead o)⟩
theorem aFw {n : Nat} : ∀ (ls : List Nat) {m : aN},jK m→(∀ l∈ls,m.ρ.ul l)→
 ∃ m',dS m m' id n∧m'.w=m.w∧m'.s.box=m.s.box∧(∀ l,m'.s.list l=if l∈ls then none else m.s.list l)∧m'.ρ=m.ρ∧m'.L=m.L∧
   (∀ l∈ls,∀ o r,m.s.list l=some o→m.ρ.fp l r→m'.Z r)
 | [],m,inv,_=>⟨m,dS.refl n inv,rfl,rfl,λl=>by simp,rfl,rfl,λl hl=>by simp at hl⟩
 | a::r,m,inv,hu=>by
   have st:=aN.killF_step (n:=n) inv (hu a (by simp))
   obtain ⟨m',h1,h2,h3,h4,h5,h6,h7⟩:=aFw r (m:=m.killF a) st.inv (λl hl=>hu l (by simp [hl]))
   refine ⟨m',st.trans h1,h2,h3,?_,h5,h6,?_⟩
   ·intro l
    rw [h4]
    by_cases e : l=a
    ·subst e;simp [aN.killF]
    ·simp [aN.killF,e]
   ·intro l hl o x hlo hx
    by_cases e : l=a
    ·subst e
     exact h1.zz x (.inr ⟨o,hlo,hx⟩)
    ·have hr : l∈r:=by simpa [e] using hl
     exact h7 l hr o x (by simp [aN.killF,e,hlo]) hx
theorem bX.used {w : World} {Z : Nat→Prop} {ρ : Loc} {live : Nat→Prop} : ∀ (n : Nat) {d : DV} {v : Value},bX w Z ρ live d v→(∀ l∈lsOf n d,ρ.ul l)∧(∀ b∈bsOf n d,ρ.ub b)
 | 0,d,v,h=>by
   cases h<;>simp [lsOf,bsOf]<;>assumption
 | n+1,d,v,h=>by
   have many : ∀ {ds : List DV} {vs : List Value},ds.length=vs.length→(∀ (i : Nat) d v,ds[i]? = some d→vs[i]? = some v→bX w Z ρ live d v)→
    (∀ l∈ds.flatMap (lsOf n),ρ.ul l)∧(∀ b∈ds.flatMap (bsOf n),ρ.ub b):=by
    intro ds vs hl h
    have each : ∀ d∈ds,∃ v,bX w Z ρ live d v:=by
     intro d hd
     obtain ⟨i,hi,rfl⟩:=List.getElem_of_mem hd
     exact ⟨vs[i]'(by omega),h i _ _ (List.getElem?_eq_getElem hi) (List.getElem?_eq_getElem (by omega))⟩
    constructor
    ·intro l hl'
     obtain ⟨d,hd,hl'⟩:=List.mem_flatMap.1 hl'
     obtain ⟨v,hv⟩:=each d hd
     exact (bX.used n hv).1 l hl'
    ·intro b hb
     obtain ⟨d,hd,hb⟩:=List.mem_flatMap.1 hb
     obtain ⟨v,hv⟩:=each d hd
     exact (bX.used n hv).2 b hb
   cases h with
   | agg ds vs hl _ h=>exact many hl h
   | tup ds vs hl h=>exact many hl h
   | fn f ds vs hl h=>exact many hl h
   | ptr b off hb=>simp [lsOf,bsOf];exact hb
   | bsl b n hb=>simp [lsOf,bsOf];exact hb
   | ref l path v hu _ _=>simp [lsOf,bsOf];exact hu
   | sref l path lo hi v hu _ _=>simp [lsOf,bsOf];exact hu
   | eptr l path i off v hu _ _=>simp [lsOf,bsOf];exact hu
   | p=>simp [lsOf,bsOf]
   | nils=>simp [lsOf,bsOf]
   | fptr=>simp [lsOf,bsOf]
   | bptr=>simp [lsOf,bsOf]
   | gptr=>simp [lsOf,bsOf]
   | nilq=>simp [lsOf,bsOf]
   | dead=>simp [lsOf,bsOf]
theorem aAv {s : St} {d : DV} {k : PV→St→Option R} {r : R} (h : sinkK s d k=some r) :
 ∃ pv,k pv (s.killL (lsOf deep d))=some r∧∀ (n : Nat) (m : aN) (L : Nat→Prop),jK m→(∀ l,L l→m.s.list l=s.list l)→(∀ l∈lsOf deep d,L l)→∀ v,m.rd d v→
   ∃ m',dS m m' id n∧m'.w=m.w∧m'.s.box=m.s.box∧(∀ l,m'.s.list l=if l∈lsOf deep d then none else m.s.list l)∧m'.ρ=m.ρ∧m'.L=m.L∧eV m'.w m'.Z pv v:=by
 unfold sinkK at h
 split at h
 ·rename_i hb
  obtain ⟨pv,hk,H⟩:=pB deep (Nat.le_refl _) h
  refine ⟨pv,hk,λn m L inv hL hd v hv=>?_⟩
  obtain ⟨m',h1,h2,h3,h4,h5,h6,h7⟩:=aFw (n:=n) (lsOf deep d) inv (bX.used deep hv).1
  refine ⟨m',h1,h2,h3,h4,h5,h6,?_⟩
  rw [h2]
  exact H m m'.Z (λ_=>False) L inv ⟨λ_ h=>h.elim,hL,λ_ _ h=>h.elim⟩ ⟨λb hb'=>by rw [hb] at hb';simp at hb',hd⟩ (.inr ⟨hb,h7⟩) h1.zz v hv
 ·cases h
mutual
theorem OTy.same_eq : ∀ (a b : OTy),a.same b=true→a=b
 | .leaf,.leaf,_=>rfl
 | .leaf,.own ..,h=>by unfold OTy.same at h;cases h
 | .own ..,.leaf,h=>by unfold OTy.same at h;cases h
 | .own s e g c,.own s' e' g' c',h=>by
  unfold OTy.same at h
  simp only [Bool.and_eq_true] at h
  obtain ⟨⟨⟨h1,h2⟩,h3⟩,h4⟩:=h
  rw [aV h1,aV h2,LawfulBEq.eq_of_beq h3,OTy.sames_eq c c' h4]
theorem OTy.sames_eq : ∀ (a b : List OTy),OTy.sames a b=true→a=b
 | [],[],_=>rfl
 | [],_::_,h=>by unfold OTy.sames at h;cases h
 | _::_,[],h=>by unfold OTy.sames at h;cases h
 | a::as_,b::bs,h=>by
   unfold OTy.sames at h
   simp only [Bool.and_eq_true] at h
   rw [OTy.same_eq a b h.1,OTy.sames_eq as_ bs h.2]
end
theorem killL_append : ∀ (a b : List Nat) (s : St),(s.killL a).killL b=s.killL (a++b)
 | [],_,_=>rfl
 | x::a,b,s=>by
   show ((St.killL _ a).killL b)=_
   rw [killL_append a b]
   rfl
structure Sunk (m m' : aN) (n : Nat) (ls : List Nat) : Prop where
 step : dS m m' id n
 w : m'.w=m.w
 box : m'.s.box=m.s.box
 list : ∀ l,m'.s.list l=if l∈ls then none else m.s.list l
 ρ : m'.ρ=m.ρ
 L : ∀ r,m.L r→m'.L r
theorem Sunk.refl {m : aN} (n : Nat) (h : jK m) : Sunk m m n []:=⟨dS.refl n h,rfl,rfl,λl=>by simp,rfl,λ_ h=>h⟩
theorem Sunk.trans {m m' m'' : aN} {n : Nat} {a b : List Nat} (h : Sunk m m' n a) (k : Sunk m' m'' n b) : Sunk m m'' n (a++b):=by
 refine ⟨h.step.trans k.step,k.w.trans h.w,k.box.trans h.box,λl=>?_,k.ρ.trans h.ρ,λr hr=>k.L r (h.L r hr)⟩
 rw [k.list,h.list]
 by_cases h1 : l∈b<;>by_cases h2 : l∈a<;>simp [h1,h2]
theorem Sunk.keepO {m m' : aN} {n : Nat} {ls : List Nat} (h : Sunk m m' n ls) {o : OTy} {x : PV} {v : Value} {F : Nat→Prop} (hr : bL m.w m.Z o x v F) (hF : ∀ r,F r→m.L r) :
 bL m'.w m'.Z o x v F:=by
 rw [h.w]
 exact hr.frame h.step.zz (λ_ _=>rfl) (λ_ _=>rfl) (λr hr=>(h.step.inv.Lz r (h.L r (hF r hr))).1)
theorem Sunk.keepD {m m' : aN} {n : Nat} {ls : List Nat} (h : Sunk m m' n ls) {d : DV} {v : Value} (hr : m.rd d v) : m'.rd d v:=h.step.rd d v hr
theorem bL.cut {w : World} {Z : Nat→Prop} {o : OTy} {xs : List PV} {v : Value} {F : Nat→Prop} (h : bL w Z o (.lst xs) v F) (ho : o.isLeaf=false) (hd : PV.headIs o.s o.g xs=true)
 {m n : Nat} (hmn : m≤n) (hn : n≤xs.length) :
 ∃ a len cap F',v = .slice a len cap∧len=xs.length∧bL w Z o (.lst ((xs.take n).drop m)) (.slice (if cap=m then a else a.map (·.add (m*o.s))) (n - m) (cap - m)) F'∧∀ r,F' r→F r:=by
 have hlen : ((xs.take n).drop m).length=n - m:=by simp;omega
 cases h with
 | leaf=>cases ho
 | nil s e g cts F a hf=>
   simp at hn
   subst hn
   have : m=0:=by omega
   subst this
   refine ⟨a,0,0,λ_=>False,rfl,rfl,?_,λ_ h=>h.elim⟩
   simpa using bL.nil (w:=w) (Z:=Z) s e g cts (λ_=>False) a (λ_ h=>h)
 | own s e g cts xs b off cap cells ety cv fp F hh hs ho' hl hz he hc hv hr hf hb hd'=>
   refine ⟨some ⟨b,off,none⟩,xs.length,cap,?_⟩
   have hget : ∀ (i : Nat) x,((xs.take n).drop m)[i]? = some x→xs[m+i]? = some x:=by
    intro i x hx
    rw [List.getElem?_drop,List.getElem?_take] at hx
    split at hx
    ·exact hx
    ·cases hx
   by_cases hcm : cap=m
   ·have hnm : n=m:=by omega
    subst hnm
    have : (xs.take n).drop n = []:=by
     apply List.eq_nil_of_length_eq_zero
     omega
    refine ⟨λr=>r=b,rfl,rfl,?_,λr hr'=>(hf r).2 (.inl hr')⟩
    rw [if_pos hcm,this,Nat.sub_self,hcm,Nat.sub_self]
    have:=bL.own (w:=w) (Z:=Z) s e g cts [] b off 0 cells ety cv fp (λr=>r=b) hh hs (by omega) (by simp) hz (by simp) (by simp) (by simp) (by simp) (by intro r;simp) (by simp) (by simp)
    simpa using this
   ·rw [if_neg hcm]
    have hadd : (some (⟨b,off,none⟩ : Addr)).map (·.add (m*s))=some ⟨b,off+m*s,none⟩:=by simp [fW]
    refine ⟨λr=>r=b∨∃ i j : Nat,i<n - m∧j<s∧fp (m+i) j r,rfl,rfl,?_,?_⟩
    ·show bL w Z (.own s e g cts) _ (.slice ((some (⟨b,off,none⟩ : Addr)).map (·.add (m*s))) _ _) _
     rw [hadd,← hlen]
     have hcap : m*s+(cap - m)*s=cap*s:=by
      rw [← Nat.add_mul]
      congr 1
      omega
     refine .own s e g cts _ b (off+m*s) (cap - m) cells ety (λi j=>cv (m+i) j) (λi j=>fp (m+i) j) _ hh hs (by omega) (by omega) hz ?_ ?_ ?_ ?_ ?_ ?_ ?_
     ·intro i x hx
      exact he _ _ (hget i x hx)
     ·intro i j hi hj
      have:=hc (m+i) j (by omega) hj
      rwa [Nat.add_mul,← Nat.add_assoc] at this
     ·intro i j hi hj
      exact hv (m+i) j (by omega) hj
     ·intro i j x hx hj
      exact hr (m+i) j x (hget i x hx) hj
     ·intro r
      rw [hlen]
     ·intro i j hi hj
      exact hb (m+i) j (by omega) hj
     ·intro i j i' j' r hi hj hi' hj' h1 h2
      have:=hd' (m+i) j (m+i') j' r (by omega) hj (by omega) hj' h1 h2
      omega
    ·rintro r (rfl | ⟨i,j,hi,hj,h⟩)
     ·exact (hf _).2 (.inl rfl)
     ·exact (hf r).2 (.inr ⟨m+i,j,by omega,hj,h⟩)
theorem mem_ref (n l : Nat) (path : cK) : l∈lsOf n (.ref l path):=by cases n<;>simp [lsOf]
theorem mem_sref (n l : Nat) (path : cK) (lo hi : PV) : l∈lsOf n (.sref l path lo hi):=by cases n<;>simp [lsOf]
theorem mem_eptr (n l : Nat) (path : cK) (i : PV) (off : Nat) : l∈lsOf n (.eptr l path i off):=by cases n<;>simp [lsOf]
theorem sinkAs_sound {ct : OTy} {s : St} {d : DV} {k : PV→St→Option R} {r : R} (h : sinkAs ct s d k=some r) :
 ∃ pv ls,k pv (s.killL ls)=some r∧(∀ l∈ls,l∈lsOf deep d)∧∀ (n : Nat) (m : aN) (L : Nat→Prop),jK m→(∀ l,L l→m.s.list l=s.list l)→(∀ l∈lsOf deep d,L l)→∀ v,m.rd d v→
   ∃ m' F,Sunk m m' n ls∧bL m'.w m'.Z ct pv v F∧(∀ r,F r→m'.L r∧¬ m.L r):=by
 unfold sinkAs at h
 split at h
 ·obtain ⟨pv,hk,H⟩:=aAv h
  refine ⟨pv,_,hk,λl hl=>hl,λn m L inv hL hd v hv=>?_⟩
  obtain ⟨m',h1,h2,h3,h4,h5,h6,h7⟩:=H n m L inv hL hd v hv
  exact ⟨m',λ_=>False,⟨h1,h2,h3,h4,h5,λr hr=>by rw [h6];exact hr⟩,.leaf _ _ _ h7 (λ_ h=>h),λ_ h=>h.elim⟩
 ·rename_i s0 e0 g0 cts0
  split at h
  ·refine ⟨_,[],h,by simp,λn m L inv hL hd v hv=>?_⟩
   cases hv
   exact ⟨m,λ_=>False,Sunk.refl n inv,.nil _ _ _ _ _ _ (λ_ h=>h),λ_ h=>h.elim⟩
  ·rename_i l
   split at h
   ·rename_i w0 hw0
    split at h
    ·rename_i hsame
     have ho:=OTy.same_eq _ _ hsame
     refine ⟨w0.c,[l],h,by simpa using mem_ref _ _ _,λn m L inv hL hd v hv=>?_⟩
     have hl : m.s.list l=some w0:=by rw [hL l (hd l (mem_ref _ _ _))];exact hw0
     obtain ⟨hty,hlf,hro⟩:=inv.row l w0 hl
     have st:=aN.killM_step (n:=n) inv (inv.ul l w0 hl)
     have sk : Sunk m (m.killM l) n [l]:=⟨st,rfl,rfl,λl'=>by simp [aN.killM],rfl,λr hr=>.inl hr⟩
     have hval : m.ρ.hdr l=v:=by
      cases hv with
      | ref _ _ _ _ _ hh=>exact hh (aN.live_of hl)
     refine ⟨m.killM l,m.ρ.fp l,sk,?_,λr hr=>⟨.inr ⟨w0,hl,hr⟩,inv.Ll l w0 r hl hr⟩⟩
     rw [ho,hval] at hro
     exact hro
    ·cases h
   ·cases h
  ·rename_i l lo hi
   split at h
   ·rename_i w0 hw0
    split at h
    ·rename_i hsame
     have ho:=OTy.same_eq _ _ hsame
     obtain ⟨y,hy,hk⟩:=aL h
     refine ⟨y,[l],hk,by simpa using mem_sref _ _ _ _ _,λn m L inv hL hd v hv=>?_⟩
     have hl : m.s.list l=some w0:=by rw [hL l (hd l (mem_sref _ _ _ _ _))];exact hw0
     obtain ⟨hty,hlf,hro⟩:=inv.row l w0 hl
     have st:=aN.killM_step (n:=n) inv (inv.ul l w0 hl)
     have sk : Sunk m (m.killM l) n [l]:=⟨st,rfl,rfl,λl'=>by simp [aN.killM],rfl,λr hr=>.inl hr⟩
     obtain ⟨xs,m2,n2,k3,k4,hc,h5,h6,h7,h8,rfl,hhd⟩:=iT hy
     cases hv with
     | sref _ _ _ _ _ _ _ hh=>
       obtain ⟨a,len,cap,k1,k2,m1,n1,h9,h10,h11,h12,h13,rfl⟩:=hh (aN.live_of hl)
       rw [h5] at h10;cases h10
       rw [h6] at h11;cases h11
       have h9 : m.ρ.hdr l = .slice a len cap:=h9
       rw [hc,h9] at hro
       obtain ⟨a',len',cap',F',h14,h15,h16,h17⟩:=hro.cut hlf hhd h7 h8
       cases h14
       refine ⟨m.killM l,F',sk,?_,λr hr=>⟨.inr ⟨w0,hl,h17 r hr⟩,inv.Ll l w0 r hl (h17 r hr)⟩⟩
       rw [← hty]
       rw [ho] at h16 ⊢
       exact h16
    ·cases h
   ·cases h
  ·cases h
end
end Go.Proofs.YtllmobkkbpdchaaGreat
