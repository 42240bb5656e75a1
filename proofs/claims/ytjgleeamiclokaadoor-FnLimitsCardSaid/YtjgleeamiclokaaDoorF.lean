/-
  Texts of the proof, part 6: a value-level evaluator and its soundness, what the functions compute, laws about it.
  Conditions: none.
-/
import Derived.Test.YtjgleeamiclokaaDoorE
import Derived.Calls
import Derived.KernelRfl
import Derived.Orders
import Derived.Test.YtjgleeamiclokaaDoorProg
import Derived.Lib.AppendIntMem
import Derived.Lib.ItoaNum
import Derived.Laws.IdiomCopy
import Derived.Laws.Cells
import Derived.Below
import Derived.Laws.StructEq
import Derived.Laws.BytesString
import Derived.Laws.NewFold
import Derived.Laws.Tables
import Derived.Great.FillDense
import Derived.Shelf.Spec.SlicesGrow
import Derived.Shelf.Strconv.Itoa3
import Derived.Shelf.SlGeneric
import Derived.Ground.NamesProg
import Derived.Ground.Names8Prog
import Derived.IntWalk
import Derived.WalkKit
import Derived.ProofKit
import Derived.OpenShut
import Derived.ShutString
import Derived.ChangeOld
import Derived.Lib.Strings
set_option linter.all false
namespace Go.Proofs.YtjgleeamiclokaaDoor.K
open Go
theorem aAa {α : Type} {n : Nat} : ∀ {l : List (Nat × α)} {a : α},lk n l=some a→∃ p∈l,p.2=a
  | [],a,h=>by simp [lk] at h
  | (m,b)::r,a,h=>by
    unfold lk at h
    split at h
    · cases h;exact ⟨_,List.mem_cons_self,rfl⟩
    · obtain ⟨p,h1,h2⟩:=aAa h
      exact ⟨p,List.mem_cons_of_mem _ h1,h2⟩
theorem sR {α : Type} {n : Nat} : ∀ {l : List (Nat × α)} {a : α},lk n l=some a→(n,a)∈l
  | [],a,h=>by simp [lk] at h
  | (m,b)::r,a,h=>by
    unfold lk at h
    split at h
    · rename_i hb
      cases h
      rw [aY hb]
      exact List.mem_cons_self
    · exact List.mem_cons_of_mem _ (sR h)
theorem kB {g : Nat} (h : ((Tryd.prog.funcs[g]?).bind (·.body)).isSome=true) : eO Tryd.prog g:=by
  cases hf : Tryd.prog.funcs[g]? with
  | none=>rw [hf] at h;cases h
  | some fn=>
    rw [hf] at h
    cases hb : fn.body with
    | none=>simp [hb] at h
    | some c=>
      have hc:=uF
      rw [List.all_eq_true] at hc
      have:=hc fn (by rw [← Array.getElem?_toList] at hf;exact List.mem_of_getElem? hf)
      rw [hb] at this
      simp only [Bool.and_eq_true,bne_iff_ne,ne_eq] at this
      exact ⟨fn,c,hf,hb,this.2⟩
set_option maxRecDepth 100000 in
theorem aEa {w : World} {Z : Nat→Prop} (h : mU w Z) : Lib.TabIs Tryd.prog w "internal/strconv.uint64pow10" .u64 Lib.pow10Tab:=by
  obtain ⟨_,ty,fz,h⟩:=h
  unfold Lib.TabIs World.var?
  rw [show Tryd.prog.globalNamed "internal/strconv.uint64pow10" = some aEU by kernel_rfl]
  simp only [Option.bind_some,h]
set_option maxRecDepth 100000 in
theorem aEb : sJ Tryd.prog fun g args=>(aZ.prim g).bind fun p=>p args:=by
  intro g args r h
  have h : ((aZ.prim g).bind fun p=>p args)=some r:=h
  cases hp : aZ.prim g with
  | none=>rw [hp] at h;cases h
  | some p=>
    rw [hp] at h
    have h : p args=some r:=h
    have hm:=sR (show lk g nX=some p from hp)
    simp only [nX,List.mem_cons,List.not_mem_nil,or_false,Prod.mk.injEq] at hm
    obtain ⟨rfl,rfl⟩:=hm
    exact ⟨kB (by kernel_rfl),fun w Z aJ hz hl hr=>xI Tryd.laysM171 h (aEa hz.glob) hl hr⟩
set_option maxRecDepth 100000 in
theorem aFQ : (Tryd.prog.info? (Tryd.lays8n4_ren.t 25)).map (fun i=>(i.size,i.bytes,i.zero.map (·.cells.size)))=some (3,32,some 3):=by kernel_rfl
set_option maxRecDepth 100000 in
theorem aB9 : ∀ g h,aZ.primS g=some h→∀ t args s l,aZ.mode g=some t→h args s=some l→eO Tryd.prog g∧∀ (m : aK) (aJ : Array Value),dN m s s.base→args.length=aJ.size→
    (∀ (i : Nat) d v,args[i]? = some d→aJ[i]? = some v→m.rd d v)→Calls Tryd.prog g aJ m.w (fun e w'=>∃ v,e = .returned v∧kI m s.boxes.length (if t.keep then s.lists.length else 0) (some t) l v w'):=by
  intro g h hp t args s l ht h
  have hm:=sR (show lk g lG=some _ from hp)
  simp only [lG,List.mem_cons,List.not_mem_nil,or_false,Prod.mk.injEq] at hm
  obtain ⟨rfl,rfl⟩:=hm
  refine ⟨kB (by kernel_rfl),fun m aJ hf hl hr=>?_⟩
  have htt : aZ.mode 54=some ⟨false,false,.ref 0 [],[],[some ⟨.own 3 32 true [],.int .i64 0⟩],true⟩:=by kernel_rfl
  rw [htt] at ht
  cases ht
  have tg:=aFQ
  cases hi : Tryd.prog.info? (Tryd.lays8n4_ren.t 25) with
  | none=>rw [hi] at tg;cases tg
  | some i0=>
    rw [hi] at tg
    simp only [Option.map_some,Option.some.injEq,Prod.mk.injEq] at tg
    cases hz : i0.zero with
    | none=>rw [hz] at tg;cases tg.2.2
    | some z=>
      rw [hz] at tg
      simp only [Option.map_some,Option.some.injEq] at tg
      have hb : s.boxes.length=0:=by
        have : ∀ a,hX 32 args s=some a→s.boxes = []:=fun a h=>by
          unfold hX at h
          split at h
          · assumption
          · cases h
        rw [this _ h];rfl
      rw [hb]
      exact xH Tryd.lays8n4 hi hz (by omega) (by omega) tg.2.1 h hf hl hr (g:=true) (eb:=32) ⟨rfl,rfl,by rw [tg.1]⟩
end Go.Proofs.YtjgleeamiclokaaDoor.K
namespace Go.Proofs.YtjgleeamiclokaaDoor.K
open Go
theorem uG : ∀ (l : List Nat),(l.map fun t=>(Tryd.prog.info? t).bind (·.zero))=(l.map fun t=>some (zeroVal T t))→∀ t,mem t l=true→(Tryd.prog.info? t).bind (·.zero)=some (zeroVal T t)
  | [],_,t,h=>by simp [mem] at h
  | x::r,h,t,hm=>by
    simp only [List.map_cons,List.cons.injEq] at h
    unfold mem at hm
    split at hm
    · rename_i hx
      rw [aY hx];exact h.1
    · exact uG r h.2 t hm
theorem hyp : Hyp Tryd.prog T aZ where
  tab:=aCv.symm
  zero:=fun t h=>by
    rw [aCv]
    exact uG aBG aFE t h
  mixed:=aB8
  code:=fun f fn c hf hc=>by
    have h:=uF
    rw [List.all_eq_true] at h
    have:=h fn (by rw [← Array.getElem?_toList] at hf;exact List.mem_of_getElem? hf)
    rw [hc] at this
    simp only [Bool.and_eq_true,bne_iff_ne,ne_eq] at this
    exact this
  prim:=aEb
  primS:=aB9
  glob:=fun _=>rfl
  wf:=fun g t h=>by
    obtain ⟨p,hp,rfl⟩:=aAa h
    have:=aFO
    rw [List.all_eq_true] at this
    exact this p hp
end Go.Proofs.YtjgleeamiclokaaDoor.K
namespace Go.Proofs.YtjgleeamiclokaaDoor.K
open Go
noncomputable def iD (x0 : PV) : Option R:=pcallO 3 [x0]
noncomputable def dI (x0 x1 x2 : PV) : Option R:=fM 3 0 0 (aZ.mode 3) (todoOf Tryd.prog 3 7) [(3,.p x0),(4,.ptr 0 0)] ⟨[(0,some [.ref 0 [],.ref 1 []])],[(0,some ⟨(.own 1 16 false []),x1⟩),(1,some ⟨(.own 3 40 true [.leaf,.leaf,(.own 2 16 true [])]),x2⟩)],0,0,3⟩
noncomputable def cX (x0 x1 x2 : PV) : Option R:=fM 3 0 0 (aZ.mode 3) (todoOf Tryd.prog 3 11) [(3,.p x0),(4,.ptr 0 0)] ⟨[(0,some [.ref 0 [],.ref 1 []])],[(0,some ⟨(.own 1 16 false []),x1⟩),(1,some ⟨(.own 3 40 true [.leaf,.leaf,(.own 2 16 true [])]),x2⟩)],0,0,3⟩
noncomputable def dP (x0 x1 x2 x3 : PV) : Option R:=fM 3 0 0 (aZ.mode 3) (todoOf Tryd.prog 3 19) [(3,.p x0),(4,.ptr 0 0),(5,.ref 2 [])] ⟨[(0,some [.ref 0 [],.ref 1 []])],[(0,some ⟨(.own 1 16 false []),x1⟩),(1,some ⟨(.own 3 40 true [.leaf,.leaf,(.own 2 16 true [])]),x2⟩),(2,some ⟨(.own 1 1 false []),x3⟩)],0,0,4⟩
noncomputable def lP (x0 : PV) : Option R:=pcallO 4 [x0]
noncomputable def gW (x0 x1 x2 : PV) : Option R:=pcallO 5 [x0,x1,x2]
noncomputable def eB (x0 x1 x2 x3 x4 : PV) : Option R:=fM 5 0 0 (aZ.mode 5) (todoOf Tryd.prog 5 5) [(0,.p x0),(1,.p x1),(2,.p x2),(7,.p x3),(8,.p x4)] ⟨[],[],0,0,0⟩
noncomputable def bY (x0 : PV) : Option R:=pcallO 6 [x0]
noncomputable def cM (x0 x1 x2 x3 x4 : PV) : Option R:=fM 6 0 0 (aZ.mode 6) (todoOf Tryd.prog 6 4) [(1,.ptr 0 0),(22,.p x0),(23,.p x1),(24,.p x2)] ⟨[(0,some [.p x3,.p x4])],[],0,0,1⟩
noncomputable def iE (x0 x1 x2 : PV) : Option R:=pcallO 7 [x0,x1,x2]
noncomputable def aN (x0 x1 x2 : PV) : Option R:=pcallO 8 [x0,x1,x2]
noncomputable def aW (x0 x1 : PV) : Option R:=pcallO 9 [x0,x1]
noncomputable def fR (x0 : PV) : Option R:=pcallO 10 [x0]
noncomputable def aQ (x0 x1 : PV) : Option R:=pcallO 12 [x0,x1]
noncomputable def fS (x0 x1 x2 : PV) : Option R:=pcallO 13 [x0,x1,x2]
noncomputable def bO (x0 x1 : PV) : Option R:=pcallO 17 [x0,x1]
noncomputable def aO (x0 x1 x2 x3 : PV) : Option R:=fM 17 0 0 (aZ.mode 17) (todoOf Tryd.prog 17 2) [(0,.p x0),(1,.p x1),(7,.p x2),(8,.p x3)] ⟨[],[],0,0,0⟩
noncomputable def eS (x0 : PV) : Option R:=pcallO 11 [x0]
noncomputable def cY (x0 x1 x2 : PV) : Option R:=fM 11 0 0 (aZ.mode 11) (todoOf Tryd.prog 11 2) [(0,.p x0),(5,.p x1),(6,.p x2)] ⟨[],[],0,0,0⟩
noncomputable def bK (x0 x1 : PV) : Option R:=pcallO 18 [x0,x1]
noncomputable def aM (x0 x1 x2 x3 : PV) : Option R:=fM 18 0 0 (aZ.mode 18) (todoOf Tryd.prog 18 2) [(0,.p x0),(1,.p x1),(7,.p x2),(8,.p x3)] ⟨[],[],0,0,0⟩
noncomputable def iN (x0 x1 x2 : PV) : Option R:=pcallO 14 [x0,x1,x2]
noncomputable def dV (x0 : PV) : Option R:=pcallO 19 [x0]
noncomputable def aP (x0 x1 : PV) : Option R:=pcallO 20 [x0,x1]
noncomputable def oL (x0 x1 : PV) : Option R:=cL 21 [.p x0,.p x1] ⟨[],[],0,0,0⟩
noncomputable def iG (x0 : PV) : Option R:=cL 23 [.p x0] ⟨[],[],0,0,0⟩
noncomputable def kV (x0 x1 x2 x3 x4 x5 x6 x7 x8 x9 x10 x11 : PV) : Option R:=cL 22 [.ptr 0 0,.agg [.p x0,.p x1]] ⟨[(0,some [.ref 0 [],.ref 1 [],.p x2,.ref 2 [],.p x3,.p x4,.p x5,.p x6,.p x7,.p x8])],[(0,some ⟨(.own 4 64 true [.leaf,.leaf,(.own 3 32 true []),(.own 3 32 true [])]),x9⟩),(1,some ⟨(.own 1 24 true [(.own 3 32 true [])]),x10⟩),(2,some ⟨(.own 1 16 false []),x11⟩)],0,0,4⟩
noncomputable def jB (x0 x1 x2 : PV) : Option R:=cL 26 [.p x0,.p x1,.p x2] ⟨[],[],0,0,0⟩
noncomputable def eJ (x0 x1 : PV) : Option R:=cL 61 [.p x0,.p x1] ⟨[],[],0,0,0⟩
noncomputable def iM (x0 : PV) : Option R:=cL 28 [.p x0] ⟨[],[],0,0,0⟩
noncomputable def jW (x0 : PV) : Option R:=cL 29 [.p x0] ⟨[],[],0,0,0⟩
noncomputable def cZ (x0 : PV) : Option R:=cL 30 [.p x0] ⟨[],[],0,0,0⟩
noncomputable def oN (x0 x1 x2 x3 x4 x5 x6 x7 x8 x9 x10 x11 : PV) : Option R:=cL 27 [.ptr 0 0,.agg [.p x0,.p x1]] ⟨[(0,some [.ref 0 [],.ref 1 [],.p x2,.ref 2 [],.p x3,.p x4,.p x5,.p x6,.p x7,.p x8])],[(0,some ⟨(.own 4 64 true [.leaf,.leaf,(.own 3 32 true []),(.own 3 32 true [])]),x9⟩),(1,some ⟨(.own 1 24 true [(.own 3 32 true [])]),x10⟩),(2,some ⟨(.own 1 16 false []),x11⟩)],0,0,4⟩
noncomputable def nQ (x0 : PV) : Option R:=cL 36 [.p x0] ⟨[],[],0,0,0⟩
noncomputable def bP (x0 : PV) : Option R:=cL 35 [.p x0] ⟨[],[],0,0,0⟩
noncomputable def aU (x0 : PV) : Option R:=cL 38 [.p x0] ⟨[],[],0,0,0⟩
noncomputable def iJ (x0 x1 x2 x3 x4 x5 x6 x7 x8 x9 x10 x11 : PV) : Option R:=cL 44 [.ptr 0 0,.p x0,.p x1] ⟨[(0,some [.ref 0 [],.ref 1 [],.p x2,.ref 2 [],.p x3,.p x4,.p x5,.p x6,.p x7,.p x8])],[(0,some ⟨(.own 4 64 true [.leaf,.leaf,(.own 3 32 true []),(.own 3 32 true [])]),x9⟩),(1,some ⟨(.own 1 24 true [(.own 3 32 true [])]),x10⟩),(2,some ⟨(.own 1 16 false []),x11⟩)],0,0,4⟩
noncomputable def jD (x0 x1 x2 x3 x4 x5 x6 x7 x8 x9 x10 : PV) : Option R:=cL 45 [.ptr 0 0,.p x0] ⟨[(0,some [.ref 0 [],.ref 1 [],.p x1,.ref 2 [],.p x2,.p x3,.p x4,.p x5,.p x6,.p x7])],[(0,some ⟨(.own 4 64 true [.leaf,.leaf,(.own 3 32 true []),(.own 3 32 true [])]),x8⟩),(1,some ⟨(.own 1 24 true [(.own 3 32 true [])]),x9⟩),(2,some ⟨(.own 1 16 false []),x10⟩)],0,0,4⟩
noncomputable def bX (x0 : PV) : Option R:=cL 54 [.nils,.p x0] ⟨[],[],0,0,0⟩
end Go.Proofs.YtjgleeamiclokaaDoor.K
namespace Go.Proofs.YtjgleeamiclokaaDoor.K
open Go
theorem jO (x0 : PV) : iD x0 =
 bd (lP x0) fun r0=>
 PV.ite (hd r0)
 (some [.bool true])
 (bd (gW x0 (.int .i64 1) (.int .i64 2)) fun r1=>
 bd (gW x0 (.int .i64 0) (.int .i64 7)) fun r2=>
 bd (PV.bin .eql (hd r2) (.int .i64 0)) fun v3=>
 PV.ite v3
 (dI (hd r1) (.lst []) (.lst [(.agg [(.int .i64 0),(.int .i64 0),(.lst [(.agg [(.int .i64 4),(.int .i64 0)]),(.agg [(.int .i64 25),(.int .i64 0)])])])]))
 (bd (PV.bin .eql (hd r2) (.int .i64 1)) fun v4=>
 PV.ite v4
 (cX (hd r1) (.lst []) (.lst [(.agg [(.int .i64 0),(.int .i64 0),(.lst [(.agg [(.int .i64 4),(.int .i64 0)]),(.agg [(.int .i64 25),(.int .i64 0)])])])]))
 (bd (PV.bin .eql (hd r2) (.int .i64 2)) fun v5=>
 PV.ite v5
 (bd (PV.bin .add (.int .i64 12) (hd r1)) fun v6=>
 bd (PV.one v6) fun v7=>
 bd (PV.setCell 3 (.lst [(.agg [(.int .i64 0),(.int .i64 0),(.lst [(.agg [(.int .i64 4),(.int .i64 0)]),(.agg [(.int .i64 25),(.int .i64 0)])])])]) (.int .i64 0) 1 v7) fun v8=>
 bd (bY (.agg [(.lst []),v8])) fun r9=>
 PV.guardFlat (hd r9) (
 bd (PV.bin .eql (hd r1) (.int .i64 0)) fun v10=>
 bd (PV.beq .eql (hd r9) v10) fun v11=>
 some [v11]))
 (bd (PV.bin .eql (hd r2) (.int .i64 3)) fun v12=>
 PV.ite v12
 (dP (hd r1) (.lst []) (.lst [(.agg [(.int .i64 0),(.int .i64 0),(.lst [(.agg [(.int .i64 4),(.int .i64 0)]),(.agg [(.int .i64 25),(.int .i64 0)])])])]) (.lst []))
 (bd (PV.bin .eql (hd r2) (.int .i64 4)) fun v13=>
 PV.ite v13
 (bd (PV.bin .add (.int .i64 23) (hd r1)) fun v14=>
 bd (iE (.agg [(.lst []),(.lst [(.agg [(.int .i64 0),(.int .i64 0),(.lst [(.agg [(.int .i64 24),(.int .i64 0)]),(.agg [(.int .i64 25),(.int .i64 0)])])])])]) (.lst []) v14) fun r15=>
 PV.guardFlat (hd r15) (
 bd (PV.whole 10 (hd r15)) fun v16=>
 bd (PV.cell v16 0) fun v17=>
 bd (PV.cell v16 1) fun v18=>
 bd (PV.cell v16 2) fun v19=>
 bd (PV.cell v16 3) fun v20=>
 bd (PV.cell v16 4) fun v21=>
 bd (PV.cell v16 5) fun v22=>
 bd (PV.cell v16 6) fun v23=>
 bd (PV.cell v16 7) fun v24=>
 bd (PV.cell v16 8) fun v25=>
 bd (PV.cell v16 9) fun v26=>
 bd (PV.bin .eql v21 (.int .i64 2)) fun v27=>
 bd (PV.bin .eql (hd r1) (.int .i64 1)) fun v28=>
 bd (PV.beq .eql v27 v28) fun v29=>
 PV.ite v29
 (bd (PV.len v17) fun v30=>
 bd (PV.bin .eql v30 (.int .i64 24)) fun v31=>
 PV.ite v31
 (bd (PV.bin .eql (hd r1) (.int .i64 0)) fun v32=>
 PV.ite v32
 (some [.bool true])
 (bd (PV.bin .eql v22 (.int .i64 6)) fun v33=>
 some [v33]))
 (some [.bool false]))
 (some [.bool false])))
 (bd (PV.bin .eql (hd r2) (.int .i64 5)) fun v34=>
 PV.ite v34
 (bd (PV.bin .add (.int .i64 360) (hd r1)) fun v35=>
 bd (iE (.agg [(.lst []),(.lst [(.agg [(.int .i64 0),(.int .i64 0),(.lst [(.agg [(.int .i64 20),(.int .i64 2)]),(.agg [(.int .i64 9),(.int .i64 0)]),(.agg [(.int .i64 17),(.int .i64 0)])])])])]) (.lst []) v35) fun r36=>
 PV.guardFlat (hd r36) (
 bd (PV.whole 10 (hd r36)) fun v37=>
 bd (PV.cell v37 0) fun v38=>
 bd (PV.cell v37 1) fun v39=>
 bd (PV.cell v37 2) fun v40=>
 bd (PV.cell v37 3) fun v41=>
 bd (PV.cell v37 4) fun v42=>
 bd (PV.cell v37 5) fun v43=>
 bd (PV.cell v37 6) fun v44=>
 bd (PV.cell v37 7) fun v45=>
 bd (PV.cell v37 8) fun v46=>
 bd (PV.cell v37 9) fun v47=>
 bd (PV.bin .eql v40 (.int .i64 120)) fun v48=>
 PV.ite v48
 (bd (PV.bin .eql v43 (.int .i64 7)) fun v49=>
 bd (PV.bin .eql (hd r1) (.int .i64 1)) fun v50=>
 bd (PV.beq .eql v49 v50) fun v51=>
 some [v51])
 (some [.bool false])))
 (bd (PV.bin .mul (.int .i64 2) (hd r1)) fun v52=>
 bd (PV.bin .add (.int .i64 600) v52) fun v53=>
 bd (iE (.agg [(.lst []),(.lst [(.agg [(.int .i64 0),(.int .i64 0),(.lst [(.agg [(.int .i64 4),(.int .i64 0)]),(.agg [(.int .i64 26),(.int .i64 0)]),(.agg [(.int .i64 17),(.int .i64 0)])])])])]) (.lst []) v53) fun r54=>
 PV.guardFlat (hd r54) (
 bd (PV.whole 10 (hd r54)) fun v55=>
 bd (PV.cell v55 0) fun v56=>
 bd (PV.cell v55 1) fun v57=>
 bd (PV.cell v55 2) fun v58=>
 bd (PV.cell v55 3) fun v59=>
 bd (PV.cell v55 4) fun v60=>
 bd (PV.cell v55 5) fun v61=>
 bd (PV.cell v55 6) fun v62=>
 bd (PV.cell v55 7) fun v63=>
 bd (PV.cell v55 8) fun v64=>
 bd (PV.cell v55 9) fun v65=>
 bd (PV.len v59) fun v66=>
 bd (PV.bin .eql v66 (.int .i64 200)) fun v67=>
 PV.ite v67
 (bd (PV.bin .eql v61 (.int .i64 8)) fun v68=>
 bd (PV.bin .eql (hd r1) (.int .i64 1)) fun v69=>
 bd (PV.beq .eql v68 v69) fun v70=>
 some [v70])
 (some [.bool false]))))))))):=aL _ _ _ (by kernel_rfl)
theorem gJ (x0 x1 x2 : PV) : cX x0 x1 x2 =
 bd (PV.inb x2 (.int .i64 0)) fun v0=>
 bd (PV.at_ 3 true x2 (.int .i64 0)) fun v1=>
 bd (PV.at_ 3 true x2 (.int .i64 0)) fun v2=>
 bd (PV.cell v2 2) fun v3=>
 bd (PV.len v3) fun v4=>
 bd (PV.bin .add (.int .i64 120) x0) fun v5=>
 bd (PV.bin .lss v4 v5) fun v6=>
 PV.ite v6
 (bd (PV.inb x2 (.int .i64 0)) fun v7=>
 bd (PV.at_ 3 true x2 (.int .i64 0)) fun v8=>
 bd (PV.at_ 3 true x2 (.int .i64 0)) fun v9=>
 bd (PV.cell v9 2) fun v10=>
 bd (PV.at_ 3 true x2 (.int .i64 0)) fun v11=>
 bd (PV.cell v11 2) fun v12=>
 bd (PV.setCell 3 x2 (.int .i64 0) 2 .hole) fun v13=>
 bd (PV.cat 2 16 true v10 (.lst [(.agg [(.int .i64 25),(.int .i64 0)])])) fun v14=>
 bd (PV.inb v13 (.int .i64 0)) fun v15=>
 bd (PV.setCell 3 v13 (.int .i64 0) 2 v14) fun v16=>
 cX x0 x1 v16)
 (bd (bY (.agg [x1,x2])) fun r17=>
 PV.guardFlat (hd r17) (
 bd (PV.bin .eql x0 (.int .i64 0)) fun v18=>
 bd (PV.beq .eql (hd r17) v18) fun v19=>
 some [v19])):=cG _ _ _ _ _ _ _ _ (by kernel_rfl)
theorem qM (x0 : PV) : lP x0=bd (PV.len x0) fun v0=>bd (PV.bin .gtr v0 (.int .i64 1048576)) fun v1=>some [v1]:=aL _ _ _ (by kernel_rfl)
theorem oS (x0 x1 x2 : PV) : gW x0 x1 x2 =
 bd (PV.len x0) fun v0=>
 bd (PV.bin .eql v0 (.int .i64 0)) fun v1=>
 PV.ite v1
 (some [.int .i64 0])
 (bd (PV.bin .lss x2 (.int .i64 2)) fun v2=>
 PV.ite v2
 (some [.int .i64 0])
 (eB x0 x1 x2 (.int .i64 0) (.int .i64 0))):=aL _ _ _ (by kernel_rfl)
theorem fT (x0 x1 x2 x3 x4 : PV) : eB x0 x1 x2 x3 x4 =
 bd (PV.bin .lss x4 (.int .i64 3)) fun v0=>
 PV.ite v0
 (bd (PV.bin .mul (.int .i64 31) x3) fun v1=>
 bd (PV.bin .add x1 x4) fun v2=>
 bd (PV.len x0) fun v3=>
 bd (PV.bin .rem v2 v3) fun v4=>
 bd (PV.at_ 1 false x0 v4) fun v5=>
 bd (PV.conv .i64 v5) fun v6=>
 bd (PV.bin .add v1 v6) fun v7=>
 bd (PV.bin .add x4 (.int .i64 1)) fun v8=>
 eB x0 x1 x2 v7 v8)
 (bd (PV.bin .add x3 x1) fun v9=>
 bd (PV.bin .rem v9 x2) fun v10=>
 some [v10]):=cG _ _ _ _ _ _ _ _ (by kernel_rfl)
theorem jP (x0 : PV) : bY x0 =
 bd (PV.whole 2 x0) fun v0=>
 bd (PV.cell v0 0) fun v1=>
 bd (PV.cell v0 1) fun v2=>
 bd (PV.len v2) fun v3=>
 bd (aN v3 (.int .i64 1) (.int .i64 12)) fun r4=>
 bd (PV.not (hd r4)) fun v5=>
 PV.ite v5
 (some [.bool false])
 (bd (PV.len v1) fun v6=>
 bd (PV.bin .gtr v6 (.int .i64 20)) fun v7=>
 PV.ite v7
 (some [.bool false])
 (bd (aW v1 (.fn 10 [])) fun r8=>
 PV.ite (hd r8)
 (some [.bool false])
 (bd (PV.len v2) fun v9=>
 cM v2 v9 (.int .i64 0) v1 v2))):=aL _ _ _ (by kernel_rfl)
theorem dY (x0 x1 x2 x3 x4 : PV) : cM x0 x1 x2 x3 x4 =
 bd (PV.bin .lss x2 x1) fun v0=>
 PV.ite v0
 (bd (PV.at_ 3 true x0 x2) fun v1=>
 bd (PV.whole 3 v1) fun v2=>
 bd (PV.cell v2 0) fun v3=>
 bd (PV.cell v2 1) fun v4=>
 bd (PV.cell v2 2) fun v5=>
 bd (aN v3 (.int .i64 0) (.int .i64 6)) fun r6=>
 bd (PV.not (hd r6)) fun v7=>
 PV.ite v7
 (some [.bool false])
 (bd (aN v4 v3 (.int .i64 12)) fun r8=>
 bd (PV.not (hd r8)) fun v9=>
 PV.ite v9
 (some [.bool false])
 (bd (PV.len v5) fun v10=>
 bd (aN v10 (.int .i64 1) (.int .i64 120)) fun r11=>
 bd (PV.not (hd r11)) fun v12=>
 PV.ite v12
 (some [.bool false])
 (bd (aQ v5 (.fn 13 [(.bx [x3,x4]),(.bx [v3,v4,v5])])) fun r13=>
 PV.guardFlat (hd r13) (
 PV.ite (hd r13)
 (some [.bool false])
 (bd (PV.bin .add x2 (.int .i64 1)) fun v14=>
 cM x0 x1 v14 x3 x4))))))
 (some [.bool true]):=cG _ _ _ _ _ _ _ _ (by kernel_rfl)
end Go.Proofs.YtjgleeamiclokaaDoor.K
namespace Go.Proofs.YtjgleeamiclokaaDoor.K
open Go
theorem kK (x0 x1 x2 : PV) : aN x0 x1 x2 =
 bd (PV.bin .leq x1 x0) fun v0=>
 PV.ite v0
 (bd (PV.bin .leq x0 x2) fun v1=>
 some [v1])
 (some [.bool false]):=aL _ _ _ (by kernel_rfl)
theorem cP (x0 x1 : PV) : aW x0 x1 =
 bd (bO x0 x1) fun r0=>
 bd (PV.bin .geq (hd r0) (.int .i64 0)) fun v1=>
 some [v1]:=aL _ _ _ (by kernel_rfl)
theorem iP (x0 : PV) : fR x0=bd (eS x0) fun r0=>bd (PV.not (hd r0)) fun v1=>some [v1]:=aL _ _ _ (by kernel_rfl)
theorem bZ (x0 x1 : PV) : aQ x0 x1 =
 bd (bK x0 x1) fun r0=>
 bd (PV.bin .geq (hd r0) (.int .i64 0)) fun v1=>
 some [v1]:=aL _ _ _ (by kernel_rfl)
theorem iQ (x0 x1 x2 : PV) : fS x0 x1 x2 =
 bd (PV.whole 2 x0) fun v0=>
 bd (PV.cell v0 0) fun v1=>
 bd (PV.cell v0 1) fun v2=>
 bd (PV.deref x1 0) fun v3=>
 bd (PV.deref x1 1) fun v4=>
 bd (PV.deref x2 0) fun v5=>
 bd (PV.deref x2 1) fun v6=>
 bd (PV.deref x2 2) fun v7=>
 bd (iN (.agg [v3,v4]) (.agg [v5,v6,v7]) (.agg [v1,v2])) fun r8=>
 bd (PV.not (hd r8)) fun v9=>
 some [v9]:=aL _ _ _ (by kernel_rfl)
theorem cV (x0 x1 : PV) : bO x0 x1 =
 bd (PV.len x0) fun v0=>
 aO x0 x1 v0 (.int .i64 0):=aL _ _ _ (by kernel_rfl)
theorem bH (x0 x1 x2 x3 : PV) : aO x0 x1 x2 x3 =
 bd (PV.bin .lss x3 x2) fun v0=>
 PV.ite v0
 (bd (PV.at_ 1 false x0 x3) fun v1=>
 bd (PV.apply pcallO x1 [v1]) fun r2=>
 PV.ite (hd r2)
 (some [x3])
 (bd (PV.bin .add x3 (.int .i64 1)) fun v3=>
 aO x0 x1 x2 v3))
 (some [(.int .i64 (-1))]):=cG _ _ _ _ _ _ _ _ (by kernel_rfl)
theorem lR (x0 : PV) : eS x0=bd (PV.slen x0) fun v0=>cY x0 v0 (.int .i64 0):=aL _ _ _ (by kernel_rfl)
theorem eT (x0 x1 x2 : PV) : cY x0 x1 x2 =
 bd (PV.bin .lss x2 x1) fun v0=>
 PV.ite v0
 (bd (PV.chr x0 x2) fun v1=>
 bd (PV.bin .lss v1 (.int .u8 32)) fun v2=>
 PV.ite v2
 (some [.bool false])
 (bd (PV.chr x0 x2) fun v3=>
 bd (PV.bin .gtr v3 (.int .u8 126)) fun v4=>
 PV.ite v4
 (some [.bool false])
 (bd (PV.chr x0 x2) fun v5=>
 bd (PV.bin .eql v5 (.int .u8 34)) fun v6=>
 PV.ite v6
 (some [.bool false])
 (bd (PV.bin .add x2 (.int .i64 1)) fun v7=>
 cY x0 x1 v7))))
 (bd (PV.slen x0) fun v8=>
 bd (PV.bin .leq v8 (.int .i64 60)) fun v9=>
 some [v9]):=cG _ _ _ _ _ _ _ _ (by kernel_rfl)
theorem cN (x0 x1 : PV) : bK x0 x1 =
 bd (PV.len x0) fun v0=>
 aM x0 x1 v0 (.int .i64 0):=aL _ _ _ (by kernel_rfl)
theorem bD (x0 x1 x2 x3 : PV) : aM x0 x1 x2 x3 =
 bd (PV.bin .lss x3 x2) fun v0=>
 PV.ite v0
 (bd (PV.at_ 2 true x0 x3) fun v1=>
 bd (PV.apply pcallO x1 [v1]) fun r2=>
 PV.ite (hd r2)
 (some [x3])
 (bd (PV.bin .add x3 (.int .i64 1)) fun v3=>
 aM x0 x1 x2 v3))
 (some [(.int .i64 (-1))]):=cG _ _ _ _ _ _ _ _ (by kernel_rfl)
theorem nE (x0 x1 x2 : PV) : iN x0 x1 x2 =
 bd (PV.whole 2 x0) fun v0=>
 bd (PV.cell v0 0) fun v1=>
 bd (PV.cell v0 1) fun v2=>
 bd (PV.whole 3 x1) fun v3=>
 bd (PV.cell v3 0) fun v4=>
 bd (PV.cell v3 1) fun v5=>
 bd (PV.cell v3 2) fun v6=>
 bd (PV.whole 2 x2) fun v7=>
 bd (PV.cell v7 0) fun v8=>
 bd (PV.cell v7 1) fun v9=>
 bd (PV.bin .eql v8 (.int .i64 1)) fun v10=>
 PV.ite v10
 (bd (dV v9) fun r11=>
 some [(hd r11)])
 (bd (PV.bin .eql v8 (.int .i64 2)) fun v12=>
 PV.ite v12
 (bd (aN v9 (.int .i64 0) (.int .i64 1)) fun r13=>
 some [(hd r13)])
 (bd (PV.bin .eql v8 (.int .i64 3)) fun v14=>
 PV.ite v14
 (bd (PV.len v1) fun v15=>
 bd (aP v9 v15) fun r16=>
 some [(hd r16)])
 (bd (PV.bin .eql v8 (.int .i64 5)) fun v17=>
 PV.ite v17
 (bd (PV.len v2) fun v18=>
 bd (aP v9 v18) fun r19=>
 some [(hd r19)])
 (bd (PV.bin .eql v8 (.int .i64 24)) fun v20=>
 PV.ite v20
 (bd (PV.len v2) fun v21=>
 bd (aP v9 v21) fun r22=>
 some [(hd r22)])
 (bd (PV.bin .eql v8 (.int .i64 6)) fun v23=>
 PV.ite v23
 (bd (aP v9 v5) fun r24=>
 some [(hd r24)])
 (bd (PV.bin .eql v8 (.int .i64 7)) fun v25=>
 PV.ite v25
 (bd (aP v9 v5) fun r26=>
 some [(hd r26)])
 (bd (PV.bin .eql v8 (.int .i64 17)) fun v27=>
 PV.ite v27
 (bd (PV.len v6) fun v28=>
 bd (aP v9 v28) fun r29=>
 some [(hd r29)])
 (bd (PV.bin .eql v8 (.int .i64 18)) fun v30=>
 PV.ite v30
 (bd (PV.len v6) fun v31=>
 bd (aP v9 v31) fun r32=>
 some [(hd r32)])
 (bd (PV.bin .eql v8 (.int .i64 19)) fun v33=>
 PV.ite v33
 (bd (PV.len v6) fun v34=>
 bd (aP v9 v34) fun r35=>
 some [(hd r35)])
 (bd (PV.bin .eql v8 (.int .i64 20)) fun v36=>
 PV.ite v36
 (bd (aN v9 (.int .i64 0) (.int .i64 6)) fun r37=>
 some [(hd r37)])
 (bd (PV.bin .eql v8 (.int .i64 21)) fun v38=>
 PV.ite v38
 (bd (aP v9 (.int .i64 6)) fun r39=>
 some [(hd r39)])
 (bd (PV.bin .eql v8 (.int .i64 22)) fun v40=>
 PV.ite v40
 (bd (aP v9 (.int .i64 6)) fun r41=>
 some [(hd r41)])
 (bd (PV.bin .eql v8 (.int .i64 23)) fun v42=>
 PV.ite v42
 (bd (aN v9 (.int .i64 0) (.int .i64 6)) fun r43=>
 some [(hd r43)])
 (bd (aN v8 (.int .i64 1) (.int .i64 26)) fun r44=>
 PV.ite (hd r44)
 (bd (PV.bin .eql v9 (.int .i64 0)) fun v45=>
 some [v45])
 (some [.bool false]))))))))))))))):=aL _ _ _ (by kernel_rfl)
theorem jX (x0 : PV) : dV x0=bd (aN x0 (.int .i64 (-1000000000)) (.int .i64 1000000000)) fun r0=>some [(hd r0)]:=aL _ _ _ (by kernel_rfl)
theorem kL (x0 x1 : PV) : aP x0 x1 =
 bd (PV.bin .sub x1 (.int .i64 1)) fun v0=>
 bd (aN x0 (.int .i64 0) v0) fun r1=>
 some [(hd r1)]:=aL _ _ _ (by kernel_rfl)
end Go.Proofs.YtjgleeamiclokaaDoor.K
namespace Go.Proofs.YtjgleeamiclokaaDoor.K
open Go
end Go.Proofs.YtjgleeamiclokaaDoor.K
namespace Go.Proofs.YtjgleeamiclokaaDoor.K
open Go
end Go.Proofs.YtjgleeamiclokaaDoor.K
namespace Go.Proofs.YtjgleeamiclokaaDoor.K
open Go
end Go.Proofs.YtjgleeamiclokaaDoor.K
namespace Go.Proofs.YtjgleeamiclokaaDoor.K
open Go
end Go.Proofs.YtjgleeamiclokaaDoor.K
namespace Go.Proofs.YtjgleeamiclokaaDoor.K
open Go
end Go.Proofs.YtjgleeamiclokaaDoor.K
namespace Go.Proofs.YtjgleeamiclokaaDoor.K
open Go
end Go.Proofs.YtjgleeamiclokaaDoor.K
namespace Go.Proofs.YtjgleeamiclokaaDoor.K
open Go
end Go.Proofs.YtjgleeamiclokaaDoor.K
namespace Go.Proofs.YtjgleeamiclokaaDoor.K
open Go
end Go.Proofs.YtjgleeamiclokaaDoor.K

namespace Go.Proofs.YtjgleeamiclokaaDoor.K
open Go
attribute [local irreducible] bd PV.ite PV.guardFlat PV.guardOwn PV.whole PV.one PV.cell PV.sub PV.at_ PV.len PV.slen PV.chr PV.beq PV.peq PV.ceq PV.bin PV.neg PV.not PV.conv PV.cut PV.scut PV.cat PV.setAt PV.setCell PV.ncopy PV.copyIn PV.zeros PV.toStr PV.toBytes PV.deref PV.isPtr PV.comp PV.inb PV.off PV.imin PV.imax PV.sel PV.apply PV.isLst PV.isInt PV.ix PV.nilT
def Bts (l : List Int) : Prop:=(∀ x∈l,0≤x∧x≤255)∧l.length≤1048576
def aHq (l : List Int) (n a : Int) (r : R) : Prop:=∃ v a' s' : Int,r = [.int .i64 v,bW l,.int .i64 a',.int .i64 s']∧0≤v∧(v<n∨v=0)∧a≤a'∧a'≤a+1∧0≤s'∧s'<65521
section
variable {P : R → Prop} {k : R → Option R} {l : List Int} {a s : Int}
end
end Go.Proofs.YtjgleeamiclokaaDoor.K
namespace Go.Proofs.YtjgleeamiclokaaDoor.K
open Go
attribute [local irreducible] bd PV.ite PV.guardFlat PV.guardOwn PV.whole PV.one PV.cell PV.sub PV.at_ PV.len PV.slen PV.chr PV.beq PV.peq PV.ceq PV.bin PV.neg PV.not PV.conv PV.cut PV.scut PV.cat PV.setAt PV.setCell PV.ncopy PV.copyIn PV.zeros PV.toStr PV.toBytes PV.deref PV.isPtr PV.comp PV.inb PV.off PV.imin PV.imax PV.sel PV.apply PV.isLst PV.isInt PV.ix PV.nilT
structure bI where
  o : Int
  a : Int
  deriving DecidableEq
structure dL where
  p : Int
  lc : Int
  code : List bI
  deriving DecidableEq
structure dD where
  texts : List ByteArray
  funcs : List dL
def bI.pv (x : bI) : PV:=.agg [.int .i64 x.o,.int .i64 x.a]
def dL.pv (f : dL) : PV:=.agg [.int .i64 f.p,.int .i64 f.lc,.lst (f.code.map bI.pv)]
def dD.pv (m : dD) : PV:=.agg [.lst (m.texts.map PV.str),.lst (m.funcs.map dL.pv)]
def eK (n lo hi : Int) : Bool:=decide (lo≤n)&&decide (n≤hi)
def chB (c : UInt8) : Bool:=!(decide ((c.toNat : Int)<32))&&(!(decide ((126 : Int)<c.toNat))&&!(decide ((c.toNat : Int)=34)))
def eL (s : ByteArray) : Bool:=decide ((s.size : Int)≤60)&&s.data.toList.all chB
def bF (nt nf lc nc o a : Int) : Bool:=
  if o=1 then eK a (-1000000000) 1000000000 else if o=2 then eK a 0 1 else if o=3 then eK a 0 (nt - 1) else if o=5 then eK a 0 (nf - 1) else if o=24 then eK a 0 (nf - 1)
  else if o=6 then eK a 0 (lc - 1) else if o=7 then eK a 0 (lc - 1) else if o=17 then eK a 0 (nc - 1) else if o=18 then eK a 0 (nc - 1) else if o=19 then eK a 0 (nc - 1)
  else if o=20 then eK a 0 6 else if o=21 then eK a 0 5 else if o=22 then eK a 0 5 else if o=23 then eK a 0 6 else eK o 1 26&&decide (a=0)
def kE (nt nf : Int) (f : dL) : Bool:=eK f.p 0 6&&(eK f.lc f.p 12&&(eK f.code.length 1 120&&f.code.all fun x=>bF nt nf f.lc f.code.length x.o x.a))
def dD.okB (m : dD) : Bool:=eK m.funcs.length 1 12&&(decide ((m.texts.length : Int)≤20)&&(m.texts.all eL&&m.funcs.all (kE m.texts.length m.funcs.length)))
def dD.sized (m : dD) : Prop:=m.texts.length≤1000000∧m.funcs.length≤1000000∧(∀ t∈m.texts,t.size≤1000000)∧∀ f∈m.funcs,f.code.length≤1000000000
section
variable {P : R → Prop} {k : PV → Option R} {α : Type} {f : α → PV} {xs : List α}
theorem cD {s : Nat} {g : Bool} {kk : IntKind} {i : Nat} (hi : i<xs.length) (hel : ∀ a,(f a).isEl s g=true) (h : Ok P (k (f xs[i]))) : Ok P (bd (PV.at_ s g (.lst (xs.map f)) (.int kk (i : Int))) k):=by
  refine aC9 (by omega) (by rw [List.length_map];omega) (fun x hx=>?_) (fun x _ hx=>?_)
  · obtain ⟨a,_,rfl⟩:=List.mem_map.1 hx;exact hel a
  · rw [Int.toNat_natCast,List.getElem?_map,List.getElem?_eq_getElem hi] at hx
    cases hx
    exact h
theorem aI (h : Ok P (k (.int .i64 xs.length))) : Ok P (bd (PV.len (.lst (xs.map f))) k):=by
  refine lN ?_
  rw [List.length_map]
  exact h
theorem aEe {s : ByteArray} {i : Nat} (hi : i<s.data.toList.length) : s[i]? = some s.data.toList[i]:=by
  have h : i<s.size:=by
    have e : s.size=s.data.toList.length:=by rw [Array.length_toList];rfl
    rw [e];exact hi
  rw [getElem?_pos s i h,Array.getElem_toList]
  rfl
theorem tD {s : ByteArray} {kk : IntKind} {i : Nat} (hi : i<s.data.toList.length) (h : Ok P (k (.int .u8 (s.data.toList[i].toNat : Int)))) : Ok P (bd (PV.chr (.str s) (.int kk (i : Int))) k):=by
  refine cH _ ?_ h
  simp only [PV.chr]
  rw [if_pos (by omega),Int.toNat_natCast,aEe hi]
theorem bU {k : R→Option R} {n lo hi : Int} (h : Ok P (k [.bool (eK n lo hi)])) : Ok P (bd (aN (.int .i64 n) (.int .i64 lo) (.int .i64 hi)) k):=by
  refine aH (Q:=fun r=>r = [.bool (eK n lo hi)]) ?_ (fun r hr=>by rw [hr];exact h)
  rw [kK]
  refine nB (aC (fun h1=>nB (aA ?_)) (fun h1=>aA ?_))
  · simp [eK,h1]
  · simp [eK,h1]
theorem bV {k : R→Option R} {n m : Int} (hm : -1000000000≤m∧m≤1000000000) (h : Ok P (k [.bool (eK n 0 (m - 1))])) : Ok P (bd (aP (.int .i64 n) (.int .i64 m)) k):=by
  refine aH (Q:=fun r=>r = [.bool (eK n 0 (m - 1))]) ?_ (fun r hr=>by rw [hr];exact h)
  rw [kL]
  exact nC (by omega) (bU (aA rfl))
theorem aAm {k : R→Option R} {n : Int} (h : Ok P (k [.bool (eK n (-1000000000) 1000000000)])) : Ok P (bd (dV (.int .i64 n)) k):=by
  refine aH (Q:=fun r=>r = [.bool (eK n (-1000000000) 1000000000)]) ?_ (fun r hr=>by rw [hr];exact h)
  rw [jX]
  exact bU (aA rfl)
end
theorem qO {α : Type} {xs : List α} {i : Nat} (hi : i<xs.length) (p : α→Bool) : (xs.drop i).all p=(p xs[i]&&(xs.drop (i+1)).all p):=by
  rw [List.drop_eq_getElem_cons hi,List.all_cons]
theorem aFT {c : UInt8} (h : (c.toNat : Int)<32) : chB c=false:=by unfold chB;rw [decide_eq_true h];rfl
theorem aFU {c : UInt8} (h : (126 : Int)<c.toNat) : chB c=false:=by unfold chB;rw [decide_eq_true h];simp
theorem aFV {c : UInt8} (h : (c.toNat : Int)=34) : chB c=false:=by unfold chB;rw [decide_eq_true h];simp
theorem lU {s : ByteArray} (hs : s.size≤1000000) : ∀ (j i : Nat),s.data.toList.length - i=j→i≤s.data.toList.length→
    Ok (fun r=>r = [.bool (decide ((s.size : Int)≤60)&&(s.data.toList.drop i).all chB)]) (cY (.str s) (.int .i64 s.size) (.int .i64 i)):=by
  have hsz : s.size=s.data.toList.length:=by rw [Array.length_toList];rfl
  intro j
  induction j with
  | zero=>
    intro i h1 h2
    have : i=s.data.toList.length:=by omega
    rw [eT]
    refine aS (aC (fun h=>by omega) (fun _=>rF (nB (aA ?_))))
    rw [this,List.drop_length]
    simp
  | succ j ih=>
    intro i h1 h2
    have hi : i<s.data.toList.length:=by omega
    rw [eT,qO hi]
    refine aS (aC (fun _=>?_) (fun h=>by omega))
    refine tD hi (aS (aC (fun h=>aA (by rw [aFT h];simp)) (fun h3=>?_)))
    refine tD hi (oK (aC (fun h=>aA (by rw [aFU h];simp)) (fun h4=>?_)))
    refine tD hi (aE (aC (fun h=>aA (by rw [aFV h];simp)) (fun h5=>?_)))
    refine bC (by omega) ((ih (i+1) (by omega) (by omega)).mono ?_)
    rintro r rfl
    have : chB s.data.toList[i]=true:=by unfold chB;rw [decide_eq_false h3,decide_eq_false h4,decide_eq_false h5];rfl
    rw [this,Bool.true_and]
theorem rG {s : ByteArray} (hs : s.size≤1000000) : Ok (fun r=>r = [.bool (eL s)]) (eS (.str s)):=by
  rw [lR]
  refine rF ((lU hs _ 0 rfl (by omega)).mono ?_)
  rintro r rfl
  rw [List.drop_zero]
  rfl
end Go.Proofs.YtjgleeamiclokaaDoor.K
namespace Go.Proofs.YtjgleeamiclokaaDoor.K
open Go
attribute [local irreducible] bd PV.ite PV.guardFlat PV.guardOwn PV.whole PV.one PV.cell PV.sub PV.at_ PV.len PV.slen PV.chr PV.beq PV.peq PV.ceq PV.bin PV.neg PV.not PV.conv PV.cut PV.scut PV.cat PV.setAt PV.setCell PV.ncopy PV.copyIn PV.zeros PV.toStr PV.toBytes PV.deref PV.isPtr PV.comp PV.inb PV.off PV.imin PV.imax PV.sel PV.apply PV.isLst PV.isInt PV.ix PV.nilT
theorem aAn {ts : List ByteArray} {fs : List dL} {f : dL} {x : bI} (ht : ts.length≤1000000) (hf : fs.length≤1000000) (hlc : 0≤f.lc∧f.lc≤12) (hc : f.code.length≤1000) :
    Ok (fun r=>r = [.bool (bF ts.length fs.length f.lc f.code.length x.o x.a)]) (iN (.agg [.lst (ts.map PV.str),.lst (fs.map dL.pv)]) f.pv x.pv):=by
  rw [nE]
  refine aG rfl (aB rfl (aB rfl (aG rfl (aB rfl (aB rfl (aB rfl (aG rfl (aB rfl (aB rfl ?_)))))))))
  refine aE (aC (fun h=>aAm (aA (by simp [hd,bF,h]))) (fun h1=>?_))
  refine aE (aC (fun h=>bU (aA (by simp [hd,bF,h]))) (fun h2=>?_))
  refine aE (aC (fun h=>aI (bV (by omega) (aA (by simp [hd,bF,h])))) (fun h3=>?_))
  refine aE (aC (fun h=>aI (bV (by omega) (aA (by simp [hd,bF,h])))) (fun h5=>?_))
  refine aE (aC (fun h=>aI (bV (by omega) (aA (by simp [hd,bF,h])))) (fun h24=>?_))
  refine aE (aC (fun h=>bV (by omega) (aA (by simp [hd,bF,h]))) (fun h6=>?_))
  refine aE (aC (fun h=>bV (by omega) (aA (by simp [hd,bF,h]))) (fun h7=>?_))
  refine aE (aC (fun h=>aI (bV (by omega) (aA (by simp [hd,bF,h])))) (fun h17=>?_))
  refine aE (aC (fun h=>aI (bV (by omega) (aA (by simp [hd,bF,h])))) (fun h18=>?_))
  refine aE (aC (fun h=>aI (bV (by omega) (aA (by simp [hd,bF,h])))) (fun h19=>?_))
  refine aE (aC (fun h=>bU (aA (by simp [hd,bF,h]))) (fun h20=>?_))
  refine aE (aC (fun h=>bV (by omega) (aA (by simp [hd,bF,h]))) (fun h21=>?_))
  refine aE (aC (fun h=>bV (by omega) (aA (by simp [hd,bF,h]))) (fun h22=>?_))
  refine aE (aC (fun h=>bU (aA (by simp [hd,bF,h]))) (fun h23=>?_))
  refine bU (bN (fun hb=>aE (aA (by simp [hd,bF,hb,h1,h2,h3,h5,h24,h6,h7,h17,h18,h19,h20,h21,h22,h23]))) (fun hb=>aA (by simp [hd,bF,hb,h1,h2,h3,h5,h24,h6,h7,h17,h18,h19,h20,h21,h22,h23])))
section
variable {ts : List ByteArray} {fs : List dL} (ht : ts.length ≤ 1000000) (hf : fs.length ≤ 1000000)
include ht hf
end
section
variable {P : R → Prop} {k : PV → Option R} {kr : R → Option R}
theorem vV {f : Nat} {caps : List PV} {xs : List bI} (hx : xs.length≤1000000000) (p : bI→Bool) (hp : ∀ x∈xs,Ok (fun r=>r = [.bool (p x)]) (pcallO f ([x.pv]++caps))) : ∀ (j i : Nat),xs.length - i=j→i≤xs.length→
    Ok (fun r=>∃ n : Int,r = [.int .i64 n]∧(0≤n↔(xs.drop i).any p=true)) (aM (.lst (xs.map bI.pv)) (.fn f caps) (.int .i64 xs.length) (.int .i64 i)):=by
  intro j
  induction j with
  | zero=>
    intro i h1 h2
    have : i=xs.length:=by omega
    rw [bD]
    refine aS (aC (fun h=>by omega) (fun _=>aA ⟨-1,rfl,?_⟩))
    rw [this,List.drop_length]
    simp
  | succ j ih=>
    intro i h1 h2
    have hi : i<xs.length:=by omega
    rw [bD]
    refine aS (aC (fun _=>?_) (fun h=>by omega))
    refine cD hi (fun _=>rfl) (jA rfl (hp _ (List.getElem_mem _)) (fun r hr=>?_))
    subst hr
    rw [List.drop_eq_getElem_cons hi,List.any_cons]
    refine bN (fun h=>aA ⟨i,rfl,?_⟩) (fun h=>?_)
    · rw [h];simp
    · refine bC (by omega) ((ih (i+1) (by omega) (by omega)).mono ?_)
      rintro r ⟨n,hr,hn⟩
      exact ⟨n,hr,by rw [h,Bool.false_or];exact hn⟩
theorem vW {f : Nat} {caps : List PV} {xs : List bI} (hx : xs.length≤1000000000) (p : bI→Bool) (hp : ∀ x∈xs,Ok (fun r=>r = [.bool (p x)]) (pcallO f ([x.pv]++caps))) (h : Ok P (kr [.bool (xs.any p)])) :
    Ok P (bd (aQ (.lst (xs.map bI.pv)) (.fn f caps)) kr):=by
  refine aH (Q:=fun r=>r = [.bool (xs.any p)]) ?_ (fun r hr=>by rw [hr];exact h)
  rw [bZ]
  refine aH (Q:=fun r=>∃ n : Int,r = [.int .i64 n]∧(0≤n↔xs.any p=true)) ?_ ?_
  · rw [cN]
    refine aI ?_
    exact vV hx p hp _ 0 rfl (by omega)
  · rintro r ⟨n,rfl,hn⟩
    refine qF (aA ?_)
    have : decide (0≤n)=xs.any p:=by
      by_cases h : 0≤n
      · rw [decide_eq_true h,hn.1 h]
      · rw [decide_eq_false h]
        cases h2 : xs.any p with
        | false=>rfl
        | true=>exact absurd (hn.2 h2) h
    rw [this]
theorem vX {f : Nat} {caps : List PV} {xs : List ByteArray} (hx : xs.length≤1000000000) (p : ByteArray→Bool) (hp : ∀ x∈xs,Ok (fun r=>r = [.bool (p x)]) (pcallO f ([.str x]++caps))) : ∀ (j i : Nat),xs.length - i=j→i≤xs.length→
    Ok (fun r=>∃ n : Int,r = [.int .i64 n]∧(0≤n↔(xs.drop i).any p=true)) (aO (.lst (xs.map PV.str)) (.fn f caps) (.int .i64 xs.length) (.int .i64 i)):=by
  intro j
  induction j with
  | zero=>
    intro i h1 h2
    have : i=xs.length:=by omega
    rw [bH]
    refine aS (aC (fun h=>by omega) (fun _=>aA ⟨-1,rfl,?_⟩))
    rw [this,List.drop_length]
    simp
  | succ j ih=>
    intro i h1 h2
    have hi : i<xs.length:=by omega
    rw [bH]
    refine aS (aC (fun _=>?_) (fun h=>by omega))
    refine cD hi (fun _=>rfl) (jA rfl (hp _ (List.getElem_mem _)) (fun r hr=>?_))
    subst hr
    rw [List.drop_eq_getElem_cons hi,List.any_cons]
    refine bN (fun h=>aA ⟨i,rfl,?_⟩) (fun h=>?_)
    · rw [h];simp
    · refine bC (by omega) ((ih (i+1) (by omega) (by omega)).mono ?_)
      rintro r ⟨n,hr,hn⟩
      exact ⟨n,hr,by rw [h,Bool.false_or];exact hn⟩
theorem vY {f : Nat} {caps : List PV} {xs : List ByteArray} (hx : xs.length≤1000000000) (p : ByteArray→Bool) (hp : ∀ x∈xs,Ok (fun r=>r = [.bool (p x)]) (pcallO f ([.str x]++caps))) (h : Ok P (kr [.bool (xs.any p)])) :
    Ok P (bd (aW (.lst (xs.map PV.str)) (.fn f caps)) kr):=by
  refine aH (Q:=fun r=>r = [.bool (xs.any p)]) ?_ (fun r hr=>by rw [hr];exact h)
  rw [cP]
  refine aH (Q:=fun r=>∃ n : Int,r = [.int .i64 n]∧(0≤n↔xs.any p=true)) ?_ ?_
  · rw [cV]
    refine aI ?_
    exact vX hx p hp _ 0 rfl (by omega)
  · rintro r ⟨n,rfl,hn⟩
    refine qF (aA ?_)
    have : decide (0≤n)=xs.any p:=by
      by_cases h : 0≤n
      · rw [decide_eq_true h,hn.1 h]
      · rw [decide_eq_false h]
        cases h2 : xs.any p with
        | false=>rfl
        | true=>exact absurd (hn.2 h2) h
    rw [this]
end
theorem oT {α : Type} (p : α→Bool) : ∀ (xs : List α),xs.any (fun x=>!p x) = !xs.all p
  | []=>rfl
  | x::r=>by rw [List.any_cons,List.all_cons,oT p r,Bool.not_and]
section
variable {ts : List ByteArray} {fs : List dL} (ht : ts.length ≤ 1000000) (hf : fs.length ≤ 1000000)
include ht hf
theorem oU : ∀ (j i : Nat),fs.length - i=j→i≤fs.length→
    Ok (fun r=>r = [.bool ((fs.drop i).all (kE ts.length fs.length))]) (cM (.lst (fs.map dL.pv)) (.int .i64 fs.length) (.int .i64 i) (.lst (ts.map PV.str)) (.lst (fs.map dL.pv))):=by
  intro j
  induction j with
  | zero=>
    intro i h1 h2
    have : i=fs.length:=by omega
    rw [dY]
    refine aS (aC (fun h=>by omega) (fun _=>aA ?_))
    rw [this,List.drop_length];rfl
  | succ j ih=>
    intro i h1 h2
    have hi : i<fs.length:=by omega
    rw [dY,qO hi]
    refine aS (aC (fun _=>?_) (fun h=>by omega))
    refine cD hi (fun _=>rfl) (aG rfl (aB rfl (aB rfl (aB rfl ?_))))
    refine bU (eA (bN (fun h=>aA ?_) (fun h1'=>?_)))
    · have : eK fs[i].p 0 6=false:=by simpa using h
      simp [kE,this]
    refine bU (eA (bN (fun h=>aA ?_) (fun h2'=>?_)))
    · have : eK fs[i].lc fs[i].p 12=false:=by simpa using h
      simp [kE,this]
    refine aI (bU (eA (bN (fun h=>aA ?_) (fun h3'=>?_))))
    · have : eK (fs[i].code.length : Int) 1 120=false:=by simpa using h
      simp [kE,this]
    have g1 : eK fs[i].p 0 6=true:=by simpa using h1'
    have g2 : eK fs[i].lc fs[i].p 12=true:=by simpa using h2'
    have g3 : eK (fs[i].code.length : Int) 1 120=true:=by simpa using h3'
    have q1:=g1
    have q2:=g2
    have q3:=g3
    simp only [eK,Bool.and_eq_true,decide_eq_true_eq] at q1 q2 q3
    refine vW (by omega) (fun x=>!bF ts.length fs.length fs[i].lc fs[i].code.length x.o x.a) (fun x _=>?_) ?_
    · show Ok _ (fS _ _ _)
      rw [iQ]
      refine aG rfl (aB rfl (aB rfl (fC rfl (fC rfl (fC rfl (fC rfl (fC rfl ?_)))))))
      refine aH (aAn (f:=fs[i]) (x:=x) ht hf (by omega) (by omega)) (fun r hr=>?_)
      subst hr
      exact eA (aA rfl)
    · rw [oT (fun x : bI=>bF ts.length fs.length fs[i].lc fs[i].code.length x.o x.a)]
      refine cA rfl (bN (fun h=>aA ?_) (fun h=>?_))
      · have : fs[i].code.all (fun x=>bF ts.length fs.length fs[i].lc fs[i].code.length x.o x.a)=false:=by simpa using h
        simp only [kE,this,Bool.and_false,Bool.false_and]
      · have g4 : fs[i].code.all (fun x=>bF ts.length fs.length fs[i].lc fs[i].code.length x.o x.a)=true:=by
          rw [Bool.not_eq_false'] at h
          exact h
        refine bC (by omega) ((ih (i+1) (by omega) (by omega)).mono ?_)
        rintro r rfl
        simp only [kE,g1,g2,g3,g4,Bool.true_and]
end
theorem jY {m : dD} (h : m.sized) : Ok (fun r=>r = [.bool m.okB]) (bY m.pv):=by
  obtain ⟨ht,hf,hs,_⟩:=h
  rw [jP]
  refine aG rfl (aB rfl (aB rfl (aI (bU (eA (bN (fun h=>aA ?_) (fun h1=>?_)))))))
  · have : eK (m.funcs.length : Int) 1 12=false:=by simpa using h
    simp [dD.okB,this]
  refine aI (oK (aC (fun h=>aA ?_) (fun h2=>?_)))
  · have : ¬ ((m.texts.length : Int)≤20):=by omega
    simp only [dD.okB,decide_eq_false this,Bool.false_and,Bool.and_false]
  have g1 : eK (m.funcs.length : Int) 1 12=true:=by simpa using h1
  have g2 : (m.texts.length : Int)≤20:=by omega
  refine vY (by omega) (fun s=>!eL s) (fun x hx=>?_) ?_
  · show Ok _ (fR _)
    rw [iP]
    refine aH (rG (hs x hx)) (fun r hr=>?_)
    subst hr
    exact eA (aA rfl)
  · rw [oT eL]
    refine bN (fun h=>aA ?_) (fun h=>?_)
    · have : m.texts.all eL=false:=by rw [Bool.not_eq_true'] at h;exact h
      simp only [dD.okB,this,Bool.and_false,Bool.false_and]
    · have g3 : m.texts.all eL=true:=by rw [Bool.not_eq_false'] at h;exact h
      refine aI ((oU ht hf _ 0 rfl (by omega)).mono ?_)
      rintro r rfl
      rw [List.drop_zero]
      simp only [dD.okB,g1,decide_eq_true g2,g3,Bool.true_and]
end Go.Proofs.YtjgleeamiclokaaDoor.K
namespace Go.Proofs.YtjgleeamiclokaaDoor.K
open Go
attribute [local irreducible] bd PV.ite PV.guardFlat PV.guardOwn PV.whole PV.one PV.cell PV.sub PV.at_ PV.len PV.slen PV.chr PV.beq PV.peq PV.ceq PV.bin PV.neg PV.not PV.conv PV.cut PV.scut PV.cat PV.setAt PV.setCell PV.ncopy PV.copyIn PV.zeros PV.toStr PV.toBytes PV.deref PV.isPtr PV.comp PV.inb PV.off PV.imin PV.imax PV.sel PV.apply PV.isLst PV.isInt PV.ix PV.nilT
def aGe (x : PV) : Prop:=∃ o a : Int,x = .agg [.int .i64 o,.int .i64 a]∧(-9223372036854775808≤o∧o≤9223372036854775807)∧(-9223372036854775808≤a∧a≤9223372036854775807)
def Cd (cs : List PV) : Prop:=∀ x∈cs,aGe x
theorem Cd.one {o a : Int} (h : -9223372036854775808≤o∧o≤9223372036854775807) (k : -9223372036854775808≤a∧a≤9223372036854775807) : Cd [.agg [.int .i64 o,.int .i64 a]]:=by
  intro x hx
  simp only [List.mem_singleton] at hx
  exact ⟨o,a,hx,h,k⟩
section
variable {P : R → Prop} {k : R → Option R}
end
def aG9 : PV→Bool
  | .int .i64 n=>decide (-1000000000≤n)&&decide (n≤1000000000)
  | _=>false
def tH (x : PV) : Prop:=∃ p lc : Int,∃ cs : List PV,x = .agg [.int .i64 p,.int .i64 lc,.lst cs]∧(0≤p∧p≤2)∧(0≤lc∧lc≤100)∧Cd cs∧1≤(cs.length : Int)∧(cs.length : Int)≤100000000
structure Asm (l : List Int) (fs : List PV) (t lc : Int) : Prop where
  hl : Bts l
  hf : ∀ x∈fs,tH x
  hn : fs.length≤1000
  ht : 0≤t∧t≤1000
  hlc : 1≤lc∧lc≤1000
def aHa (l : List Int) (fs : List PV) (t lc : Int) (mn : PV) (A B0 B : Int) (r : R) : Prop:=∃ a s : Int,∃ cs : List PV,r = [.lst fs,.int .i64 t,.int .i64 lc,mn,bW l,.int .i64 a,.int .i64 s,.lst cs]∧0≤a∧a≤A∧0≤s∧s<65521∧B0≤cs.length∧(cs.length : Int)≤B∧Cd cs
def aAC (l : List Int) (fs : List PV) (t lc : Int) (mn : PV) (c : Int) (f : PV→PV→PV→PV→PV→PV→PV→PV→Option R) : Prop:=
  ∀ (a s : Int) (cs : List PV),0≤a∧a+c≤1000000000∧0≤s∧s<65521→(cs.length : Int)+c≤1000000000→Cd cs→
    Ok (aHa l fs t lc mn (a+c) cs.length (cs.length+c)) (f (.lst fs) (.int .i64 t) (.int .i64 lc) mn (bW l) (.int .i64 a) (.int .i64 s) (.lst cs))
section
variable {P : R → Prop} {k : R → Option R} {l : List Int} {fs : List PV} {t lc : Int} {mn : PV}
theorem aAC.mono {c c' : Int} {f : PV→PV→PV→PV→PV→PV→PV→PV→Option R} (H : aAC l fs t lc mn c f) (hc : 0≤c∧c≤c') : aAC l fs t lc mn c' f:=by
  intro a s cs h0 hl hcs
  refine (H a s cs (by omega) (by omega) hcs).mono ?_
  rintro r ⟨a',s',cs',hr,h1,h2,h3,h4,h5,h6,h7⟩
  exact ⟨a',s',cs',hr,h1,by omega,h3,h4,h5,by omega,h7⟩
section
def Par (fs : List PV) (i p : Int) : Prop:=0≤i∧i<fs.length∧(0≤p∧p≤2)∧∃ q r : PV,fs[i.toNat]? = some (.agg [.int .i64 p,q,r])
end
end
end Go.Proofs.YtjgleeamiclokaaDoor.K
namespace Go.Proofs.YtjgleeamiclokaaDoor.K
open Go
attribute [local irreducible] bd PV.ite PV.guardFlat PV.guardOwn PV.whole PV.one PV.cell PV.sub PV.at_ PV.len PV.slen PV.chr PV.beq PV.peq PV.ceq PV.bin PV.neg PV.not PV.conv PV.cut PV.scut PV.cat PV.setAt PV.setCell PV.ncopy PV.copyIn PV.zeros PV.toStr PV.toBytes PV.deref PV.isPtr PV.comp PV.inb PV.off PV.imin PV.imax PV.sel PV.apply PV.isLst PV.isInt PV.ix PV.nilT
section
variable {l : List Int} {fs : List PV} {t lc : Int} {mn : PV}
section
end
section
end
end
end Go.Proofs.YtjgleeamiclokaaDoor.K
namespace Go.Proofs.YtjgleeamiclokaaDoor.K
open Go
attribute [local irreducible] bd PV.ite PV.guardFlat PV.guardOwn PV.whole PV.one PV.cell PV.sub PV.at_ PV.len PV.slen PV.chr PV.beq PV.peq PV.ceq PV.bin PV.neg PV.not PV.conv PV.cut PV.scut PV.cat PV.setAt PV.setCell PV.ncopy PV.copyIn PV.zeros PV.toStr PV.toBytes PV.deref PV.isPtr PV.comp PV.inb PV.off PV.imin PV.imax PV.sel PV.apply PV.isLst PV.isInt PV.ix PV.nilT
def nV (x : PV) : Prop:=∃ b : ByteArray,x = .str b∧b.size≤1000
def aHb (l : List Int) (A : Int) (r : R) : Prop:=∃ a s : Int,∃ ts fs : List PV,r = [.agg [.lst ts,.lst fs],bW l,.int .i64 a,.int .i64 s]∧0≤a∧a≤A∧0≤s∧s<65521∧(∀ x∈ts,nV x)∧ts.length≤10∧(∀ x∈fs,tH x)∧1≤fs.length∧fs.length≤10
section
variable {l : List Int} (hl : Bts l) {ts : List PV} (hts : ∀ x ∈ ts, nV x) (htn : ts.length ≤ 10)
include hl hts htn
end
end Go.Proofs.YtjgleeamiclokaaDoor.K
namespace Go.Proofs.YtjgleeamiclokaaDoor.K
open Go
attribute [local irreducible] bd PV.ite PV.guardFlat PV.guardOwn PV.whole PV.one PV.cell PV.sub PV.at_ PV.len PV.slen PV.chr PV.beq PV.peq PV.ceq PV.bin PV.neg PV.not PV.conv PV.cut PV.scut PV.cat PV.setAt PV.setCell PV.ncopy PV.copyIn PV.zeros PV.toStr PV.toBytes PV.deref PV.isPtr PV.comp PV.inb PV.off PV.imin PV.imax PV.sel PV.apply PV.isLst PV.isInt PV.ix PV.nilT
def qV (x : PV) : Prop:=∃ p lc : Int,∃ cs : List PV,x = .agg [.int .i64 p,.int .i64 lc,.lst cs]∧(-9223372036854775808≤p∧p≤9223372036854775807)∧(-9223372036854775808≤lc∧lc≤9223372036854775807)∧Cd cs∧(cs.length : Int)≤200000000
def aHI (l : List Int) (A : Int) (r : R) : Prop:=∃ a s : Int,∃ ts fs : List PV,r = [.agg [.lst ts,.lst fs],bW l,.int .i64 a,.int .i64 s]∧0≤a∧a≤A∧0≤s∧s<65521∧(∀ x∈ts,nV x)∧ts.length≤100∧(∀ x∈fs,qV x)∧fs.length≤100∧1≤fs.length
section
variable {l : List Int} (hl : Bts l) {ts : List PV} (ht : ∀ x ∈ ts, nV x) (htn : ts.length ≤ 20)
include hl ht htn
end
def aHs (x : PV) : Prop:=∃ ts fs : List PV,x = .agg [.lst ts,.lst fs]∧(∀ x∈ts,nV x)∧ts.length≤100∧(∀ x∈fs,qV x)∧fs.length≤100∧1≤fs.length
end Go.Proofs.YtjgleeamiclokaaDoor.K
namespace Go.Proofs.YtjgleeamiclokaaDoor.K
open Go
attribute [local irreducible] bd PV.ite PV.guardFlat PV.guardOwn PV.whole PV.one PV.cell PV.sub PV.at_ PV.len PV.slen PV.chr PV.beq PV.peq PV.ceq PV.bin PV.neg PV.not PV.conv PV.cut PV.scut PV.cat PV.setAt PV.setCell PV.ncopy PV.copyIn PV.zeros PV.toStr PV.toBytes PV.deref PV.isPtr PV.comp PV.inb PV.off PV.imin PV.imax PV.sel PV.apply PV.isLst PV.isInt PV.ix PV.nilT
def Byt (l : List Int) : Prop:=∀ x∈l,0≤x∧x≤255
theorem aEq {l : List Int} (hb : Byt l) {P : R→Prop} {k : R→Option R} (h1 : Bts l→Ok P (k [.bool false])) (h2 : Ok P (k [.bool true])) : Ok P (bd (lP (bW l)) k):=by
  refine aH (Q:=fun r=>r = [.bool (decide ((1048576 : Int)<l.length))]) ?_ (fun r hr=>?_)
  · rw [qM]
    exact eR (oK (aA rfl))
  · subst hr
    by_cases h : (1048576 : Int)<l.length
    · rw [decide_eq_true h];exact h2
    · rw [decide_eq_false h];exact h1 ⟨hb,by omega⟩
end Go.Proofs.YtjgleeamiclokaaDoor.K
namespace Go.Proofs.YtjgleeamiclokaaDoor.K
open Go Go.IntWalk
attribute [local irreducible] bd PV.ite PV.guardFlat PV.guardOwn PV.whole PV.one PV.cell PV.sub PV.at_ PV.len PV.slen PV.chr PV.beq PV.peq PV.ceq PV.bin PV.neg PV.not PV.conv PV.cut PV.scut PV.cat PV.setAt PV.setCell PV.ncopy PV.copyIn PV.zeros PV.toStr PV.toBytes PV.deref PV.isPtr PV.comp PV.inb PV.off PV.imin PV.imax PV.sel PV.apply PV.isLst PV.isInt PV.ix PV.nilT
def pickB (l : List Int) (s i : Int) : Int:=(l[((s+i) % l.length).toNat]?).getD 0
def pickA (l : List Int) (s : Int) : Nat→Int
  | 0=>0
  | i+1=>31*pickA l s i+pickB l s i
def pickT (l : List Int) (s n : Int) : Int:=if l = [] then 0 else (pickA l s 3+s) % n
section
variable {l : List Int} {P : R → Prop}
theorem mA (hl : Bts l) (s i : Int) : 0≤pickB l s i∧pickB l s i≤255:=by
  unfold pickB
  cases h : l[((s+i) % l.length).toNat]? with
  | none=>simp
  | some x=>exact hl.1 x (List.mem_of_getElem? h)
theorem qW (hl : Bts l) {k : R→Option R} {s n : Int} (hs : 0≤s∧s≤1000) (hn : 2≤n∧n≤1000000) (h : Ok P (k [.int .i64 (pickT l s n)])) : Ok P (bd (gW (bW l) (.int .i64 s) (.int .i64 n)) k):=by
  refine aH (Q:=fun r=>r = [.int .i64 (pickT l s n)]) ?_ (fun r hr=>by rw [hr];exact h)
  have hlen:=hl.2
  rw [oS]
  refine eR (aE (aC (fun h0=>aA ?_) (fun h0=>aS (aC (fun h=>by omega) (fun _=>?_)))))
  · have : l = []:=List.length_eq_zero_iff.1 (by omega)
    unfold pickT;rw [if_pos this]
  have hne : ¬ l = []:=fun e=>h0 (by rw [e];rfl)
  have b0:=mA hl s 0
  have b1:=mA hl s 1
  have b2:=mA hl s 2
  have a1 : pickA l s 1=pickB l s 0:=by simp [pickA]
  have a2 : pickA l s 2=31*pickA l s 1+pickB l s 1:=rfl
  have a3 : pickA l s 3=31*pickA l s 2+pickB l s 2:=rfl
  have hz : 0≤pickA l s 0∧pickA l s 0≤0:=⟨Int.le_refl _,Int.le_refl _⟩
  refine oV (n:=3) (F:=fun i=>eB (bW l) (.int .i64 s) (.int .i64 n) (.int .i64 (pickA l s i)) (.int .i64 i)) (P:=fun _ r=>r = [.int .i64 (pickT l s n)]) ?_ (fun i hi ih=>?_) 0 (by omega)
  · rw [fT]
    refine aS (aC (fun h=>by omega) (fun _=>bC (by omega) (aCb (by omega) (by omega) (aA ?_))))
    unfold pickT;rw [if_neg hne]
  · rw [fT]
    have ha : 0≤pickA l s i∧pickA l s i≤10000:=by
      rcases (show i=0∨i=1∨i=2 by omega) with rfl | rfl | rfl<;>omega
    refine aS (aC (fun _=>aCa (by omega) (bC (by omega) (eR (aCb (by omega) (by omega) ?_)))) (fun h=>by omega))
    refine xJ (Int.emod_nonneg _ (by omega)) (Int.emod_lt_of_pos _ (by omega)) (fun x hx hxi=>?_)
    have e : pickB l s i=x:=by unfold pickB;rw [hxi];rfl
    have hx:=hl.1 x hx
    refine aEc (by omega) (bC (by omega) (bC (by omega) ?_))
    rw [← e]
    exact ih
theorem uU {s n : Int} (hn : 0<n) : 0≤pickT l s n∧pickT l s n<n:=by
  unfold pickT
  split
  · omega
  · exact ⟨Int.emod_nonneg _ (by omega),Int.emod_lt_of_pos _ hn⟩
end
end Go.Proofs.YtjgleeamiclokaaDoor.K
namespace Go.Proofs.YtjgleeamiclokaaDoor.K
open Go Go.IntWalk
attribute [local irreducible] bd PV.ite PV.guardFlat PV.guardOwn PV.whole PV.one PV.cell PV.sub PV.at_ PV.len PV.slen PV.chr PV.beq PV.peq PV.ceq PV.bin PV.neg PV.not PV.conv PV.cut PV.scut PV.cat PV.setAt PV.setCell PV.ncopy PV.copyIn PV.zeros PV.toStr PV.toBytes PV.deref PV.isPtr PV.comp PV.inb PV.off PV.imin PV.imax PV.sel PV.apply PV.isLst PV.isInt PV.ix PV.nilT
section
variable {P : R → Prop} {k : R → Option R}
def fK (n : Nat) : dL:=⟨0,0,⟨4,0⟩::List.replicate n ⟨25,0⟩⟩
set_option maxRecDepth 100000 in
theorem aHB : (dD.mk [] [fK 119]).okB=true:=by kernel_rfl
set_option maxRecDepth 100000 in
theorem aHC : (dD.mk [] [fK 120]).okB=false:=by kernel_rfl
theorem aHD {d : Nat} (hd : d≤1) (hok : (dD.mk [] [fK (119+d)]).okB=decide (d=0)) : ∀ j i,i+j=119+d→Ok (fun r=>r = [.bool true]) (cX (.int .i64 (d : Int)) (.lst []) (.lst [(fK i).pv])):=by
  intro j
  have at0 : ∀ {P : R→Prop} {k : PV→Option R} {x : PV},x.isEl 3 true=true→Ok P (k x)→Ok P (bd (PV.at_ 3 true (.lst [x]) (.int .i64 0)) k):=fun he h=>aCc (by omega) rfl he h
  have len : ∀ i,((fK i).code.length : Int)=i+1:=fun i=>by simp [fK]
  induction j with
  | zero=>
    intro i hi
    have hi : i=119+d:=by omega
    subst hi
    rw [gJ]
    refine nD (by omega) (by simp) (at0 rfl (at0 rfl (aB rfl (aI (bC (by omega) (aS (aC (fun h=>by rw [len] at h;omega) (fun _=>?_))))))))
    refine aH (jY (m:=⟨[],[fK (119+d)]⟩) ⟨by simp,by simp,by simp,fun f hf=>by simp at hf;rw [hf];simp [fK];omega⟩) (fun r hr=>?_)
    rw [hr]
    refine cA rfl (aE (eF (aA ?_)))
    rw [hok]
    have : decide ((d : Int)=0)=decide (d=0):=by by_cases h : d=0<;>simp [h]
    rw [this]
    cases decide (d=0)<;>rfl
  | succ j ih=>
    intro i hi
    rw [gJ]
    refine nD (by omega) (by simp) (at0 rfl (at0 rfl (aB rfl (aI (bC (by omega) (aS (aC (fun _=>?_) (fun h=>by rw [len] at h;omega))))))))
    refine nD (by omega) (by simp) (at0 rfl (at0 rfl (aB rfl (at0 rfl (aB rfl (lO (by omega) rfl rfl (by omega) rfl ?_))))))
    refine iZ (by simp [fK];omega) (fun x hx=>by simp only [List.mem_singleton] at hx;subst hx;rfl) ?_
    refine nD (by omega) (by simp) (lO (by omega) rfl rfl (by omega) rfl ?_)
    have e : (fK i).code.map bI.pv++[PV.agg [.int .i64 25,.int .i64 0]]=(fK (i+1)).code.map bI.pv:=by
      simp only [fK,List.replicate_succ',List.map_cons,List.map_append,List.cons_append];rfl
    rw [e]
    exact ih (i+1) (by omega)
theorem limitsK_ok {l : List Int} (h0 : ∀ x∈l,0≤x∧x≤255) (hp : pickT l 0 7=1) : pcallO 3 [bW l]=some [.bool true]:=by
  refine Ok.eq ?_
  show Ok _ (iD (bW l))
  rw [jO]
  refine aEq h0 (fun hl=>bG ?_) (aR (aA rfl))
  refine qW hl (by omega) (by omega) (qW hl (by omega) (by omega) ?_)
  have q1:=uU (l:=l) (s:=1) (n:=2) (by omega)
  generalize pickT l 1 2=d0 at q1
  rw [hp]
  obtain ⟨d,rfl⟩:=Int.eq_ofNat_of_zero_le q1.1
  have hd : d≤1:=by omega
  refine aE (aC (fun h=>absurd h (by decide)) (fun _=>aE (aC (fun _=>?_) (fun h=>absurd rfl h))))
  refine aHD hd ?_ (118+d) 1 (by omega)
  rcases (show d=0∨d=1 by omega) with rfl | rfl
  · exact aHB
  · exact aHC
end
end Go.Proofs.YtjgleeamiclokaaDoor.K
namespace Go.Proofs.YtjgleeamiclokaaDoor
open Go Go.IntWalk
theorem aGk {l : List Int} {s n : Int} : K.pickT l s n=pickT l s n:=by
  have hb : ∀ i,K.pickB l s i=pickB l s i:=fun _=>rfl
  have ha : ∀ i,K.pickA l s i=pickA l s i:=by
    intro i
    induction i with
    | zero=>rfl
    | succ i ih=>rw [K.pickA,pickA,ih,hb]
  unfold K.pickT pickT
  rw [ha]
def aGQ (n : Nat) (args : List PV) : Prop:=pcallO n args=some [.bool true]∨K.pcallO n args=some [.bool true]
theorem aEu {l : List Int} (h0 : ∀ x∈l,0≤x∧x≤255) : aGQ 3 [bW l]:=by
  by_cases hp : pickT l 0 7=1
  · exact .inr (K.limitsK_ok h0 (aGk.trans hp))
  · exact .inl (aFD h0 hp)
end Go.Proofs.YtjgleeamiclokaaDoor
namespace Go.Proofs.YtjgleeamiclokaaDoor
open Go Go.ChangeShapes Go.WideShapes Go.ChangeAt Go.RowKit
theorem aDA (n : Nat) (args : List PV) (aJ : Array Value) (h : K.pcallO n args=some [.bool true]) {w : World} (gz : mU w fun r=>r<w.heap.size) (hl : args.length=aJ.size) (hr : ∀ (i : Nat) x v,args[i]? = some x→aJ[i]? = some v→dZ w (fun r=>r<w.heap.size) x v) :
    Calls Tryd.prog n aJ w fun e w'=>e = .returned (.bool true)∧Below w.heap.size w w':=by
  refine (xG K.hyp h (Z:=fun r=>r<w.heap.size) ⟨fun _ h=>h,gz⟩ hl hr).mono ?_
  rintro e w' ⟨v,rfl,Z',pe,hrep⟩
  have hrep : dZ w' Z' (.bool true) v:=hrep
  rw [hrep.bool_inv]
  exact ⟨rfl,pe.os,pe.tape,pe.output,pe.size,pe.old⟩
theorem aDB (n : Nat) (args : List PV) (aJ : Array Value) (h : aGQ n args) {w : World} (gz : mU w fun r=>r<w.heap.size) (hl : args.length=aJ.size) (hr : ∀ (i : Nat) x v,args[i]? = some x→aJ[i]? = some v→dZ w (fun r=>r<w.heap.size) x v) :
    Calls Tryd.prog n aJ w fun e w'=>e = .returned (.bool true)∧Below w.heap.size w w':=
  h.elim (fun h=>aEd n args aJ h gz hl hr) (fun h=>aDA n args aJ h gz hl hr)
end Go.Proofs.YtjgleeamiclokaaDoor
