/-
  The law FnLimits holds for every input.
  Conditions: none.
-/
import Derived.Test.YtjgleeamiclokaaDoorF
import Derived.Test.YtjgleeamiclokaaDoorRows
import Derived.Test.YtjgleeamiclokaaDoorTie
import Derived.Test.YtjgleeamiclokaaDoorCards
import Derived.LaidMore
import Derived.MakeChecks
import Derived.Stop.Joined
import Derived.Calls
import Derived.KernelRfl
import Derived.Orders
import Derived.Lib.AppendIntMem
import Derived.Lib.ItoaNum
import Derived.Laws.IdiomCopy
import Derived.Laws.Cells
import Derived.Below
import Derived.Laws.StructEq
import Derived.Laws.BytesString
import Derived.Laws.NewFold
import Derived.Laws.Tables
import Derived.Great.FillDense
import Derived.Shelf.Spec.SlicesGrow
import Derived.Shelf.Strconv.Itoa3
import Derived.Shelf.SlGeneric
import Derived.Ground.NamesProg
import Derived.Ground.Names8Prog
import Derived.IntWalk
import Derived.WalkKit
import Derived.ProofKit
import Derived.OpenShut
import Derived.ShutString
import Derived.ChangeOld
import Derived.Lib.Strings
set_option linter.all false
namespace Go.Proofs.YtjgleeamiclokaaDoor
open Go Go.ChangeShapes Go.WideShapes Go.ChangeAt Go.RowKit
def laidL : List (String × DataW Unit):=[("math/bits.deBruijn32tab",Rows.laid_math_bits_deBruijn32tab),("math/bits.deBruijn64tab",Rows.laid_math_bits_deBruijn64tab),("internal/strconv.uint64pow10",Rows.laid_internal_strconv_uint64pow10)]
set_option maxRecDepth 100000 in
theorem door_met (os : Os) (args : Array Value) : laidMetH Tryd.prog laidL ((World.doorLaid Tryd.prog 24 os).forCall (fun _ _=>0) ⟨#[],args,[]⟩).memory:=
  laidMetH_of_parts3 (fuel:=8) (laidMet_of_run' 8 (by kernel_rfl) (by kernel_rfl)) (by kernel_rfl) (by kernel_rfl)
set_option maxRecDepth 100000 in
theorem glob_of {W : World} (h : laidMetH Tryd.prog laidL W) : mU W (fun r=>r<W.heap.size):=by
  rw [MakeChecks.laidMetH_plain _ _ _ (by kernel_rfl)] at h
  obtain ⟨ps,⟨_,_,_,_,_,_,_,_,_,_,⟨_,_,_,_,_,_,_,_,_,_,⟨g,t,cs,fuel,p,q,hg,ht,hv,hd,_,_⟩,_⟩,_⟩,_,_⟩:=h
  have hg0 : Tryd.prog.globalNamed "internal/strconv.uint64pow10" = some aEU:=by kernel_rfl
  obtain rfl:=Option.some.inj (hg0.symm.trans hg)
  obtain rfl:=Option.some.inj ((show (Tryd.prog.globals[aEU]?).map (·.type)=some 131 by kernel_rfl).symm.trans ht)
  obtain ⟨xs,m,_,ex,hlen,hl,hel⟩:=DataW.trod_array Tryd.underlying131 hd
  have cE : Tryd.prog.cellsOf 121=1:=by kernel_rfl
  have cT : Tryd.prog.cellsOf 131=20:=by kernel_rfl
  rw [cT] at hlen
  have e3 : xs.map (·.1)=Lib.pow10Tab.map fun n=>(DataW.lit (.int .u64 n) : DataW Unit):=(DataW.agg.inj (Prod.mk.inj ex).1).symm
  have hp : Lib.pow10Tab.length=20:=by kernel_rfl
  have key : ∀ i,i<20→cs.toList[i]? = (Lib.pow10Tab.map fun z=>Value.int .u64 z)[i]?:=fun i hi=>by
    have hE:=hel i hi
    rw [cE,Nat.mul_one,List.getElem?_eq_getElem (by omega)] at hE
    obtain ⟨z,e1,e2,_⟩:=DataW.trod_int Tryd.underlying121 hE
    have e4 : (xs.map (·.1))[i]? = (Lib.pow10Tab.map fun n=>(DataW.lit (.int .u64 n) : DataW Unit))[i]?:=by rw [e3]
    rw [List.getElem?_map,List.getElem?_map,List.getElem?_eq_getElem (by omega : i<xs.length),e2] at e4
    have hz : Lib.pow10Tab[i]? = some z:=by
      cases hq : Lib.pow10Tab[i]? with
      | none=>rw [hq] at e4;simp at e4
      | some y=>rw [hq] at e4;simp at e4;rw [e4]
    rw [List.getElem?_map,hz]
    have h0 : ((cs.toList.drop i).take 1)[0]? = some (.int .u64 z):=by rw [e1];rfl
    simpa using h0
  have hcs : cs=(Lib.pow10Tab.map fun z=>Value.int .u64 z).toArray:=by
    apply Array.ext'
    apply List.ext_getElem?
    intro i
    by_cases hi : i<20
    · rw [key i hi]
    · rw [List.getElem?_eq_none (by omega),List.getElem?_eq_none (by simp;omega)]
  simp only [World.var?,hg0,Option.bind_some] at hv
  split at hv
  · rename_i c ty fz hc
    cases hv
    rw [hcs] at hc
    exact ⟨(Array.getElem?_eq_some_iff.1 hc).1,ty,fz,hc⟩
  · cases hv
set_option maxRecDepth 100000 in
set_option linter.unusedVariables false in
theorem fnLimits_lifted (pure : ∀ l0 : List Int,(∀ x∈l0,(Lit.int .u8 x).wf=true)→aGQ 3 [bW l0]) (os : Os) (started : os.Started) (H : Type) (enc : TypeId × Value→H) :
    ReturnsInHanded {} Tryd.checked os 3 .any (fun w args=>(Rows.fnLimitsSpec.pre enc Tryd.prog Tryd.f3 [] false w args∧laidMetH Tryd.prog laidL w)∧sizedMet enc Tryd.prog Tryd.f3 (OpenSpec.ofChange Rows.fnLimitsSpec) false w args) (Rows.fnLimitsSpec.post enc Tryd.prog Tryd.f3 false true false false):=by
  refine returnsInHanded_of_change_and (C:=Tryd.checked) (X:=fun w _=>laidMetH Tryd.prog laidL w) (fun _ _ _ hh h=>h.of_heap hh) own started (by kernel_rfl) Tryd.func3
    (ChangeSpec.witness_shaped (enc:=enc) (C:=Tryd.checked) (os:=os) (X:=fun w _=>laidMetH Tryd.prog laidL w) false (World.doorLaid Tryd.prog 24 os) #[.slice none 0 0] 8 rfl (World.shaped_of_RefB (by kernel_rfl) (by kernel_rfl)) (by kernel_rfl) (by kernel_rfl) (by kernel_rfl) (door_met os _)) ?_
  intro W base args ds gs before hval0 hW _ _ hL _
  have hval : ∀ (j : Nat) t v,Tryd.f3.params[j]? = some t→args[j]? = some v→Value.okWide Tryd.prog W .any base t v:=hval0
  have hW':=hW
  obtain ⟨p,q,hA0,hV,rfl,hfz,hnd⟩:=hW
  have hA : DataW.TrodAll enc Tryd.prog W 0 (fun _=>true) true Tryd.f3.params.toList args.toList ds p:=hA0
  rw [Tryd.params3] at hA hval
  obtain ⟨v0,vs0,d0,ds0,p0,q0,hargs,rfl,rfl,h0,r0⟩:=trodAll_cons hA
  obtain ⟨rfl,rfl,rfl⟩:=trodAll_nil r0
  obtain rfl : args = #[v0]:=by cases args;simp_all
  obtain ⟨rfl,rfl⟩:=trodVars_none hV
  obtain ⟨a0,len0,cap0,rfl⟩:=okWide_slice Tryd.underlying22 (hval 0 22 v0 rfl rfl)
  have k0:=h0
  have lt0 : ∀ x∈p0,x.block<W.heap.size:=by obtain ⟨m,hm⟩:=k0;exact DataW.trod_lt m _ _ _ hm
  obtain ⟨z0,w0⟩ : ∃ zs,uH W a0 len0 cap0 zs:=by
    obtain ⟨fuel,hf⟩:=h0
    rcases open_ints Tryd.underlying22 Tryd.underlying5 (by kernel_rfl) hf with ⟨hcs,_⟩ | ⟨x,l,c,zs,hcs,_,hl,hm,hz,_,hcell,hwz⟩
    · simp [Value.cells] at hcs
      obtain ⟨rfl,rfl,rfl⟩:=hcs
      exact ⟨[],.inl ⟨rfl,rfl,rfl,rfl⟩⟩
    · simp [Value.cells] at hcs
      obtain ⟨rfl,rfl,rfl⟩:=hcs
      exact ⟨zs,.inr ⟨_,rfl,hl,hm,by simpa using hz,hcell,hwz⟩⟩
  clear hA0 hval0
  refine (aDB 3 [bW (z0.take len0)] #[.slice a0 len0 cap0] (pure (z0.take len0) w0.wf) (glob_of hL) rfl (by
    intro i x v hx hv
    match i with
    | 0=>simp at hx hv;subst hx;subst hv;exact w0.rep
    | i+1=>simp at hx)).mono fun e W' ⟨he,bel⟩=>?_
  subst he
  exact ⟨_,rfl,_,_,_,[],_,[],hW',trodAll_mk1 (shut_bool Tryd.underlying4 _),(trodAll_cons_mk (Below.trod aGw (by kernel_rfl) (of_decide_eq_true (by kernel_rfl)) k0 bel lt0) trodAll_mk0),rfl,bel.frame _,fun h=>by cases h⟩

theorem fnLimits_over (pure : ∀ l0 : List Int,(∀ x∈l0,(Lit.int .u8 x).wf=true)→aGQ 3 [bW l0]) : Rows.fnLimitsRow.holds Tryd.pinned (OpenSpec.ofChange Rows.fnLimitsSpec):=
  OpenClaim.holds_of_wide 3 Tryd.f3 rfl rfl rfl rfl rfl rfl rfl ⟨rfl,rfl,rfl,rfl,rfl⟩ rfl rfl rfl rfl rfl (by kernel_rfl) Tryd.func3 (by kernel_rfl)
    (of_decide_eq_true (by kernel_rfl)) (by unfold Func.isWrapper;first | (rw [if_pos (by decide +kernel)];kernel_rfl) | (rw [if_neg (by decide +kernel)];exact ⟨rfl,rfl⟩))
    (fun os started H enc _=>fnLimits_lifted pure os started H enc)

theorem fnLimits_card (said : Rows.fnLimitsRow.holds Tryd.pinned (OpenSpec.ofChange Rows.fnLimitsSpec)) : Claim7.holds Tryd.pinned (.plain (OpenSpec.ofChange Rows.fnLimitsSpec)) Rows.fnLimitsCard:=
  Claim7.holds_tied_plain_at .later [] [.data,.data,.data] true (true,"4a6dc273c77b9d274ba8818a97e3be89746c4c2c650d6e6c7cf45f99f875eef6") false
    said (fun _ h=>by cases h) (by kernel_rfl) (fun _ h=>by cases h) fnLimits_row_tie rfl ⟨rfl,rfl⟩ (by kernel_rfl) rfl
    (fun f fn hf hfn=>by
      obtain rfl : f=3:=Option.some.inj ((show Tryd.prog.funcNamed "loop.example/g00094/laws.FnLimits" = some 3 by kernel_rfl).symm.trans hf) |>.symm
      obtain rfl : fn=Tryd.f3:=(Option.some.inj (Tryd.func3.symm.trans hfn)).symm
      exact ⟨by kernel_rfl,fun j t ht=>by
        rw [Tryd.params3] at ht
        have hm : t∈[22]:=by simpa using Array.mem_of_getElem? ht
        have hall : ([22].all fun u=>!Tryd.prog.wantsStandIn u)=true:=by kernel_rfl
        exact (show Tryd.prog.wantsStandIn t=false by simpa using List.all_eq_true.1 hall t hm)⟩)
    (by kernel_rfl)

theorem fnLimits_proved : Rows.FnLimitsCardSaid := fnLimits_card (fnLimits_over (fun _ w=>aEu (aGY w)))
end Go.Proofs.YtjgleeamiclokaaDoor
