/-
  The law FnExactProfileOf holds for every input.
  Conditions: none.
-/
import Derived.Test.YthkofpnllaapeaaGreatDoorG
import Derived.Test.YthkofpnllaapeaaGreatDoorRows
import Derived.Test.YthkofpnllaapeaaGreatDoorTie
import Derived.Test.YthkofpnllaapeaaGreatDoorCards
import Derived.LaidMore
import Derived.MakeChecks
import Derived.Stop.Joined
set_option linter.all false
namespace Go.Proofs.YthkofpnllaapeaaGreatDoor
open Go Go.ChangeShapes Go.WideShapes Go.ChangeAt Go.RowKit
def laidL : List (String × DataW Unit):=[("math/bits.deBruijn32tab",Rows.laid_math_bits_deBruijn32tab),("math/bits.deBruijn64tab",Rows.laid_math_bits_deBruijn64tab),("internal/strconv.uint64pow10",Rows.laid_internal_strconv_uint64pow10)]
set_option maxRecDepth 100000 in
theorem door_met (os : Os) (args : Array Value) : laidMetH Tryz.prog laidL ((World.doorLaid Tryz.prog 24 os).forCall (fun _ _=>0) ⟨#[],args,[]⟩).memory:=
 laidMetH_of_parts3 (fuel:=8) (laidMet_of_run' 8 (by kernel_rfl) (by kernel_rfl)) (by kernel_rfl) (by kernel_rfl)
set_option maxRecDepth 100000 in
theorem glob_of {W : World} (h : laidMetH Tryz.prog laidL W) : aAR W (fun r=>r<W.heap.size):=by
 rw [MakeChecks.laidMetH_plain _ _ _ (by kernel_rfl)] at h
 obtain ⟨ps,⟨_,_,_,_,_,_,_,_,_,_,⟨_,_,_,_,_,_,_,_,_,_,⟨g,t,cs,fuel,p,q,hg,ht,hv,hd,_,_⟩,_⟩,_⟩,_,_⟩:=h
 have hg0 : Tryz.prog.globalNamed "internal/strconv.uint64pow10" = some aMs:=by kernel_rfl
 obtain rfl:=Option.some.inj (hg0.symm.trans hg)
 obtain rfl:=Option.some.inj ((show (Tryz.prog.globals[aMs]?).map (·.type)=some 337 by kernel_rfl).symm.trans ht)
 obtain ⟨xs,m,_,ex,hlen,hl,hel⟩:=DataW.trod_array Tryz.underlying337 hd
 have cE : Tryz.prog.cellsOf 314=1:=by kernel_rfl
 have cT : Tryz.prog.cellsOf 337=20:=by kernel_rfl
 rw [cT] at hlen
 have e3 : xs.map (·.1)=Lib.pow10Tab.map fun n=>(DataW.lit (.int .u64 n) : DataW Unit):=(DataW.agg.inj (Prod.mk.inj ex).1).symm
 have hp : Lib.pow10Tab.length=20:=by kernel_rfl
 have key : ∀ i,i<20→cs.toList[i]? = (Lib.pow10Tab.map fun z=>Value.int .u64 z)[i]?:=fun i hi=>by
  have hE:=hel i hi
  rw [cE,Nat.mul_one,List.getElem?_eq_getElem (by omega)] at hE
  obtain ⟨z,e1,e2,_⟩:=DataW.trod_int Tryz.underlying314 hE
  have e4 : (xs.map (·.1))[i]? = (Lib.pow10Tab.map fun n=>(DataW.lit (.int .u64 n) : DataW Unit))[i]?:=by rw [e3]
  rw [List.getElem?_map,List.getElem?_map,List.getElem?_eq_getElem (by omega : i<xs.length),e2] at e4
  have hz : Lib.pow10Tab[i]? = some z:=by
   cases hq : Lib.pow10Tab[i]? with
   | none=>rw [hq] at e4;simp at e4
   | some y=>rw [hq] at e4;simp at e4;rw [e4]
  rw [List.getElem?_map,hz]
  have h0 : ((cs.toList.drop i).take 1)[0]? = some (.int .u64 z):=by rw [e1];rfl
  simpa using h0
 have hcs : cs=(Lib.pow10Tab.map fun z=>Value.int .u64 z).toArray:=by
  apply Array.ext'
  apply List.ext_getElem?
  intro i
  by_cases hi : i<20
  ·rw [key i hi]
  ·rw [List.getElem?_eq_none (by omega),List.getElem?_eq_none (by simp;omega)]
 simp only [World.var?,hg0,Option.bind_some] at hv
 split at hv
 ·rename_i c ty fz hc
  cases hv
  rw [hcs] at hc
  exact ⟨(Array.getElem?_eq_some_iff.1 hc).1,ty,fz,hc⟩
 ·cases hv
def shfnExactProfileOf_0 : List CSh:=[aIw,aIx]
def shfnExactProfileOf_1 : List CSh:=[aKN]
theorem shfnExactProfileOf_1_one : ∃ c,shfnExactProfileOf_1 = [c]:=⟨_,rfl⟩
def shfnExactProfileOf_2 : List CSh:=[.i .i64]
theorem shfnExactProfileOf_2_one : ∃ c,shfnExactProfileOf_2 = [c]:=⟨_,rfl⟩
set_option maxRecDepth 100000 in
set_option linter.unusedVariables false in
theorem fnExactProfileOf_lifted (pure : ∀ x0 x1 x2 : PV,FitsArg true shfnExactProfileOf_0 x0→FitsArg false shfnExactProfileOf_1 x1→FitsArg false shfnExactProfileOf_2 x2→aJ 4 [x0,x1,x2]=some [.bool true]) (os : Os) (started : os.Started) (H : Type) (enc : TypeId × Value→H) :
 ReturnsInHanded {} Tryz.checked os 4 .any (fun w args=>(Rows.fnExactProfileOfSpec.pre enc Tryz.prog Tryz.f4 [] false w args∧laidMetH Tryz.prog laidL w)∧sizedMet enc Tryz.prog Tryz.f4 (OpenSpec.ofChange Rows.fnExactProfileOfSpec) false w args) (Rows.fnExactProfileOfSpec.post enc Tryz.prog Tryz.f4 false true false false):=by
 refine returnsInHanded_of_change_and (C:=Tryz.checked) (X:=fun w _=>laidMetH Tryz.prog laidL w) (fun _ _ _ hh h=>h.of_heap hh) own started (by kernel_rfl) Tryz.func4
  (ChangeSpec.witness_shaped (enc:=enc) (C:=Tryz.checked) (os:=os) (X:=fun w _=>laidMetH Tryz.prog laidL w) false (World.doorLaid Tryz.prog 24 os) #[.agg #[.slice none 0 0,.slice none 0 0],.slice none 0 0,.int .i64 0] 8 rfl (World.shaped_of_RefB (by kernel_rfl) (by kernel_rfl)) (by kernel_rfl) (by kernel_rfl) (by kernel_rfl) (door_met os _)) ?_
 intro W base args ds gs before hval0 hW _ _ hL _
 have hval : ∀ (j : Nat) t v,Tryz.f4.params[j]? = some t→args[j]? = some v→Value.okWide Tryz.prog W .any base t v:=hval0
 have hW':=hW
 obtain ⟨p,q,hA0,hV,rfl,hfz,hnd⟩:=hW
 have hA : DataW.TrodAll enc Tryz.prog W 0 (fun _=>true) true Tryz.f4.params.toList args.toList ds p:=hA0
 rw [Tryz.params4] at hA hval
 obtain ⟨v0,vs0,d0,ds0,p0,q0,hargs,rfl,rfl,h0,r0⟩:=trodAll_cons hA
 obtain ⟨v1,vs1,d1,ds1,p1,q1,rfl,rfl,rfl,h1,r1⟩:=trodAll_cons r0
 obtain ⟨v2,vs2,d2,ds2,p2,q2,rfl,rfl,rfl,h2,r2⟩:=trodAll_cons r1
 obtain ⟨rfl,rfl,rfl⟩:=trodAll_nil r2
 obtain rfl : args = #[v0,v1,v2]:=by cases args;simp_all
 obtain ⟨rfl,rfl⟩:=trodVars_none hV
 have k0:=h0
 have lt0 : ∀ x∈p0,x.block<W.heap.size:=by obtain ⟨m,hm⟩:=k0;exact DataW.trod_lt m _ _ _ hm
 obtain ⟨x0,f0,e0⟩ : ∃ x,FitsArg true shfnExactProfileOf_0 x∧eZ W (fun r=>r<W.heap.size) x v0:=by
  obtain ⟨fuel,hf⟩:=h0
  obtain ⟨us,hu,_⟩:=okWide_struct Tryz.underlying25 (hval 0 25 v0 rfl rfl)
  exact arg_agg hu (by kernel_rfl : shapeOf Tryz.prog 20 25=some shfnExactProfileOf_0) hf
 have k1:=h1
 have lt1 : ∀ x∈p1,x.block<W.heap.size:=by obtain ⟨m,hm⟩:=k1;exact DataW.trod_lt m _ _ _ hm
 obtain ⟨x1,f1,e1⟩ : ∃ x,FitsArg false shfnExactProfileOf_1 x∧eZ W (fun r=>r<W.heap.size) x v1:=by
  obtain ⟨fuel,hf⟩:=h1
  obtain ⟨c,hc⟩:=shfnExactProfileOf_1_one
  have hs : shapeOf Tryz.prog 20 26=some [c]:=by rw [← hc];exact (by kernel_rfl : shapeOf Tryz.prog 20 26=some shfnExactProfileOf_1)
  obtain ⟨a,len,cap,rfl⟩:=okWide_slice Tryz.underlying26 (hval 1 26 v1 rfl rfl)
  rw [hc]
  exact arg_one rfl hs hf
 have k2:=h2
 have lt2 : ∀ x∈p2,x.block<W.heap.size:=by obtain ⟨m,hm⟩:=k2;exact DataW.trod_lt m _ _ _ hm
 obtain ⟨x2,f2,e2⟩ : ∃ x,FitsArg false shfnExactProfileOf_2 x∧eZ W (fun r=>r<W.heap.size) x v2:=by
  obtain ⟨fuel,hf⟩:=h2
  obtain ⟨c,hc⟩:=shfnExactProfileOf_2_one
  have hs : shapeOf Tryz.prog 20 3=some [c]:=by rw [← hc];exact (by kernel_rfl : shapeOf Tryz.prog 20 3=some shfnExactProfileOf_2)
  obtain ⟨z,rfl⟩:=okWide_int Tryz.underlying3 (hval 2 3 v2 rfl rfl)
  rw [hc]
  exact arg_one rfl hs hf
 clear hA0 hval0
 refine (aKt 4 [x0,x1,x2] #[v0,v1,v2] (pure x0 x1 x2 f0 f1 f2) (glob_of hL) rfl (by
  intro i x v hx hv
  match i with
  | 0=>simp at hx hv;subst hx;subst hv;exact e0
  | 1=>simp at hx hv;subst hx;subst hv;exact e1
  | 2=>simp at hx hv;subst hx;subst hv;exact e2
  | i+3=>simp at hx)).mono fun e W' ⟨he,bel⟩=>?_
 subst he
 exact ⟨_,rfl,_,_,_,[],_,[],hW',trodAll_mk1 (shut_bool Tryz.underlying4 _),(trodAll_cons_mk (Below.trod aH8 (by kernel_rfl) (of_decide_eq_true (by kernel_rfl)) k0 bel lt0) (trodAll_cons_mk (Below.trod aH8 (by kernel_rfl) (of_decide_eq_true (by kernel_rfl)) k1 bel lt1) (trodAll_cons_mk (Below.trod aH8 (by kernel_rfl) (of_decide_eq_true (by kernel_rfl)) k2 bel lt2) trodAll_mk0))),rfl,bel.frame _,fun h=>by cases h⟩

set_option maxRecDepth 100000 in
theorem kf2 : laidOutB Tryz.pinned.checked.prog=true:=by kernel_rfl
set_option maxRecDepth 100000 in
theorem kf3 : mapsRowed Tryz.pinned.checked.prog=true:=by kernel_rfl
set_option maxRecDepth 100000 in
theorem kf10 : (Rows.fnExactProfileOfRow.inPlace==Tryz.pinned.checked.prog.inPlace 4)=true:=by kernel_rfl
set_option maxRecDepth 100000 in
theorem kf11 : (Rows.fnExactProfileOfRow.unfollowed==Tryz.pinned.checked.prog.unfollowed 4)=true:=by kernel_rfl
set_option maxRecDepth 100000 in
theorem kf12 : (Rows.fnExactProfileOfRow.recurses==Tryz.pinned.checked.prog.recurses 4)=true:=by kernel_rfl
set_option maxRecDepth 100000 in
theorem kf13 : (Rows.fnExactProfileOfRow.named==Tryz.pinned.checked.prog.varsNamed 4)=true:=by kernel_rfl
set_option maxRecDepth 100000 in
theorem kf17 : (Rows.fnExactProfileOfRow.loops==(Tryz.f4.params.toList++Rows.fnExactProfileOfSpec.plain.varTypes Tryz.pinned.checked.prog).any (Tryz.pinned.checked.prog.loopsFrom ·))=true:=by kernel_rfl
set_option maxRecDepth 100000 in
theorem kf22 : (Rows.fnExactProfileOfRow.plainKeys==Tryz.pinned.checked.prog.plainKeys)=true:=by kernel_rfl
set_option maxRecDepth 100000 in
theorem kf23 : Tryz.pinned.checked.prog.stopsHeard=true:=by kernel_rfl
set_option maxRecDepth 100000 in
theorem kf24 : Tryz.pinned.checked.prog.mayEnter=true:=by kernel_rfl
set_option maxRecDepth 100000 in
theorem kf24b : (Rows.fnExactProfileOfRow.lifted==Tryz.pinned.checked.prog.liftsFinal)=true:=by kernel_rfl
set_option maxRecDepth 100000 in
theorem kf24c : (Tryz.pinned.checked.prog.make==some Rows.fnExactProfileOfRow.make)=true:=by kernel_rfl
theorem and_mk {a b : Bool} (ha : a=true) (hb : b=true) : (a&&b)=true:=by rw [ha,hb];rfl
set_option maxRecDepth 100000 in
theorem over_closed : joinedFacts Tryz.pinned.checked.prog 4 Tryz.f4 Rows.fnExactProfileOfSpec Rows.fnExactProfileOfRow=true:=
 and_mk (and_mk (and_mk (and_mk (and_mk (and_mk (and_mk (and_mk (and_mk (and_mk (and_mk (and_mk (and_mk (and_mk (and_mk (and_mk (and_mk (and_mk (and_mk (and_mk (and_mk (and_mk (and_mk (and_mk (and_mk (and_mk (and_mk (and_mk (and_mk (and_mk (and_mk ((by kernel_rfl)) kf2) kf3) (by kernel_rfl)) (by kernel_rfl)) (by kernel_rfl)) (by kernel_rfl)) (by kernel_rfl)) (by kernel_rfl)) kf10) kf11) kf12) kf13) (by kernel_rfl)) (by kernel_rfl)) (by kernel_rfl)) kf17) (by kernel_rfl)) (by kernel_rfl)) (by kernel_rfl)) (by kernel_rfl)) (by kernel_rfl)) kf22) (by kernel_rfl)) kf23) kf24) kf24b) kf24c) (by kernel_rfl)) (by kernel_rfl)) (by kernel_rfl)) (by kernel_rfl)
theorem fnExactProfileOf_over (pure : ∀ x0 x1 x2 : PV,FitsArg true shfnExactProfileOf_0 x0→FitsArg false shfnExactProfileOf_1 x1→FitsArg false shfnExactProfileOf_2 x2→aJ 4 [x0,x1,x2]=some [.bool true]) : Rows.fnExactProfileOfRow.holds Tryz.pinned (OpenSpec.ofChange Rows.fnExactProfileOfSpec):=
 OpenClaim.holds_of_wide 4 Tryz.f4 rfl rfl rfl rfl rfl rfl rfl ⟨rfl,rfl,rfl,rfl,rfl⟩ rfl rfl rfl rfl rfl (by kernel_rfl) Tryz.func4 over_closed
  (of_decide_eq_true (by kernel_rfl)) (by unfold Func.isWrapper;first | (rw [if_pos (by decide +kernel)];kernel_rfl) | (rw [if_neg (by decide +kernel)];exact ⟨rfl,rfl⟩))
  (fun os started H enc _=>fnExactProfileOf_lifted pure os started H enc)
set_option maxRecDepth 100000 in
theorem kc1 : Rows.fnExactProfileOfRow.wfByText (OpenSpec.ofChange Rows.fnExactProfileOfSpec)=true:=by kernel_rfl
set_option maxRecDepth 100000 in
theorem kc2 : Tryz.pinned.checked.prog.mainIs=some (true,"e5ac1799c9057c93ee31d03d6b8dc43d40c7ca6afb598a110861ea6d9e58f471".toList):=by kernel_rfl
set_option maxRecDepth 100000 in
theorem kc3 : true=Tryz.pinned.checked.prog.looks []:=by kernel_rfl
set_option maxRecDepth 100000 in
theorem kc4 : false=Rows.fnExactProfileOfRow.goesBy Tryz.pinned.checked.prog:=by kernel_rfl
set_option maxRecDepth 100000 in
theorem kc5 : Tryz.prog.funcNamed "loop.example/g00094/laws.FnExactProfileOf" = some 4:=by kernel_rfl
set_option maxRecDepth 100000 in
theorem kc6 : ([25,26,3].all fun u=>!Tryz.prog.wantsStandIn u)=true:=by kernel_rfl
theorem fnExactProfileOf_card (said : Rows.fnExactProfileOfRow.holds Tryz.pinned (OpenSpec.ofChange Rows.fnExactProfileOfSpec)) : Claim7.holds Tryz.pinned (.plain (OpenSpec.ofChange Rows.fnExactProfileOfSpec)) Rows.fnExactProfileOfCard:=
 Claim7.holds_tied_plain_at .later [] [.data,.data,.data] true (true,"e5ac1799c9057c93ee31d03d6b8dc43d40c7ca6afb598a110861ea6d9e58f471") true
  said (fun _ h=>by cases h) kc1 (fun _ h=>by cases h) fnExactProfileOf_row_tie rfl ⟨rfl,rfl⟩ kc2 rfl
  (fun f fn hf hfn=>by
   obtain rfl : f=4:=Option.some.inj (kc5.symm.trans hf) |>.symm
   obtain rfl : fn=Tryz.f4:=(Option.some.inj (Tryz.func4.symm.trans hfn)).symm
   exact ⟨kc3,fun j t ht=>by
    rw [Tryz.params4] at ht
    have hm : t∈[25,26,3]:=by simpa using Array.mem_of_getElem? ht
    exact (show Tryz.prog.wantsStandIn t=false by simpa using List.all_eq_true.1 kc6 t hm)⟩)
  kc4

theorem fnExactProfileOf_proved : Rows.FnExactProfileOfCardSaid := fnExactProfileOf_card (fnExactProfileOf_over (fun x0 x1 x2 h0 h1 h2=>aKP h0 h1 h2))
end Go.Proofs.YthkofpnllaapeaaGreatDoor
