/-
  The law FnWatched holds for every input.
  Conditions: none.
-/
import Derived.Test.YtllmobkkbpdchaaGreatDoorG
import Derived.Test.YtllmobkkbpdchaaGreatDoorRows
import Derived.Test.YtllmobkkbpdchaaGreatDoorTie
import Derived.Test.YtllmobkkbpdchaaGreatDoorCards
import Derived.LaidMore
import Derived.MakeChecks
import Derived.Stop.Joined
set_option linter.all false
namespace Go.Proofs.YtllmobkkbpdchaaGreatDoor
open Go Go.ChangeShapes Go.WideShapes Go.ChangeAt Go.RowKit
def laidL : List (String × DataW Unit):=[("math/bits.deBruijn32tab",Rows.laid_math_bits_deBruijn32tab),("math/bits.deBruijn64tab",Rows.laid_math_bits_deBruijn64tab),("internal/strconv.uint64pow10",Rows.laid_internal_strconv_uint64pow10)]
set_option maxRecDepth 100000 in
theorem door_met (os : Os) (args : Array Value) : laidMetH Tryz.prog laidL ((World.doorLaid Tryz.prog 24 os).forCall (fun _ _=>0) ⟨#[],args,[]⟩).memory:=
 laidMetH_of_parts3 (fuel:=8) (laidMet_of_run' 8 (by kernel_rfl) (by kernel_rfl)) (by kernel_rfl) (by kernel_rfl)
set_option maxRecDepth 100000 in
theorem glob_of {W : World} (h : laidMetH Tryz.prog laidL W) : aGr W (fun r=>r<W.heap.size):=by
 rw [MakeChecks.laidMetH_plain _ _ _ (by kernel_rfl)] at h
 obtain ⟨ps,⟨_,_,_,_,_,_,_,_,_,_,⟨_,_,_,_,_,_,_,_,_,_,⟨g,t,cs,fuel,p,q,hg,ht,hv,hd,_,_⟩,_⟩,_⟩,_,_⟩:=h
 have hg0 : Tryz.prog.globalNamed "internal/strconv.uint64pow10" = some aUL:=by kernel_rfl
 obtain rfl:=Option.some.inj (hg0.symm.trans hg)
 obtain rfl:=Option.some.inj ((show (Tryz.prog.globals[aUL]?).map (·.type)=some 220 by kernel_rfl).symm.trans ht)
 obtain ⟨xs,m,_,ex,hlen,hl,hel⟩:=DataW.trod_array Tryz.underlying220 hd
 have cE : Tryz.prog.cellsOf 209=1:=by kernel_rfl
 have cT : Tryz.prog.cellsOf 220=20:=by kernel_rfl
 rw [cT] at hlen
 have e3 : xs.map (·.1)=Lib.pow10Tab.map fun n=>(DataW.lit (.int .u64 n) : DataW Unit):=(DataW.agg.inj (Prod.mk.inj ex).1).symm
 have hp : Lib.pow10Tab.length=20:=by kernel_rfl
 have key : ∀ i,i<20→cs.toList[i]? = (Lib.pow10Tab.map fun z=>Value.int .u64 z)[i]?:=fun i hi=>by
  have hE:=hel i hi
  rw [cE,Nat.mul_one,List.getElem?_eq_getElem (by omega)] at hE
  obtain ⟨z,e1,e2,_⟩:=DataW.trod_int Tryz.underlying209 hE
  have e4 : (xs.map (·.1))[i]? = (Lib.pow10Tab.map fun n=>(DataW.lit (.int .u64 n) : DataW Unit))[i]?:=by rw [e3]
  rw [List.getElem?_map,List.getElem?_map,List.getElem?_eq_getElem (by omega : i<xs.length),e2] at e4
  have hz : Lib.pow10Tab[i]? = some z:=by
   cases hq : Lib.pow10Tab[i]? with
   | none=>rw [hq] at e4;simp at e4
   | some y=>rw [hq] at e4;simp at e4;rw [e4]
  rw [List.getElem?_map,hz]
  have h0 : ((cs.toList.drop i).take 1)[0]? = some (.int .u64 z):=by rw [e1];rfl
  simpa using h0
 have hcs : cs=(Lib.pow10Tab.map fun z=>Value.int .u64 z).toArray:=by
  apply Array.ext'
  apply List.ext_getElem?
  intro i
  by_cases hi : i<20
  ·rw [key i hi]
  ·rw [List.getElem?_eq_none (by omega),List.getElem?_eq_none (by simp;omega)]
 simp only [World.var?,hg0,Option.bind_some] at hv
 split at hv
 ·rename_i c ty fz hc
  cases hv
  rw [hcs] at hc
  exact ⟨(Array.getElem?_eq_some_iff.1 hc).1,ty,fz,hc⟩
 ·cases hv
set_option maxRecDepth 100000 in
set_option linter.unusedVariables false in
theorem fnWatched_lifted (pure : ∀ l0 : List Int,(∀ x∈l0,(Lit.int .u8 x).wf=true)→aU 4 [cX l0]=some [.bool true]) (os : Os) (started : os.Started) (H : Type) (enc : TypeId × Value→H) :
 ReturnsInHanded {} Tryz.checked os 4 .any (fun w args=>(Rows.fnWatchedSpec.pre enc Tryz.prog Tryz.f4 [] false w args∧laidMetH Tryz.prog laidL w)∧sizedMet enc Tryz.prog Tryz.f4 (OpenSpec.ofChange Rows.fnWatchedSpec) false w args) (Rows.fnWatchedSpec.post enc Tryz.prog Tryz.f4 false true false false):=by
 refine returnsInHanded_of_change_and (C:=Tryz.checked) (X:=fun w _=>laidMetH Tryz.prog laidL w) (fun _ _ _ hh h=>h.of_heap hh) own started (by kernel_rfl) Tryz.func4
  (ChangeSpec.witness_shaped (enc:=enc) (C:=Tryz.checked) (os:=os) (X:=fun w _=>laidMetH Tryz.prog laidL w) false (World.doorLaid Tryz.prog 24 os) #[.slice none 0 0] 8 rfl (World.shaped_of_RefB (by kernel_rfl) (by kernel_rfl)) (by kernel_rfl) (by kernel_rfl) (by kernel_rfl) (door_met os _)) ?_
 intro W base args ds gs before hval0 hW _ _ hL _
 have hval : ∀ (j : Nat) t v,Tryz.f4.params[j]? = some t→args[j]? = some v→Value.okWide Tryz.prog W .any base t v:=hval0
 have hW':=hW
 obtain ⟨p,q,hA0,hV,rfl,hfz,hnd⟩:=hW
 have hA : DataW.TrodAll enc Tryz.prog W 0 (fun _=>true) true Tryz.f4.params.toList args.toList ds p:=hA0
 rw [Tryz.params4] at hA hval
 obtain ⟨v0,vs0,d0,ds0,p0,q0,hargs,rfl,rfl,h0,r0⟩:=trodAll_cons hA
 obtain ⟨rfl,rfl,rfl⟩:=trodAll_nil r0
 obtain rfl : args = #[v0]:=by cases args;simp_all
 obtain ⟨rfl,rfl⟩:=trodVars_none hV
 obtain ⟨a0,len0,cap0,rfl⟩:=okWide_slice Tryz.underlying22 (hval 0 22 v0 rfl rfl)
 have k0:=h0
 have lt0 : ∀ x∈p0,x.block<W.heap.size:=by obtain ⟨m,hm⟩:=k0;exact DataW.trod_lt m _ _ _ hm
 obtain ⟨z0,w0⟩ : ∃ zs,aID W a0 len0 cap0 zs:=by
  obtain ⟨fuel,hf⟩:=h0
  rcases open_ints Tryz.underlying22 Tryz.underlying5 (by kernel_rfl) hf with ⟨hcs,_⟩ | ⟨x,l,c,zs,hcs,_,hl,hm,hz,_,hcell,hwz⟩
  ·simp [Value.cells] at hcs
   obtain ⟨rfl,rfl,rfl⟩:=hcs
   exact ⟨[],.inl ⟨rfl,rfl,rfl,rfl⟩⟩
  ·simp [Value.cells] at hcs
   obtain ⟨rfl,rfl,rfl⟩:=hcs
   exact ⟨zs,.inr ⟨_,rfl,hl,hm,by simpa using hz,hcell,hwz⟩⟩
 clear hA0 hval0
 refine (aSv 4 [cX (z0.take len0)] #[.slice a0 len0 cap0] (pure (z0.take len0) w0.wf) (glob_of hL) rfl (by
  intro i x v hx hv
  match i with
  | 0=>simp at hx hv;subst hx;subst hv;exact w0.rep
  | i+1=>simp at hx)).mono fun e W' ⟨he,bel⟩=>?_
 subst he
 exact ⟨_,rfl,_,_,_,[],_,[],hW',trodAll_mk1 (shut_bool Tryz.underlying4 _),(trodAll_cons_mk (Below.trod aW0 (by kernel_rfl) (of_decide_eq_true (by kernel_rfl)) k0 bel lt0) trodAll_mk0),rfl,bel.frame _,fun h=>by cases h⟩

theorem fnWatched_over (pure : ∀ l0 : List Int,(∀ x∈l0,(Lit.int .u8 x).wf=true)→aU 4 [cX l0]=some [.bool true]) : Rows.fnWatchedRow.holds Tryz.pinned (OpenSpec.ofChange Rows.fnWatchedSpec):=
 OpenClaim.holds_of_wide 4 Tryz.f4 rfl rfl rfl rfl rfl rfl rfl ⟨rfl,rfl,rfl,rfl,rfl⟩ rfl rfl rfl rfl rfl (by kernel_rfl) Tryz.func4 (by kernel_rfl)
  (of_decide_eq_true (by kernel_rfl)) (by unfold Func.isWrapper;first | (rw [if_pos (by decide +kernel)];kernel_rfl) | (rw [if_neg (by decide +kernel)];exact ⟨rfl,rfl⟩))
  (fun os started H enc _=>fnWatched_lifted pure os started H enc)

theorem fnWatched_card (said : Rows.fnWatchedRow.holds Tryz.pinned (OpenSpec.ofChange Rows.fnWatchedSpec)) : Claim7.holds Tryz.pinned (.plain (OpenSpec.ofChange Rows.fnWatchedSpec)) Rows.fnWatchedCard:=
 Claim7.holds_tied_plain_at .later [] [.data,.data,.data] true (true,"0545bfdb2a050e384d87a887e8b37c2ee42262f262ff61b1acc4580f1329e17a") false
  said (fun _ h=>by cases h) (by kernel_rfl) (fun _ h=>by cases h) fnWatched_row_tie rfl ⟨rfl,rfl⟩ (by kernel_rfl) rfl
  (fun f fn hf hfn=>by
   obtain rfl : f=4:=Option.some.inj ((show Tryz.prog.funcNamed "loop.example/g00094/laws.FnWatched" = some 4 by kernel_rfl).symm.trans hf) |>.symm
   obtain rfl : fn=Tryz.f4:=(Option.some.inj (Tryz.func4.symm.trans hfn)).symm
   exact ⟨by kernel_rfl,fun j t ht=>by
    rw [Tryz.params4] at ht
    have hm : t∈[22]:=by simpa using Array.mem_of_getElem? ht
    have hall : ([22].all fun u=>!Tryz.prog.wantsStandIn u)=true:=by kernel_rfl
    exact (show Tryz.prog.wantsStandIn t=false by simpa using List.all_eq_true.1 hall t hm)⟩)
  (by kernel_rfl)

theorem fnWatched_proved : Rows.FnWatchedCardSaid := fnWatched_card (fnWatched_over (fun _ w=>aSu (aXL w)))
end Go.Proofs.YtllmobkkbpdchaaGreatDoor
