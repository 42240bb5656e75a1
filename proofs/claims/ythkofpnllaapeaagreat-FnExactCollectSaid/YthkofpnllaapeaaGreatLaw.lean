/-
  The law FnExactCollect holds for every input.
  Conditions: none.
-/
import Derived.Test.YthkofpnllaapeaaGreatG
import Derived.Test.YthkofpnllaapeaaGreatRows
set_option linter.all false
namespace Go.Proofs.YthkofpnllaapeaaGreat
open Go Go.ChangeShapes Go.WideShapes Go.ChangeAt Go.RowKit
def shfnExactCollect_0 : List CSh:=[aF5,aIj]
def shfnExactCollect_1 : List CSh:=aO1
set_option maxRecDepth 100000 in
set_option linter.unusedVariables false in
theorem fnExactCollect_lifted (pure : ∀ x0 x1 : PV,FitsArg true shfnExactCollect_0 x0→FitsArg true shfnExactCollect_1 x1→aS 3 [x0,x1]=some [.bool true]) (os : Os) (started : os.Started) (H : Type) (enc : TypeId × Value→H) :
 ReturnsInHanded {} Tryz.checked os 3 .any (Rows.fnExactCollectSpec.pre6 enc Tryz.prog Tryz.f3 Rows.fnExactCollectRow.domain false) (Rows.fnExactCollectSpec.post enc Tryz.prog Tryz.f3 false true false false):=by
 refine returnsInHanded_of_change (C:=Tryz.checked) own started (by kernel_rfl) Tryz.func3
  (ChangeSpec.witness6 (enc:=enc) (C:=Tryz.checked) false ⟨#[],#[.agg #[.slice none 0 0,.slice none 0 0],.agg #[.slice none 0 0,.slice none 0 0,.int .i64 0,.slice none 0 0,.int .i64 0,.int .i64 0,.int .i64 0,.int .i64 0,.string .empty,.int .i64 0]],[]⟩ 8 (by kernel_rfl) (by kernel_rfl) (by kernel_rfl) (by kernel_rfl)) ?_
 intro W base args ds gs before hval0 hW hcnd _
 have hval : ∀ (j : Nat) t v,Tryz.f3.params[j]? = some t→args[j]? = some v→Value.okWide Tryz.prog W .any base t v:=hval0
 have hW':=hW
 obtain ⟨p,q,hA0,hV,rfl,hfz,hnd⟩:=hW
 have hA : DataW.TrodAll enc Tryz.prog W 0 (fun _=>true) true Tryz.f3.params.toList args.toList ds p:=hA0
 rw [Tryz.params3] at hA hval
 obtain ⟨v0,vs0,d0,ds0,p0,q0,hargs,rfl,rfl,h0,r0⟩:=trodAll_cons hA
 obtain ⟨v1,vs1,d1,ds1,p1,q1,rfl,rfl,rfl,h1,r1⟩:=trodAll_cons r0
 obtain ⟨rfl,rfl,rfl⟩:=trodAll_nil r1
 obtain rfl : args = #[v0,v1]:=by cases args;simp_all
 obtain ⟨rfl,rfl⟩:=trodVars_none hV
 have k0:=h0
 have lt0 : ∀ x∈p0,x.block<W.heap.size:=by obtain ⟨m,hm⟩:=k0;exact DataW.trod_lt m _ _ _ hm
 obtain ⟨x0,f0,e0⟩ : ∃ x,FitsArg true shfnExactCollect_0 x∧eU W (fun r=>r<W.heap.size) x v0:=by
  obtain ⟨fuel,hf⟩:=h0
  obtain ⟨us,hu,_⟩:=okWide_struct Tryz.underlying25 (hval 0 25 v0 rfl rfl)
  exact arg_agg hu (by kernel_rfl : shapeOf Tryz.prog 20 25=some shfnExactCollect_0) hf
 have k1:=h1
 have lt1 : ∀ x∈p1,x.block<W.heap.size:=by obtain ⟨m,hm⟩:=k1;exact DataW.trod_lt m _ _ _ hm
 obtain ⟨x1,f1,e1⟩ : ∃ x,FitsArg true shfnExactCollect_1 x∧eU W (fun r=>r<W.heap.size) x v1:=by
  obtain ⟨fuel,hf⟩:=h1
  obtain ⟨us,hu,_⟩:=okWide_struct Tryz.underlying31 (hval 1 31 v1 rfl rfl)
  exact arg_agg hu (by kernel_rfl : shapeOf Tryz.prog 20 31=some shfnExactCollect_1) hf
 clear hA0 hval0
 refine (aKp 3 [x0,x1] #[v0,v1] (pure x0 x1 f0 f1) True.intro rfl (by
  intro i x v hx hv
  match i with
  | 0=>simp at hx hv;subst hx;subst hv;exact e0
  | 1=>simp at hx hv;subst hx;subst hv;exact e1
  | i+2=>simp at hx)).mono fun e W' ⟨he,bel⟩=>?_
 subst he
 exact ⟨_,rfl,_,_,_,[],_,[],hW',trodAll_mk1 (shut_bool Tryz.underlying4 _),(trodAll_cons_mk (Below.trod aKY (by kernel_rfl) (of_decide_eq_true (by kernel_rfl)) k0 bel lt0) (trodAll_cons_mk (Below.trod aKY (by kernel_rfl) (of_decide_eq_true (by kernel_rfl)) k1 bel lt1) trodAll_mk0)),rfl,bel.frame _,fun h=>by cases h⟩

theorem fnExactCollect_over (pure : ∀ x0 x1 : PV,FitsArg true shfnExactCollect_0 x0→FitsArg true shfnExactCollect_1 x1→aS 3 [x0,x1]=some [.bool true]) : Rows.fnExactCollectRow.holds Tryz.pinned (OpenSpec.ofChange Rows.fnExactCollectSpec):=
 OpenClaim.holds_of_wide 3 Tryz.f3 rfl rfl rfl rfl rfl rfl rfl ⟨rfl,rfl,rfl,rfl,rfl⟩ rfl rfl rfl rfl rfl (by kernel_rfl) Tryz.func3 (by kernel_rfl)
  (of_decide_eq_true (by kernel_rfl)) (by unfold Func.isWrapper;first | (rw [if_pos (by decide +kernel)];kernel_rfl) | (rw [if_neg (by decide +kernel)];exact ⟨rfl,rfl⟩))
  (fun os started H enc _=>fnExactCollect_lifted pure os started H enc)

theorem fnExactCollect_proved : Rows.FnExactCollectSaid := fnExactCollect_over (fun x0 x1 h0 h1=>aGO h0 h1)
end Go.Proofs.YthkofpnllaapeaaGreat
