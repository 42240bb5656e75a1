/-
  The law FnExactLayIn holds for every input.
  Conditions: none.
-/
import Derived.Test.YthkofpnllaapeaaF
import Derived.Test.YthkofpnllaapeaaRows
import Derived.Calls
import Derived.KernelRfl
import Derived.Orders
import Derived.Lib.AppendIntMem
import Derived.Laws.IdiomCopy
import Derived.Laws.Cells
import Derived.Below
import Derived.Laws.StructEq
import Derived.Laws.BytesString
import Derived.Laws.NewFold
import Derived.Laws.Tables
import Derived.Great.FillDense
import Derived.Shelf.Spec.SlicesGrow
import Derived.Shelf.Strconv.Itoa3
import Derived.Shelf.SlGeneric
import Derived.Ground.Names8Prog
import Derived.IntWalk
import Derived.WalkKit
import Derived.ProofKit
import Derived.OpenShut
import Derived.ShutString
import Derived.ChangeOld
import Derived.Lib.Strings
import Derived.ChangeArms
import Derived.DataReads
set_option linter.all false
namespace Go.Proofs.Ythkofpnllaapeaa
open Go Go.ChangeShapes Go.WideShapes Go.ChangeAt Go.RowKit
def shfnExactLayIn_0 : List CSh:=[aEp,aEq]
def shfnExactLayIn_1 : List CSh:=[.i .i64]
theorem shfnExactLayIn_1_one : ∃ c,shfnExactLayIn_1 = [c]:=⟨_,rfl⟩
def shfnExactLayIn_2 : List CSh:=[.i .i64]
theorem shfnExactLayIn_2_one : ∃ c,shfnExactLayIn_2 = [c]:=⟨_,rfl⟩
set_option maxRecDepth 100000 in
set_option linter.unusedVariables false in
theorem fnExactLayIn_lifted (pure : ∀ x0 x1 x2 : PV,FitsArg true shfnExactLayIn_0 x0→FitsArg false shfnExactLayIn_1 x1→FitsArg false shfnExactLayIn_2 x2→aP 3 [x0,x1,x2]=some [.bool true]) (os : Os) (started : os.Started) (H : Type) (enc : TypeId × Value→H) :
    ReturnsInHanded {} Try.checked os 3 .any (Rows.fnExactLayInSpec.pre6 enc Try.prog Try.f3 Rows.fnExactLayInRow.domain false) (Rows.fnExactLayInSpec.post enc Try.prog Try.f3 false true false false):=by
  refine returnsInHanded_of_change (C:=Try.checked) own started (by kernel_rfl) Try.func3
    (ChangeSpec.witness6 (enc:=enc) (C:=Try.checked) false ⟨#[],#[.agg #[.slice none 0 0,.slice none 0 0],.int .i64 0,.int .i64 0],[]⟩ 8 (by kernel_rfl) (by kernel_rfl) (by kernel_rfl) (by kernel_rfl)) ?_
  intro W base args ds gs before hval0 hW hcnd _
  have hval : ∀ (j : Nat) t v,Try.f3.params[j]? = some t→args[j]? = some v→Value.okWide Try.prog W .any base t v:=hval0
  have hW':=hW
  obtain ⟨p,q,hA0,hV,rfl,hfz,hnd⟩:=hW
  have hA : DataW.TrodAll enc Try.prog W 0 (fun _=>true) true Try.f3.params.toList args.toList ds p:=hA0
  rw [Try.params3] at hA hval
  obtain ⟨v0,vs0,d0,ds0,p0,q0,hargs,rfl,rfl,h0,r0⟩:=trodAll_cons hA
  obtain ⟨v1,vs1,d1,ds1,p1,q1,rfl,rfl,rfl,h1,r1⟩:=trodAll_cons r0
  obtain ⟨v2,vs2,d2,ds2,p2,q2,rfl,rfl,rfl,h2,r2⟩:=trodAll_cons r1
  obtain ⟨rfl,rfl,rfl⟩:=trodAll_nil r2
  obtain rfl : args = #[v0,v1,v2]:=by cases args;simp_all
  obtain ⟨rfl,rfl⟩:=trodVars_none hV
  have k0:=h0
  have lt0 : ∀ x∈p0,x.block<W.heap.size:=by obtain ⟨m,hm⟩:=k0;exact DataW.trod_lt m _ _ _ hm
  obtain ⟨x0,f0,e0⟩ : ∃ x,FitsArg true shfnExactLayIn_0 x∧dM W (fun r=>r<W.heap.size) x v0:=by
    obtain ⟨fuel,hf⟩:=h0
    obtain ⟨us,hu,_⟩:=okWide_struct Try.underlying25 (hval 0 25 v0 rfl rfl)
    exact arg_agg hu (by kernel_rfl : shapeOf Try.prog 20 25=some shfnExactLayIn_0) hf
  have k1:=h1
  have lt1 : ∀ x∈p1,x.block<W.heap.size:=by obtain ⟨m,hm⟩:=k1;exact DataW.trod_lt m _ _ _ hm
  obtain ⟨x1,f1,e1⟩ : ∃ x,FitsArg false shfnExactLayIn_1 x∧dM W (fun r=>r<W.heap.size) x v1:=by
    obtain ⟨fuel,hf⟩:=h1
    obtain ⟨c,hc⟩:=shfnExactLayIn_1_one
    have hs : shapeOf Try.prog 20 3=some [c]:=by rw [← hc];exact (by kernel_rfl : shapeOf Try.prog 20 3=some shfnExactLayIn_1)
    obtain ⟨z,rfl⟩:=okWide_int Try.underlying3 (hval 1 3 v1 rfl rfl)
    rw [hc]
    exact arg_one rfl hs hf
  have k2:=h2
  have lt2 : ∀ x∈p2,x.block<W.heap.size:=by obtain ⟨m,hm⟩:=k2;exact DataW.trod_lt m _ _ _ hm
  obtain ⟨x2,f2,e2⟩ : ∃ x,FitsArg false shfnExactLayIn_2 x∧dM W (fun r=>r<W.heap.size) x v2:=by
    obtain ⟨fuel,hf⟩:=h2
    obtain ⟨c,hc⟩:=shfnExactLayIn_2_one
    have hs : shapeOf Try.prog 20 3=some [c]:=by rw [← hc];exact (by kernel_rfl : shapeOf Try.prog 20 3=some shfnExactLayIn_2)
    obtain ⟨z,rfl⟩:=okWide_int Try.underlying3 (hval 2 3 v2 rfl rfl)
    rw [hc]
    exact arg_one rfl hs hf
  clear hA0 hval0
  refine (aF1 3 [x0,x1,x2] #[v0,v1,v2] (pure x0 x1 x2 f0 f1 f2) True.intro rfl (by
    intro i x v hx hv
    match i with
    | 0=>simp at hx hv;subst hx;subst hv;exact e0
    | 1=>simp at hx hv;subst hx;subst hv;exact e1
    | 2=>simp at hx hv;subst hx;subst hv;exact e2
    | i+3=>simp at hx)).mono fun e W' ⟨he,bel⟩=>?_
  subst he
  exact ⟨_,rfl,_,_,_,[],_,[],hW',trodAll_mk1 (shut_bool Try.underlying4 _),(trodAll_cons_mk (Below.trod aD4 (by kernel_rfl) (of_decide_eq_true (by kernel_rfl)) k0 bel lt0) (trodAll_cons_mk (Below.trod aD4 (by kernel_rfl) (of_decide_eq_true (by kernel_rfl)) k1 bel lt1) (trodAll_cons_mk (Below.trod aD4 (by kernel_rfl) (of_decide_eq_true (by kernel_rfl)) k2 bel lt2) trodAll_mk0))),rfl,bel.frame _,fun h=>by cases h⟩

theorem fnExactLayIn_over (pure : ∀ x0 x1 x2 : PV,FitsArg true shfnExactLayIn_0 x0→FitsArg false shfnExactLayIn_1 x1→FitsArg false shfnExactLayIn_2 x2→aP 3 [x0,x1,x2]=some [.bool true]) : Rows.fnExactLayInRow.holds Try.pinned (OpenSpec.ofChange Rows.fnExactLayInSpec):=
  OpenClaim.holds_of_wide 3 Try.f3 rfl rfl rfl rfl rfl rfl rfl ⟨rfl,rfl,rfl,rfl,rfl⟩ rfl rfl rfl rfl rfl (by kernel_rfl) Try.func3 (by kernel_rfl)
    (of_decide_eq_true (by kernel_rfl)) (by unfold Func.isWrapper;first | (rw [if_pos (by decide +kernel)];kernel_rfl) | (rw [if_neg (by decide +kernel)];exact ⟨rfl,rfl⟩))
    (fun os started H enc _=>fnExactLayIn_lifted pure os started H enc)

theorem fnExactLayIn_proved : Rows.FnExactLayInSaid := fnExactLayIn_over (fun x0 x1 x2 h0 h1 h2=>aFw h0 h1 h2)
end Go.Proofs.Ythkofpnllaapeaa
