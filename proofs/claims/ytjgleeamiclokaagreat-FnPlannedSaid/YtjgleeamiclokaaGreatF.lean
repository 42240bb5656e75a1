/-
  Texts of the proof, part 6: a value-level evaluator and its soundness, what the functions compute, laws about it.
  Conditions: none.
-/
import Derived.Test.YtjgleeamiclokaaGreatE
import Derived.Calls
import Derived.KernelRfl
import Derived.Orders
import Derived.IntWalk
import Derived.Test.YtjgleeamiclokaaGreatProg
import Derived.Laws.IdiomCopy
import Derived.Laws.Cells
import Derived.Below
import Derived.Laws.StructEq
import Derived.Laws.BytesString
import Derived.Laws.NewFold
import Derived.Laws.Tables
import Derived.Great.FillDense
import Derived.Lib.Strings
set_option linter.all false
namespace Go.Proofs.YtjgleeamiclokaaGreat
open Go
attribute [local irreducible] bd PV.ite PV.guardFlat PV.guardOwn PV.whole PV.one PV.cell PV.sub PV.at_ PV.len PV.slen PV.chr PV.beq PV.peq PV.ceq PV.bin PV.neg PV.not PV.conv PV.cut PV.scut PV.cat PV.setAt PV.setCell PV.ncopy PV.copyIn PV.zeros PV.toStr PV.toBytes PV.deref PV.isPtr PV.comp PV.inb PV.off PV.imin PV.imax PV.sel PV.apply
theorem spec_ins {ts : List ByteArray} {fs : List FnT} {i : Nat} {x : InsT} (ht : ts.length ≤ 1000000) (hf : fs.length ≤ 1000000) (hi : i < fs.length) (hlc : 0 ≤ fs[i].lc ∧ fs[i].lc ≤ 12) (hc : fs[i].code.length ≤ 1000) :
    Ok (fun r => r = [.bool (insOkB ts.length fs.length fs[i].lc fs[i].code.length x.o x.a)]) (spec_InsOk (.agg [.lst (ts.map PV.str), .lst (fs.map FnT.pv)]) (.int .i64 i) x.pv) := by
  rw [spec_InsOk_eq]
  refine ok_whole rfl (ok_cell rfl (ok_cell rfl (ok_whole rfl (ok_cell rfl (ok_cell rfl ?_)))))
  refine ok_len_map (ok_sub (by omega) (ok_bet (ok_not ?_)))
  have hb : bet (i : Int) 0 ((fs.length : Int) - 1) = true := by
    simp only [bet, Bool.and_eq_true, decide_eq_true_eq]
    omega
  rw [hb]
  refine ok_ite_f ?_
  refine ok_eql (ok_ite (fun h => ok_bet (ok_some (by simp [hd, insOkB, h]))) (fun h1 => ?_))
  refine ok_eql (ok_ite (fun h => ok_bet (ok_some (by simp [hd, insOkB, h]))) (fun h2 => ?_))
  refine ok_eql (ok_ite (fun h => ok_len_map (ok_sub (by omega) (ok_bet (ok_some (by simp [hd, insOkB, h]))))) (fun h3 => ?_))
  refine ok_eql (ok_ite (fun h => ok_len_map (ok_sub (by omega) (ok_bet (ok_some (by simp [hd, insOkB, h]))))) (fun h5 => ?_))
  refine ok_eql (ok_ite (fun h => ok_len_map (ok_sub (by omega) (ok_bet (ok_some (by simp [hd, insOkB, h]))))) (fun h24 => ?_))
  refine ok_eql (ok_ite (fun h => ok_at_map hi (fun _ => rfl) (ok_cell rfl (ok_sub (by omega) (ok_bet (ok_some (by simp [hd, insOkB, h])))))) (fun h6 => ?_))
  refine ok_eql (ok_ite (fun h => ok_at_map hi (fun _ => rfl) (ok_cell rfl (ok_sub (by omega) (ok_bet (ok_some (by simp [hd, insOkB, h])))))) (fun h7 => ?_))
  refine ok_eql (ok_ite (fun h => ok_at_map hi (fun _ => rfl) (ok_cell rfl (ok_len_map (ok_sub (by omega) (ok_bet (ok_some (by simp [hd, insOkB, h]))))))) (fun h17 => ?_))
  refine ok_eql (ok_ite (fun h => ok_at_map hi (fun _ => rfl) (ok_cell rfl (ok_len_map (ok_sub (by omega) (ok_bet (ok_some (by simp [hd, insOkB, h]))))))) (fun h18 => ?_))
  refine ok_eql (ok_ite (fun h => ok_at_map hi (fun _ => rfl) (ok_cell rfl (ok_len_map (ok_sub (by omega) (ok_bet (ok_some (by simp [hd, insOkB, h]))))))) (fun h19 => ?_))
  refine ok_eql (ok_ite (fun h => ok_bet (ok_some (by simp [hd, insOkB, h]))) (fun h20 => ?_))
  refine ok_eql (ok_ite (fun h => ok_bet (ok_some (by simp [hd, insOkB, h]))) (fun h21 => ?_))
  refine ok_eql (ok_ite (fun h => ok_bet (ok_some (by simp [hd, insOkB, h]))) (fun h22 => ?_))
  refine ok_eql (ok_ite (fun h => ok_bet (ok_some (by simp [hd, insOkB, h]))) (fun h23 => ?_))
  refine ok_bet (ok_ite_b (fun hb => ok_eql (ok_some (by simp [hd, insOkB, hb, h1, h2, h3, h5, h24, h6, h7, h17, h18, h19, h20, h21, h22, h23]))) (fun hb => ok_some (by simp [hd, insOkB, hb, h1, h2, h3, h5, h24, h6, h7, h17, h18, h19, h20, h21, h22, h23])))
theorem impl_ins {ts : List ByteArray} {fs : List FnT} {f : FnT} {x : InsT} (ht : ts.length ≤ 1000000) (hf : fs.length ≤ 1000000) (hlc : 0 ≤ f.lc ∧ f.lc ≤ 12) (hc : f.code.length ≤ 1000) :
    Ok (fun r => r = [.bool (insOkB ts.length fs.length f.lc f.code.length x.o x.a)]) (impl_insOk (.agg [.lst (ts.map PV.str), .lst (fs.map FnT.pv)]) f.pv x.pv) := by
  rw [impl_insOk_eq]
  refine ok_whole rfl (ok_cell rfl (ok_cell rfl (ok_whole rfl (ok_cell rfl (ok_cell rfl (ok_cell rfl (ok_whole rfl (ok_cell rfl (ok_cell rfl ?_)))))))))
  refine ok_eql (ok_ite (fun h => ok_isNum (ok_some (by simp [hd, insOkB, h]))) (fun h1 => ?_))
  refine ok_eql (ok_ite (fun h => ok_range (ok_some (by simp [hd, insOkB, h]))) (fun h2 => ?_))
  refine ok_eql (ok_ite (fun h => ok_len_map (ok_place (by omega) (ok_some (by simp [hd, insOkB, h])))) (fun h3 => ?_))
  refine ok_eql (ok_ite (fun h => ok_len_map (ok_place (by omega) (ok_some (by simp [hd, insOkB, h])))) (fun h5 => ?_))
  refine ok_eql (ok_ite (fun h => ok_len_map (ok_place (by omega) (ok_some (by simp [hd, insOkB, h])))) (fun h24 => ?_))
  refine ok_eql (ok_ite (fun h => ok_place (by omega) (ok_some (by simp [hd, insOkB, h]))) (fun h6 => ?_))
  refine ok_eql (ok_ite (fun h => ok_place (by omega) (ok_some (by simp [hd, insOkB, h]))) (fun h7 => ?_))
  refine ok_eql (ok_ite (fun h => ok_len_map (ok_place (by omega) (ok_some (by simp [hd, insOkB, h])))) (fun h17 => ?_))
  refine ok_eql (ok_ite (fun h => ok_len_map (ok_place (by omega) (ok_some (by simp [hd, insOkB, h])))) (fun h18 => ?_))
  refine ok_eql (ok_ite (fun h => ok_len_map (ok_place (by omega) (ok_some (by simp [hd, insOkB, h])))) (fun h19 => ?_))
  refine ok_eql (ok_ite (fun h => ok_range (ok_some (by simp [hd, insOkB, h]))) (fun h20 => ?_))
  refine ok_eql (ok_ite (fun h => ok_place (by omega) (ok_some (by simp [hd, insOkB, h]))) (fun h21 => ?_))
  refine ok_eql (ok_ite (fun h => ok_place (by omega) (ok_some (by simp [hd, insOkB, h]))) (fun h22 => ?_))
  refine ok_eql (ok_ite (fun h => ok_range (ok_some (by simp [hd, insOkB, h]))) (fun h23 => ?_))
  refine ok_range (ok_ite_b (fun hb => ok_eql (ok_some (by simp [hd, insOkB, hb, h1, h2, h3, h5, h24, h6, h7, h17, h18, h19, h20, h21, h22, h23]))) (fun hb => ok_some (by simp [hd, insOkB, hb, h1, h2, h3, h5, h24, h6, h7, h17, h18, h19, h20, h21, h22, h23])))
section
variable {ts : List ByteArray} {fs : List FnT} (ht : ts.length ≤ 1000000) (hf : fs.length ≤ 1000000)
include ht hf
theorem spec_ok_code {i : Nat} (hi : i < fs.length) (hlc : 0 ≤ fs[i].lc ∧ fs[i].lc ≤ 12) (hc : fs[i].code.length ≤ 1000) {b : Bool} (hb : Ok (fun r => r = [.bool b]) (spec_ModuleOk_c9 (.int .i64 ((i : Int) + 1)) (.lst (ts.map PV.str)) (.lst (fs.map FnT.pv)))) :
    ∀ (j n : Nat), fs[i].code.length - n = j → n ≤ fs[i].code.length →
    Ok (fun r => r = [.bool ((fs[i].code.drop n).all (fun x => insOkB ts.length fs.length fs[i].lc fs[i].code.length x.o x.a) && b)])
      (spec_ModuleOk_c15 (.int .i64 i) (.int .i64 n) (.lst (ts.map PV.str)) (.lst (fs.map FnT.pv)) (.int .i64 fs[i].p) (.int .i64 fs[i].lc) (.lst (fs[i].code.map InsT.pv))) := by
  intro j
  induction j with
  | zero =>
    intro n h1 h2
    have : n = fs[i].code.length := by omega
    rw [spec_ModuleOk_c15_eq]
    refine ok_len_map (ok_lss (ok_ite (fun h => by omega) (fun _ => ok_add (by omega) ?_)))
    rw [this, List.drop_length]
    exact hb
  | succ j ih =>
    intro n h1 h2
    have hn : n < fs[i].code.length := by omega
    rw [spec_ModuleOk_c15_eq, drop_all hn]
    refine ok_len_map (ok_lss (ok_ite (fun _ => ?_) (fun h => by omega)))
    refine ok_at_map hn (fun _ => rfl) (ok_call (spec_ins ht hf hi hlc hc) (fun r hr => ?_))
    subst hr
    refine ok_not (ok_ite_b (fun h => ok_some ?_) (fun h => ?_))
    · have : insOkB ts.length fs.length fs[i].lc fs[i].code.length fs[i].code[n].o fs[i].code[n].a = false := by simpa using h
      rw [this]; rfl
    · have : insOkB ts.length fs.length fs[i].lc fs[i].code.length fs[i].code[n].o fs[i].code[n].a = true := by simpa using h
      rw [this, Bool.true_and]
      exact ok_add (by omega) (ih (n + 1) (by omega) (by omega))
theorem spec_ok_funs : ∀ (j i : Nat), fs.length - i = j → i ≤ fs.length →
    Ok (fun r => r = [.bool ((fs.drop i).all (fnOkB ts.length fs.length))]) (spec_ModuleOk_c9 (.int .i64 i) (.lst (ts.map PV.str)) (.lst (fs.map FnT.pv))) := by
  intro j
  induction j with
  | zero =>
    intro i h1 h2
    have : i = fs.length := by omega
    rw [spec_ModuleOk_c9_eq]
    refine ok_len_map (ok_lss (ok_ite (fun h => by omega) (fun _ => ok_some ?_)))
    rw [this, List.drop_length]; rfl
  | succ j ih =>
    intro i h1 h2
    have hi : i < fs.length := by omega
    rw [spec_ModuleOk_c9_eq, drop_all hi]
    refine ok_len_map (ok_lss (ok_ite (fun _ => ?_) (fun h => by omega)))
    refine ok_at_map hi (fun _ => rfl) (ok_whole rfl (ok_cell rfl (ok_cell rfl (ok_cell rfl ?_))))
    refine ok_bet (ok_not (ok_ite_b (fun h => ok_some ?_) (fun h1' => ?_)))
    · have : bet fs[i].p 0 6 = false := by simpa using h
      simp [fnOkB, this]
    refine ok_bet (ok_not (ok_ite_b (fun h => ok_some ?_) (fun h2' => ?_)))
    · have : bet fs[i].lc fs[i].p 12 = false := by simpa using h
      simp [fnOkB, this]
    refine ok_len_map (ok_bet (ok_not (ok_ite_b (fun h => ok_some ?_) (fun h3' => ?_))))
    · have : bet (fs[i].code.length : Int) 1 120 = false := by simpa using h
      simp [fnOkB, this]
    have g1 : bet fs[i].p 0 6 = true := by simpa using h1'
    have g2 : bet fs[i].lc fs[i].p 12 = true := by simpa using h2'
    have g3 : bet (fs[i].code.length : Int) 1 120 = true := by simpa using h3'
    have q1 := g1
    have q2 := g2
    have q3 := g3
    simp only [bet, Bool.and_eq_true, decide_eq_true_eq] at q1 q2 q3
    refine (spec_ok_code ht hf hi (by omega) (by omega) (ih (i + 1) (by omega) (by omega)) _ 0 rfl (by omega)).mono ?_
    rintro r rfl
    rw [List.drop_zero]
    simp only [fnOkB, g1, g2, g3, Bool.true_and]
theorem spec_ok_texts (hs : ∀ t ∈ ts, t.size ≤ 1000000) : ∀ (j i : Nat), ts.length - i = j → i ≤ ts.length →
    Ok (fun r => r = [.bool ((ts.drop i).all txtOkB && fs.all (fnOkB ts.length fs.length))]) (spec_ModuleOk_c4 (.int .i64 i) (.lst (ts.map PV.str)) (.lst (fs.map FnT.pv))) := by
  intro j
  induction j with
  | zero =>
    intro i h1 h2
    have : i = ts.length := by omega
    rw [spec_ModuleOk_c4_eq]
    refine ok_len_map (ok_lss (ok_ite (fun h => by omega) (fun _ => ?_)))
    rw [this, List.drop_length]
    exact spec_ok_funs ht hf _ 0 rfl (by omega)
  | succ j ih =>
    intro i h1 h2
    have hi : i < ts.length := by omega
    rw [spec_ModuleOk_c4_eq, drop_all hi]
    refine ok_len_map (ok_lss (ok_ite (fun _ => ?_) (fun h => by omega)))
    refine ok_at_map hi (fun _ => rfl) (ok_text (hs _ (List.getElem_mem _)) (ok_not (ok_ite_b (fun h => ok_some ?_) (fun h => ?_))))
    · have : txtOkB ts[i] = false := by simpa using h
      rw [this]; rfl
    · have : txtOkB ts[i] = true := by simpa using h
      rw [this, Bool.true_and]
      exact ok_add (by omega) (ih (i + 1) (by omega) (by omega))
end
theorem spec_moduleOk {m : MdT} (h : m.sized) : Ok (fun r => r = [.bool m.okB]) (spec_ModuleOk m.pv) := by
  obtain ⟨ht, hf, hs, _⟩ := h
  rw [spec_ModuleOk_eq]
  refine ok_whole rfl (ok_cell rfl (ok_cell rfl (ok_len_map (ok_bet (ok_not (ok_ite_b (fun h => ok_some ?_) (fun h1 => ?_)))))))
  · have : bet (m.funcs.length : Int) 1 12 = false := by simpa using h
    simp [MdT.okB, this]
  refine ok_len_map (ok_gtr (ok_ite (fun h => ok_some ?_) (fun h2 => ?_)))
  · have : ¬ ((m.texts.length : Int) ≤ 20) := by omega
    simp only [MdT.okB, decide_eq_false this, Bool.false_and, Bool.and_false]
  have g1 : bet (m.funcs.length : Int) 1 12 = true := by simpa using h1
  have g2 : (m.texts.length : Int) ≤ 20 := by omega
  refine (spec_ok_texts ht hf hs _ 0 rfl (by omega)).mono ?_
  rintro r rfl
  rw [List.drop_zero]
  simp only [MdT.okB, g1, decide_eq_true g2, Bool.true_and]
section
variable {P : R → Prop} {k : PV → Option R} {kr : R → Option R}
theorem index_ins {f : Nat} {caps : List PV} {xs : List InsT} (hx : xs.length ≤ 1000000000) (p : InsT → Bool) (hp : ∀ x ∈ xs, Ok (fun r => r = [.bool (p x)]) (pcallO f ([x.pv] ++ caps))) : ∀ (j i : Nat), xs.length - i = j → i ≤ xs.length →
    Ok (fun r => ∃ n : Int, r = [.int .i64 n] ∧ (0 ≤ n ↔ (xs.drop i).any p = true)) (slices_IndexFunc_impl_Ins_impl_Ins_c2 (.lst (xs.map InsT.pv)) (.fn f caps) (.int .i64 xs.length) (.int .i64 i)) := by
  intro j
  induction j with
  | zero =>
    intro i h1 h2
    have : i = xs.length := by omega
    rw [slices_IndexFunc_impl_Ins_impl_Ins_c2_eq]
    refine ok_lss (ok_ite (fun h => by omega) (fun _ => ok_some ⟨-1, rfl, ?_⟩))
    rw [this, List.drop_length]
    simp
  | succ j ih =>
    intro i h1 h2
    have hi : i < xs.length := by omega
    rw [slices_IndexFunc_impl_Ins_impl_Ins_c2_eq]
    refine ok_lss (ok_ite (fun _ => ?_) (fun h => by omega))
    refine ok_at_map hi (fun _ => rfl) (ok_apply rfl (hp _ (List.getElem_mem _)) (fun r hr => ?_))
    subst hr
    rw [List.drop_eq_getElem_cons hi, List.any_cons]
    refine ok_ite_b (fun h => ok_some ⟨i, rfl, ?_⟩) (fun h => ?_)
    · rw [h]; simp
    · refine ok_add (by omega) ((ih (i + 1) (by omega) (by omega)).mono ?_)
      rintro r ⟨n, hr, hn⟩
      exact ⟨n, hr, by rw [h, Bool.false_or]; exact hn⟩
theorem ok_anyIns {f : Nat} {caps : List PV} {xs : List InsT} (hx : xs.length ≤ 1000000000) (p : InsT → Bool) (hp : ∀ x ∈ xs, Ok (fun r => r = [.bool (p x)]) (pcallO f ([x.pv] ++ caps))) (h : Ok P (kr [.bool (xs.any p)])) :
    Ok P (bd (slices_ContainsFunc_impl_Ins_impl_Ins (.lst (xs.map InsT.pv)) (.fn f caps)) kr) := by
  refine ok_call (Q := fun r => r = [.bool (xs.any p)]) ?_ (fun r hr => by rw [hr]; exact h)
  rw [slices_ContainsFunc_impl_Ins_impl_Ins_eq]
  refine ok_call (Q := fun r => ∃ n : Int, r = [.int .i64 n] ∧ (0 ≤ n ↔ xs.any p = true)) ?_ ?_
  · rw [slices_IndexFunc_impl_Ins_impl_Ins_eq]
    refine ok_len_map ?_
    exact index_ins hx p hp _ 0 rfl (by omega)
  · rintro r ⟨n, rfl, hn⟩
    refine ok_geq (ok_some ?_)
    have : decide (0 ≤ n) = xs.any p := by
      by_cases h : 0 ≤ n
      · rw [decide_eq_true h, hn.1 h]
      · rw [decide_eq_false h]
        cases h2 : xs.any p with
        | false => rfl
        | true => exact absurd (hn.2 h2) h
    rw [this]
theorem index_txt {f : Nat} {caps : List PV} {xs : List ByteArray} (hx : xs.length ≤ 1000000000) (p : ByteArray → Bool) (hp : ∀ x ∈ xs, Ok (fun r => r = [.bool (p x)]) (pcallO f ([.str x] ++ caps))) : ∀ (j i : Nat), xs.length - i = j → i ≤ xs.length →
    Ok (fun r => ∃ n : Int, r = [.int .i64 n] ∧ (0 ≤ n ↔ (xs.drop i).any p = true)) (slices_IndexFunc_string_string_c2 (.lst (xs.map PV.str)) (.fn f caps) (.int .i64 xs.length) (.int .i64 i)) := by
  intro j
  induction j with
  | zero =>
    intro i h1 h2
    have : i = xs.length := by omega
    rw [slices_IndexFunc_string_string_c2_eq]
    refine ok_lss (ok_ite (fun h => by omega) (fun _ => ok_some ⟨-1, rfl, ?_⟩))
    rw [this, List.drop_length]
    simp
  | succ j ih =>
    intro i h1 h2
    have hi : i < xs.length := by omega
    rw [slices_IndexFunc_string_string_c2_eq]
    refine ok_lss (ok_ite (fun _ => ?_) (fun h => by omega))
    refine ok_at_map hi (fun _ => rfl) (ok_apply rfl (hp _ (List.getElem_mem _)) (fun r hr => ?_))
    subst hr
    rw [List.drop_eq_getElem_cons hi, List.any_cons]
    refine ok_ite_b (fun h => ok_some ⟨i, rfl, ?_⟩) (fun h => ?_)
    · rw [h]; simp
    · refine ok_add (by omega) ((ih (i + 1) (by omega) (by omega)).mono ?_)
      rintro r ⟨n, hr, hn⟩
      exact ⟨n, hr, by rw [h, Bool.false_or]; exact hn⟩
theorem ok_anyTxt {f : Nat} {caps : List PV} {xs : List ByteArray} (hx : xs.length ≤ 1000000000) (p : ByteArray → Bool) (hp : ∀ x ∈ xs, Ok (fun r => r = [.bool (p x)]) (pcallO f ([.str x] ++ caps))) (h : Ok P (kr [.bool (xs.any p)])) :
    Ok P (bd (slices_ContainsFunc_string_string (.lst (xs.map PV.str)) (.fn f caps)) kr) := by
  refine ok_call (Q := fun r => r = [.bool (xs.any p)]) ?_ (fun r hr => by rw [hr]; exact h)
  rw [slices_ContainsFunc_string_string_eq]
  refine ok_call (Q := fun r => ∃ n : Int, r = [.int .i64 n] ∧ (0 ≤ n ↔ xs.any p = true)) ?_ ?_
  · rw [slices_IndexFunc_string_string_eq]
    refine ok_len_map ?_
    exact index_txt hx p hp _ 0 rfl (by omega)
  · rintro r ⟨n, rfl, hn⟩
    refine ok_geq (ok_some ?_)
    have : decide (0 ≤ n) = xs.any p := by
      by_cases h : 0 ≤ n
      · rw [decide_eq_true h, hn.1 h]
      · rw [decide_eq_false h]
        cases h2 : xs.any p with
        | false => rfl
        | true => exact absurd (hn.2 h2) h
    rw [this]
end
theorem any_not {α : Type} (p : α → Bool) : ∀ (xs : List α), xs.any (fun x => !p x) = !xs.all p
  | [] => rfl
  | x :: r => by rw [List.any_cons, List.all_cons, any_not p r, Bool.not_and]
section
variable {ts : List ByteArray} {fs : List FnT} (ht : ts.length ≤ 1000000) (hf : fs.length ≤ 1000000)
include ht hf
theorem impl_ok_funs : ∀ (j i : Nat), fs.length - i = j → i ≤ fs.length →
    Ok (fun r => r = [.bool ((fs.drop i).all (fnOkB ts.length fs.length))]) (impl_ModuleOk_c4 (.lst (fs.map FnT.pv)) (.int .i64 fs.length) (.int .i64 i) (.lst (ts.map PV.str)) (.lst (fs.map FnT.pv))) := by
  intro j
  induction j with
  | zero =>
    intro i h1 h2
    have : i = fs.length := by omega
    rw [impl_ModuleOk_c4_eq]
    refine ok_lss (ok_ite (fun h => by omega) (fun _ => ok_some ?_))
    rw [this, List.drop_length]; rfl
  | succ j ih =>
    intro i h1 h2
    have hi : i < fs.length := by omega
    rw [impl_ModuleOk_c4_eq, drop_all hi]
    refine ok_lss (ok_ite (fun _ => ?_) (fun h => by omega))
    refine ok_at_map hi (fun _ => rfl) (ok_whole rfl (ok_cell rfl (ok_cell rfl (ok_cell rfl ?_))))
    refine ok_range (ok_not (ok_ite_b (fun h => ok_some ?_) (fun h1' => ?_)))
    · have : bet fs[i].p 0 6 = false := by simpa using h
      simp [fnOkB, this]
    refine ok_range (ok_not (ok_ite_b (fun h => ok_some ?_) (fun h2' => ?_)))
    · have : bet fs[i].lc fs[i].p 12 = false := by simpa using h
      simp [fnOkB, this]
    refine ok_len_map (ok_range (ok_not (ok_ite_b (fun h => ok_some ?_) (fun h3' => ?_))))
    · have : bet (fs[i].code.length : Int) 1 120 = false := by simpa using h
      simp [fnOkB, this]
    have g1 : bet fs[i].p 0 6 = true := by simpa using h1'
    have g2 : bet fs[i].lc fs[i].p 12 = true := by simpa using h2'
    have g3 : bet (fs[i].code.length : Int) 1 120 = true := by simpa using h3'
    have q1 := g1
    have q2 := g2
    have q3 := g3
    simp only [bet, Bool.and_eq_true, decide_eq_true_eq] at q1 q2 q3
    refine ok_anyIns (by omega) (fun x => !insOkB ts.length fs.length fs[i].lc fs[i].code.length x.o x.a) (fun x _ => ?_) ?_
    · show Ok _ (impl_ModuleOk_2 _ _ _)
      rw [impl_ModuleOk_2_eq]
      refine ok_whole rfl (ok_cell rfl (ok_cell rfl (ok_deref rfl (ok_deref rfl (ok_deref rfl (ok_deref rfl (ok_deref rfl ?_)))))))
      refine ok_call (impl_ins (f := fs[i]) (x := x) ht hf (by omega) (by omega)) (fun r hr => ?_)
      subst hr
      exact ok_not (ok_some rfl)
    · rw [any_not (fun x : InsT => insOkB ts.length fs.length fs[i].lc fs[i].code.length x.o x.a)]
      refine ok_flat rfl (ok_ite_b (fun h => ok_some ?_) (fun h => ?_))
      · have : fs[i].code.all (fun x => insOkB ts.length fs.length fs[i].lc fs[i].code.length x.o x.a) = false := by simpa using h
        simp only [fnOkB, this, Bool.and_false, Bool.false_and]
      · have g4 : fs[i].code.all (fun x => insOkB ts.length fs.length fs[i].lc fs[i].code.length x.o x.a) = true := by
          rw [Bool.not_eq_false'] at h
          exact h
        refine ok_add (by omega) ((ih (i + 1) (by omega) (by omega)).mono ?_)
        rintro r rfl
        simp only [fnOkB, g1, g2, g3, g4, Bool.true_and]
end
theorem impl_moduleOk {m : MdT} (h : m.sized) : Ok (fun r => r = [.bool m.okB]) (impl_ModuleOk m.pv) := by
  obtain ⟨ht, hf, hs, _⟩ := h
  rw [impl_ModuleOk_eq]
  refine ok_whole rfl (ok_cell rfl (ok_cell rfl (ok_len_map (ok_range (ok_not (ok_ite_b (fun h => ok_some ?_) (fun h1 => ?_)))))))
  · have : bet (m.funcs.length : Int) 1 12 = false := by simpa using h
    simp [MdT.okB, this]
  refine ok_len_map (ok_gtr (ok_ite (fun h => ok_some ?_) (fun h2 => ?_)))
  · have : ¬ ((m.texts.length : Int) ≤ 20) := by omega
    simp only [MdT.okB, decide_eq_false this, Bool.false_and, Bool.and_false]
  have g1 : bet (m.funcs.length : Int) 1 12 = true := by simpa using h1
  have g2 : (m.texts.length : Int) ≤ 20 := by omega
  refine ok_anyTxt (by omega) (fun s => !txtOkB s) (fun x hx => ?_) ?_
  · show Ok _ (impl_ModuleOk_1 _)
    rw [impl_ModuleOk_1_eq]
    refine ok_call (impl_text (hs x hx)) (fun r hr => ?_)
    subst hr
    exact ok_not (ok_some rfl)
  · rw [any_not txtOkB]
    refine ok_ite_b (fun h => ok_some ?_) (fun h => ?_)
    · have : m.texts.all txtOkB = false := by rw [Bool.not_eq_true'] at h; exact h
      simp only [MdT.okB, this, Bool.and_false, Bool.false_and]
    · have g3 : m.texts.all txtOkB = true := by rw [Bool.not_eq_false'] at h; exact h
      refine ok_len_map ((impl_ok_funs ht hf _ 0 rfl (by omega)).mono ?_)
      rintro r rfl
      rw [List.drop_zero]
      simp only [MdT.okB, g1, decide_eq_true g2, g3, Bool.true_and]
theorem ok_down {n : Nat} {F : Nat → Option R} {P : Nat → R → Prop} (he : Ok (P n) (F n)) (hs : ∀ i, i < n → Ok (P (i + 1)) (F (i + 1)) → Ok (P i) (F i)) : ∀ i, i ≤ n → Ok (P i) (F i) := by
  have key : ∀ j i, n - i = j → i ≤ n → Ok (P i) (F i) := by
    intro j
    induction j with
    | zero => intro i h1 h2; have : i = n := by omega
              subst this; exact he
    | succ j ih => intro i h1 h2; exact hs i (by omega) (ih (i + 1) (by omega) (by omega))
  exact fun i hi => key _ i rfl hi
theorem ok_for {σ : Type} {n : Nat} {F : Nat → σ → Option R} {P : R → Prop} (I : Nat → σ → Prop) (he : ∀ s, I n s → Ok P (F n s)) (hs : ∀ i s, i < n → I i s → (∀ s', I (i + 1) s' → Ok P (F (i + 1) s')) → Ok P (F i s)) : ∀ i s, i ≤ n → I i s → Ok P (F i s) := by
  have key : ∀ j i s, n - i = j → i ≤ n → I i s → Ok P (F i s) := by
    intro j
    induction j with
    | zero => intro i s h1 h2 hI; have : i = n := by omega
              subst this; exact he s hI
    | succ j ih => intro i s h1 h2 hI; exact hs i s (by omega) hI (fun s' hI' => ih (i + 1) s' (by omega) (by omega) hI')
  exact fun i s hi hI => key _ i s rfl hi hI
theorem find_end {α : Type} (n : Nat) (p : Nat → Option α) : (List.range' n (n - n)).findSome? p = none := by rw [Nat.sub_self]; rfl
theorem find_step {α : Type} {i n : Nat} (hi : i < n) (p : Nat → Option α) : (List.range' i (n - i)).findSome? p = (p i).or ((List.range' (i + 1) (n - (i + 1))).findSome? p) := by
  have : n - i = (n - (i + 1)) + 1 := by omega
  rw [this, List.range'_succ, List.findSome?_cons]
  cases p i <;> rfl
def ints (l : List Int) : PV := .lst (l.map (PV.int .i64))
section
variable {P : R → Prop} {k : PV → Option R} {l : List Int}
theorem ok_ints_len (h : Ok P (k (.int .i64 l.length))) : Ok P (bd (PV.len (ints l)) k) := ok_len_map h
theorem ok_ints_at {i : Nat} {kk : IntKind} (hi : i < l.length) (h : Ok P (k (.int .i64 l[i]))) : Ok P (bd (PV.at_ 1 false (ints l) (.int kk (i : Int))) k) := ok_at_map hi (fun _ => rfl) h
theorem ok_ints_inb {i : Int} {kk : IntKind} (h0 : 0 ≤ i) (hi : i < l.length) (h : Ok P (k (ints l))) : Ok P (bd (PV.inb (ints l) (.int kk i)) k) := ok_inb h0 (by rw [List.length_map]; exact hi) h
theorem ok_ints_set {i : Nat} {x : Int} {kk : IntKind} (hi : i < l.length) (h : Ok P (k (ints (l.set i x)))) : Ok P (bd (PV.setAt 1 false (ints l) (.int kk (i : Int)) (.int .i64 x)) k) := by
  refine ok_setAt (by omega) (by rw [List.length_map]; omega) rfl ?_
  rw [Int.toNat_natCast, ← List.map_set]
  exact h
theorem ok_ints_cat {ys : List Int} {e : Nat} (hb : (l.length + ys.length) * e ≤ 140737488355328) (h : Ok P (k (ints (l ++ ys)))) : Ok P (bd (PV.cat 1 e false (ints l) (.lst (ys.map (PV.int .i64)))) k) := by
  refine ok_cat (by simpa using hb) (fun x hx => ?_) ?_
  · obtain ⟨a, _, rfl⟩ := List.mem_map.1 hx; rfl
  · rw [← List.map_append]; exact h
theorem ok_ints_atI {i : Int} {kk : IntKind} (h0 : 0 ≤ i) (h1 : i < l.length) (h : ∀ x, l[i.toNat]? = some x → Ok P (k (.int .i64 x))) : Ok P (bd (PV.at_ 1 false (ints l) (.int kk i)) k) := by
  refine ok_at h0 (by rw [List.length_map]; exact h1) (fun x hx => ?_) (fun x _ hx => ?_)
  · obtain ⟨a, _, rfl⟩ := List.mem_map.1 hx; rfl
  · rw [List.getElem?_map] at hx
    cases hl : l[i.toNat]? with
    | none => rw [hl] at hx; cases hx
    | some y => rw [hl] at hx; cases hx; exact h y hl
end
def parOf (fs : List FnT) (i : Int) : Int := (fs[i.toNat]?.map FnT.p).getD 0
def uses (fs : List FnT) (x : InsT) : Int × Int :=
  if (1 ≤ x.o ∧ x.o ≤ 6) ∨ x.o = 20 then (0, 1)
  else if x.o = 7 ∨ x.o = 9 ∨ x.o = 18 ∨ x.o = 19 ∨ x.o = 25 ∨ x.o = 26 then (1, 0)
  else if x.o = 8 then (1, 2)
  else if x.o = 10 then (2, 2)
  else if 11 ≤ x.o ∧ x.o ≤ 15 then (2, 1)
  else if x.o = 16 ∨ x.o = 21 then (1, 1)
  else if x.o = 22 then (2, 0)
  else if x.o = 23 ∧ 0 ≤ x.a ∧ x.a ≤ 6 then (x.a + 1, 1)
  else if x.o = 24 ∧ 0 ≤ x.a ∧ x.a < fs.length then (parOf fs x.a, 1)
  else (0, 0)
def usesR (fs : List FnT) (x : InsT) : R := [.tup [.int .i64 (uses fs x).1, .int .i64 (uses fs x).2]]
theorem usesR_eq {fs : List FnT} {x : InsT} {a b : Int} (h : uses fs x = (a, b)) : [PV.tup [.int .i64 a, .int .i64 b]] = usesR fs x := by
  unfold usesR; rw [h]
theorem bet_iff {n lo hi : Int} : bet n lo hi = true ↔ lo ≤ n ∧ n ≤ hi := by simp [bet]
theorem bet_not {n lo hi : Int} : bet n lo hi = false ↔ ¬ (lo ≤ n ∧ n ≤ hi) := by rw [← bet_iff]; simp
theorem ok_ite_bet {P : R → Prop} {n lo hi : Int} {x y : Option R} (h1 : lo ≤ n ∧ n ≤ hi → Ok P x) (h2 : ¬ (lo ≤ n ∧ n ≤ hi) → Ok P y) : Ok P (PV.ite (hd [.bool (bet n lo hi)]) x y) :=
  ok_ite_b (fun h => h1 (bet_iff.1 h)) (fun h => h2 (bet_not.1 h))
section
variable {fs : List FnT} {x : InsT} {T : PV} (hf : fs.length ≤ 1000000)
include hf
theorem par_at {P : R → Prop} {k : PV → Option R} {i : Int} (h0 : 0 ≤ i) (h1 : i < fs.length) (h : ∀ lc code, Ok P (k (.agg [.int .i64 (parOf fs i), lc, code]))) : Ok P (bd (PV.at_ 3 true (.lst (fs.map FnT.pv)) (.int .i64 i)) k) := by
  obtain ⟨n, rfl⟩ := Int.eq_ofNat_of_zero_le h0
  have hn : n < fs.length := by omega
  refine ok_at_map hn (fun _ => rfl) ?_
  have : parOf fs (n : Int) = fs[n].p := by simp [parOf, List.getElem?_eq_getElem hn]
  rw [← show PV.agg [.int .i64 (parOf fs (n : Int)), .int .i64 fs[n].lc, .lst (fs[n].code.map InsT.pv)] = fs[n].pv by rw [this]; rfl]
  exact h _ _
set_option maxRecDepth 100000 in
set_option maxHeartbeats 4000000 in
theorem spec_uses : Ok (fun r => r = usesR fs x) (spec_UsesOf (.agg [T, .lst (fs.map FnT.pv)]) x.pv) := by
  rw [spec_UsesOf_eq]
  refine ok_whole rfl (ok_cell rfl (ok_cell rfl (ok_whole rfl (ok_cell rfl (ok_cell rfl ?_)))))
  repeat' (first
    | refine ok_eql (ok_ite (fun _ => ?_) (fun _ => ?_))
    | refine ok_bet (ok_ite_bet (fun _ => ?_) (fun _ => ?_))
    | refine ok_len_map (ok_sub (by omega) ?_)
    | refine ok_add (by omega) ?_
    | refine par_at hf (by omega) (by omega) (fun _ _ => ?_)
    | refine ok_cell rfl ?_
    | exact ok_some (usesR_eq (by
        unfold uses
        repeat (first | rfl | rw [if_pos (by omega)] | rw [if_neg (by omega)]))))
set_option maxRecDepth 100000 in
set_option maxHeartbeats 4000000 in
theorem impl_uses : Ok (fun r => r = usesR fs x) (impl_UsesOf (.agg [T, .lst (fs.map FnT.pv)]) x.pv) := by
  have c24 : ¬ (x.o = 23 ∧ 0 ≤ x.a ∧ x.a ≤ 6) → ¬ ((1 ≤ x.o ∧ x.o ≤ 16) ∨ (18 ≤ x.o ∧ x.o ≤ 22)) → ¬ (x.o = 25 ∨ x.o = 26) → Ok (fun r => r = usesR fs x) (impl_UsesOf_c24 T (.lst (fs.map FnT.pv)) (.int .i64 x.o) (.int .i64 x.a)) := by
    intro h1 h2 h3
    rw [impl_UsesOf_c24_eq]
    refine ok_eql (ok_ite (fun _ => ?_) (fun _ => ?_))
    · refine ok_len_map (ok_place (by omega) (ok_ite_bet (fun _ => ?_) (fun _ => ?_)))
      · rw [impl_UsesOf_c25_eq]
        refine par_at hf (by omega) (by omega) (fun _ _ => ok_cell rfl ?_)
        exact ok_some (usesR_eq (by
          unfold uses
          repeat (first | rfl | rw [if_pos (by omega)] | rw [if_neg (by omega)])))
      · exact ok_some (usesR_eq (by
          unfold uses
          repeat (first | rfl | rw [if_pos (by omega)] | rw [if_neg (by omega)])))
    · exact ok_some (usesR_eq (by
        unfold uses
        repeat (first | rfl | rw [if_pos (by omega)] | rw [if_neg (by omega)])))
  rw [impl_UsesOf_eq]
  refine ok_whole rfl (ok_cell rfl (ok_cell rfl (ok_whole rfl (ok_cell rfl (ok_cell rfl ?_)))))
  repeat' (first
    | exact c24 (by omega) (by omega) (by omega)
    | refine ok_eql (ok_ite (fun _ => ?_) (fun _ => ?_))
    | refine ok_range (ok_ite_bet (fun _ => ?_) (fun _ => ?_))
    | refine ok_add (by omega) ?_
    | exact ok_some (usesR_eq (by
        unfold uses
        repeat (first | rfl | rw [if_pos (by omega)] | rw [if_neg (by omega)]))))
end
def nexts (x : InsT) (pc : Int) : List Int := (if x.o ≠ 17 ∧ x.o ≠ 25 then [pc + 1] else []) ++ (if x.o = 17 ∨ x.o = 18 ∨ x.o = 19 then [x.a] else [])
theorem cat_one {P : R → Prop} {k : PV → Option R} {a : Int} (h : Ok P (k (ints [a]))) : Ok P (bd (PV.cat 1 8 false (.lst []) (.lst [.int .i64 a])) k) :=
  ok_ints_cat (l := []) (ys := [a]) (by simp) h
theorem cat_two {P : R → Prop} {k : PV → Option R} {a b : Int} (h : Ok P (k (ints [a, b]))) : Ok P (bd (PV.cat 1 8 false (.lst []) (.lst [.int .i64 a, .int .i64 b])) k) :=
  ok_ints_cat (l := []) (ys := [a, b]) (by simp) h
theorem cat_11 {P : R → Prop} {k : PV → Option R} {a b : Int} (h : Ok P (k (ints [a, b]))) : Ok P (bd (PV.cat 1 8 false (ints [a]) (ints [b])) k) :=
  ok_ints_cat (l := [a]) (ys := [b]) (by simp) h
theorem cat_01 {P : R → Prop} {k : PV → Option R} {b : Int} (h : Ok P (k (ints [b]))) : Ok P (bd (PV.cat 1 8 false (.lst []) (ints [b])) k) :=
  ok_ints_cat (l := []) (ys := [b]) (by simp) h
theorem spec_next {x : InsT} {pc : Int} (hp : 0 ≤ pc ∧ pc ≤ 1000000000) : Ok (fun r => r = [ints (nexts x pc)]) (spec_l03Next x.pv (.int .i64 pc)) := by
  rw [spec_l03Next_eq]
  refine ok_whole rfl (ok_cell rfl (ok_cell rfl ?_))
  repeat' (first
    | (rw [spec_l03Next_c3_eq]; refine ok_add (by omega) ?_)
    | rw [spec_l03Next_c4_eq]
    | rw [spec_l03Next_c5_eq]
    | refine cat_one ?_
    | refine cat_11 ?_
    | refine cat_01 ?_
    | refine ok_eql (ok_ite (fun _ => ?_) (fun _ => ?_))
    | refine ok_neq (ok_ite_not (fun _ => ?_) (fun _ => ?_))
    | (exfalso; omega)
    | exact ok_some (congrArg (fun l => [ints l]) (by unfold nexts; repeat (first | rfl | rw [if_pos (by omega)] | rw [if_neg (by omega)])))
    | exact ok_some (congrArg (fun l => [ints l]) (a₁ := []) (by unfold nexts; repeat (first | rfl | rw [if_pos (by omega)] | rw [if_neg (by omega)]))))
theorem impl_next {x : InsT} {pc : Int} (hp : 0 ≤ pc ∧ pc ≤ 1000000000) : Ok (fun r => r = [ints (nexts x pc)]) (impl_follows x.pv (.int .i64 pc)) := by
  rw [impl_follows_eq]
  refine ok_whole rfl (ok_cell rfl (ok_cell rfl ?_))
  repeat' (first
    | refine cat_one ?_
    | refine cat_two ?_
    | refine ok_add (by omega) ?_
    | refine ok_eql (ok_ite (fun _ => ?_) (fun _ => ?_))
    | exact ok_some (congrArg (fun l => [ints l]) (by unfold nexts; repeat (first | rfl | rw [if_pos (by omega)] | rw [if_neg (by omega)])))
    | exact ok_some (congrArg (fun l => [ints l]) (a₁ := []) (by unfold nexts; repeat (first | rfl | rw [if_pos (by omega)] | rw [if_neg (by omega)]))))
open Go Go.IntWalk
structure VlT where
  k : Int
  n : Int
  s : ByteArray
def VlT.pv (v : VlT) : PV := .agg [.int .i64 v.k, .int .i64 v.n, .str v.s]
def vNil : VlT := ⟨0, 0, bs []⟩
def vInt (n : Int) : VlT := ⟨1, n, bs []⟩
def vBool (b : Bool) : VlT := ⟨2, if b then 1 else 0, bs []⟩
def vText (s : ByteArray) : VlT := ⟨3, 0, s⟩
def vRec (n : Int) : VlT := ⟨4, n, bs []⟩
def vFun (n : Int) : VlT := ⟨5, n, bs []⟩
def numOkB (n : Int) : Bool := bet n (-1000000000) 1000000000
def strEq (a b : ByteArray) : Bool := a.toList == b.toList
theorem strEq_refl (a : ByteArray) : strEq a a = true := by simp [strEq]
def I64 (n : Int) : Prop := -9223372036854775808 ≤ n ∧ n ≤ 9223372036854775807
section
variable {P : R → Prop} {k : PV → Option R} {kr : R → Option R} {a b : ByteArray}
theorem ok_sNeq (h : Ok P (k (.bool (!strEq a b)))) : Ok P (bd (PV.bin .neq (.str a) (.str b)) k) := ok_bd _ (by simp only [PV.bin, PV.strBin]; rfl) h
theorem ok_sEql (h : Ok P (k (.bool (strEq a b)))) : Ok P (bd (PV.bin .eql (.str a) (.str b)) k) := ok_bd _ (by simp only [PV.bin, PV.strBin]; rfl) h
theorem ok_sLss (h : Ok P (k (.bool (PV.bytesLt a.toList b.toList)))) : Ok P (bd (PV.bin .lss (.str a) (.str b)) k) := ok_bd _ (by simp only [PV.bin, PV.strBin]) h
theorem ok_sAdd (hb : a.size + b.size ≤ 4611686018427387904) (h : Ok P (k (.str (a ++ b)))) : Ok P (bd (PV.bin .add (.str a) (.str b)) k) := ok_bd _ (by simp only [PV.bin, PV.strBin]; rw [if_pos (by omega)]) h
theorem ok_num04 {n : Int} (h : Ok P (kr [.bool (numOkB n)])) : Ok P (bd (spec_l04Num (.int .i64 n)) kr) := by
  refine ok_call (Q := fun r => r = [.bool (numOkB n)]) ?_ (fun r hr => by rw [hr]; exact h)
  rw [spec_l04Num_eq]
  exact ok_bet (ok_some rfl)
theorem ok_int04 {n : Int} (h : Ok P (kr [(vInt n).pv])) : Ok P (bd (spec_l04Int (.int .i64 n)) kr) := by
  refine ok_call (Q := fun r => r = [(vInt n).pv]) ?_ (fun r hr => by rw [hr]; exact h)
  rw [spec_l04Int_eq]
  exact ok_one rfl (ok_some rfl)
theorem ok_bool04 {c : Bool} (h : Ok P (kr [(vBool c).pv])) : Ok P (bd (spec_l04Bool (.bool c)) kr) := by
  refine ok_call (Q := fun r => r = [(vBool c).pv]) ?_ (fun r hr => by rw [hr]; exact h)
  rw [spec_l04Bool_eq]
  exact ok_ite_b (fun h => ok_some (by rw [h]; rfl)) (fun h => ok_some (by rw [h]; rfl))
end
def valOkB (nf recs : Int) (v : VlT) : Bool :=
  if v.k ≠ 3 ∧ strEq v.s (bs []) = false then false
  else if v.k = 0 then decide (v.n = 0)
  else if v.k = 1 then numOkB v.n
  else if v.k = 2 then bet v.n 0 1
  else if v.k = 3 then decide (v.n = 0) && txtOkB v.s
  else if v.k = 4 then decide (0 ≤ v.n) && decide (v.n < recs)
  else if v.k = 5 then bet v.n 0 (nf - 1)
  else false
theorem spec_valOk {fs : List FnT} {T : PV} {v : VlT} {recs : Int} (hf : fs.length ≤ 1000000) (hs : v.s.size ≤ 1000000) : Ok (fun r => r = [.bool (valOkB fs.length recs v)]) (spec_l04Ok (.agg [T, .lst (fs.map FnT.pv)]) v.pv (.int .i64 recs)) := by
  rw [spec_l04Ok_eq]
  refine ok_whole rfl (ok_cell rfl (ok_cell rfl (ok_whole rfl (ok_cell rfl (ok_cell rfl (ok_cell rfl ?_))))))
  refine ok_neq (ok_ite_not (fun h3 => ?_) (fun h3 => ?_))
  · refine ok_sNeq (ok_ite_b (fun h => ok_some ?_) (fun h => ?_))
    · have h : strEq v.s (bs []) = false := by simpa using h
      unfold valOkB
      rw [if_pos ⟨h3, h⟩]
    have h : strEq v.s (bs []) = true := by simpa using h
    repeat' (first
      | refine ok_eql (ok_ite (fun heq => ?_) (fun heq => ?_))
      | refine ok_geq (ok_ite (fun hge => ?_) (fun hge => ?_))
      | exact ok_num04 (ok_some (by unfold valOkB; rw [if_neg (by rw [h]; simp)]; repeat (first | rfl | rw [if_pos (by assumption)] | rw [if_neg (by assumption)])))
      | exact ok_bet (ok_some (by unfold valOkB; rw [if_neg (by rw [h]; simp)]; repeat (first | rfl | rw [if_pos (by assumption)] | rw [if_neg (by assumption)])))
      | exact ok_len_map (ok_sub (by omega) (ok_bet (ok_some (by unfold valOkB; rw [if_neg (by rw [h]; simp)]; repeat (first | rfl | rw [if_pos (by assumption)] | rw [if_neg (by assumption)])))))
      | (exfalso; omega)
      | exact ok_eql (ok_some (by unfold valOkB; rw [if_neg (by rw [h]; simp)]; repeat (first | rfl | rw [if_pos (by assumption)] | rw [if_neg (by assumption)])))
      | exact ok_lss (ok_some (by unfold valOkB; rw [if_neg (by rw [h]; simp)]; repeat (first | rfl | rw [decide_eq_true hge, Bool.true_and] | rw [if_pos (by assumption)] | rw [if_neg (by assumption)])))
      | exact ok_some (by unfold valOkB; rw [if_neg (by rw [h]; simp)]; repeat (first | rfl | rw [decide_eq_false hge, Bool.false_and] | rw [if_pos (by assumption)] | rw [if_neg (by assumption)])))
  · have hk : ¬ (v.k ≠ 3 ∧ strEq v.s (bs []) = false) := fun h => h.1 h3
    repeat' (first
      | refine ok_eql (ok_ite (fun heq => ?_) (fun heq => ?_))
      | (exfalso; omega)
      | exact ok_text hs (ok_some (by unfold valOkB; rw [if_neg hk]; repeat (first | rfl | rw [if_pos (by assumption)] | rw [if_neg (by omega)] | rw [decide_eq_true heq, Bool.true_and])))
      | exact ok_some (by unfold valOkB; rw [if_neg hk]; repeat (first | rfl | rw [if_pos (by assumption)] | rw [if_neg (by omega)] | rw [decide_eq_false heq, Bool.false_and])))
def resN (o a b : Int) : Int := if o = 12 then a - b else if o = 13 then a * b else a + b
def numT (o : Int) (a b : VlT) : VlT × Int :=
  if a.k ≠ 1 then (vNil, 1) else if b.k ≠ 1 then (vNil, 1) else if numOkB a.n = false then (vNil, 2) else if numOkB b.n = false then (vNil, 2)
  else if numOkB (resN o a.n b.n) = false then (vNil, 2) else (vInt (resN o a.n b.n), 0)
def sameT (a b : VlT) : VlT := vBool (decide (a.k = b.k) && (decide (a.n = b.n) && strEq a.s b.s))
def opT (o : Int) (a b : VlT) : VlT × Int :=
  if o = 11 then (if a.k = 3 ∧ b.k = 3 then (if (60 : Int) < a.s.size + b.s.size then (vNil, 3) else (vText (a.s ++ b.s), 0)) else numT 11 a b)
  else if o = 12 then numT 12 a b
  else if o = 13 then numT 13 a b
  else if o = 14 then (if a.k = 3 ∧ b.k = 3 then (vBool (PV.bytesLt a.s.toList b.s.toList), 0) else if a.k = 1 ∧ b.k = 1 then (vBool (decide (a.n < b.n)), 0) else (vNil, 1))
  else (sameT a b, 0)
def opR (p : VlT × Int) : R := [.tup [p.1.pv, .int .i64 p.2]]
theorem mul_in {a b : Int} (ha : numOkB a = true) (hb : numOkB b = true) : -1000000000000000000 ≤ a * b ∧ a * b ≤ 1000000000000000000 := by
  have ha := bet_iff.1 ha
  have hb := bet_iff.1 hb
  have h : (a * b).natAbs ≤ 1000000000 * 1000000000 := by
    rw [Int.natAbs_mul]
    exact Nat.mul_le_mul (by omega) (by omega)
  omega
theorem spec_arith {o a b : Int} (ho : o = 11 ∨ o = 12 ∨ o = 13) : Ok (fun r => r = (if numOkB a = false then [.tup [.int .i64 0, .int .i64 2]] else if numOkB b = false then [.tup [.int .i64 0, .int .i64 2]]
    else if numOkB (resN o a b) = false then [.tup [.int .i64 0, .int .i64 2]] else [.tup [.int .i64 (resN o a b), .int .i64 0]])) (spec_l04Arith (.int .i64 o) (.int .i64 a) (.int .i64 b)) := by
  rw [spec_l04Arith_eq]
  refine ok_num04 (ok_not (ok_ite_b (fun h => ok_some ?_) (fun h1 => ?_)))
  · rw [if_pos (by simpa using h)]
  have h1 : numOkB a = true := by simpa using h1
  rw [if_neg (by rw [h1]; simp)]
  refine ok_num04 (ok_not (ok_ite_b (fun h => ok_some ?_) (fun h2 => ?_)))
  · rw [if_pos (by simpa using h)]
  have h2 : numOkB b = true := by simpa using h2
  rw [if_neg (by rw [h2]; simp)]
  have ga := bet_iff.1 h1
  have gb := bet_iff.1 h2
  have gm := mul_in h1 h2
  have fin : ∀ n : Int, n = resN o a b → Ok (fun r => r = (if numOkB (resN o a b) = false then [.tup [.int .i64 0, .int .i64 2]] else [.tup [.int .i64 (resN o a b), .int .i64 0]]))
      (bd (spec_l04Num (.int .i64 n)) fun r => bd (PV.not (hd r)) fun v => PV.ite v (some [.tup [.int .i64 0, .int .i64 2]]) (some [.tup [.int .i64 n, .int .i64 0]])) := by
    intro n hn
    subst hn
    refine ok_num04 (ok_not (ok_ite_b (fun h => ok_some ?_) (fun h => ok_some ?_)))
    · rw [if_pos (by simpa using h)]
    · rw [if_neg (by simpa using h)]
  refine ok_add (by omega) (ok_eql (ok_ite (fun h => ok_sub (by omega) ?_) (fun h12 => ok_eql (ok_ite (fun h => ok_mul (by omega) ?_) (fun h13 => ?_)))))
  · exact fin _ (by unfold resN; rw [if_pos h])
  · exact fin _ (by unfold resN; rw [if_neg h12, if_pos h])
  · exact fin _ (by unfold resN; rw [if_neg h12, if_neg h13])
theorem spec_numbers {o : Int} {a b : VlT} (ho : o = 11 ∨ o = 12 ∨ o = 13) : Ok (fun r => r = opR (numT o a b)) (spec_l04Numbers (.int .i64 o) a.pv b.pv) := by
  rw [spec_l04Numbers_eq]
  refine ok_whole rfl (ok_cell rfl (ok_cell rfl (ok_cell rfl (ok_whole rfl (ok_cell rfl (ok_cell rfl (ok_cell rfl ?_)))))))
  refine ok_neq (ok_ite_not (fun h => ok_some ?_) (fun h1 => ok_neq (ok_ite_not (fun h => ok_some ?_) (fun h2 => ?_))))
  · unfold numT; rw [if_pos h]; rfl
  · unfold numT; rw [if_neg (by simpa using h1), if_pos h]; rfl
  refine ok_call (spec_arith ho) (fun r hr => ?_)
  have e : numT o a b = if numOkB a.n = false then (vNil, 2) else if numOkB b.n = false then (vNil, 2) else if numOkB (resN o a.n b.n) = false then (vNil, 2) else (vInt (resN o a.n b.n), 0) := by
    unfold numT; rw [if_neg (by simpa using h1), if_neg (by simpa using h2)]
  rw [e]
  have trap : ∀ {x : R}, x = [.tup [.int .i64 0, .int .i64 2]] → r = x → Ok (fun r => r = opR (vNil, 2)) (bd (PV.comp (hd r) 0) fun v2185 => bd (PV.comp (hd r) 1) fun v2186 => bd (PV.bin .neq v2186 (.int .i64 0)) fun v2187 => PV.ite v2187 (some [(.tup [(.agg [(.int .i64 0), (.int .i64 0), (.str (bs []))]), v2186])]) (bd (spec_l04Int v2185) fun r2188 => bd (PV.whole 3 (hd r2188)) fun v2189 => bd (PV.cell v2189 0) fun v2190 => bd (PV.cell v2189 1) fun v2191 => bd (PV.cell v2189 2) fun v2192 => some [(.tup [(.agg [v2190, v2191, v2192]), (.int .i64 0)])])) := by
    intro x hx hr
    subst hx; subst hr
    exact ok_comp rfl (ok_comp rfl (ok_neq (ok_ite_not (fun _ => ok_some rfl) (fun h => by omega))))
  split at hr
  · rename_i h; rw [if_pos h]; exact trap rfl hr
  rename_i h3
  rw [if_neg h3]
  split at hr
  · rename_i h; rw [if_pos h]; exact trap rfl hr
  rename_i h4
  rw [if_neg h4]
  split at hr
  · rename_i h; rw [if_pos h]; exact trap rfl hr
  rename_i h5
  rw [if_neg h5]
  subst hr
  refine ok_comp rfl (ok_comp rfl (ok_neq (ok_ite_not (fun h => absurd rfl h) (fun _ => ?_))))
  exact ok_int04 (ok_whole rfl (ok_cell rfl (ok_cell rfl (ok_cell rfl (ok_some rfl)))))
theorem ok_opR {P : R → Prop} {k : R → Option R} {o : Option R} {p : VlT × Int} (h : Ok (fun r => r = opR p) o) (hk : Ok P (k [.tup [.agg [.int .i64 p.1.k, .int .i64 p.1.n, .str p.1.s], .int .i64 p.2]])) : Ok P (bd o k) :=
  ok_call h (fun r hr => by subst hr; exact hk)
set_option maxRecDepth 100000 in
theorem spec_op {o : Int} {a b : VlT} (ho : 11 ≤ o ∧ o ≤ 15) (hs : a.s.size ≤ 1000000 ∧ b.s.size ≤ 1000000) : Ok (fun r => r = opR (opT o a b)) (spec_l05Op (.int .i64 o) a.pv b.pv) := by
  have less3 : ¬ (a.k = 3 ∧ b.k = 3) → Ok (fun r => r = opR (if a.k = 1 ∧ b.k = 1 then (vBool (decide (a.n < b.n)), 0) else (vNil, 1))) (spec_LessOf_c3 (.int .i64 a.k) (.int .i64 a.n) (.str a.s) (.int .i64 b.k) (.int .i64 b.n) (.str b.s) (.int .i64 0) (.int .i64 0) (.str (bs []))) := by
    intro _
    rw [spec_LessOf_c3_eq]
    refine ok_eql (ok_ite (fun h1 => ok_eql (ok_ite (fun h2 => ?_) (fun h2 => ok_some ?_))) (fun h1 => ok_some ?_))
    · rw [spec_LessOf_c4_eq, if_pos ⟨h1, h2⟩]
      exact ok_lss (ok_bool04 (ok_whole rfl (ok_cell rfl (ok_cell rfl (ok_cell rfl (ok_some rfl))))))
    · rw [if_neg (fun h => h2 h.2)]; rfl
    · rw [if_neg (fun h => h1 h.1)]; rfl
  have less : Ok (fun r => r = opR (opT 14 a b)) (spec_LessOf a.pv b.pv) := by
    rw [spec_LessOf_eq]
    refine ok_whole rfl (ok_cell rfl (ok_cell rfl (ok_cell rfl (ok_whole rfl (ok_cell rfl (ok_cell rfl (ok_cell rfl ?_)))))))
    have e : opT 14 a b = (if a.k = 3 ∧ b.k = 3 then (vBool (PV.bytesLt a.s.toList b.s.toList), 0) else if a.k = 1 ∧ b.k = 1 then (vBool (decide (a.n < b.n)), 0) else (vNil, 1)) := rfl
    rw [e]
    refine ok_eql (ok_ite (fun h1 => ok_eql (ok_ite (fun h2 => ?_) (fun h2 => ?_))) (fun h1 => ?_))
    · rw [spec_LessOf_c2_eq, if_pos ⟨h1, h2⟩]
      exact ok_sLss (ok_bool04 (ok_whole rfl (ok_cell rfl (ok_cell rfl (ok_cell rfl (ok_some rfl))))))
    · rw [if_neg (fun h => h2 h.2)]; exact less3 (fun h => h2 h.2)
    · rw [if_neg (fun h => h1 h.1)]; exact less3 (fun h => h1 h.1)
  have add : Ok (fun r => r = opR (opT 11 a b)) (spec_AddOf a.pv b.pv) := by
    rw [spec_AddOf_eq]
    refine ok_whole rfl (ok_cell rfl (ok_cell rfl (ok_cell rfl (ok_whole rfl (ok_cell rfl (ok_cell rfl (ok_cell rfl ?_)))))))
    have e : opT 11 a b = (if a.k = 3 ∧ b.k = 3 then (if (60 : Int) < a.s.size + b.s.size then (vNil, 3) else (vText (a.s ++ b.s), 0)) else numT 11 a b) := rfl
    rw [e]
    have hn := spec_numbers (o := 11) (a := a) (b := b) (by omega)
    refine ok_eql (ok_ite (fun h1 => ok_eql (ok_ite (fun h2 => ?_) (fun h2 => ?_))) (fun h1 => ?_))
    · rw [spec_AddOf_c2_eq, if_pos ⟨h1, h2⟩]
      refine ok_slen (ok_slen (ok_sub (by omega) (ok_gtr (ok_ite (fun h => ok_some ?_) (fun h => ?_)))))
      · rw [if_pos (by omega)]; rfl
      · rw [if_neg (by omega)]
        exact ok_sAdd (by omega) (ok_one rfl (ok_some rfl))
    · rw [if_neg (fun h => h2 h.2)]
      exact ok_opR hn (ok_comp rfl (ok_comp rfl (ok_whole rfl (ok_cell rfl (ok_cell rfl (ok_cell rfl (ok_some rfl)))))))
    · rw [if_neg (fun h => h1 h.1)]
      exact ok_opR hn (ok_comp rfl (ok_comp rfl (ok_whole rfl (ok_cell rfl (ok_cell rfl (ok_cell rfl (ok_some rfl)))))))
  rw [spec_l05Op_eq]
  refine ok_whole rfl (ok_cell rfl (ok_cell rfl (ok_cell rfl (ok_whole rfl (ok_cell rfl (ok_cell rfl (ok_cell rfl ?_)))))))
  refine ok_eql (ok_ite (fun h => ?_) (fun h11 => ok_eql (ok_ite (fun h => ?_) (fun h12 => ok_eql (ok_ite (fun h => ?_) (fun h13 => ok_eql (ok_ite (fun h => ?_) (fun h14 => ?_))))))))
  · subst h
    exact ok_opR add (ok_comp rfl (ok_comp rfl (ok_whole rfl (ok_cell rfl (ok_cell rfl (ok_cell rfl (ok_some rfl)))))))
  · subst h
    have : Ok (fun r => r = opR (opT 12 a b)) (spec_SubOf a.pv b.pv) := by
      rw [spec_SubOf_eq]
      refine ok_whole rfl (ok_cell rfl (ok_cell rfl (ok_cell rfl (ok_whole rfl (ok_cell rfl (ok_cell rfl (ok_cell rfl ?_)))))))
      exact ok_opR (spec_numbers (o := 12) (by omega)) (ok_comp rfl (ok_comp rfl (ok_whole rfl (ok_cell rfl (ok_cell rfl (ok_cell rfl (ok_some rfl)))))))
    exact ok_opR this (ok_comp rfl (ok_comp rfl (ok_whole rfl (ok_cell rfl (ok_cell rfl (ok_cell rfl (ok_some rfl)))))))
  · subst h
    have : Ok (fun r => r = opR (opT 13 a b)) (spec_MulOf a.pv b.pv) := by
      rw [spec_MulOf_eq]
      refine ok_whole rfl (ok_cell rfl (ok_cell rfl (ok_cell rfl (ok_whole rfl (ok_cell rfl (ok_cell rfl (ok_cell rfl ?_)))))))
      exact ok_opR (spec_numbers (o := 13) (by omega)) (ok_comp rfl (ok_comp rfl (ok_whole rfl (ok_cell rfl (ok_cell rfl (ok_cell rfl (ok_some rfl)))))))
    exact ok_opR this (ok_comp rfl (ok_comp rfl (ok_whole rfl (ok_cell rfl (ok_cell rfl (ok_cell rfl (ok_some rfl)))))))
  · subst h
    exact ok_opR less (ok_comp rfl (ok_comp rfl (ok_whole rfl (ok_cell rfl (ok_cell rfl (ok_cell rfl (ok_some rfl)))))))
  · have h15 : o = 15 := by omega
    subst h15
    have same : Ok (fun r => r = [(sameT a b).pv]) (spec_SameOf a.pv b.pv) := by
      rw [spec_SameOf_eq]
      refine ok_whole rfl (ok_cell rfl (ok_cell rfl (ok_cell rfl (ok_whole rfl (ok_cell rfl (ok_cell rfl (ok_cell rfl ?_)))))))
      refine ok_eql (ok_ite (fun h1 => ok_eql (ok_ite (fun h2 => ok_sEql ?_) (fun h2 => ?_))) (fun h1 => ?_))
      · refine ok_bool04 (ok_whole rfl (ok_cell rfl (ok_cell rfl (ok_cell rfl (ok_some ?_)))))
        unfold sameT; rw [decide_eq_true h1, decide_eq_true h2]; rfl
      · refine ok_bool04 (ok_whole rfl (ok_cell rfl (ok_cell rfl (ok_cell rfl (ok_some ?_)))))
        unfold sameT; rw [decide_eq_true h1, decide_eq_false h2]; rfl
      · refine ok_bool04 (ok_whole rfl (ok_cell rfl (ok_cell rfl (ok_cell rfl (ok_some ?_)))))
        unfold sameT; rw [decide_eq_false h1]; rfl
    refine ok_call same (fun r hr => ?_)
    subst hr
    exact ok_whole rfl (ok_cell rfl (ok_cell rfl (ok_cell rfl (ok_some rfl))))
def notT (v : VlT) : VlT × Int := if v.k ≠ 2 then (vNil, 1) else (vBool (!decide (v.n = 1)), 0)
theorem spec_not {v : VlT} : Ok (fun r => r = opR (notT v)) (spec_NotOf v.pv) := by
  rw [spec_NotOf_eq]
  refine ok_whole rfl (ok_cell rfl (ok_cell rfl (ok_cell rfl ?_)))
  refine ok_neq (ok_ite_not (fun h => ok_some ?_) (fun h => ?_))
  · unfold notT; rw [if_pos h]; rfl
  · refine ok_neq (ok_bool04 (ok_whole rfl (ok_cell rfl (ok_cell rfl (ok_cell rfl (ok_some ?_))))))
    unfold notT; rw [if_neg (by simpa using h)]; rfl
def dig (n : Int) : ByteArray := ⟨#[UInt8.ofNat (48 + n).toNat]⟩
def digN : Nat → Int → ByteArray
  | 0, n => dig n
  | j + 1, n => if n < 10 then dig n else digN j (n / 10) ++ dig (n % 10)
def digitsT (n : Int) : ByteArray :=
  if n < 0 then (if n < -9 then bs [45] ++ digN 18 (-(n.tdiv 10)) ++ digN 18 (-(n.tmod 10)) else bs [45] ++ digN 18 (-n)) else digN 18 n
theorem dig_size (n : Int) : (dig n).size = 1 := rfl
theorem digN_size : ∀ (j : Nat) (n : Int), (digN j n).size ≤ j + 1
  | 0, n => by simp [digN, dig_size]
  | j + 1, n => by
    unfold digN
    split
    · rw [dig_size]; omega
    · rw [ByteArray.size_append, dig_size]
      have := digN_size j (n / 10)
      omega
theorem spec_digN : ∀ (j : Nat) (n : Int), 0 ≤ n → n < 10 ^ (j + 1) → n ≤ 9223372036854775807 → j ≤ 100 → Ok (fun r => r = [.str (digN j n)]) (spec_l02Digits (.int .i64 n)) := by
  have one : ∀ {P : R → Prop} {k : PV → Option R} {n : Int}, 0 ≤ n → n < 10 → Ok P (k (.str (dig n))) → Ok P (bd (PV.bin .add (.int .i64 48) (.int .i64 n)) fun v => bd (PV.conv .u8 v) fun v => bd (PV.cat 1 1 false (.lst []) (.lst [v])) fun v => bd (PV.toStr v) k) := by
    intro P k n h1 h2 h
    refine ok_add (by omega) (ok_u8 (by omega) ?_)
    refine ok_cat0 (by simp) (fun x hx => by simp only [List.mem_singleton] at hx; subst hx; rfl) ?_
    exact ok_toStr (l := [48 + n]) h
  intro j
  induction j with
  | zero =>
    intro n h1 h2 _ _
    rw [spec_l02Digits_eq]
    refine ok_lss (ok_ite (fun h => by omega) (fun _ => ok_lss (ok_ite (fun h => ?_) (fun h => by omega))))
    exact one h1 h (ok_some rfl)
  | succ j ih =>
    intro n h1 h2 hj hjj
    rw [spec_l02Digits_eq]
    have hp2 : (10 : Int) ^ (j + 1 + 1) = 10 ^ (j + 1) * 10 := Int.pow_succ _ _
    refine ok_lss (ok_ite (fun h => by omega) (fun _ => ok_lss (ok_ite (fun h => ?_) (fun h => ?_))))
    · refine one h1 h (ok_some ?_)
      unfold digN; rw [if_pos h]
    · refine ok_quo h1 (by omega) hj ?_
      refine ok_call (ih (n / 10) (by omega) (by omega) (by omega) (by omega)) (fun r hr => ?_)
      subst hr
      refine ok_rem h1 (by omega) (one (by omega) (by omega) ?_)
      have := digN_size j (n / 10)
      refine ok_sAdd (by rw [dig_size]; omega) (ok_some ?_)
      show _ = [PV.str (digN (j + 1) n)]
      rw [show digN (j + 1) n = digN j (n / 10) ++ dig (n % 10) by conv => lhs; unfold digN
                                                                   rw [if_neg h]]
theorem ok_quoT {P : R → Prop} {k : PV → Option R} {a b : Int} (hb : b ≠ 0) (hr : I64 (a.tdiv b)) (h : Ok P (k (.int .i64 (a.tdiv b)))) : Ok P (bd (PV.bin .quo (.int .i64 a) (.int .i64 b)) k) :=
  ok_bd _ (by rw [bin_int (by simp) (by simp)]; simp only [PV.intBin]; rw [if_neg hb, i64_in _ hr]) h
theorem ok_remT {P : R → Prop} {k : PV → Option R} {a b : Int} (hb : b ≠ 0) (h : Ok P (k (.int .i64 (a.tmod b)))) : Ok P (bd (PV.bin .rem (.int .i64 a) (.int .i64 b)) k) :=
  ok_bd _ (by rw [bin_int (by simp) (by simp)]; simp only [PV.intBin]; rw [if_neg hb]) h
theorem tdiv_neg {n : Int} (h : n < 0) : n.tdiv 10 = -((-n) / 10) ∧ n.tmod 10 = -((-n) % 10) := by
  have e : n = -(-n) := by omega
  constructor
  · rw [e, Int.neg_tdiv, Int.tdiv_eq_ediv_of_nonneg (by omega)]
    simp
  · rw [e, Int.neg_tmod, Int.tmod_eq_emod_of_nonneg (by omega)]
    simp
theorem digitsT_size (n : Int) : (digitsT n).size ≤ 40 := by
  have h45 : (bs [45]).size = 1 := rfl
  unfold digitsT
  split
  · split
    · rw [ByteArray.size_append, ByteArray.size_append, h45]
      have h1 := digN_size 18 (-(n.tdiv 10))
      have h2 := digN_size 18 (-(n.tmod 10))
      omega
    · rw [ByteArray.size_append, h45]
      have h1 := digN_size 18 (-n)
      omega
  · have h1 := digN_size 18 n
    omega
theorem spec_digits {n : Int} (hn : -9223372036854775807 ≤ n ∧ n ≤ 9223372036854775807) : Ok (fun r => r = [.str (digitsT n)]) (spec_l02Digits (.int .i64 n)) := by
  have big : ∀ {x : Int}, x ≤ 9223372036854775807 → x < 10 ^ (18 + 1) := fun h => by
    have : (10 : Int) ^ (18 + 1) = 10000000000000000000 := by decide
    omega
  have h45 : (bs [45]).size = 1 := rfl
  by_cases h : n < 0
  · obtain ⟨e1, e2⟩ := tdiv_neg h
    rw [spec_l02Digits_eq]
    refine ok_lss (ok_ite (fun _ => ?_) (fun h' => absurd h h'))
    refine ok_lss (ok_ite (fun h9 => ?_) (fun h9 => ?_))
    · refine ok_quoT (by omega) (by unfold I64; omega) (ok_neg (by omega) ?_)
      have z1 : 0 - n.tdiv 10 = -(n.tdiv 10) := by omega
      have z2 : 0 - n.tmod 10 = -(n.tmod 10) := by omega
      rw [z1]
      have s1 := digN_size 18 (-(n.tdiv 10))
      have s2 := digN_size 18 (-(n.tmod 10))
      refine ok_call (spec_digN 18 (-(n.tdiv 10)) (by omega) (big (by omega)) (by omega) (by omega)) (fun r hr => ?_)
      subst hr
      refine ok_sAdd (by omega) (ok_remT (by omega) (ok_neg (by omega) ?_))
      rw [z2]
      refine ok_call (spec_digN 18 (-(n.tmod 10)) (by omega) (big (by omega)) (by omega) (by omega)) (fun r hr => ?_)
      subst hr
      refine ok_sAdd (by rw [ByteArray.size_append]; omega) (ok_some ?_)
      unfold digitsT
      rw [if_pos h, if_pos h9]
    · refine ok_neg (by omega) ?_
      have z1 : 0 - n = -n := by omega
      rw [z1]
      have s1 := digN_size 18 (-n)
      refine ok_call (spec_digN 18 (-n) (by omega) (big (by omega)) (by omega) (by omega)) (fun r hr => ?_)
      subst hr
      refine ok_sAdd (by omega) (ok_some ?_)
      unfold digitsT
      rw [if_pos h, if_neg h9]
  · refine (spec_digN 18 n (by omega) (big hn.2) hn.2 (by omega)).mono ?_
    rintro r rfl
    unfold digitsT
    rw [if_neg h]
def lefts (fs : List FnT) (x : InsT) (h : Int) : Int := h - (uses fs x).1 + (uses fs x).2
def can (fs : List FnT) (x : InsT) (h : Int) : Bool := decide ((uses fs x).1 ≤ h) && decide (lefts fs x h ≤ 16)
abbrev Hs := List Int × Bool
def putH (l : Int) (s : Hs) (t : Int) : Hs := if t < s.1.length ∧ s.1[t.toNat]?.getD 0 < 0 then (s.1.set t.toNat l, true) else s
def oneH (fs : List FnT) (code : List InsT) (s : Hs) (pc : Nat) : Hs :=
  match code[pc]? with
  | some x => if can fs x (s.1[pc]?.getD 0) then (nexts x pc).foldl (putH (lefts fs x (s.1[pc]?.getD 0))) s else s
  | none => s
def passD (fs : List FnT) (code : List InsT) (s : List Int) : Hs := (List.range' 0 code.length).foldl (oneH fs code) (s, false)
def fixD (fs : List FnT) (code : List InsT) : Nat → List Int → List Int
  | 0, s => s
  | n + 1, s => if (passD fs code s).2 then fixD fs code n (passD fs code s).1 else (passD fs code s).1
def startD (n : Nat) : List Int := (List.replicate n (-1)).set 0 0
def depths (fs : List FnT) (code : List InsT) : List Int := fixD fs code (code.length + 1) (startD code.length)
structure Fit (fs : List FnT) (code : List InsT) : Prop where
  n1 : 1 ≤ code.length
  n2 : code.length ≤ 120
  nf : fs.length ≤ 12
  u : ∀ x ∈ code, 0 ≤ (uses fs x).1 ∧ (uses fs x).1 ≤ 7 ∧ 0 ≤ (uses fs x).2 ∧ (uses fs x).2 ≤ 2
  j : ∀ x ∈ code, (x.o = 17 ∨ x.o = 18 ∨ x.o = 19) → 0 ≤ x.a ∧ x.a < code.length
def Hgt (n : Nat) (s : List Int) : Prop := s.length = n ∧ ∀ v ∈ s, -1 ≤ v ∧ v ≤ 16
theorem Hgt.at {n : Nat} {s : List Int} (h : Hgt n s) (i : Nat) : -1 ≤ s[i]?.getD 0 ∧ s[i]?.getD 0 ≤ 16 := by
  cases hx : s[i]? with
  | none => simp
  | some v => exact h.2 v (List.mem_of_getElem? hx)
theorem Hgt.put {n : Nat} {s : Hs} (h : Hgt n s.1) {l : Int} (hl : -1 ≤ l ∧ l ≤ 16) (t : Int) : Hgt n (putH l s t).1 := by
  unfold putH
  split
  · refine ⟨by simp only [List.length_set]; exact h.1, fun v hv => ?_⟩
    rcases List.mem_or_eq_of_mem_set hv with h1 | h1
    · exact h.2 v h1
    · omega
  · exact h
theorem Hgt.puts {n : Nat} {l : Int} (hl : -1 ≤ l ∧ l ≤ 16) : ∀ (ts : List Int) (s : Hs), Hgt n s.1 → Hgt n (ts.foldl (putH l) s).1
  | [], _, h => h
  | t :: r, s, h => Hgt.puts hl r _ (h.put hl t)
theorem can_left {fs : List FnT} {x : InsT} {h : Int} (hu : 0 ≤ (uses fs x).1 ∧ (uses fs x).1 ≤ 7 ∧ 0 ≤ (uses fs x).2 ∧ (uses fs x).2 ≤ 2) (hc : can fs x h = true) : 0 ≤ lefts fs x h ∧ lefts fs x h ≤ 16 := by
  simp only [can, Bool.and_eq_true, decide_eq_true_eq] at hc
  unfold lefts at *
  omega
theorem Hgt.one {fs : List FnT} {code : List InsT} (F : Fit fs code) {n : Nat} {s : Hs} (h : Hgt n s.1) (pc : Nat) : Hgt n (oneH fs code s pc).1 := by
  unfold oneH
  split
  · rename_i x hx
    split
    · rename_i hc
      have := can_left (F.u x (List.mem_of_getElem? hx)) hc
      exact Hgt.puts (by omega) _ _ h
    · exact h
  · exact h
theorem Hgt.ones {fs : List FnT} {code : List InsT} (F : Fit fs code) {n : Nat} : ∀ (l : List Nat) (s : Hs), Hgt n s.1 → Hgt n (l.foldl (oneH fs code) s).1
  | [], _, h => h
  | t :: r, s, h => Hgt.ones F r _ (h.one F t)
theorem Hgt.pass {fs : List FnT} {code : List InsT} (F : Fit fs code) {n : Nat} {s : List Int} (h : Hgt n s) : Hgt n (passD fs code s).1 := Hgt.ones F _ _ h
theorem Hgt.start {n : Nat} : Hgt n (startD n) := by
  refine ⟨by simp [startD], fun v hv => ?_⟩
  rcases List.mem_or_eq_of_mem_set hv with h1 | h1
  · have := List.eq_of_mem_replicate h1; omega
  · omega
def nn (s : List Int) : Nat := s.countP (· < 0)
def Dec (s s' : Hs) : Prop := s' = s ∨ (s'.2 = true ∧ nn s'.1 < nn s.1)
theorem Dec.trans {a b c : Hs} (h : Dec a b) (k : Dec b c) : Dec a c := by
  rcases h with rfl | h
  · exact k
  · rcases k with rfl | k
    · exact .inr h
    · exact .inr ⟨k.1, by omega⟩
theorem nn_set : ∀ (s : List Int) (i : Nat) (l : Int), 0 ≤ l → s[i]?.getD 0 < 0 → nn (s.set i l) < nn s
  | [], i, l, _, h => by simp at h
  | x :: r, 0, l, hl, h => by
    simp only [List.getElem?_cons_zero, Option.getD_some] at h
    simp only [nn, List.set_cons_zero, List.countP_cons]
    rw [if_neg (by simp; omega), if_pos (by simpa using h)]
    omega
  | x :: r, i + 1, l, hl, h => by
    simp only [List.getElem?_cons_succ] at h
    have := nn_set r i l hl h
    simp only [nn, List.set_cons_succ, List.countP_cons] at *
    omega
theorem Dec.put {l : Int} (hl : 0 ≤ l) (s : Hs) (t : Int) : Dec s (putH l s t) := by
  unfold putH
  split
  · rename_i h
    exact .inr ⟨rfl, nn_set _ _ _ hl h.2⟩
  · exact .inl rfl
theorem Dec.puts {l : Int} (hl : 0 ≤ l) : ∀ (ts : List Int) (s : Hs), Dec s (ts.foldl (putH l) s)
  | [], _ => .inl rfl
  | t :: r, s => (Dec.put hl s t).trans (Dec.puts hl r _)
theorem Dec.one {fs : List FnT} {code : List InsT} (F : Fit fs code) (s : Hs) (pc : Nat) : Dec s (oneH fs code s pc) := by
  unfold oneH
  split
  · rename_i x hx
    split
    · rename_i hc
      exact Dec.puts (can_left (F.u x (List.mem_of_getElem? hx)) hc).1 _ _
    · exact .inl rfl
  · exact .inl rfl
theorem Dec.ones {fs : List FnT} {code : List InsT} (F : Fit fs code) : ∀ (l : List Nat) (s : Hs), Dec s (l.foldl (oneH fs code) s)
  | [], _ => .inl rfl
  | t :: r, s => (Dec.one F s t).trans (Dec.ones F r _)
theorem Dec.pass {fs : List FnT} {code : List InsT} (F : Fit fs code) (s : List Int) : Dec (s, false) (passD fs code s) := Dec.ones F _ _
theorem put_zero {l : Int} {s : Hs} {t : Int} (h : s.1[0]? = some 0) : (putH l s t).1[0]? = some 0 := by
  unfold putH
  split
  · rename_i hc
    rw [List.getElem?_set]
    split
    · rename_i h0
      rw [h0] at hc
      rw [h] at hc
      simp at hc
    · exact h
  · exact h
theorem puts_zero {l : Int} : ∀ (ts : List Int) (s : Hs), s.1[0]? = some 0 → (ts.foldl (putH l) s).1[0]? = some 0
  | [], _, h => h
  | t :: r, s, h => puts_zero r _ (put_zero h)
theorem one_zero {fs : List FnT} {code : List InsT} {s : Hs} (pc : Nat) (h : s.1[0]? = some 0) : (oneH fs code s pc).1[0]? = some 0 := by
  unfold oneH
  split
  · split
    · exact puts_zero _ _ h
    · exact h
  · exact h
theorem ones_zero {fs : List FnT} {code : List InsT} : ∀ (l : List Nat) (s : Hs), s.1[0]? = some 0 → (l.foldl (oneH fs code) s).1[0]? = some 0
  | [], _, h => h
  | t :: r, s, h => ones_zero r _ (one_zero t h)
theorem fix_zero {fs : List FnT} {code : List InsT} : ∀ (n : Nat) (s : List Int), s[0]? = some 0 → (fixD fs code n s)[0]? = some 0
  | 0, _, h => h
  | n + 1, s, h => by
    unfold fixD
    split
    · exact fix_zero n _ (ones_zero _ _ h)
    · exact ones_zero _ _ h
theorem fix_hgt {fs : List FnT} {code : List InsT} (F : Fit fs code) {m : Nat} : ∀ (n : Nat) (s : List Int), Hgt m s → Hgt m (fixD fs code n s)
  | 0, _, h => h
  | n + 1, s, h => by
    unfold fixD
    split
    · exact fix_hgt F n _ (h.pass F)
    · exact h.pass F
theorem depths_hgt {fs : List FnT} {code : List InsT} (F : Fit fs code) : Hgt code.length (depths fs code) := fix_hgt F _ _ Hgt.start
theorem depths_zero {fs : List FnT} {code : List InsT} (F : Fit fs code) : (depths fs code)[0]? = some 0 := by
  refine fix_zero _ _ ?_
  have := F.n1
  rw [startD, List.getElem?_set_self (by rw [List.length_replicate]; omega)]
theorem getD_is {s : List Int} {i : Nat} (h : i < s.length) : s[i] = s[i]?.getD 0 := by rw [List.getElem?_eq_getElem h]; rfl
theorem nexts_ok {fs : List FnT} {code : List InsT} (F : Fit fs code) {x : InsT} (hx : x ∈ code) {pc : Nat} (hp : pc < code.length) : ∀ t ∈ nexts x pc, 0 ≤ t ∧ t ≤ code.length := by
  intro t ht
  unfold nexts at ht
  rcases List.mem_append.1 ht with h | h
  · split at h
    · simp only [List.mem_singleton] at h; omega
    · cases h
  · split at h
    · rename_i hj
      simp only [List.mem_singleton] at h
      have := F.j x hx hj
      omega
    · cases h
theorem put_yes {l : Int} {s : Hs} {t : Int} (h1 : t < s.1.length) (h2 : s.1[t.toNat]?.getD 0 < 0) : putH l s t = (s.1.set t.toNat l, true) := if_pos ⟨h1, h2⟩
theorem put_no {l : Int} {s : Hs} {t : Int} (h : ¬ (t < s.1.length ∧ s.1[t.toNat]?.getD 0 < 0)) : putH l s t = s := if_neg h
section
variable {fs : List FnT} {code : List InsT} {T : PV} (F : Fit fs code)
include F
theorem spec_puts {P : R → Prop} {pc : Nat} (hpc : pc < code.length) {left : Int} {ts : List Int} (hts : ∀ t ∈ ts, 0 ≤ t ∧ t ≤ code.length) (hn : ts.length ≤ 10) {s : Hs} (hs : s.1.length = code.length)
    (h : Ok P (spec_l03Depths_c12 (.lst (code.map InsT.pv)) (.bool (ts.foldl (putH left) s).2) (.int .i64 ((pc : Int) + 1)) T (.lst (fs.map FnT.pv)) (ints (ts.foldl (putH left) s).1))) :
    Ok P (spec_l03Depths_c19 (.lst (code.map InsT.pv)) (.bool s.2) (.int .i64 pc) (.int .i64 left) (ints ts) (.int .i64 0) T (.lst (fs.map FnT.pv)) (ints s.1)) := by
  have hn2 := F.n2
  refine ok_for (n := ts.length) (F := fun i (q : Hs) => spec_l03Depths_c19 (.lst (code.map InsT.pv)) (.bool q.2) (.int .i64 pc) (.int .i64 left) (ints ts) (.int .i64 i) T (.lst (fs.map FnT.pv)) (ints q.1))
    (fun i q => q.1.length = code.length ∧ (ts.drop i).foldl (putH left) q = ts.foldl (putH left) s) ?_ ?_ 0 s (by omega) ⟨hs, by rw [List.drop_zero]⟩
  · rintro q ⟨hq, he⟩
    rw [List.drop_length] at he
    have he : q = ts.foldl (putH left) s := he
    subst he
    rw [spec_l03Depths_c19_eq]
    exact ok_ints_len (ok_lss (ok_ite (fun h => by omega) (fun _ => ok_add (by omega) h)))
  · rintro i q hi ⟨hq, he⟩ ih
    have ht := hts ts[i] (List.getElem_mem _)
    rw [List.drop_eq_getElem_cons hi, List.foldl_cons] at he
    have ih := fun s' => ih s'
    rw [spec_l03Depths_c19_eq]
    refine ok_ints_len (ok_lss (ok_ite (fun _ => ?_) (fun h => by omega)))
    refine ok_ints_at hi (ok_len_map (ok_lss (ok_ite (fun h1 => ?_) (fun h1 => ?_))))
    · refine ok_ints_at hi (ok_ints_inb (by omega) (by omega) (ok_ints_atI (by omega) (by omega) (fun v hv => ?_)))
      refine ok_lss (ok_ite (fun h2 => ?_) (fun h2 => ?_))
      · rw [spec_l03Depths_c22_eq]
        refine ok_ints_at hi (ok_ints_inb (by omega) (by omega) ?_)
        obtain ⟨t, et⟩ := Int.eq_ofNat_of_zero_le ht.1
        rw [et]
        refine ok_ints_set (by omega) (ok_add (by omega) ?_)
        refine ih (q.1.set t left, true) ⟨by simpa using hq, ?_⟩
        rw [put_yes (by omega) (by rw [hv]; exact h2), et] at he
        exact he
      · refine ok_add (by omega) (ih q ⟨hq, ?_⟩)
        rw [put_no (by rw [hv]; simp only [Option.getD_some]; omega)] at he
        exact he
    · refine ok_add (by omega) (ih q ⟨hq, ?_⟩)
      rw [put_no (by omega)] at he
      exact he
theorem spec_passD {P : R → Prop} {s : List Int} (hs : Hgt code.length s)
    (h : Ok P (spec_l03Depths_c9 (.lst (code.map InsT.pv)) (.bool (passD fs code s).2) T (.lst (fs.map FnT.pv)) (ints (passD fs code s).1))) :
    Ok P (spec_l03Depths_c12 (.lst (code.map InsT.pv)) (.bool false) (.int .i64 0) T (.lst (fs.map FnT.pv)) (ints s)) := by
  have hn2 := F.n2
  have hnf := F.nf
  refine ok_for (n := code.length) (F := fun i (q : Hs) => spec_l03Depths_c12 (.lst (code.map InsT.pv)) (.bool q.2) (.int .i64 i) T (.lst (fs.map FnT.pv)) (ints q.1))
    (fun i q => Hgt code.length q.1 ∧ (List.range' i (code.length - i)).foldl (oneH fs code) q = passD fs code s) ?_ ?_ 0 (s, false) (by omega) ⟨hs, rfl⟩
  · rintro q ⟨hq, he⟩
    rw [Nat.sub_self] at he
    have he : q = passD fs code s := he
    subst he
    rw [spec_l03Depths_c12_eq]
    exact ok_len_map (ok_lss (ok_ite (fun h => by omega) (fun _ => h)))
  · rintro i q hi ⟨hq, he⟩ ih
    have e1 : code.length - i = (code.length - (i + 1)) + 1 := by omega
    rw [e1, List.range'_succ, List.foldl_cons] at he
    have hx : code[i]? = some code[i] := List.getElem?_eq_getElem hi
    have hu := F.u code[i] (List.getElem_mem _)
    have hil : i < q.1.length := by rw [hq.1]; exact hi
    have hv := hq.at i
    have e2 : q.1[i] = q.1[i]?.getD 0 := getD_is hil
    have hone := hq.one F i
    have hgo := ih (oneH fs code q i) ⟨hone, he⟩
    have eo : oneH fs code q i = if can fs code[i] (q.1[i]?.getD 0) then (nexts code[i] i).foldl (putH (lefts fs code[i] (q.1[i]?.getD 0))) q else q := by
      conv => lhs; unfold oneH
      rw [hx]
    generalize hw : q.1[i]?.getD 0 = w at *
    rw [spec_l03Depths_c12_eq]
    refine ok_len_map (ok_lss (ok_ite (fun _ => ?_) (fun h => by omega)))
    refine ok_at_map hi (fun _ => rfl) (ok_call (spec_uses (T := T) (by omega)) (fun r hr => ?_))
    subst hr
    refine ok_comp rfl (ok_comp rfl ?_)
    refine ok_ints_inb (by omega) (by omega) (ok_ints_at hil (ok_sub (by omega) (ok_add (by omega) (ok_ints_inb (by omega) (by omega) (ok_ints_at hil ?_)))))
    rw [e2]
    refine ok_lss (ok_ite (fun h1 => ?_) (fun h1 => ?_))
    · have hc : can fs code[i] w = false := by simp only [can]; rw [decide_eq_false (by omega)]; rfl
      rw [hc, if_neg (by simp)] at eo
      rw [eo] at hgo
      exact ok_add (by omega) hgo
    refine ok_gtr (ok_ite (fun h2 => ?_) (fun h2 => ?_))
    · have hc : can fs code[i] w = false := by simp only [can]; rw [decide_eq_false (p := lefts fs code[i] w ≤ 16) (by unfold lefts; omega), Bool.and_false]
      rw [hc, if_neg (by simp)] at eo
      rw [eo] at hgo
      exact ok_add (by omega) hgo
    · have hc : can fs code[i] w = true := by simp only [can]; rw [decide_eq_true (by omega), decide_eq_true (p := lefts fs code[i] w ≤ 16) (by unfold lefts; omega)]; rfl
      rw [hc, if_pos rfl] at eo
      rw [eo] at hgo
      refine ok_at_map hi (fun _ => rfl) (ok_call (spec_next (by omega)) (fun r hr => ?_))
      subst hr
      exact spec_puts F hi (nexts_ok F (List.getElem_mem _) hi) (by unfold nexts; repeat' split <;> simp) hq.1 hgo
theorem spec_fixD : ∀ (j : Nat) (s : List Int), nn s ≤ j → Hgt code.length s → Ok (fun r => r = [ints (fixD fs code (j + 1) s)]) (spec_l03Depths_c9 (.lst (code.map InsT.pv)) (.bool true) T (.lst (fs.map FnT.pv)) (ints s)) := by
  intro j
  induction j with
  | zero =>
    intro s hs hg
    rw [spec_l03Depths_c9_eq]
    refine ok_ite_t (spec_passD F hg ?_)
    rcases Dec.pass F s with h | ⟨h, h2⟩
    · unfold fixD
      rw [h, spec_l03Depths_c9_eq]
      exact ok_ite_f (ok_some rfl)
    · have h3 : nn (passD fs code s).1 < nn s := h2
      omega
  | succ j ih =>
    intro s hs hg
    rw [spec_l03Depths_c9_eq]
    refine ok_ite_t (spec_passD F hg ?_)
    rcases Dec.pass F s with h | ⟨h, h2⟩
    · unfold fixD
      rw [h, spec_l03Depths_c9_eq]
      exact ok_ite_f (ok_some rfl)
    · rw [fixD, h, if_pos rfl]
      exact ih _ (by have h3 : nn (passD fs code s).1 < nn s := h2; omega) (hg.pass F)
end
section
variable {fs : List FnT} {code : List InsT} {T : PV} (F : Fit fs code)
include F
theorem spec_depths {f : Nat} (hf : f < fs.length) (hc : fs[f].code = code) : Ok (fun r => r = [ints (depths fs code)]) (spec_l03Depths (.agg [T, .lst (fs.map FnT.pv)]) (.int .i64 f)) := by
  have hn2 := F.n2
  have hn1 := F.n1
  rw [spec_l03Depths_eq]
  refine ok_whole rfl (ok_cell rfl (ok_cell rfl (ok_at_map hf (fun _ => rfl) (ok_cell (y := .lst (code.map InsT.pv)) (by rw [← hc]; rfl) ?_))))
  have key := ok_down (n := code.length) (P := fun _ r => r = [ints (depths fs code)])
    (F := fun i => spec_l03Depths_c4 (.lst (code.map InsT.pv)) (.int .i64 i) T (.lst (fs.map FnT.pv)) (ints (List.replicate i (-1)))) ?_ ?_ 0 (by omega)
  · exact key
  · rw [spec_l03Depths_c4_eq]
    refine ok_len_map (ok_lss (ok_ite (fun h => by omega) (fun _ => ?_)))
    refine ok_ints_inb (by omega) (by rw [List.length_replicate]; omega) (ok_ints_set (i := 0) (by rw [List.length_replicate]; omega) ?_)
    exact spec_fixD F code.length _ (by have := (Hgt.start (n := code.length)).1; unfold nn; exact Nat.le_trans List.countP_le_length (by omega)) Hgt.start
  · intro i hi ih
    rw [spec_l03Depths_c4_eq]
    refine ok_len_map (ok_lss (ok_ite (fun h => ?_) (fun h => by omega)))
    refine ok_ints_cat (ys := [-1]) (by rw [List.length_replicate]; simp only [List.length_cons, List.length_nil]; omega) (ok_add (by omega) ?_)
    rw [← List.replicate_succ']
    exact ih
end
section
variable {P : R → Prop} {k : PV → Option R}
theorem bound_nat {m n : Nat} {kk : IntKind} (h : n ≤ m) : PV.bound m (.int kk (n : Int)) = some n := by
  simp only [PV.bound]
  rw [if_pos (by omega), Int.toNat_natCast]
theorem ok_ncopy {xs ys : List PV} {lo hi : Nat} {k1 k2 : IntKind} (h1 : lo ≤ hi) (h2 : hi ≤ xs.length) (h3 : xs.length ≤ 1000000000) (h : Ok P (k (.int .i64 (min (hi - lo) ys.length : Nat)))) :
    Ok P (bd (PV.ncopy (.lst xs) (.int k1 (lo : Int)) (.int k2 (hi : Int)) (.lst ys)) k) :=
  ok_bd _ (by
    simp only [PV.ncopy]
    rw [bound_nat (by omega), bound_nat (by omega)]
    simp only [PV.elems]
    rw [if_pos ⟨h1, h2⟩]) h
theorem ok_copyIn {s : Nat} {g : Bool} {xs ys : List PV} {lo hi : Nat} {k1 k2 : IntKind} (h1 : lo ≤ hi) (h2 : hi ≤ xs.length) (h3 : xs.length ≤ 1000000000) (he : ∀ y ∈ ys, y.isEl s g = true)
    (h : Ok P (k (.lst (xs.take lo ++ ys.take (hi - lo) ++ xs.drop (lo + min (hi - lo) ys.length))))) :
    Ok P (bd (PV.copyIn s g (.lst xs) (.int k1 (lo : Int)) (.int k2 (hi : Int)) (.lst ys)) k) :=
  ok_bd _ (by
    simp only [PV.copyIn]
    rw [bound_nat (by omega), bound_nat (by omega)]
    simp only [PV.elems]
    rw [if_pos ⟨h1, h2, List.all_eq_true.2 he⟩]) h
theorem ok_zeros {e n : Nat} {z : PV} {kk : IntKind} (h1 : n * e ≤ 140737488355328) (h2 : n ≤ 1000000000) (h : Ok P (k (.lst (List.replicate n z)))) : Ok P (bd (PV.zeros e z (.int kk (n : Int))) k) :=
  ok_bd _ (by
    simp only [PV.zeros]
    rw [if_pos ⟨by omega, by rw [Int.toNat_natCast]; exact h1, by omega⟩, Int.toNat_natCast]) h
theorem ints_el {l : List Int} : ∀ x ∈ l.map (PV.int .i64), x.isEl 1 false = true := by
  intro x hx
  obtain ⟨a, _, rfl⟩ := List.mem_map.1 hx
  rfl
end
theorem repeat_loop {n : Nat} (hn : n ≤ 1000) : ∀ (j a : Nat), n - a ≤ j → 1 ≤ a → a ≤ n →
    Ok (fun r => r = [ints (List.replicate n (-1))]) (slices_Repeat_int_int_c8 (.int .i64 a) (ints (List.replicate a (-1) ++ List.replicate (n - a) 0))) := by
  intro j
  induction j with
  | zero =>
    intro a h1 h2 h3
    have : a = n := by omega
    subst this
    rw [slices_Repeat_int_int_c8_eq]
    refine ok_ints_len (ok_lss (ok_ite (fun h => ?_) (fun _ => ok_some ?_)))
    · simp at h
    · simp
  | succ j ih =>
    intro a h1 h2 h3
    rw [slices_Repeat_int_int_c8_eq]
    have hl : (List.replicate a (-1 : Int) ++ List.replicate (n - a) 0).length = n := by simp; omega
    have hlm : ((List.replicate a (-1 : Int) ++ List.replicate (n - a) 0).map (PV.int .i64)).length = n := by rw [List.length_map, hl]
    have ht : (List.replicate a (-1 : Int) ++ List.replicate (n - a) 0).take a = List.replicate a (-1) := by
      rw [List.take_left' (by simp)]
    refine ok_ints_len (ok_lss (ok_ite (fun h => ?_) (fun h => ok_some ?_)))
    · rw [hl] at h
      refine ok_ints_len ?_
      rw [hl]
      refine ok_cut (by omega) (by omega) (by omega) ints_el ?_
      refine ok_cut (by omega) (by omega) (by omega) ints_el ?_
      refine ok_cut (by omega) (by omega) (by omega) ints_el ?_
      simp only [Int.toNat_natCast, Int.toNat_zero, List.drop_zero, ← List.map_take]
      rw [ht]
      refine ok_ncopy (by omega) (by omega) (by omega) (ok_copyIn (by omega) (by omega) (by omega) ints_el ?_)
      rw [← List.map_take, ht, ← List.map_take, ← List.map_drop, ← List.map_append, ← List.map_append, List.length_map, List.length_replicate]
      have e : List.replicate a (-1 : Int) ++ (List.replicate a (-1)).take (n - a) ++ (List.replicate a (-1) ++ List.replicate (n - a) 0).drop (a + min (n - a) a) = List.replicate (a + min (n - a) a) (-1) ++ List.replicate (n - (a + min (n - a) a)) 0 := by
        rw [List.take_replicate, List.replicate_append_replicate, List.drop_append, List.length_replicate, List.drop_eq_nil_of_le (by simp), List.nil_append, List.drop_replicate]
        congr 2
        omega
      rw [e]
      exact ok_add (by omega) (ih (a + min (n - a) a) (by omega) (by omega) (by omega))
    · have : a = n := by rw [hl] at h; omega
      subst this
      simp
theorem ok_mask {P : R → Prop} {k : PV → Option R} {a : Int} (h1 : 0 ≤ a ∧ a ≤ 1000000) (h : Ok P (k (.int .u64 a))) : Ok P (bd (PV.bin .and (.int .u64 a) (.int .u64 4294967295)) k) :=
  ok_bd _ (by
    obtain ⟨n, rfl⟩ := Int.eq_ofNat_of_zero_le h1.1
    rw [bin_int (by simp) (by simp)]
    simp only [PV.intBin]
    have hb : IntKind.u64.bits = 64 := rfl
    have e : (BitVec.ofInt 64 (n : Int) &&& BitVec.ofInt 64 4294967295).toNat = n := by
      rw [BitVec.toNat_and, BitVec.ofInt_natCast, BitVec.toNat_ofNat]
      have : (BitVec.ofInt 64 4294967295).toNat = 2 ^ 32 - 1 := by decide
      rw [this, Nat.and_two_pow_sub_one_eq_mod, Nat.mod_eq_of_lt (by omega), Nat.mod_eq_of_lt (by omega)]
    rw [hb, e, u64_in _ (by omega)]) h
theorem ok_shr32 {P : R → Prop} {k : PV → Option R} {a : Int} (h1 : 0 ≤ a ∧ a ≤ 1000000) (h : Ok P (k (.int .u64 0))) : Ok P (bd (PV.bin .shr (.int .u64 a) (.int .u64 32)) k) :=
  ok_bd _ (by
    simp only [PV.bin]
    rw [if_neg (by omega)]
    have : a.fdiv (2 ^ min (Int.toNat 32) IntKind.u64.bits) = 0 := by
      have e : (2 : Int) ^ min (Int.toNat 32) IntKind.u64.bits = 4294967296 := by decide
      rw [e, Int.fdiv_eq_ediv_of_nonneg _ (by omega)]
      omega
    rw [this]) h
theorem ok_mul64 {P : R → Prop} {k : PV → Option R} {a b : Int} (h1 : 0 ≤ a * b ∧ a * b ≤ 1000000) (h : Ok P (k (.int .u64 (a * b)))) : Ok P (bd (PV.bin .mul (.int .u64 a) (.int .u64 b)) k) :=
  ok_bd _ (by rw [bin_int (by simp) (by simp)]; simp only [PV.intBin]; rw [u64_in _ (by omega)]) h
theorem ok_add64 {P : R → Prop} {k : PV → Option R} {a b : Int} (h1 : 0 ≤ a + b ∧ a + b ≤ 1000000) (h : Ok P (k (.int .u64 (a + b)))) : Ok P (bd (PV.bin .add (.int .u64 a) (.int .u64 b)) k) :=
  ok_bd _ (by rw [bin_int (by simp) (by simp)]; simp only [PV.intBin]; rw [u64_in _ (by omega)]) h
theorem ok_u64 {P : R → Prop} {k : PV → Option R} {a : Int} {kk : IntKind} (h1 : 0 ≤ a ∧ a ≤ 1000000) (h : Ok P (k (.int .u64 a))) : Ok P (bd (PV.conv .u64 (.int kk a)) k) := ok_bd _ (by simp only [PV.conv]; rw [u64_in _ (by omega)]) h
theorem repeat_ok {n : Nat} (h1 : 1 ≤ n) (hn : n ≤ 1000) : Ok (fun r => r = [ints (List.replicate n (-1))]) (slices_Repeat_int_int (.lst [.int .i64 (-1)]) (.int .i64 n)) := by
  rw [slices_Repeat_int_int_eq]
  refine ok_lss (ok_ite (fun h => by omega) (fun _ => ?_))
  rw [slices_Repeat_int_int_c3_eq]
  refine ok_len (ok_u64 (by simp) (ok_u64 (by omega) ?_))
  refine ok_call (Q := fun r => r = [.tup [.int .u64 0, .int .u64 n]]) ?_ (fun r hr => ?_)
  · rw [math_bits_Mul_eq, math_bits_Mul64_eq]
    simp only [List.length_cons, List.length_nil]
    refine ok_call (Q := fun r => r = [.tup [.int .u64 0, .int .u64 n]]) ?_ (fun r hr => ?_)
    · refine ok_mask (by omega) (ok_shr32 (by omega) (ok_mask (by omega) (ok_shr32 (by omega) ?_)))
      refine ok_mul64 (by omega) (ok_mul64 (by omega) (ok_shr32 (by omega) (ok_add64 (by omega) ?_)))
      refine ok_mask (by omega) (ok_shr32 (by omega) (ok_mul64 (by omega) (ok_add64 (by omega) ?_)))
      refine ok_mul64 (by omega) (ok_add64 (by omega) (ok_shr32 (by omega) (ok_add64 (by omega) (ok_mul64 (by omega) (ok_some ?_)))))
      simp
    · subst hr
      exact ok_comp rfl (ok_comp rfl (ok_some rfl))
  subst hr
  refine ok_comp rfl (ok_comp rfl (ok_gtr (ok_ite (fun h => by omega) (fun _ => ok_gtr (ok_ite (fun h => by omega) (fun _ => ?_))))))
  rw [slices_Repeat_int_int_c6_eq]
  refine ok_i64 (by omega) (ok_zeros (by omega) (by omega) (ok_leq (ok_ite (fun _ => ?_) (fun h => by omega))))
  refine ok_zeros (by omega) (by omega) (ok_len ?_)
  rw [List.length_replicate]
  refine ok_ncopy (lo := 0) (by omega) (by simp) (by simp; omega) (ok_copyIn (lo := 0) (by omega) (by simp) (by simp; omega) (ints_el (l := [-1])) ?_)
  have := repeat_loop hn n 1 (by omega) (by omega) h1
  have e : (min (n - 0) [PV.int .i64 (-1)].length : Nat) = 1 := by simp; omega
  rw [e]
  have e2 : (List.replicate n (PV.int .i64 0)).take 0 ++ [PV.int .i64 (-1)].take (n - 0) ++ (List.replicate n (PV.int .i64 0)).drop (0 + 1) = (List.replicate 1 (-1 : Int) ++ List.replicate (n - 1) 0).map (PV.int .i64) := by
    rw [List.take_zero, List.nil_append, List.take_of_length_le (by simp; omega), List.drop_replicate]
    simp
  rw [e2]
  exact this
section
variable {fs : List FnT} {code : List InsT} {T : PV} (F : Fit fs code)
include F
theorem impl_left {x : InsT} (hx : x ∈ code) {h : Int} (hh : -1 ≤ h ∧ h ≤ 16) : Ok (fun r => r = [.tup [.int .i64 (lefts fs x h), .bool (can fs x h)]]) (impl_leaves (.agg [T, .lst (fs.map FnT.pv)]) x.pv (.int .i64 h)) := by
  have hu := F.u x hx
  have hnf := F.nf
  rw [impl_leaves_eq]
  refine ok_whole rfl (ok_cell rfl (ok_cell rfl (ok_whole rfl (ok_cell rfl (ok_cell rfl ?_)))))
  refine ok_call (impl_uses (x := x) (T := T) (by omega)) (fun r hr => ?_)
  subst hr
  refine ok_comp rfl (ok_comp rfl (ok_sub (by omega) (ok_add (by omega) (ok_leq (ok_ite (fun h1 => ?_) (fun h1 => ok_some ?_))))))
  · refine ok_leq (ok_some ?_)
    unfold can lefts
    rw [decide_eq_true h1]; rfl
  · unfold can lefts
    rw [decide_eq_false h1]; rfl
theorem impl_puts {P : R → Prop} {pc : Nat} (hpc : pc < code.length) {left : Int} {b : Bool} {ts : List Int} (hts : ∀ t ∈ ts, 0 ≤ t ∧ t ≤ code.length) (hn : ts.length ≤ 10) {s : Hs} (hs : s.1.length = code.length)
    (h : Ok P (impl_depths_c8 (.lst (code.map InsT.pv)) (.bool (if b then ts.foldl (putH left) s else s).2) (.lst (code.map InsT.pv)) (.int .i64 code.length) (.int .i64 ((pc : Int) + 1)) T (.lst (fs.map FnT.pv)) (ints (if b then ts.foldl (putH left) s else s).1))) :
    Ok P (impl_depths_c13 (.lst (code.map InsT.pv)) (.bool s.2) (.int .i64 left) (.bool b) (.lst (code.map InsT.pv)) (.int .i64 code.length) (.int .i64 pc) (ints ts) (.int .i64 ts.length) (.int .i64 0) T (.lst (fs.map FnT.pv)) (ints s.1)) := by
  have hn2 := F.n2
  refine ok_for (n := ts.length) (F := fun i (q : Hs) => impl_depths_c13 (.lst (code.map InsT.pv)) (.bool q.2) (.int .i64 left) (.bool b) (.lst (code.map InsT.pv)) (.int .i64 code.length) (.int .i64 pc) (ints ts) (.int .i64 ts.length) (.int .i64 i) T (.lst (fs.map FnT.pv)) (ints q.1))
    (fun i q => q.1.length = code.length ∧ (if b then (ts.drop i).foldl (putH left) q else q) = (if b then ts.foldl (putH left) s else s)) ?_ ?_ 0 s (by omega) ⟨hs, by rw [List.drop_zero]⟩
  · rintro q ⟨hq, he⟩
    rw [List.drop_length] at he
    have he : q = (if b then ts.foldl (putH left) s else s) := by rw [← he]; split <;> rfl
    subst he
    rw [impl_depths_c13_eq]
    exact ok_lss (ok_ite (fun h => by omega) (fun _ => ok_add (by omega) h))
  · rintro i q hi ⟨hq, he⟩ ih
    have ht := hts ts[i] (List.getElem_mem _)
    rw [List.drop_eq_getElem_cons hi, List.foldl_cons] at he
    rw [impl_depths_c13_eq]
    refine ok_lss (ok_ite (fun _ => ?_) (fun h => by omega))
    refine ok_ints_at hi (ok_ite_b (fun hb => ?_) (fun hb => ?_))
    · subst hb
      simp only [if_true] at he ih
      refine ok_len_map (ok_lss (ok_ite (fun h1 => ?_) (fun h1 => ?_)))
      · refine ok_ints_inb (by omega) (by omega) (ok_ints_atI (by omega) (by omega) (fun v hv => ?_))
        refine ok_lss (ok_ite (fun h2 => ?_) (fun h2 => ?_))
        · rw [impl_depths_c16_eq]
          refine ok_ints_inb (by omega) (by omega) ?_
          obtain ⟨t, et⟩ := Int.eq_ofNat_of_zero_le ht.1
          rw [et]
          refine ok_ints_set (by omega) (ok_add (by omega) ?_)
          refine ih (q.1.set t left, true) ⟨by simpa using hq, ?_⟩
          rw [put_yes (by omega) (by rw [hv]; exact h2), et] at he
          exact he
        · refine ok_add (by omega) (ih q ⟨hq, ?_⟩)
          rw [put_no (by rw [hv]; simp only [Option.getD_some]; omega)] at he
          exact he
      · refine ok_add (by omega) (ih q ⟨hq, ?_⟩)
        rw [put_no (by omega)] at he
        exact he
    · subst hb
      exact ok_add (by omega) (ih q ⟨hq, he⟩)
theorem can_neg {x : InsT} (hx : x ∈ code) {h : Int} (hh : h < 0) : can fs x h = false := by
  have hu := F.u x hx
  simp only [can]
  rw [decide_eq_false (by omega)]; rfl
theorem impl_passD {P : R → Prop} {s : List Int} (hs : Hgt code.length s)
    (h : Ok P (impl_depths_c5 (.lst (code.map InsT.pv)) (.bool (passD fs code s).2) T (.lst (fs.map FnT.pv)) (ints (passD fs code s).1))) :
    Ok P (impl_depths_c8 (.lst (code.map InsT.pv)) (.bool false) (.lst (code.map InsT.pv)) (.int .i64 code.length) (.int .i64 0) T (.lst (fs.map FnT.pv)) (ints s)) := by
  have hn2 := F.n2
  have hnf := F.nf
  refine ok_for (n := code.length) (F := fun i (q : Hs) => impl_depths_c8 (.lst (code.map InsT.pv)) (.bool q.2) (.lst (code.map InsT.pv)) (.int .i64 code.length) (.int .i64 i) T (.lst (fs.map FnT.pv)) (ints q.1))
    (fun i q => Hgt code.length q.1 ∧ (List.range' i (code.length - i)).foldl (oneH fs code) q = passD fs code s) ?_ ?_ 0 (s, false) (by omega) ⟨hs, rfl⟩
  · rintro q ⟨hq, he⟩
    rw [Nat.sub_self] at he
    have he : q = passD fs code s := he
    subst he
    rw [impl_depths_c8_eq]
    exact ok_lss (ok_ite (fun h => by omega) (fun _ => h))
  · rintro i q hi ⟨hq, he⟩ ih
    have e1 : code.length - i = (code.length - (i + 1)) + 1 := by omega
    rw [e1, List.range'_succ, List.foldl_cons] at he
    have hx : code[i]? = some code[i] := List.getElem?_eq_getElem hi
    have hm : code[i] ∈ code := List.getElem_mem _
    have hil : i < q.1.length := by rw [hq.1]; exact hi
    have hv := hq.at i
    have e2 : q.1[i] = q.1[i]?.getD 0 := getD_is hil
    have hone := hq.one F i
    have hgo := ih (oneH fs code q i) ⟨hone, he⟩
    have eo : oneH fs code q i = if can fs code[i] (q.1[i]?.getD 0) then (nexts code[i] i).foldl (putH (lefts fs code[i] (q.1[i]?.getD 0))) q else q := by
      conv => lhs; unfold oneH
      rw [hx]
    generalize hw : q.1[i]?.getD 0 = w at *
    rw [impl_depths_c8_eq]
    refine ok_lss (ok_ite (fun _ => ?_) (fun h => by omega))
    refine ok_at_map hi (fun _ => rfl) (ok_whole rfl (ok_cell rfl (ok_cell rfl ?_)))
    refine ok_ints_inb (by omega) (by omega) (ok_ints_at hil ?_)
    rw [e2]
    refine ok_lss (ok_ite (fun h1 => ?_) (fun h1 => ?_))
    · rw [can_neg F hm h1, if_neg (by simp)] at eo
      rw [eo] at hgo
      exact ok_add (by omega) hgo
    refine ok_ints_inb (by omega) (by omega) (ok_ints_at hil ?_)
    rw [e2]
    refine ok_call (impl_left (T := T) F hm hv) (fun r hr => ?_)
    subst hr
    refine ok_comp rfl (ok_comp rfl (ok_call (impl_next (x := code[i]) (by omega)) (fun r hr => ?_)))
    subst hr
    refine ok_ints_len ?_
    refine impl_puts F hi (nexts_ok F hm hi) (by unfold nexts; repeat' split <;> simp) hq.1 ?_
    rw [← eo]
    exact hgo
theorem impl_fixD : ∀ (j : Nat) (s : List Int), nn s ≤ j → Hgt code.length s → Ok (fun r => r = [ints (fixD fs code (j + 1) s)]) (impl_depths_c5 (.lst (code.map InsT.pv)) (.bool true) T (.lst (fs.map FnT.pv)) (ints s)) := by
  intro j
  induction j with
  | zero =>
    intro s hs hg
    rw [impl_depths_c5_eq]
    refine ok_ite_t (ok_len_map (impl_passD F hg ?_))
    rcases Dec.pass F s with h | ⟨h, h2⟩
    · unfold fixD
      rw [h, impl_depths_c5_eq]
      exact ok_ite_f (ok_some rfl)
    · have h3 : nn (passD fs code s).1 < nn s := h2
      omega
  | succ j ih =>
    intro s hs hg
    rw [impl_depths_c5_eq]
    refine ok_ite_t (ok_len_map (impl_passD F hg ?_))
    rcases Dec.pass F s with h | ⟨h, h2⟩
    · unfold fixD
      rw [h, impl_depths_c5_eq]
      exact ok_ite_f (ok_some rfl)
    · rw [fixD, h, if_pos rfl]
      exact ih _ (by have h3 : nn (passD fs code s).1 < nn s := h2; omega) (hg.pass F)
theorem flat_ints (l : List Int) : PV.flatO (.own 1 8 false []) (ints l) = true := by
  clear F
  show PV.flatEs false [] (l.map (PV.int .i64)) = true
  induction l with
  | nil => simp [PV.flatEs]
  | cons x r ih => simp [PV.flatEs, PV.flatE, PV.flat, ih]
theorem impl_depths_ok {f : Nat} (hf : f < fs.length) (hc : fs[f].code = code) : Ok (fun r => r = [ints (depths fs code)]) (impl_depths (.agg [T, .lst (fs.map FnT.pv)]) (.int .i64 f)) := by
  have hn2 := F.n2
  have hn1 := F.n1
  rw [impl_depths_eq]
  refine ok_whole rfl (ok_cell rfl (ok_cell rfl (ok_at_map hf (fun _ => rfl) (ok_cell (y := .lst (code.map InsT.pv)) (by rw [← hc]; rfl) (ok_len_map ?_)))))
  refine ok_call (repeat_ok hn1 (by omega)) (fun r hr => ?_)
  subst hr
  refine ok_own (flat_ints F _) (ok_ints_inb (by omega) (by rw [List.length_replicate]; omega) (ok_ints_set (i := 0) (by rw [List.length_replicate]; omega) ?_))
  exact impl_fixD F code.length _ (by have := (Hgt.start (n := code.length)).1; unfold nn; exact Nat.le_trans List.countP_le_length (by omega)) Hgt.start
end
theorem MdT.okB_fit {m : MdT} (h : m.okB = true) : 1 ≤ m.funcs.length ∧ m.funcs.length ≤ 12 ∧ ∀ f ∈ m.funcs, Fit m.funcs f.code ∧ 0 ≤ f.p ∧ f.p ≤ 6 ∧ f.p ≤ f.lc ∧ f.lc ≤ 12 := by
  simp only [MdT.okB, Bool.and_eq_true, bet_iff, decide_eq_true_eq, List.all_eq_true, fnOkB] at h
  obtain ⟨⟨h1, h2⟩, _, _, h3⟩ := h
  have hp : ∀ i : Int, 0 ≤ parOf m.funcs i ∧ parOf m.funcs i ≤ 6 := by
    intro i
    unfold parOf
    cases hx : m.funcs[i.toNat]? with
    | none => simp
    | some f => exact (h3 f (List.mem_of_getElem? hx)).1
  refine ⟨by omega, by omega, fun f hf => ?_⟩
  obtain ⟨p1, p2, p3, p4⟩ := h3 f hf
  refine ⟨⟨by omega, by omega, by omega, fun x hx => ?_, fun x hx hj => ?_⟩, p1.1, p1.2, p2.1, p2.2⟩
  · have := hp x.a
    unfold uses
    repeat' split
    all_goals (simp only; omega)
  · have := p4 x hx
    unfold insOkB at this
    rcases hj with hj | hj | hj <;> simp [hj, bet] at this <;> omega
structure FrT where
  f : Int
  pc : Int
  loc : List VlT
  stk : List VlT
def vals (l : List VlT) : PV := .lst (l.map VlT.pv)
def FrT.pv (f : FrT) : PV := .agg [.int .i64 f.f, .int .i64 f.pc, vals f.loc, vals f.stk]
def recPV (r : List VlT) : PV := .agg [vals r]
theorem vals_el {l : List VlT} : ∀ x ∈ l.map VlT.pv, x.isEl 3 true = true := by
  intro x hx
  obtain ⟨a, _, rfl⟩ := List.mem_map.1 hx
  rfl
section
variable {P : R → Prop} {k : PV → Option R}
theorem ok_last_at {A cs : List PV} {s : Nat} {i : Int} (hi : i = A.length) (hs : cs.length = s) (h : Ok P (k (.agg cs))) : Ok P (bd (PV.at_ s true (.lst (A ++ [.agg cs])) (.int .i64 i)) k) :=
  ok_bd _ (by
    subst hi
    simp only [PV.at_]
    rw [if_pos (by omega), Int.toNat_natCast, List.getElem?_append_right (Nat.le_refl _), Nat.sub_self]
    simp only [List.getElem?_cons_zero]
    rw [if_pos (by simp [PV.isEl, hs])]) h
theorem ok_last_set {A cs : List PV} {s off : Nat} {i : Int} {v : PV} (hi : i = A.length) (hs : cs.length = s) (ho : off < s) (hv : v.isEl 1 false = true) (h : Ok P (k (.lst (A ++ [.agg (cs.set off v)])))) :
    Ok P (bd (PV.setCell s (.lst (A ++ [.agg cs])) (.int .i64 i) off v) k) := by
  subst hi
  refine ok_setCell (by omega) (cs := cs) (by rw [Int.toNat_natCast, List.getElem?_append_right (Nat.le_refl _), Nat.sub_self]; rfl) hs ho hv ?_
  rw [Int.toNat_natCast, List.set_append_right _ _ (Nat.le_refl _), Nat.sub_self]
  exact h
theorem ok_vals_at {l : List VlT} {i : Int} (h0 : 0 ≤ i) (h1 : i < l.length) (h : ∀ v, l[i.toNat]? = some v → Ok P (k v.pv)) : Ok P (bd (PV.at_ 3 true (vals l) (.int .i64 i)) k) := by
  refine ok_at h0 (by rw [List.length_map]; exact h1) vals_el (fun x _ hx => ?_)
  rw [List.getElem?_map] at hx
  cases hl : l[i.toNat]? with
  | none => rw [hl] at hx; cases hx
  | some v => rw [hl] at hx; cases hx; exact h v hl
theorem ok_vals_len {l : List VlT} (h : Ok P (k (.int .i64 l.length))) : Ok P (bd (PV.len (vals l)) k) := ok_len_map h
theorem ok_vals_inb {l : List VlT} {i : Int} (h0 : 0 ≤ i) (h1 : i < l.length) (h : Ok P (k (vals l))) : Ok P (bd (PV.inb (vals l) (.int .i64 i)) k) := ok_inb h0 (by rw [List.length_map]; exact h1) h
theorem ok_vals_cut {l : List VlT} {m n : Int} (h0 : 0 ≤ m) (h1 : m ≤ n) (h2 : n ≤ l.length) (h : Ok P (k (vals ((l.take n.toNat).drop m.toNat)))) : Ok P (bd (PV.cut 3 true (vals l) (.int .i64 m) (.int .i64 n)) k) := by
  refine ok_cut h0 h1 (by rw [List.length_map]; exact h2) vals_el ?_
  rw [← List.map_take, ← List.map_drop]
  exact h
theorem ok_vals_cat {l m : List VlT} (hb : l.length + m.length ≤ 1000000000) (h : Ok P (k (vals (l ++ m)))) : Ok P (bd (PV.cat 3 32 true (vals l) (.lst (m.map VlT.pv))) k) := by
  refine ok_cat (by simp only [List.length_map]; omega) vals_el ?_
  rw [← List.map_append]
  exact h
theorem ok_vals_set {l : List VlT} {i : Int} {v : VlT} (h0 : 0 ≤ i) (h1 : i < l.length) (h : Ok P (k (vals (l.set i.toNat v)))) : Ok P (bd (PV.setAt 3 true (vals l) (.int .i64 i) v.pv) k) := by
  refine ok_setAt h0 (by rw [List.length_map]; exact h1) rfl ?_
  rw [← List.map_set]
  exact h
theorem ok_nils {n : Int} (h0 : 0 ≤ n) (h1 : n ≤ 1000000000) (h : Ok P (k (vals (List.replicate n.toNat vNil)))) : Ok P (bd (PV.zeros 32 (.agg [.int .i64 0, .int .i64 0, .str (bs [])]) (.int .i64 n)) k) := by
  obtain ⟨m, rfl⟩ := Int.eq_ofNat_of_zero_le h0
  refine ok_bd _ ?_ h
  simp only [PV.zeros]
  rw [if_pos ⟨by omega, by omega, by omega⟩, Int.toNat_natCast, vals, List.map_replicate]
  rfl
end
section
variable {P : R → Prop} {k : R → Option R} {a0 a1 a2 a3 a4 a5 a6 a7 a8 a9 H O : PV} {A : List PV}
theorem ok_frame {x : PV} (hA : A.length ≤ 1000000) (h : Ok P (k [.int .i64 A.length, a0, a1, a2, a3, a4, a5, a6, a7, a8, a9, .lst (A ++ [x]), H, O])) :
    Ok P (bd (spec_l05Top_frame a0 a1 a2 a3 a4 a5 a6 a7 a8 a9 (.lst (A ++ [x])) H O) k) := by
  refine ok_call (Q := fun r => r = [.int .i64 A.length, a0, a1, a2, a3, a4, a5, a6, a7, a8, a9, .lst (A ++ [x]), H, O]) ?_ (fun r hr => by rw [hr]; exact h)
  rw [spec_l05Top_frame_eq]
  have e : ((A ++ [x]).length : Int) - 1 = A.length := by simp
  refine ok_len (ok_sub (by simp; omega) ?_)
  rw [e]
  exact ok_inb (by omega) (by simp; omega) (ok_some rfl)
theorem ok_pop {f pc : Int} {loc s : List VlT} {v : VlT} (hA : A.length ≤ 1000000) (hs : s.length ≤ 1000000)
    (h : Ok P (k [v.pv, a0, a1, a2, a3, a4, a5, a6, a7, a8, a9, .lst (A ++ [FrT.pv ⟨f, pc, loc, s⟩]), H, O])) :
    Ok P (bd (spec_l05Top_pop a0 a1 a2 a3 a4 a5 a6 a7 a8 a9 (.lst (A ++ [FrT.pv ⟨f, pc, loc, s ++ [v]⟩])) H O) k) := by
  refine ok_call (Q := fun r => r = [v.pv, a0, a1, a2, a3, a4, a5, a6, a7, a8, a9, .lst (A ++ [FrT.pv ⟨f, pc, loc, s⟩]), H, O]) ?_ (fun r hr => by rw [hr]; exact h)
  rw [spec_l05Top_pop_eq]
  have e : ((s ++ [v]).length : Int) - 1 = s.length := by simp
  have hl : (s ++ [v]).length = s.length + 1 := by simp
  have at3 : ∀ {P : R → Prop} {k : PV → Option R}, Ok P (k (vals (s ++ [v]))) → Ok P (bd (PV.at_ 4 true (.lst (A ++ [FrT.pv ⟨f, pc, loc, s ++ [v]⟩])) (.int .i64 A.length)) fun x => bd (PV.cell x 3) k) :=
    fun h => ok_last_at rfl rfl (ok_cell rfl h)
  have at_ : ∀ {P : R → Prop} {k : PV → Option R}, (∀ x, Ok P (k x)) → Ok P (bd (PV.at_ 4 true (.lst (A ++ [FrT.pv ⟨f, pc, loc, s ++ [v]⟩])) (.int .i64 A.length)) k) :=
    fun h => ok_last_at rfl rfl (h _)
  have el : (s ++ [v])[(s.length : Int).toNat]? = some v := by rw [Int.toNat_natCast, List.getElem?_append_right (Nat.le_refl _), Nat.sub_self]; rfl
  refine ok_frame hA (at_ (fun _ => at_ (fun _ => at3 (ok_vals_len (ok_sub (by omega) ?_)))))
  rw [e]
  refine at3 (ok_vals_inb (by omega) (by omega) (at3 (ok_vals_at (by omega) (by omega) (fun w hw => ?_))))
  rw [el] at hw
  cases hw
  refine ok_whole rfl (ok_cell rfl (ok_cell rfl (ok_cell rfl (at_ (fun _ => at_ (fun _ => at3 (ok_vals_len (ok_sub (by omega) ?_))))))))
  rw [e]
  refine at3 (ok_vals_cut (by omega) (by omega) (by omega) (at3 (ok_vals_cut (by omega) (by omega) (by omega) (at3 ?_))))
  refine ok_last_set rfl rfl (by omega) rfl (ok_last_set rfl rfl (by omega) rfl (ok_some ?_))
  simp only [Int.toNat_natCast, Int.toNat_zero, List.drop_zero, List.take_left']
  rfl
theorem ok_push {f pc : Int} {loc s : List VlT} {v : VlT} (hA : A.length ≤ 1000000) (hs : s.length ≤ 1000000)
    (h : Ok P (k [a0, a1, a2, a3, a4, a5, a6, a7, a8, a9, .lst (A ++ [FrT.pv ⟨f, pc, loc, s ++ [v]⟩]), H, O])) :
    Ok P (bd (spec_l05Top_push v.pv a0 a1 a2 a3 a4 a5 a6 a7 a8 a9 (.lst (A ++ [FrT.pv ⟨f, pc, loc, s⟩])) H O) k) := by
  refine ok_call (Q := fun r => r = [a0, a1, a2, a3, a4, a5, a6, a7, a8, a9, .lst (A ++ [FrT.pv ⟨f, pc, loc, s ++ [v]⟩]), H, O]) ?_ (fun r hr => by rw [hr]; exact h)
  rw [spec_l05Top_push_eq]
  refine ok_whole rfl (ok_cell rfl (ok_cell rfl (ok_cell rfl (ok_frame hA ?_))))
  refine ok_last_at rfl rfl (ok_last_at rfl rfl (ok_cell rfl (ok_last_at rfl rfl (ok_cell rfl ?_))))
  refine ok_last_set rfl rfl (by omega) rfl (ok_vals_cat (m := [v]) (by simp; omega) (ok_last_set rfl rfl (by omega) rfl (ok_some rfl)))
theorem ok_push1 {f pc : Int} {loc s : List VlT} {vk vn : Int} {vs : ByteArray} (hA : A.length ≤ 1000000) (hs : s.length ≤ 1000000)
    (h : Ok P (k [a0, a1, a2, a3, a4, a5, a6, a7, a8, a9, .lst (A ++ [FrT.pv ⟨f, pc, loc, s ++ [⟨vk, vn, vs⟩]⟩]), H, O])) :
    Ok P (bd (spec_l05Top_push_v1 (.int .i64 vk) (.int .i64 vn) (.str vs) a0 a1 a2 a3 a4 a5 a6 a7 a8 a9 (.lst (A ++ [FrT.pv ⟨f, pc, loc, s⟩])) H O) k) := by
  refine ok_call (Q := fun r => r = [a0, a1, a2, a3, a4, a5, a6, a7, a8, a9, .lst (A ++ [FrT.pv ⟨f, pc, loc, s ++ [⟨vk, vn, vs⟩]⟩]), H, O]) ?_ (fun r hr => by rw [hr]; exact h)
  rw [spec_l05Top_push_v1_eq]
  refine ok_frame hA ?_
  refine ok_last_at rfl rfl (ok_last_at rfl rfl (ok_cell rfl (ok_last_at rfl rfl (ok_cell rfl ?_))))
  refine ok_last_set rfl rfl (by omega) rfl (ok_vals_cat (m := [⟨vk, vn, vs⟩]) (by simp; omega) (ok_last_set rfl rfl (by omega) rfl (ok_some rfl)))
end
inductive ActT where
  | trap (c : Int)
  | next (fr : FrT) (hp : List (List VlT)) (made : Int) (out : List ByteArray)
  | call (fr : FrT) (g : FrT)
  | ret (v : VlT)
def valTextT (v : VlT) (hp : List (List VlT)) : ByteArray :=
  if v.k = 0 then bs [110, 105, 108] else if v.k = 1 then digitsT v.n else if v.k = 2 then (if v.n = 1 then bs [116, 114, 117, 101] else bs [102, 97, 108, 115, 101]) else if v.k = 3 then v.s
  else if v.k = 5 then bs [102, 117, 110] ++ digitsT v.n
  else if v.k = 4 then bs [123] ++ digitsT ((hp[v.n.toNat]?.getD []).length) ++ bs [125] else bs []
def lcOf (fs : List FnT) (i : Int) : Int := (fs[i.toNat]?.map FnT.lc).getD 0
def newF (fs : List FnT) (g : Int) (args : List VlT) : FrT := ⟨g, 0, args ++ List.replicate ((lcOf fs g).toNat - args.length) vNil, []⟩
def doT (m : MdT) (fr : FrT) (took : List VlT) (depth : Nat) (hp : List (List VlT)) (made : Int) (out : List ByteArray) (x : InsT) : ActT :=
  let a := took.headD vNil
  let b := took.tail.headD vNil
  let go : List VlT → ActT := fun l => .next ⟨fr.f, fr.pc, fr.loc, fr.stk ++ l⟩ hp made out
  let rec_ : List VlT := hp[a.n.toNat]?.getD []
  if x.o = 1 then go [vInt x.a]
  else if x.o = 2 then go [vBool (decide (x.a = 1))]
  else if x.o = 3 then go [vText (m.texts[x.a.toNat]?.getD (bs []))]
  else if x.o = 4 then go [vNil]
  else if x.o = 5 then go [vFun x.a]
  else if x.o = 6 then go [fr.loc[x.a.toNat]?.getD vNil]
  else if x.o = 7 then .next ⟨fr.f, fr.pc, fr.loc.set x.a.toNat a, fr.stk⟩ hp made out
  else if x.o = 8 then go [a, a]
  else if x.o = 9 then go []
  else if x.o = 10 then go [b, a]
  else if x.o ≤ 15 then (if (opT x.o a b).2 ≠ 0 then .trap (opT x.o a b).2 else go [(opT x.o a b).1])
  else if x.o = 16 then (if (notT a).2 ≠ 0 then .trap (notT a).2 else go [(notT a).1])
  else if x.o = 17 then .next ⟨fr.f, x.a, fr.loc, fr.stk⟩ hp made out
  else if x.o ≤ 19 then (if a.k ≠ 2 then .trap 1 else if (decide (a.n = 1) == decide (x.o = 18)) = true then .next ⟨fr.f, x.a, fr.loc, fr.stk⟩ hp made out else go [])
  else if x.o = 20 then (if made = 120 then .trap 7 else .next ⟨fr.f, fr.pc, fr.loc, fr.stk ++ [vRec hp.length]⟩ (hp ++ [List.replicate x.a.toNat vNil]) (made + 1) out)
  else if x.o = 21 then (if a.k ≠ 4 then .trap 1 else if rec_.length ≤ x.a then .trap 4 else go [rec_[x.a.toNat]?.getD vNil])
  else if x.o = 22 then (if a.k ≠ 4 then .trap 1 else if rec_.length ≤ x.a then .trap 4 else .next fr (hp.set a.n.toNat (rec_.set x.a.toNat b)) made out)
  else if x.o = 23 then (if a.k ≠ 5 then .trap 1 else if parOf m.funcs a.n ≠ x.a then .trap 5 else if depth = 24 then .trap 6 else .call fr (newF m.funcs a.n took.tail))
  else if x.o = 24 then (if depth = 24 then .trap 6 else .call fr (newF m.funcs x.a took))
  else if x.o = 25 then .ret a
  else if out.length = 200 then .trap 8 else .next fr hp made (out ++ [valTextT a hp])
theorem spec_valText {v : VlT} {hp : List (List VlT)} {nf : Int} (hnf : nf ≤ 1000) (hh : hp.length ≤ 1000) (hr : ∀ r ∈ hp, r.length ≤ 1000) (hv : valOkB nf hp.length v = true) :
    Ok (fun r => r = [.str (valTextT v hp)]) (spec_ValueText v.pv (.lst (hp.map recPV))) := by
  have hn : -1000000000 ≤ v.n ∧ v.n ≤ 1000000000 ∧ (v.k = 4 → 0 ≤ v.n ∧ v.n < hp.length) ∧ 0 ≤ v.k ∧ v.k ≤ 5 := by
    unfold valOkB at hv
    repeat' split at hv
    all_goals first
      | (cases hv; done)
      | (simp only [numOkB, bet_iff, Bool.and_eq_true, decide_eq_true_eq] at hv; omega)
  rw [spec_ValueText_eq]
  refine ok_whole rfl (ok_cell rfl (ok_cell rfl (ok_cell rfl ?_)))
  refine ok_eql (ok_ite (fun h => ok_some ?_) (fun h0 => ok_eql (ok_ite (fun h => ?_) (fun h1 => ok_eql (ok_ite (fun h => ?_) (fun h2 => ok_eql (ok_ite (fun h => ok_some ?_) (fun h3 => ok_eql (ok_ite (fun h => ?_) (fun h5 => ?_))))))))))
  · unfold valTextT; rw [if_pos h]
  · refine ok_call (spec_digits (by omega)) (fun r hr => ?_)
    subst hr
    refine ok_some ?_
    unfold valTextT; rw [if_neg h0, if_pos h]; rfl
  · refine ok_eql (ok_ite (fun h' => ok_some ?_) (fun h' => ok_some ?_))
    · unfold valTextT; rw [if_neg h0, if_neg h1, if_pos h, if_pos h']
    · unfold valTextT; rw [if_neg h0, if_neg h1, if_pos h, if_neg h']
  · unfold valTextT; rw [if_neg h0, if_neg h1, if_neg h2, if_pos h]
  · refine ok_call (spec_digits (by omega)) (fun r hr => ?_)
    subst hr
    have := digitsT_size v.n
    refine ok_sAdd (by have e : (bs [102, 117, 110]).size = 3 := rfl
                       omega) (ok_some ?_)
    unfold valTextT; rw [if_neg h0, if_neg h1, if_neg h2, if_neg h3, if_pos h]
  · refine ok_eql (ok_ite (fun h4 => ?_) (fun h4 => by omega))
    refine ok_len_map (ok_sub (by omega) (ok_bet ?_))
    rw [show bet v.n 0 (hp.length - 1) = true from bet_iff.2 (by omega)]
    refine ok_ite_t ?_
    obtain ⟨i, hi⟩ := Int.eq_ofNat_of_zero_le (hn.2.2.1 h4).1
    have hil : i < hp.length := by omega
    rw [hi]
    have hrl := hr _ (List.getElem_mem hil)
    refine ok_at_map hil (fun _ => rfl) (ok_cell rfl (ok_vals_len ?_))
    refine ok_call (spec_digits (by omega)) (fun r hr => ?_)
    subst hr
    have := digitsT_size ((hp[i].length : Nat) : Int)
    have e1 : (bs [123]).size = 1 := rfl
    have e2 : (bs [125]).size = 1 := rfl
    refine ok_sAdd (by omega) (ok_sAdd (by rw [ByteArray.size_append]; omega) (ok_some ?_))
    unfold valTextT; rw [if_neg h0, if_neg h1, if_neg h2, if_neg h3, if_neg h5, if_pos h4, hi, Int.toNat_natCast, List.getElem?_eq_getElem hil]
    rfl
section
variable {a2 a3 a4 a5 a6 a7 a8 H O T : PV} {A : List PV} {fs : List FnT}
theorem call_c10 {P : R → Prop} {g : Int} {loc : List VlT} (hA : A.length ≤ 1000) (h : P [T, .lst (fs.map FnT.pv), a2, a3, a4, a5, a6, a7, a8, .int .i64 0, .lst (A ++ [FrT.pv ⟨g, 0, loc, []⟩]), H, O]) :
    Ok P (spec_l05Top_call_c10 (.int .i64 g) T (.lst (fs.map FnT.pv)) a2 a3 a4 a5 a6 a7 a8 (.int .i64 0) (.lst A) H O (vals loc)) := by
  rw [spec_l05Top_call_c10_eq]
  refine ok_one rfl (ok_cat (by simp; omega) (fun x hx => by simp only [List.mem_singleton] at hx; subst hx; rfl) (ok_some h))
theorem call_c5 {P : R → Prop} {g f pc : Int} {under : Bool} {loc s s1 : List VlT} (hA : A.length ≤ 100) (hs : s.length ≤ 100) (hu : (under = true ∧ ∃ w, s = s1 ++ [w]) ∨ (under = false ∧ s = s1)) :
    ∀ (j : Nat) (args post pre : List VlT), args.length = j → pre.length = j → j + post.length ≤ 50 →
    P [T, .lst (fs.map FnT.pv), a2, a3, a4, a5, a6, a7, a8, .int .i64 0, .lst (A ++ [FrT.pv ⟨f, pc, loc, s1⟩] ++ [FrT.pv ⟨g, 0, args ++ post, []⟩]), H, O] →
    Ok P (spec_l05Top_call_c5 (.int .i64 g) (.bool under) (.int .i64 ((j : Int) - 1)) T (.lst (fs.map FnT.pv)) a2 a3 a4 a5 a6 a7 a8 (.int .i64 0) (.lst (A ++ [FrT.pv ⟨f, pc, loc, s ++ args⟩])) H O (vals (pre ++ post))) := by
  intro j
  induction j with
  | zero =>
    intro args post pre h1 h2 h3 h
    rw [List.eq_nil_of_length_eq_zero h1, List.nil_append] at h
    rw [List.eq_nil_of_length_eq_zero h1, List.eq_nil_of_length_eq_zero h2, List.append_nil, List.nil_append, spec_l05Top_call_c5_eq]
    refine ok_geq (ok_ite (fun h => by omega) (fun _ => ?_))
    rcases hu with ⟨rfl, w, rfl⟩ | ⟨rfl, rfl⟩
    · refine ok_ite_t (ok_pop (by omega) (by simp at hs; omega) ?_)
      exact call_c10 (by simp; omega) h
    · exact ok_ite_f (call_c10 (by simp; omega) h)
  | succ j ih =>
    intro args post pre h1 h2 h3 h
    obtain ⟨args', v, rfl⟩ : ∃ l v, args = l ++ [v] := ⟨args.dropLast, args.getLast (fun e => by rw [e] at h1; simp at h1), (List.dropLast_concat_getLast _).symm⟩
    obtain ⟨pre', u, rfl⟩ : ∃ l v, pre = l ++ [v] := ⟨pre.dropLast, pre.getLast (fun e => by rw [e] at h2; simp at h2), (List.dropLast_concat_getLast _).symm⟩
    simp only [List.length_append, List.length_cons, List.length_nil, Nat.zero_add, Nat.add_right_cancel_iff] at h1 h2
    have ej : ((j + 1 : Nat) : Int) - 1 = j := by omega
    rw [ej, spec_l05Top_call_c5_eq, ← List.append_assoc]
    refine ok_geq (ok_ite (fun _ => ?_) (fun h => by omega))
    refine ok_pop (by omega) (by simp; omega) ?_
    have hlen : (pre' ++ [u] ++ post).length = j + 1 + post.length := by simp; omega
    refine ok_vals_inb (by omega) (by omega) (ok_vals_set (by omega) (by omega) (ok_sub (by omega) ?_))
    have e : (pre' ++ [u] ++ post).set (j : Int).toNat v = pre' ++ (v :: post) := by
      rw [Int.toNat_natCast, ← h2, List.append_assoc, List.set_append_right _ _ (Nat.le_refl _), Nat.sub_self]
      rfl
    rw [e]
    refine ih args' (v :: post) pre' h1 h2 (by simp; omega) ?_
    rw [show args' ++ v :: post = args' ++ [v] ++ post by simp]
    exact h
theorem ok_callT {P : R → Prop} {k : R → Option R} {g f pc : Int} {under : Bool} {loc s s1 args : List VlT} (hF : fs.length ≤ 1000) (hpar : ∀ f ∈ fs, 0 ≤ f.p ∧ f.p ≤ 6 ∧ f.p ≤ f.lc ∧ f.lc ≤ 12) (hA : A.length ≤ 23) (hs : s.length ≤ 100)
    (hu : (under = true ∧ ∃ w, s = s1 ++ [w]) ∨ (under = false ∧ s = s1)) (hg : 0 ≤ g ∧ g < fs.length) (ha : args.length = parOf fs g)
    (h1 : A.length = 23 → Ok P (k [T, .lst (fs.map FnT.pv), a2, a3, a4, a5, a6, a7, a8, .int .i64 6, .lst (A ++ [FrT.pv ⟨f, pc, loc, s ++ args⟩]), H, O]))
    (h2 : A.length ≠ 23 → Ok P (k [T, .lst (fs.map FnT.pv), a2, a3, a4, a5, a6, a7, a8, .int .i64 0, .lst (A ++ [FrT.pv ⟨f, pc, loc, s1⟩] ++ [FrT.pv (newF fs g args)]), H, O])) :
    Ok P (bd (spec_l05Top_call (.int .i64 g) (.bool under) T (.lst (fs.map FnT.pv)) a2 a3 a4 a5 a6 a7 a8 (.int .i64 0) (.lst (A ++ [FrT.pv ⟨f, pc, loc, s ++ args⟩])) H O) k) := by
  obtain ⟨n, rfl⟩ := Int.eq_ofNat_of_zero_le hg.1
  have hn : n < fs.length := by omega
  have hp := hpar _ (List.getElem_mem hn)
  have ep : parOf fs (n : Int) = fs[n].p := by simp [parOf, List.getElem?_eq_getElem hn]
  have el : lcOf fs (n : Int) = fs[n].lc := by simp [lcOf, List.getElem?_eq_getElem hn]
  rw [ep] at ha
  have hl : ((A ++ [FrT.pv ⟨f, pc, loc, s ++ args⟩]).length : Int) = A.length + 1 := by simp
  refine ok_call (Q := fun r => (A.length = 23 ∧ r = [T, .lst (fs.map FnT.pv), a2, a3, a4, a5, a6, a7, a8, .int .i64 6, .lst (A ++ [FrT.pv ⟨f, pc, loc, s ++ args⟩]), H, O]) ∨
    (A.length ≠ 23 ∧ r = [T, .lst (fs.map FnT.pv), a2, a3, a4, a5, a6, a7, a8, .int .i64 0, .lst (A ++ [FrT.pv ⟨f, pc, loc, s1⟩] ++ [FrT.pv (newF fs n args)]), H, O])) ?_ ?_
  · rw [spec_l05Top_call_eq]
    refine ok_at_map hn (fun _ => rfl) (ok_whole rfl (ok_cell rfl (ok_cell rfl (ok_cell rfl (ok_len ?_)))))
    refine ok_eql (ok_ite (fun h => ok_some (.inl ⟨by omega, rfl⟩)) (fun h => ?_))
    refine ok_nils (by omega) (by omega) (ok_leq (ok_ite (fun _ => ?_) (fun h => by omega)))
    refine ok_nils (by omega) (by omega) (ok_sub (by omega) ?_)
    have e1 : fs[n].p - 1 = ((args.length : Int)) - 1 := by omega
    have e2 : List.replicate fs[n].lc.toNat vNil = List.replicate args.length vNil ++ List.replicate (fs[n].lc.toNat - args.length) vNil := by
      rw [List.replicate_append_replicate]; congr 1; omega
    rw [e1, e2]
    refine call_c5 (by omega) hs hu args.length args _ _ rfl (by simp) (by simp; omega) (.inr ⟨by omega, ?_⟩)
    simp only [newF, el]
  · rintro r (⟨h, rfl⟩ | ⟨h, rfl⟩)
    · exact h1 h
    · exact h2 h
end
def layOn (v : VlT) : List FrT → List FrT
  | [] => []
  | [f] => [⟨f.f, f.pc, f.loc, f.stk ++ [v]⟩]
  | f :: g :: r => f :: layOn v (g :: r)
theorem layOn_last (v : VlT) : ∀ (l : List FrT) (f : FrT), layOn v (l ++ [f]) = l ++ [⟨f.f, f.pc, f.loc, f.stk ++ [v]⟩]
  | [], _ => rfl
  | [a], f => rfl
  | a :: b :: l, f => by
    show a :: layOn v (b :: l ++ [f]) = _
    rw [layOn_last v (b :: l) f]
    rfl
def DoR (a0 a1 made a3 a4 a5 a6 a7 a8 H O : PV) (fs0 : List FrT) : ActT → R → Prop
  | .trap c, r => c ≠ 0 ∧ gd r 9 = .int .i64 c
  | .next fr hp made' out, r => r = [a0, a1, .int .i64 made', a3, a4, a5, a6, a7, a8, .int .i64 0, .lst (fs0.map FrT.pv ++ [fr.pv]), .lst (hp.map recPV), .lst (out.map PV.str)]
  | .call fr g, r => r = [a0, a1, made, a3, a4, a5, a6, a7, a8, .int .i64 0, .lst (fs0.map FrT.pv ++ [fr.pv] ++ [g.pv]), H, O]
  | .ret v, r => r = if fs0 = [] then [a0, a1, made, .int .i64 1, a4, .int .i64 v.k, .int .i64 v.n, .str v.s, a8, .int .i64 0, .lst [], H, O]
      else [a0, a1, made, a3, a4, a5, a6, a7, a8, .int .i64 0, .lst ((layOn v fs0).map FrT.pv), H, O]
structure Small (m : MdT) (fs0 : List FrT) (fr : FrT) (took : List VlT) (hp : List (List VlT)) (made : Int) (out : List ByteArray) : Prop where
  nf : m.funcs.length ≤ 12
  nt : m.texts.length ≤ 20
  par : ∀ f ∈ m.funcs, 0 ≤ f.p ∧ f.p ≤ 6 ∧ f.p ≤ f.lc ∧ f.lc ≤ 12
  n0 : fs0.length ≤ 23
  stks : ∀ f ∈ fs0, f.stk.length ≤ 16
  nl : fr.loc.length ≤ 12
  ns : fr.stk.length + took.length ≤ 16
  recs : ∀ r ∈ hp, r.length ≤ 6
  nh : hp.length ≤ 120
  nm : 0 ≤ made ∧ made ≤ 120
  no : out.length ≤ 200
  vals : ∀ v ∈ took, valOkB m.funcs.length hp.length v = true
theorem valOk_size {nf recs : Int} {v : VlT} (h : valOkB nf recs v = true) : v.s.size ≤ 60 := by
  by_cases h3 : v.k = 3
  · unfold valOkB at h
    rw [if_neg (fun e => e.1 h3), if_neg (by omega), if_neg (by omega), if_neg (by omega), if_pos h3] at h
    simp only [Bool.and_eq_true, txtOkB, decide_eq_true_eq] at h
    omega
  · unfold valOkB at h
    split at h
    · cases h
    · rename_i hn
      have he : strEq v.s (bs []) = true := by
        cases hs : strEq v.s (bs []) with
        | true => rfl
        | false => exact absurd ⟨h3, hs⟩ hn
      have e0 : (bs []).toList = [] := by rw [Lib.toList_data]; rfl
      unfold strEq at he
      rw [e0] at he
      have hl : v.s.toList = [] := by simpa using he
      have hsz : v.s.size = v.s.toList.length := by
        rw [Lib.toList_data, Array.length_toList]
        rfl
      rw [hsz, hl]
      simp
theorem valOk_rec {nf recs : Int} {v : VlT} (h : valOkB nf recs v = true) (hk : v.k = 4) : 0 ≤ v.n ∧ v.n < recs := by
  unfold valOkB at h
  by_cases hc : v.k ≠ 3 ∧ strEq v.s (bs []) = false
  · rw [if_pos hc] at h; cases h
  · rw [if_neg hc, if_neg (by omega), if_neg (by omega), if_neg (by omega), if_neg (by omega), if_pos hk] at h
    simp only [Bool.and_eq_true, decide_eq_true_eq] at h
    exact h
theorem valOk_fun {nf recs : Int} {v : VlT} (h : valOkB nf recs v = true) (hk : v.k = 5) : 0 ≤ v.n ∧ v.n < nf := by
  unfold valOkB at h
  by_cases hc : v.k ≠ 3 ∧ strEq v.s (bs []) = false
  · rw [if_pos hc] at h; cases h
  · rw [if_neg hc, if_neg (by omega), if_neg (by omega), if_neg (by omega), if_neg (by omega), if_neg (by omega), if_pos hk] at h
    have := bet_iff.1 h
    omega
theorem insOk_inv {nt nf lc nc : Int} {x : InsT} (h : insOkB nt nf lc nc x.o x.a = true) : (1 ≤ x.o ∧ x.o ≤ 26) ∧ (x.o = 3 → 0 ≤ x.a ∧ x.a < nt) ∧ ((x.o = 6 ∨ x.o = 7) → 0 ≤ x.a ∧ x.a < lc) ∧ (x.o = 20 → 0 ≤ x.a ∧ x.a ≤ 6) ∧
    ((x.o = 21 ∨ x.o = 22) → 0 ≤ x.a ∧ x.a ≤ 5) ∧ (x.o = 23 → 0 ≤ x.a ∧ x.a ≤ 6) ∧ ((x.o = 5 ∨ x.o = 24) → 0 ≤ x.a ∧ x.a < nf) ∧ ((x.o = 17 ∨ x.o = 18 ∨ x.o = 19) → 0 ≤ x.a ∧ x.a < nc) ∧ (x.o = 1 → numOkB x.a = true) := by
  unfold insOkB at h
  by_cases h1 : x.o = 1
  · rw [if_pos h1] at h
    have h := bet_iff.1 h
    exact ⟨by omega, fun _ => by omega, fun _ => by omega, fun _ => by omega, fun _ => by omega, fun _ => by omega, fun _ => by omega, fun _ => by omega, fun _ => by first | (unfold numOkB; exact bet_iff.2 (by omega)) | (exfalso; omega)⟩
  rw [if_neg h1] at h
  by_cases h2 : x.o = 2
  · rw [if_pos h2] at h
    have h := bet_iff.1 h
    exact ⟨by omega, fun _ => by omega, fun _ => by omega, fun _ => by omega, fun _ => by omega, fun _ => by omega, fun _ => by omega, fun _ => by omega, fun _ => by first | (unfold numOkB; exact bet_iff.2 (by omega)) | (exfalso; omega)⟩
  rw [if_neg h2] at h
  by_cases h3 : x.o = 3
  · rw [if_pos h3] at h
    have h := bet_iff.1 h
    exact ⟨by omega, fun _ => by omega, fun _ => by omega, fun _ => by omega, fun _ => by omega, fun _ => by omega, fun _ => by omega, fun _ => by omega, fun _ => by first | (unfold numOkB; exact bet_iff.2 (by omega)) | (exfalso; omega)⟩
  rw [if_neg h3] at h
  by_cases h5 : x.o = 5
  · rw [if_pos h5] at h
    have h := bet_iff.1 h
    exact ⟨by omega, fun _ => by omega, fun _ => by omega, fun _ => by omega, fun _ => by omega, fun _ => by omega, fun _ => by omega, fun _ => by omega, fun _ => by first | (unfold numOkB; exact bet_iff.2 (by omega)) | (exfalso; omega)⟩
  rw [if_neg h5] at h
  by_cases h24 : x.o = 24
  · rw [if_pos h24] at h
    have h := bet_iff.1 h
    exact ⟨by omega, fun _ => by omega, fun _ => by omega, fun _ => by omega, fun _ => by omega, fun _ => by omega, fun _ => by omega, fun _ => by omega, fun _ => by first | (unfold numOkB; exact bet_iff.2 (by omega)) | (exfalso; omega)⟩
  rw [if_neg h24] at h
  by_cases h6 : x.o = 6
  · rw [if_pos h6] at h
    have h := bet_iff.1 h
    exact ⟨by omega, fun _ => by omega, fun _ => by omega, fun _ => by omega, fun _ => by omega, fun _ => by omega, fun _ => by omega, fun _ => by omega, fun _ => by first | (unfold numOkB; exact bet_iff.2 (by omega)) | (exfalso; omega)⟩
  rw [if_neg h6] at h
  by_cases h7 : x.o = 7
  · rw [if_pos h7] at h
    have h := bet_iff.1 h
    exact ⟨by omega, fun _ => by omega, fun _ => by omega, fun _ => by omega, fun _ => by omega, fun _ => by omega, fun _ => by omega, fun _ => by omega, fun _ => by first | (unfold numOkB; exact bet_iff.2 (by omega)) | (exfalso; omega)⟩
  rw [if_neg h7] at h
  by_cases h17 : x.o = 17
  · rw [if_pos h17] at h
    have h := bet_iff.1 h
    exact ⟨by omega, fun _ => by omega, fun _ => by omega, fun _ => by omega, fun _ => by omega, fun _ => by omega, fun _ => by omega, fun _ => by omega, fun _ => by first | (unfold numOkB; exact bet_iff.2 (by omega)) | (exfalso; omega)⟩
  rw [if_neg h17] at h
  by_cases h18 : x.o = 18
  · rw [if_pos h18] at h
    have h := bet_iff.1 h
    exact ⟨by omega, fun _ => by omega, fun _ => by omega, fun _ => by omega, fun _ => by omega, fun _ => by omega, fun _ => by omega, fun _ => by omega, fun _ => by first | (unfold numOkB; exact bet_iff.2 (by omega)) | (exfalso; omega)⟩
  rw [if_neg h18] at h
  by_cases h19 : x.o = 19
  · rw [if_pos h19] at h
    have h := bet_iff.1 h
    exact ⟨by omega, fun _ => by omega, fun _ => by omega, fun _ => by omega, fun _ => by omega, fun _ => by omega, fun _ => by omega, fun _ => by omega, fun _ => by first | (unfold numOkB; exact bet_iff.2 (by omega)) | (exfalso; omega)⟩
  rw [if_neg h19] at h
  by_cases h20 : x.o = 20
  · rw [if_pos h20] at h
    have h := bet_iff.1 h
    exact ⟨by omega, fun _ => by omega, fun _ => by omega, fun _ => by omega, fun _ => by omega, fun _ => by omega, fun _ => by omega, fun _ => by omega, fun _ => by first | (unfold numOkB; exact bet_iff.2 (by omega)) | (exfalso; omega)⟩
  rw [if_neg h20] at h
  by_cases h21 : x.o = 21
  · rw [if_pos h21] at h
    have h := bet_iff.1 h
    exact ⟨by omega, fun _ => by omega, fun _ => by omega, fun _ => by omega, fun _ => by omega, fun _ => by omega, fun _ => by omega, fun _ => by omega, fun _ => by first | (unfold numOkB; exact bet_iff.2 (by omega)) | (exfalso; omega)⟩
  rw [if_neg h21] at h
  by_cases h22 : x.o = 22
  · rw [if_pos h22] at h
    have h := bet_iff.1 h
    exact ⟨by omega, fun _ => by omega, fun _ => by omega, fun _ => by omega, fun _ => by omega, fun _ => by omega, fun _ => by omega, fun _ => by omega, fun _ => by first | (unfold numOkB; exact bet_iff.2 (by omega)) | (exfalso; omega)⟩
  rw [if_neg h22] at h
  by_cases h23 : x.o = 23
  · rw [if_pos h23] at h
    have h := bet_iff.1 h
    exact ⟨by omega, fun _ => by omega, fun _ => by omega, fun _ => by omega, fun _ => by omega, fun _ => by omega, fun _ => by omega, fun _ => by omega, fun _ => by first | (unfold numOkB; exact bet_iff.2 (by omega)) | (exfalso; omega)⟩
  rw [if_neg h23] at h
  simp only [Bool.and_eq_true, decide_eq_true_eq, bet_iff] at h
  exact ⟨by omega, fun _ => by omega, fun _ => by omega, fun _ => by omega, fun _ => by omega, fun _ => by omega, fun _ => by omega, fun _ => by omega, fun _ => by first | (unfold numOkB; exact bet_iff.2 (by omega)) | (exfalso; omega)⟩
section
variable {P : R → Prop} {k : PV → Option R} {hp : List (List VlT)}
theorem ok_rec_at {i : Int} (h0 : 0 ≤ i) (h1 : i < hp.length) (h : Ok P (k (recPV (hp[i.toNat]?.getD [])))) : Ok P (bd (PV.at_ 1 true (.lst (hp.map recPV)) (.int .i64 i)) k) := by
  obtain ⟨n, rfl⟩ := Int.eq_ofNat_of_zero_le h0
  have hn : n < hp.length := by omega
  rw [Int.toNat_natCast, List.getElem?_eq_getElem hn] at h
  exact ok_at_map hn (fun _ => rfl) h
theorem ok_rec_inb {i : Int} (h0 : 0 ≤ i) (h1 : i < hp.length) (h : Ok P (k (.lst (hp.map recPV)))) : Ok P (bd (PV.inb (.lst (hp.map recPV)) (.int .i64 i)) k) := ok_inb h0 (by rw [List.length_map]; exact h1) h
theorem ok_rec_set {i : Int} {r : List VlT} (h0 : 0 ≤ i) (h1 : i < hp.length) (h : Ok P (k (.lst ((hp.set i.toNat r).map recPV)))) : Ok P (bd (PV.setCell 1 (.lst (hp.map recPV)) (.int .i64 i) 0 (vals r)) k) := by
  obtain ⟨n, rfl⟩ := Int.eq_ofNat_of_zero_le h0
  have hn : n < hp.length := by omega
  refine ok_setCell (cs := [vals hp[n]]) (by omega) (by rw [Int.toNat_natCast, List.getElem?_map, List.getElem?_eq_getElem hn]; rfl) rfl (by omega) rfl ?_
  rw [List.map_set] at h
  exact h
theorem rec_len {hp : List (List VlT)} (h : ∀ r ∈ hp, r.length ≤ 6) (i : Nat) : (hp[i]?.getD []).length ≤ 6 := by
  cases hx : hp[i]? with
  | none => simp
  | some r => exact h r (List.mem_of_getElem? hx)
end
theorem two_of {α : Type} {l : List α} (h : l.length = 2) : ∃ a b, l = [a, b] := by
  match l, h with
  | [a, b], _ => exact ⟨a, b, rfl⟩
theorem frames_el {l : List FrT} : ∀ x ∈ l.map FrT.pv, x.isEl 4 true = true := by
  intro x hx
  obtain ⟨a, _, rfl⟩ := List.mem_map.1 hx
  rfl
set_option maxRecDepth 100000 in
set_option maxHeartbeats 4000000 in
theorem spec_do {m : MdT} {fs0 : List FrT} {fr : FrT} {took : List VlT} {hp : List (List VlT)} {made : Int} {out : List ByteArray} {x : InsT} {nc : Int} {a3 a4 a5 a6 a7 a8 : PV}
    (S : Small m fs0 fr took hp made out) (hx : insOkB m.texts.length m.funcs.length fr.loc.length nc x.o x.a = true) (hu : (took.length : Int) = (uses m.funcs x).1) :
    Ok (DoR (.lst (m.texts.map PV.str)) (.lst (m.funcs.map FnT.pv)) (.int .i64 made) a3 a4 a5 a6 a7 a8 (.lst (hp.map recPV)) (.lst (out.map PV.str)) fs0 (doT m fr took (fs0.length + 1) hp made out x))
      (spec_l05Top_do (.int .i64 x.o) (.int .i64 x.a) (.lst (m.texts.map PV.str)) (.lst (m.funcs.map FnT.pv)) (.int .i64 made) a3 a4 a5 a6 a7 a8 (.int .i64 0)
        (.lst (fs0.map FrT.pv ++ [FrT.pv ⟨fr.f, fr.pc, fr.loc, fr.stk ++ took⟩])) (.lst (hp.map recPV)) (.lst (out.map PV.str))) := by
  obtain ⟨q26, q3, q67, q20, q2122, q23, q524, qj, q1⟩ := insOk_inv hx
  obtain ⟨nf, nt, par, n0, stks, nl, ns, recs, nh, nm, no, vals0⟩ := S
  have nA : (fs0.map FrT.pv).length ≤ 23 := by rw [List.length_map]; exact n0
  obtain ⟨ff, fpc, floc, fstk⟩ := fr
  simp only at *
  rw [spec_l05Top_do_eq]
  refine ok_frame (by omega) ?_
  refine ok_eql (ok_ite (fun ho => ?_) (fun n1 => ?_))
  · have e0 : uses m.funcs x = (0, 1) := by unfold uses; repeat (first | rfl | rw [if_pos (by omega)] | rw [if_neg (by omega)])
    rw [e0] at hu
    obtain rfl := List.eq_nil_of_length_eq_zero (show took.length = 0 by omega)
    simp only [List.length_nil, Nat.add_zero, List.append_nil] at ns ⊢
    have e : doT m ⟨ff, fpc, floc, fstk⟩ [] (fs0.length + 1) hp made out x = .next ⟨ff, fpc, floc, fstk ++ [vInt x.a]⟩ hp made out := by simp only [doT]; repeat (first | rfl | rw [if_pos (by omega)] | rw [if_neg (by omega)])
    exact ok_int04 (ok_push (by omega) (by omega) (ok_some (by rw [e]; rfl)))
  refine ok_eql (ok_ite (fun ho => ?_) (fun n2 => ?_))
  · have e0 : uses m.funcs x = (0, 1) := by unfold uses; repeat (first | rfl | rw [if_pos (by omega)] | rw [if_neg (by omega)])
    rw [e0] at hu
    obtain rfl := List.eq_nil_of_length_eq_zero (show took.length = 0 by omega)
    simp only [List.length_nil, Nat.add_zero, List.append_nil] at ns ⊢
    have e : doT m ⟨ff, fpc, floc, fstk⟩ [] (fs0.length + 1) hp made out x = .next ⟨ff, fpc, floc, fstk ++ [vBool (decide (x.a = 1))]⟩ hp made out := by simp only [doT]; repeat (first | rfl | rw [if_pos (by omega)] | rw [if_neg (by omega)])
    exact ok_eql (ok_bool04 (ok_push (by omega) (by omega) (ok_some (by rw [e]; rfl))))
  refine ok_eql (ok_ite (fun ho => ?_) (fun n3 => ?_))
  · have e0 : uses m.funcs x = (0, 1) := by unfold uses; repeat (first | rfl | rw [if_pos (by omega)] | rw [if_neg (by omega)])
    rw [e0] at hu
    obtain rfl := List.eq_nil_of_length_eq_zero (show took.length = 0 by omega)
    simp only [List.length_nil, Nat.add_zero, List.append_nil] at ns ⊢
    have e : doT m ⟨ff, fpc, floc, fstk⟩ [] (fs0.length + 1) hp made out x = .next ⟨ff, fpc, floc, fstk ++ [vText (m.texts[x.a.toNat]?.getD (bs []))]⟩ hp made out := by simp only [doT]; repeat (first | rfl | rw [if_pos (by omega)] | rw [if_neg (by omega)])
    obtain ⟨i, hi⟩ := Int.eq_ofNat_of_zero_le (q3 ho).1
    have hil : i < m.texts.length := by have := q3 ho; omega
    rw [hi] at e ⊢
    rw [Int.toNat_natCast, List.getElem?_eq_getElem hil] at e
    exact ok_at_map hil (fun _ => rfl) (ok_one rfl (ok_push1 (by omega) (by omega) (ok_some (by rw [e]; rfl))))
  refine ok_eql (ok_ite (fun ho => ?_) (fun n4 => ?_))
  · have e0 : uses m.funcs x = (0, 1) := by unfold uses; repeat (first | rfl | rw [if_pos (by omega)] | rw [if_neg (by omega)])
    rw [e0] at hu
    obtain rfl := List.eq_nil_of_length_eq_zero (show took.length = 0 by omega)
    simp only [List.length_nil, Nat.add_zero, List.append_nil] at ns ⊢
    have e : doT m ⟨ff, fpc, floc, fstk⟩ [] (fs0.length + 1) hp made out x = .next ⟨ff, fpc, floc, fstk ++ [vNil]⟩ hp made out := by simp only [doT]; repeat (first | rfl | rw [if_pos (by omega)] | rw [if_neg (by omega)])
    exact ok_push1 (by omega) (by omega) (ok_some (by rw [e]; rfl))
  refine ok_eql (ok_ite (fun ho => ?_) (fun n5 => ?_))
  · have e0 : uses m.funcs x = (0, 1) := by unfold uses; repeat (first | rfl | rw [if_pos (by omega)] | rw [if_neg (by omega)])
    rw [e0] at hu
    obtain rfl := List.eq_nil_of_length_eq_zero (show took.length = 0 by omega)
    simp only [List.length_nil, Nat.add_zero, List.append_nil] at ns ⊢
    have e : doT m ⟨ff, fpc, floc, fstk⟩ [] (fs0.length + 1) hp made out x = .next ⟨ff, fpc, floc, fstk ++ [vFun x.a]⟩ hp made out := by simp only [doT]; repeat (first | rfl | rw [if_pos (by omega)] | rw [if_neg (by omega)])
    exact ok_one rfl (ok_push1 (by omega) (by omega) (ok_some (by rw [e]; rfl)))
  refine ok_eql (ok_ite (fun ho => ?_) (fun n6 => ?_))
  · have e0 : uses m.funcs x = (0, 1) := by unfold uses; repeat (first | rfl | rw [if_pos (by omega)] | rw [if_neg (by omega)])
    rw [e0] at hu
    obtain rfl := List.eq_nil_of_length_eq_zero (show took.length = 0 by omega)
    simp only [List.length_nil, Nat.add_zero, List.append_nil] at ns ⊢
    have e : doT m ⟨ff, fpc, floc, fstk⟩ [] (fs0.length + 1) hp made out x = .next ⟨ff, fpc, floc, fstk ++ [floc[x.a.toNat]?.getD vNil]⟩ hp made out := by simp only [doT]; repeat (first | rfl | rw [if_pos (by omega)] | rw [if_neg (by omega)])
    have hq := q67 (.inl ho)
    refine ok_last_at rfl rfl (ok_last_at rfl rfl (ok_cell (y := vals floc) rfl (ok_vals_inb (by omega) (by omega) (ok_last_at rfl rfl (ok_cell (y := vals floc) rfl (ok_vals_at (by omega) (by omega) (fun v hv => ?_)))))))
    rw [hv] at e
    exact ok_push (by omega) (by omega) (ok_some (by rw [e]; rfl))
  refine ok_eql (ok_ite (fun ho => ?_) (fun n7 => ?_))
  · have e0 : uses m.funcs x = (1, 0) := by unfold uses; repeat (first | rfl | rw [if_pos (by omega)] | rw [if_neg (by omega)])
    rw [e0] at hu
    obtain ⟨a, rfl⟩ := List.length_eq_one_iff.1 (show took.length = 1 by omega)
    have va := vals0 a (by simp)
    have sa := valOk_size va
    have ns : fstk.length + 1 ≤ 16 := ns
    have e : doT m ⟨ff, fpc, floc, fstk⟩ [a] (fs0.length + 1) hp made out x = .next ⟨ff, fpc, floc.set x.a.toNat a, fstk⟩ hp made out := by simp only [doT]; repeat (first | rfl | rw [if_pos (by omega)] | rw [if_neg (by omega)])
    have hq := q67 (.inr ho)
    refine ok_pop (by omega) (by first | omega | (simp; omega)) (ok_whole rfl (ok_cell rfl (ok_cell rfl (ok_cell rfl (?_)))))
    refine ok_last_at rfl rfl (ok_last_at rfl rfl (ok_cell (y := vals floc) rfl (ok_vals_inb (by omega) (by omega) (ok_last_at rfl rfl (ok_cell (y := vals floc) rfl (ok_last_at rfl rfl (ok_cell (y := vals floc) rfl ?_)))))))
    refine ok_vals_set (v := a) (by omega) (by omega) (ok_last_at rfl rfl (ok_cell (y := vals floc) rfl (ok_last_set rfl rfl (by omega) rfl (ok_some (by rw [e]; rfl)))))
  refine ok_eql (ok_ite (fun ho => ?_) (fun n8 => ?_))
  · have e0 : uses m.funcs x = (1, 2) := by unfold uses; repeat (first | rfl | rw [if_pos (by omega)] | rw [if_neg (by omega)])
    rw [e0] at hu
    obtain ⟨a, rfl⟩ := List.length_eq_one_iff.1 (show took.length = 1 by omega)
    have va := vals0 a (by simp)
    have sa := valOk_size va
    have ns : fstk.length + 1 ≤ 16 := ns
    have e : doT m ⟨ff, fpc, floc, fstk⟩ [a] (fs0.length + 1) hp made out x = .next ⟨ff, fpc, floc, fstk ++ [a, a]⟩ hp made out := by simp only [doT]; repeat (first | rfl | rw [if_pos (by omega)] | rw [if_neg (by omega)])
    refine ok_pop (by omega) (by first | omega | (simp; omega)) (ok_whole rfl (ok_cell rfl (ok_cell rfl (ok_cell rfl (?_)))))
    refine ok_push1 (by omega) (by omega) (ok_push1 (by omega) (by simp; omega) (ok_some ?_))
    rw [e]
    show _ = _
    simp only [List.append_assoc]
    rfl
  refine ok_eql (ok_ite (fun ho => ?_) (fun n9 => ?_))
  · have e0 : uses m.funcs x = (1, 0) := by unfold uses; repeat (first | rfl | rw [if_pos (by omega)] | rw [if_neg (by omega)])
    rw [e0] at hu
    obtain ⟨a, rfl⟩ := List.length_eq_one_iff.1 (show took.length = 1 by omega)
    have va := vals0 a (by simp)
    have sa := valOk_size va
    have ns : fstk.length + 1 ≤ 16 := ns
    have e : doT m ⟨ff, fpc, floc, fstk⟩ [a] (fs0.length + 1) hp made out x = .next ⟨ff, fpc, floc, fstk ++ []⟩ hp made out := by simp only [doT]; repeat (first | rfl | rw [if_pos (by omega)] | rw [if_neg (by omega)])
    refine ok_pop (by omega) (by first | omega | (simp; omega)) (ok_some ?_)
    rw [e, List.append_nil]
    rfl
  refine ok_eql (ok_ite (fun ho => ?_) (fun n10 => ?_))
  · have e0 : uses m.funcs x = (2, 2) := by unfold uses; repeat (first | rfl | rw [if_pos (by omega)] | rw [if_neg (by omega)])
    rw [e0] at hu
    obtain ⟨a, b, rfl⟩ := two_of (show took.length = 2 by omega)
    have va := vals0 a (by simp)
    have vb := vals0 b (by simp)
    have sa := valOk_size va
    have sb := valOk_size vb
    rw [show fstk ++ [a, b] = fstk ++ [a] ++ [b] by simp]
    have ns : fstk.length + 2 ≤ 16 := ns
    have e : doT m ⟨ff, fpc, floc, fstk⟩ [a, b] (fs0.length + 1) hp made out x = .next ⟨ff, fpc, floc, fstk ++ [b, a]⟩ hp made out := by simp only [doT]; repeat (first | rfl | rw [if_pos (by omega)] | rw [if_neg (by omega)])
    refine ok_pop (by omega) (by first | omega | (simp; omega)) (ok_whole rfl (ok_cell rfl (ok_cell rfl (ok_cell rfl (?_)))))
    refine ok_pop (by omega) (by first | omega | (simp; omega)) (ok_whole rfl (ok_cell rfl (ok_cell rfl (ok_cell rfl (?_)))))
    refine ok_push1 (by omega) (by omega) (ok_push1 (by omega) (by simp; omega) (ok_some ?_))
    rw [e]
    show _ = _
    simp only [List.append_assoc]
    rfl
  refine ok_eql (ok_ite (fun ho => ?_) (fun n11 => ?_))
  · have e0 : uses m.funcs x = (2, 1) := by unfold uses; repeat (first | rfl | rw [if_pos (by omega)] | rw [if_neg (by omega)])
    rw [e0] at hu
    obtain ⟨a, b, rfl⟩ := two_of (show took.length = 2 by omega)
    have va := vals0 a (by simp)
    have vb := vals0 b (by simp)
    have sa := valOk_size va
    have sb := valOk_size vb
    rw [show fstk ++ [a, b] = fstk ++ [a] ++ [b] by simp]
    have ns : fstk.length + 2 ≤ 16 := ns
    have e : doT m ⟨ff, fpc, floc, fstk⟩ [a, b] (fs0.length + 1) hp made out x = if (opT x.o a b).2 ≠ 0 then .trap (opT x.o a b).2 else .next ⟨ff, fpc, floc, fstk ++ [(opT x.o a b).1]⟩ hp made out := by simp only [doT]; repeat (first | rfl | rw [if_pos (by omega)] | rw [if_neg (by omega)])
    refine ok_pop (by omega) (by first | omega | (simp; omega)) (ok_whole rfl (ok_cell rfl (ok_cell rfl (ok_cell rfl (?_)))))
    refine ok_pop (by omega) (by first | omega | (simp; omega)) (ok_whole rfl (ok_cell rfl (ok_cell rfl (ok_cell rfl (?_)))))
    refine ok_opR (spec_op (o := x.o) (a := a) (b := b) (by omega) ⟨by omega, by omega⟩) (ok_comp rfl (ok_comp rfl (ok_whole rfl (ok_cell rfl (ok_cell rfl (ok_cell rfl (ok_one rfl (ok_push1 (by omega) (by omega) (ok_some ?_)))))))))
    by_cases ht : (opT x.o a b).2 ≠ 0
    · rw [e, if_pos ht]; exact ⟨ht, rfl⟩
    · rw [e, if_neg ht]
      have ht : (opT x.o a b).2 = 0 := by simpa using ht
      rw [ht]; rfl
  refine ok_eql (ok_ite (fun ho => ?_) (fun n12 => ?_))
  · have e0 : uses m.funcs x = (2, 1) := by unfold uses; repeat (first | rfl | rw [if_pos (by omega)] | rw [if_neg (by omega)])
    rw [e0] at hu
    obtain ⟨a, b, rfl⟩ := two_of (show took.length = 2 by omega)
    have va := vals0 a (by simp)
    have vb := vals0 b (by simp)
    have sa := valOk_size va
    have sb := valOk_size vb
    rw [show fstk ++ [a, b] = fstk ++ [a] ++ [b] by simp]
    have ns : fstk.length + 2 ≤ 16 := ns
    have e : doT m ⟨ff, fpc, floc, fstk⟩ [a, b] (fs0.length + 1) hp made out x = if (opT x.o a b).2 ≠ 0 then .trap (opT x.o a b).2 else .next ⟨ff, fpc, floc, fstk ++ [(opT x.o a b).1]⟩ hp made out := by simp only [doT]; repeat (first | rfl | rw [if_pos (by omega)] | rw [if_neg (by omega)])
    refine ok_pop (by omega) (by first | omega | (simp; omega)) (ok_whole rfl (ok_cell rfl (ok_cell rfl (ok_cell rfl (?_)))))
    refine ok_pop (by omega) (by first | omega | (simp; omega)) (ok_whole rfl (ok_cell rfl (ok_cell rfl (ok_cell rfl (?_)))))
    refine ok_opR (spec_op (o := x.o) (a := a) (b := b) (by omega) ⟨by omega, by omega⟩) (ok_comp rfl (ok_comp rfl (ok_whole rfl (ok_cell rfl (ok_cell rfl (ok_cell rfl (ok_one rfl (ok_push1 (by omega) (by omega) (ok_some ?_)))))))))
    by_cases ht : (opT x.o a b).2 ≠ 0
    · rw [e, if_pos ht]; exact ⟨ht, rfl⟩
    · rw [e, if_neg ht]
      have ht : (opT x.o a b).2 = 0 := by simpa using ht
      rw [ht]; rfl
  refine ok_eql (ok_ite (fun ho => ?_) (fun n13 => ?_))
  · have e0 : uses m.funcs x = (2, 1) := by unfold uses; repeat (first | rfl | rw [if_pos (by omega)] | rw [if_neg (by omega)])
    rw [e0] at hu
    obtain ⟨a, b, rfl⟩ := two_of (show took.length = 2 by omega)
    have va := vals0 a (by simp)
    have vb := vals0 b (by simp)
    have sa := valOk_size va
    have sb := valOk_size vb
    rw [show fstk ++ [a, b] = fstk ++ [a] ++ [b] by simp]
    have ns : fstk.length + 2 ≤ 16 := ns
    have e : doT m ⟨ff, fpc, floc, fstk⟩ [a, b] (fs0.length + 1) hp made out x = if (opT x.o a b).2 ≠ 0 then .trap (opT x.o a b).2 else .next ⟨ff, fpc, floc, fstk ++ [(opT x.o a b).1]⟩ hp made out := by simp only [doT]; repeat (first | rfl | rw [if_pos (by omega)] | rw [if_neg (by omega)])
    refine ok_pop (by omega) (by first | omega | (simp; omega)) (ok_whole rfl (ok_cell rfl (ok_cell rfl (ok_cell rfl (?_)))))
    refine ok_pop (by omega) (by first | omega | (simp; omega)) (ok_whole rfl (ok_cell rfl (ok_cell rfl (ok_cell rfl (?_)))))
    refine ok_opR (spec_op (o := x.o) (a := a) (b := b) (by omega) ⟨by omega, by omega⟩) (ok_comp rfl (ok_comp rfl (ok_whole rfl (ok_cell rfl (ok_cell rfl (ok_cell rfl (ok_one rfl (ok_push1 (by omega) (by omega) (ok_some ?_)))))))))
    by_cases ht : (opT x.o a b).2 ≠ 0
    · rw [e, if_pos ht]; exact ⟨ht, rfl⟩
    · rw [e, if_neg ht]
      have ht : (opT x.o a b).2 = 0 := by simpa using ht
      rw [ht]; rfl
  refine ok_eql (ok_ite (fun ho => ?_) (fun n14 => ?_))
  · have e0 : uses m.funcs x = (2, 1) := by unfold uses; repeat (first | rfl | rw [if_pos (by omega)] | rw [if_neg (by omega)])
    rw [e0] at hu
    obtain ⟨a, b, rfl⟩ := two_of (show took.length = 2 by omega)
    have va := vals0 a (by simp)
    have vb := vals0 b (by simp)
    have sa := valOk_size va
    have sb := valOk_size vb
    rw [show fstk ++ [a, b] = fstk ++ [a] ++ [b] by simp]
    have ns : fstk.length + 2 ≤ 16 := ns
    have e : doT m ⟨ff, fpc, floc, fstk⟩ [a, b] (fs0.length + 1) hp made out x = if (opT x.o a b).2 ≠ 0 then .trap (opT x.o a b).2 else .next ⟨ff, fpc, floc, fstk ++ [(opT x.o a b).1]⟩ hp made out := by simp only [doT]; repeat (first | rfl | rw [if_pos (by omega)] | rw [if_neg (by omega)])
    refine ok_pop (by omega) (by first | omega | (simp; omega)) (ok_whole rfl (ok_cell rfl (ok_cell rfl (ok_cell rfl (?_)))))
    refine ok_pop (by omega) (by first | omega | (simp; omega)) (ok_whole rfl (ok_cell rfl (ok_cell rfl (ok_cell rfl (?_)))))
    refine ok_opR (spec_op (o := x.o) (a := a) (b := b) (by omega) ⟨by omega, by omega⟩) (ok_comp rfl (ok_comp rfl (ok_whole rfl (ok_cell rfl (ok_cell rfl (ok_cell rfl (ok_one rfl (ok_push1 (by omega) (by omega) (ok_some ?_)))))))))
    by_cases ht : (opT x.o a b).2 ≠ 0
    · rw [e, if_pos ht]; exact ⟨ht, rfl⟩
    · rw [e, if_neg ht]
      have ht : (opT x.o a b).2 = 0 := by simpa using ht
      rw [ht]; rfl
  refine ok_eql (ok_ite (fun ho => ?_) (fun n15 => ?_))
  · have e0 : uses m.funcs x = (2, 1) := by unfold uses; repeat (first | rfl | rw [if_pos (by omega)] | rw [if_neg (by omega)])
    rw [e0] at hu
    obtain ⟨a, b, rfl⟩ := two_of (show took.length = 2 by omega)
    have va := vals0 a (by simp)
    have vb := vals0 b (by simp)
    have sa := valOk_size va
    have sb := valOk_size vb
    rw [show fstk ++ [a, b] = fstk ++ [a] ++ [b] by simp]
    have ns : fstk.length + 2 ≤ 16 := ns
    have e : doT m ⟨ff, fpc, floc, fstk⟩ [a, b] (fs0.length + 1) hp made out x = if (opT x.o a b).2 ≠ 0 then .trap (opT x.o a b).2 else .next ⟨ff, fpc, floc, fstk ++ [(opT x.o a b).1]⟩ hp made out := by simp only [doT]; repeat (first | rfl | rw [if_pos (by omega)] | rw [if_neg (by omega)])
    refine ok_pop (by omega) (by first | omega | (simp; omega)) (ok_whole rfl (ok_cell rfl (ok_cell rfl (ok_cell rfl (?_)))))
    refine ok_pop (by omega) (by first | omega | (simp; omega)) (ok_whole rfl (ok_cell rfl (ok_cell rfl (ok_cell rfl (?_)))))
    refine ok_opR (spec_op (o := x.o) (a := a) (b := b) (by omega) ⟨by omega, by omega⟩) (ok_comp rfl (ok_comp rfl (ok_whole rfl (ok_cell rfl (ok_cell rfl (ok_cell rfl (ok_one rfl (ok_push1 (by omega) (by omega) (ok_some ?_)))))))))
    by_cases ht : (opT x.o a b).2 ≠ 0
    · rw [e, if_pos ht]; exact ⟨ht, rfl⟩
    · rw [e, if_neg ht]
      have ht : (opT x.o a b).2 = 0 := by simpa using ht
      rw [ht]; rfl
  refine ok_eql (ok_ite (fun ho => ?_) (fun n16 => ?_))
  · have e0 : uses m.funcs x = (1, 1) := by unfold uses; repeat (first | rfl | rw [if_pos (by omega)] | rw [if_neg (by omega)])
    rw [e0] at hu
    obtain ⟨a, rfl⟩ := List.length_eq_one_iff.1 (show took.length = 1 by omega)
    have va := vals0 a (by simp)
    have sa := valOk_size va
    have ns : fstk.length + 1 ≤ 16 := ns
    have e : doT m ⟨ff, fpc, floc, fstk⟩ [a] (fs0.length + 1) hp made out x = if (notT a).2 ≠ 0 then .trap (notT a).2 else .next ⟨ff, fpc, floc, fstk ++ [(notT a).1]⟩ hp made out := by simp only [doT]; repeat (first | rfl | rw [if_pos (by omega)] | rw [if_neg (by omega)])
    refine ok_pop (by omega) (by first | omega | (simp; omega)) (?_)
    refine ok_opR (spec_not (v := a)) (ok_comp rfl (ok_comp rfl (ok_whole rfl (ok_cell rfl (ok_cell rfl (ok_cell rfl (ok_one rfl (ok_push1 (by omega) (by omega) (ok_some ?_)))))))))
    by_cases ht : (notT a).2 ≠ 0
    · rw [e, if_pos ht]; exact ⟨ht, rfl⟩
    · rw [e, if_neg ht]
      have ht : (notT a).2 = 0 := by simpa using ht
      rw [ht]; rfl
  refine ok_eql (ok_ite (fun ho => ?_) (fun n17 => ?_))
  · have e0 : uses m.funcs x = (0, 0) := by unfold uses; repeat (first | rfl | rw [if_pos (by omega)] | rw [if_neg (by omega)])
    rw [e0] at hu
    obtain rfl := List.eq_nil_of_length_eq_zero (show took.length = 0 by omega)
    simp only [List.length_nil, Nat.add_zero, List.append_nil] at ns ⊢
    have e : doT m ⟨ff, fpc, floc, fstk⟩ [] (fs0.length + 1) hp made out x = .next ⟨ff, x.a, floc, fstk⟩ hp made out := by simp only [doT]; repeat (first | rfl | rw [if_pos (by omega)] | rw [if_neg (by omega)])
    exact ok_one rfl (ok_last_set rfl rfl (by omega) rfl (ok_some (by rw [e]; rfl)))
  refine ok_eql (ok_ite (fun ho => ?_) (fun n18 => ?_))
  · have e0 : uses m.funcs x = (1, 0) := by unfold uses; repeat (first | rfl | rw [if_pos (by omega)] | rw [if_neg (by omega)])
    rw [e0] at hu
    obtain ⟨a, rfl⟩ := List.length_eq_one_iff.1 (show took.length = 1 by omega)
    have va := vals0 a (by simp)
    have sa := valOk_size va
    have ns : fstk.length + 1 ≤ 16 := ns
    have e : doT m ⟨ff, fpc, floc, fstk⟩ [a] (fs0.length + 1) hp made out x = if a.k ≠ 2 then .trap 1 else if (decide (a.n = 1) == decide (x.o = 18)) = true then .next ⟨ff, x.a, floc, fstk⟩ hp made out else .next ⟨ff, fpc, floc, fstk ++ []⟩ hp made out := by simp only [doT]; repeat (first | rfl | rw [if_pos (by omega)] | rw [if_neg (by omega)])
    refine ok_pop (by omega) (by first | omega | (simp; omega)) (ok_whole rfl (ok_cell rfl (ok_cell rfl (ok_cell rfl (?_)))))
    refine ok_neq (ok_ite_not (fun h => ok_some (by rw [e, if_pos h]; exact ⟨by omega, rfl⟩)) (fun h => ?_))
    rw [if_neg (by simpa using h)] at e
    refine ok_eql (ok_eql (ok_beq_eql (ok_ite_b (fun hb => ?_) (fun hb => ?_))))
    · rw [if_pos hb] at e
      exact ok_one rfl (ok_last_set rfl rfl (by omega) rfl (ok_some (by rw [e]; rfl)))
    · rw [if_neg (by rw [hb]; simp)] at e
      exact ok_some (by rw [e, List.append_nil]; rfl)
  refine ok_eql (ok_ite (fun ho => ?_) (fun n19 => ?_))
  · have e0 : uses m.funcs x = (1, 0) := by unfold uses; repeat (first | rfl | rw [if_pos (by omega)] | rw [if_neg (by omega)])
    rw [e0] at hu
    obtain ⟨a, rfl⟩ := List.length_eq_one_iff.1 (show took.length = 1 by omega)
    have va := vals0 a (by simp)
    have sa := valOk_size va
    have ns : fstk.length + 1 ≤ 16 := ns
    have e : doT m ⟨ff, fpc, floc, fstk⟩ [a] (fs0.length + 1) hp made out x = if a.k ≠ 2 then .trap 1 else if (decide (a.n = 1) == decide (x.o = 18)) = true then .next ⟨ff, x.a, floc, fstk⟩ hp made out else .next ⟨ff, fpc, floc, fstk ++ []⟩ hp made out := by simp only [doT]; repeat (first | rfl | rw [if_pos (by omega)] | rw [if_neg (by omega)])
    refine ok_pop (by omega) (by first | omega | (simp; omega)) (ok_whole rfl (ok_cell rfl (ok_cell rfl (ok_cell rfl (?_)))))
    refine ok_neq (ok_ite_not (fun h => ok_some (by rw [e, if_pos h]; exact ⟨by omega, rfl⟩)) (fun h => ?_))
    rw [if_neg (by simpa using h)] at e
    refine ok_eql (ok_eql (ok_beq_eql (ok_ite_b (fun hb => ?_) (fun hb => ?_))))
    · rw [if_pos hb] at e
      exact ok_one rfl (ok_last_set rfl rfl (by omega) rfl (ok_some (by rw [e]; rfl)))
    · rw [if_neg (by rw [hb]; simp)] at e
      exact ok_some (by rw [e, List.append_nil]; rfl)
  refine ok_eql (ok_ite (fun ho => ?_) (fun n20 => ?_))
  · have e0 : uses m.funcs x = (0, 1) := by unfold uses; repeat (first | rfl | rw [if_pos (by omega)] | rw [if_neg (by omega)])
    rw [e0] at hu
    obtain rfl := List.eq_nil_of_length_eq_zero (show took.length = 0 by omega)
    simp only [List.length_nil, Nat.add_zero, List.append_nil] at ns ⊢
    have e : doT m ⟨ff, fpc, floc, fstk⟩ [] (fs0.length + 1) hp made out x = if made = 120 then .trap 7 else .next ⟨ff, fpc, floc, fstk ++ [vRec hp.length]⟩ (hp ++ [List.replicate x.a.toNat vNil]) (made + 1) out := by simp only [doT]; repeat (first | rfl | rw [if_pos (by omega)] | rw [if_neg (by omega)])
    have hq := q20 ho
    refine ok_eql (ok_ite (fun h => ok_some (by rw [e, if_pos h]; exact ⟨by omega, rfl⟩)) (fun h => ?_))
    rw [if_neg h] at e
    refine ok_len_map (ok_one rfl (ok_push1 (by omega) (by omega) (?_)))
    refine ok_nils (by omega) (by omega) (ok_leq (ok_ite (fun _ => ?_) (fun h => by omega)))
    refine ok_nils (by omega) (by omega) (ok_cat (by simp; omega) (fun x hx => by simp only [List.mem_singleton] at hx; subst hx; rfl) (ok_add (by omega) (ok_one rfl (ok_some ?_))))
    rw [e]
    show _ = _
    rw [List.map_append]
    rfl
  refine ok_eql (ok_ite (fun ho => ?_) (fun n21 => ?_))
  · have e0 : uses m.funcs x = (1, 1) := by unfold uses; repeat (first | rfl | rw [if_pos (by omega)] | rw [if_neg (by omega)])
    rw [e0] at hu
    obtain ⟨a, rfl⟩ := List.length_eq_one_iff.1 (show took.length = 1 by omega)
    have va := vals0 a (by simp)
    have sa := valOk_size va
    have ns : fstk.length + 1 ≤ 16 := ns
    have e : doT m ⟨ff, fpc, floc, fstk⟩ [a] (fs0.length + 1) hp made out x = if a.k ≠ 4 then .trap 1 else if (hp[a.n.toNat]?.getD []).length ≤ x.a then .trap 4 else .next ⟨ff, fpc, floc, fstk ++ [(hp[a.n.toNat]?.getD [])[x.a.toNat]?.getD vNil]⟩ hp made out := by simp only [doT]; repeat (first | rfl | rw [if_pos (by omega)] | rw [if_neg (by omega)])
    refine ok_pop (by omega) (by first | omega | (simp; omega)) (ok_whole rfl (ok_cell rfl (ok_cell rfl (ok_cell rfl (?_)))))
    have hq := q2122 (.inl ho)
    refine ok_neq (ok_ite_not (fun h => ok_some (by rw [e, if_pos h]; exact ⟨by omega, rfl⟩)) (fun h => ?_))
    rw [if_neg (by simpa using h)] at e
    have hr := valOk_rec va h
    have hlen := rec_len recs a.n.toNat
    refine ok_rec_inb (by omega) (by omega) (ok_rec_at (by omega) (by omega) (ok_rec_at (by omega) (by omega) (ok_cell rfl (ok_vals_len ?_))))
    refine ok_geq (ok_ite (fun h => ok_some (by rw [e, if_pos h]; exact ⟨by omega, rfl⟩)) (fun h => ?_))
    rw [if_neg h] at e
    refine ok_rec_inb (by omega) (by omega) (ok_rec_at (by omega) (by omega) (ok_rec_at (by omega) (by omega) (ok_cell rfl (ok_vals_inb (by omega) (by omega) (ok_rec_at (by omega) (by omega) (ok_cell rfl ?_))))))
    refine ok_vals_at (by omega) (by omega) (fun v hv => ?_)
    rw [hv] at e
    exact ok_push (by omega) (by omega) (ok_some (by rw [e]; rfl))
  refine ok_eql (ok_ite (fun ho => ?_) (fun n22 => ?_))
  · have e0 : uses m.funcs x = (2, 0) := by unfold uses; repeat (first | rfl | rw [if_pos (by omega)] | rw [if_neg (by omega)])
    rw [e0] at hu
    obtain ⟨a, b, rfl⟩ := two_of (show took.length = 2 by omega)
    have va := vals0 a (by simp)
    have vb := vals0 b (by simp)
    have sa := valOk_size va
    have sb := valOk_size vb
    rw [show fstk ++ [a, b] = fstk ++ [a] ++ [b] by simp]
    have ns : fstk.length + 2 ≤ 16 := ns
    have e : doT m ⟨ff, fpc, floc, fstk⟩ [a, b] (fs0.length + 1) hp made out x = if a.k ≠ 4 then .trap 1 else if (hp[a.n.toNat]?.getD []).length ≤ x.a then .trap 4 else .next ⟨ff, fpc, floc, fstk⟩ (hp.set a.n.toNat ((hp[a.n.toNat]?.getD []).set x.a.toNat b)) made out := by simp only [doT]; repeat (first | rfl | rw [if_pos (by omega)] | rw [if_neg (by omega)])
    refine ok_pop (by omega) (by first | omega | (simp; omega)) (ok_whole rfl (ok_cell rfl (ok_cell rfl (ok_cell rfl (?_)))))
    refine ok_pop (by omega) (by first | omega | (simp; omega)) (ok_whole rfl (ok_cell rfl (ok_cell rfl (ok_cell rfl (?_)))))
    have hq := q2122 (.inr ho)
    refine ok_neq (ok_ite_not (fun h => ok_some (by rw [e, if_pos h]; exact ⟨by omega, rfl⟩)) (fun h => ?_))
    rw [if_neg (by simpa using h)] at e
    have hr := valOk_rec va h
    have hlen := rec_len recs a.n.toNat
    refine ok_rec_inb (by omega) (by omega) (ok_rec_at (by omega) (by omega) (ok_rec_at (by omega) (by omega) (ok_cell rfl (ok_vals_len ?_))))
    refine ok_geq (ok_ite (fun h => ok_some (by rw [e, if_pos h]; exact ⟨by omega, rfl⟩)) (fun h => ?_))
    rw [if_neg h] at e
    refine ok_rec_inb (by omega) (by omega) (ok_rec_at (by omega) (by omega) (ok_rec_at (by omega) (by omega) (ok_cell rfl (ok_vals_inb (by omega) (by omega) (ok_rec_at (by omega) (by omega) (ok_cell rfl ?_))))))
    refine ok_rec_at (by omega) (by omega) (ok_cell rfl (ok_vals_set (v := b) (by omega) (by omega) (ok_rec_at (by omega) (by omega) (ok_cell rfl (ok_rec_set (by omega) (by omega) (ok_some (by rw [e]; rfl)))))))
  refine ok_eql (ok_ite (fun ho => ?_) (fun n23 => ?_))
  · have hq := q23 ho
    have e0 : uses m.funcs x = (x.a + 1, 1) := by unfold uses; repeat (first | rfl | rw [if_pos (by omega)] | rw [if_neg (by omega)])
    rw [e0] at hu
    obtain ⟨a, args, rfl⟩ : ∃ a l, took = a :: l := by
      cases took with
      | nil => simp at hu; omega
      | cons a l => exact ⟨a, l, rfl⟩
    have va := vals0 a (by simp)
    have sa := valOk_size va
    have ns : fstk.length + (args.length + 1) ≤ 16 := ns
    have hu : ((args.length + 1 : Nat) : Int) = x.a + 1 := hu
    have e : doT m ⟨ff, fpc, floc, fstk⟩ (a :: args) (fs0.length + 1) hp made out x = if a.k ≠ 5 then .trap 1 else if parOf m.funcs a.n ≠ x.a then .trap 5 else if fs0.length + 1 = 24 then .trap 6 else .call ⟨ff, fpc, floc, fstk⟩ (newF m.funcs a.n args) := by simp only [doT]; repeat (first | rfl | rw [if_pos (by omega)] | rw [if_neg (by omega)])
    have hlen : (fstk ++ a :: args).length = fstk.length + args.length + 1 := by simp; omega
    refine ok_last_at rfl rfl (ok_last_at rfl rfl (ok_last_at rfl rfl (ok_cell (y := vals (fstk ++ a :: args)) rfl (ok_vals_len (ok_sub (by omega) (ok_sub (by omega) ?_))))))
    have ei : ((fstk ++ a :: args).length : Int) - 1 - x.a = fstk.length := by omega
    rw [ei]
    refine ok_last_at rfl rfl (ok_cell (y := vals (fstk ++ a :: args)) rfl (ok_vals_inb (by omega) (by omega) (ok_last_at rfl rfl (ok_cell (y := vals (fstk ++ a :: args)) rfl (ok_vals_at (by omega) (by omega) (fun v hv => ?_))))))
    rw [Int.toNat_natCast, List.getElem?_append_right (Nat.le_refl _), Nat.sub_self] at hv
    cases hv
    refine ok_whole rfl (ok_cell rfl (ok_cell rfl (ok_cell rfl (?_))))
    refine ok_neq (ok_ite_not (fun h => ok_some (by rw [e, if_pos h]; exact ⟨by omega, rfl⟩)) (fun h => ?_))
    rw [if_neg (by simpa using h)] at e
    have hr := valOk_fun va h
    refine par_at (by omega) (by omega) (by omega) (fun _ _ => ok_cell rfl ?_)
    refine ok_neq (ok_ite_not (fun h => ok_some (by rw [e, if_pos h]; exact ⟨by omega, rfl⟩)) (fun h => ?_))
    rw [if_neg (by simpa using h)] at e
    rw [show fstk ++ a :: args = fstk ++ [a] ++ args by simp]
    refine ok_callT (under := true) (s1 := fstk) (by omega) par nA (by simp; omega) (.inl ⟨rfl, a, rfl⟩) hr (by omega) (fun hd => ok_some ?_) (fun hd => ok_some ?_)
    · rw [e, if_pos (by rw [List.length_map] at hd; omega)]; exact ⟨by omega, rfl⟩
    · rw [e, if_neg (by rw [List.length_map] at hd; omega)]; rfl
  refine ok_eql (ok_ite (fun ho => ?_) (fun n24 => ?_))
  · have hq := q524 (.inr ho)
    have e0 : uses m.funcs x = (parOf m.funcs x.a, 1) := by unfold uses; repeat (first | rfl | rw [if_pos (by omega)] | rw [if_neg (by omega)])
    rw [e0] at hu
    have e : doT m ⟨ff, fpc, floc, fstk⟩ took (fs0.length + 1) hp made out x = if fs0.length + 1 = 24 then .trap 6 else .call ⟨ff, fpc, floc, fstk⟩ (newF m.funcs x.a took) := by simp only [doT]; repeat (first | rfl | rw [if_pos (by omega)] | rw [if_neg (by omega)])
    refine ok_callT (under := false) (s1 := fstk) (by omega) par nA (by omega) (.inr ⟨rfl, rfl⟩) hq (by omega) (fun hd => ok_some ?_) (fun hd => ok_some ?_)
    · rw [e, if_pos (by rw [List.length_map] at hd; omega)]; exact ⟨by omega, rfl⟩
    · rw [e, if_neg (by rw [List.length_map] at hd; omega)]; rfl
  refine ok_eql (ok_ite (fun ho => ?_) (fun n25 => ?_))
  · have e0 : uses m.funcs x = (1, 0) := by unfold uses; repeat (first | rfl | rw [if_pos (by omega)] | rw [if_neg (by omega)])
    rw [e0] at hu
    obtain ⟨a, rfl⟩ := List.length_eq_one_iff.1 (show took.length = 1 by omega)
    have va := vals0 a (by simp)
    have sa := valOk_size va
    have ns : fstk.length + 1 ≤ 16 := ns
    have e : doT m ⟨ff, fpc, floc, fstk⟩ [a] (fs0.length + 1) hp made out x = .ret a := by simp only [doT]; repeat (first | rfl | rw [if_pos (by omega)] | rw [if_neg (by omega)])
    refine ok_pop (by omega) (by first | omega | (simp; omega)) (ok_whole rfl (ok_cell rfl (ok_cell rfl (ok_cell rfl (?_)))))
    have e1 : ((fs0.map FrT.pv ++ [FrT.pv ⟨ff, fpc, floc, fstk⟩]).length : Int) - 1 = fs0.length := by simp
    have hel : ∀ y ∈ fs0.map FrT.pv ++ [FrT.pv ⟨ff, fpc, floc, fstk⟩], y.isEl 4 true = true := fun y hy => (List.mem_append.1 hy).elim (frames_el y) (fun h => by simp only [List.mem_singleton] at h; subst h; rfl)
    refine ok_len (ok_sub (by simp; omega) ?_)
    rw [e1]
    have e2 : ((fs0.map FrT.pv ++ [FrT.pv ⟨ff, fpc, floc, fstk⟩]).take (fs0.length : Int).toNat).drop (0 : Int).toNat = fs0.map FrT.pv := by
      rw [Int.toNat_natCast, Int.toNat_zero, List.drop_zero, List.take_left' (by simp)]
    refine ok_cut (by omega) (by omega) (by simp; omega) hel ?_
    refine ok_cut (by omega) (by omega) (by simp; omega) hel ?_
    rw [e2]
    refine ok_len_map (ok_eql (ok_ite (fun h => ok_some ?_) (fun h => ?_)))
    · rw [e]
      have : fs0 = [] := List.eq_nil_of_length_eq_zero (by omega)
      subst this
      rfl
    · obtain ⟨l, g, rfl⟩ : ∃ l g, fs0 = l ++ [g] := ⟨fs0.dropLast, fs0.getLast (fun e => by rw [e] at h; simp at h), (List.dropLast_concat_getLast _).symm⟩
      have hg := stks g (by simp)
      obtain ⟨gf, gpc, gloc, gstk⟩ := g
      simp only at hg
      rw [List.map_append]
      refine ok_push1 (by rw [List.length_map]; simp at n0; omega) (by omega) (ok_some ?_)
      rw [e]
      show _ = _
      rw [if_neg (by simp), layOn_last, List.map_append]
      rfl
  refine ok_eql (ok_ite (fun ho => ?_) (fun n26 => ?_))
  · have e0 : uses m.funcs x = (1, 0) := by unfold uses; repeat (first | rfl | rw [if_pos (by omega)] | rw [if_neg (by omega)])
    rw [e0] at hu
    obtain ⟨a, rfl⟩ := List.length_eq_one_iff.1 (show took.length = 1 by omega)
    have va := vals0 a (by simp)
    have sa := valOk_size va
    have ns : fstk.length + 1 ≤ 16 := ns
    have e : doT m ⟨ff, fpc, floc, fstk⟩ [a] (fs0.length + 1) hp made out x = if out.length = 200 then .trap 8 else .next ⟨ff, fpc, floc, fstk⟩ hp made (out ++ [valTextT a hp]) := by simp only [doT]; repeat (first | rfl | rw [if_pos (by omega)] | rw [if_neg (by omega)])
    refine ok_pop (by omega) (by first | omega | (simp; omega)) (ok_whole rfl (ok_cell rfl (ok_cell rfl (ok_cell rfl (?_)))))
    refine ok_len_map (ok_eql (ok_ite (fun h => ok_some (by rw [e, if_pos (by omega)]; exact ⟨by omega, rfl⟩)) (fun h => ?_)))
    rw [if_neg (by omega)] at e
    refine ok_call (spec_valText (v := a) (hp := hp) (nf := m.funcs.length) (by omega) (by omega) (fun r hr => by have := recs r hr; omega) va) (fun r hr => ?_)
    subst hr
    refine ok_flat rfl (ok_cat0 (by simp) (fun x hx => by simp only [List.mem_singleton] at hx; subst hx; rfl) (ok_cat (by simp; omega) (fun x hx => by simp only [List.mem_singleton] at hx; subst hx; rfl) (ok_some ?_)))
    rw [e]
    show _ = _
    rw [List.map_append]
    rfl
  omega
structure VmT where
  fr : List FrT
  hp : List (List VlT)
  made : Int
  out : List ByteArray
  st : Int
  tr : Int
  val : VlT
  steps : Int
def VmT.pv (v : VmT) : PV := .agg [.lst (v.fr.map FrT.pv), .lst (v.hp.map recPV), .int .i64 v.made, .lst (v.out.map PV.str), .int .i64 v.st, .int .i64 v.tr, .int .i64 v.val.k, .int .i64 v.val.n, .str v.val.s, .int .i64 v.steps]
def copyR (v : VmT) : R := [.int .i64 v.made, .int .i64 v.st, .int .i64 v.tr, .int .i64 v.val.k, .int .i64 v.val.n, .str v.val.s, .int .i64 v.steps, .lst (v.fr.map FrT.pv), .lst (v.hp.map recPV), .lst (v.out.map PV.str)]
structure Sz (v : VmT) : Prop where
  f : v.fr.length ≤ 1000
  h : v.hp.length ≤ 1000
  o : v.out.length ≤ 1000
  fl : ∀ f ∈ v.fr, f.loc.length ≤ 1000 ∧ f.stk.length ≤ 1000
  hl : ∀ r ∈ v.hp, r.length ≤ 1000
theorem flat_vals (l : List VlT) : PV.flatEs true [] (l.map VlT.pv) = true := by
  induction l with
  | nil => simp [PV.flatEs]
  | cons x r ih => simp [PV.flatEs, PV.flatE, PV.flatCs, PV.flat, VlT.pv, ih]
theorem flat_vals' (l : List VlT) : PV.flatO (.own 3 32 true []) (vals l) = true := flat_vals l
theorem flat_frames (l : List FrT) : PV.flatO (.own 4 64 true [.leaf, .leaf, (.own 3 32 true []), (.own 3 32 true [])]) (.lst (l.map FrT.pv)) = true := by
  show PV.flatEs true _ (l.map FrT.pv) = true
  induction l with
  | nil => simp [PV.flatEs]
  | cons x r ih =>
    simp only [List.map_cons, PV.flatEs, Bool.and_eq_true]
    refine ⟨?_, ih⟩
    simp [FrT.pv, PV.flatE, PV.flatCs, PV.flat, vals, flat_vals]
theorem flat_recs (l : List (List VlT)) : PV.flatO (.own 1 24 true [(.own 3 32 true [])]) (.lst (l.map recPV)) = true := by
  show PV.flatEs true _ (l.map recPV) = true
  induction l with
  | nil => simp [PV.flatEs]
  | cons x r ih =>
    simp only [List.map_cons, PV.flatEs, Bool.and_eq_true]
    refine ⟨?_, ih⟩
    simp [recPV, PV.flatE, PV.flatCs, vals, flat_vals]
theorem flat_strs (l : List ByteArray) : PV.flatO (.own 1 16 false []) (.lst (l.map PV.str)) = true := by
  show PV.flatEs false [] (l.map PV.str) = true
  induction l with
  | nil => simp [PV.flatEs]
  | cons x r ih => simp [PV.flatEs, PV.flatE, PV.flat, ih]
theorem strs_el {l : List ByteArray} : ∀ x ∈ l.map PV.str, x.isEl 1 false = true := by
  intro x hx
  obtain ⟨a, _, rfl⟩ := List.mem_map.1 hx
  rfl
theorem spec_copyHeap {hp : List (List VlT)} (h : hp.length ≤ 1000) (hl : ∀ r ∈ hp, r.length ≤ 1000) : Ok (fun r => r = [.lst (hp.map recPV)]) (spec_l05CopyHeap (.lst (hp.map recPV))) := by
  rw [spec_l05CopyHeap_eq]
  refine ok_down (n := hp.length) (P := fun _ r => r = [.lst (hp.map recPV)]) (F := fun i => spec_l05CopyHeap_c3 (.lst (hp.map recPV)) (.int .i64 i) (.lst ((hp.take i).map recPV))) ?_ ?_ 0 (by omega)
  · rw [spec_l05CopyHeap_c3_eq]
    refine ok_len_map (ok_lss (ok_ite (fun h => by omega) (fun _ => ok_some ?_)))
    rw [List.take_length]
  · intro i hi ih
    rw [spec_l05CopyHeap_c3_eq]
    have := hl _ (List.getElem_mem hi)
    refine ok_len_map (ok_lss (ok_ite (fun _ => ?_) (fun h => by omega)))
    refine ok_at_map hi (fun _ => rfl) (ok_cell rfl (ok_cat0 (by rw [List.length_map]; omega) vals_el ?_))
    refine ok_cat (by simp; omega) (fun x hx => by simp only [List.mem_singleton] at hx; subst hx; rfl) (ok_add (by omega) ?_)
    have e : (hp.take i).map recPV ++ [PV.agg [.lst (hp[i].map VlT.pv)]] = (hp.take (i + 1)).map recPV := by
      rw [List.take_add_one, List.getElem?_eq_getElem hi, List.map_append]; rfl
    rw [e]
    exact ih
theorem spec_copyFrame {f : FrT} (h : f.loc.length ≤ 1000 ∧ f.stk.length ≤ 1000) : Ok (fun r => r = [.int .i64 f.f, .int .i64 f.pc, vals f.loc, vals f.stk]) (spec_l05CopyFrame f.pv) := by
  rw [spec_l05CopyFrame_eq]
  refine ok_whole rfl (ok_cell rfl (ok_cell rfl (ok_cell rfl (ok_cell rfl ?_))))
  exact ok_cat0 (by rw [List.length_map]; omega) vals_el (ok_cat0 (by rw [List.length_map]; omega) vals_el (ok_some rfl))
theorem spec_copy {v : VmT} (z : Sz v) : Ok (fun r => r = copyR v) (spec_l05Copy v.pv) := by
  obtain ⟨zf, zh, zo, zfl, zhl⟩ := z
  rw [spec_l05Copy_eq]
  refine ok_whole rfl (ok_cell rfl (ok_cell rfl (ok_cell rfl (ok_cell rfl (ok_cell rfl (ok_cell rfl (ok_cell rfl (ok_cell rfl (ok_cell rfl (ok_cell rfl ?_))))))))))
  refine ok_down (n := v.fr.length) (P := fun _ r => r = copyR v) (F := fun i => spec_l05Copy_c3 (.int .i64 i) (.lst (v.fr.map FrT.pv)) (.lst (v.hp.map recPV)) (.int .i64 v.made) (.lst (v.out.map PV.str)) (.int .i64 v.st) (.int .i64 v.tr) (.int .i64 v.val.k) (.int .i64 v.val.n) (.str v.val.s) (.int .i64 v.steps) (.int .i64 0) (.int .i64 0) (.int .i64 0) (.int .i64 0) (.int .i64 0) (.str (bs [])) (.int .i64 0) (.lst []) (.lst []) (.lst []) (.lst ((v.fr.take i).map FrT.pv))) ?_ ?_ 0 (by omega)
  · rw [spec_l05Copy_c3_eq]
    refine ok_len_map (ok_lss (ok_ite (fun h => by omega) (fun _ => ?_)))
    refine ok_call (spec_copyHeap zh zhl) (fun r hr => ?_)
    subst hr
    refine ok_own (flat_recs _) (ok_cat0 (by rw [List.length_map]; omega) strs_el (ok_some ?_))
    rw [List.take_length]
    rfl
  · intro i hi ih
    rw [spec_l05Copy_c3_eq]
    refine ok_len_map (ok_lss (ok_ite (fun _ => ?_) (fun h => by omega)))
    refine ok_at_map hi (fun _ => rfl) (ok_call (spec_copyFrame (zfl _ (List.getElem_mem hi))) (fun r hr => ?_))
    subst hr
    refine ok_flat rfl (ok_flat rfl (ok_own (flat_vals' _) (ok_own (flat_vals' _) ?_)))
    refine ok_cat (by simp; omega) (fun x hx => by simp only [List.mem_singleton] at hx; subst hx; rfl) (ok_add (by omega) ?_)
    have e : (v.fr.take i).map FrT.pv ++ [PV.agg [.int .i64 v.fr[i].f, .int .i64 v.fr[i].pc, vals v.fr[i].loc, vals v.fr[i].stk]] = (v.fr.take (i + 1)).map FrT.pv := by
      rw [List.take_add_one, List.getElem?_eq_getElem hi, List.map_append]; rfl
    exact e ▸ ih
theorem ok_copy {P : R → Prop} {k : R → Option R} {v : VmT} (z : Sz v) (h : Ok P (k (copyR v))) : Ok P (bd (spec_l05Copy v.pv) k) := ok_call (spec_copy z) (fun r hr => by rw [hr]; exact h)
theorem ok_guards {P : R → Prop} {v : VmT} {o : Option R} (h : Ok P o) :
    Ok P (PV.guardFlat (gd (copyR v) 0) (PV.guardFlat (gd (copyR v) 1) (PV.guardFlat (gd (copyR v) 2) (PV.guardFlat (gd (copyR v) 3) (PV.guardFlat (gd (copyR v) 4) (PV.guardFlat (gd (copyR v) 5) (PV.guardFlat (gd (copyR v) 6)
      (PV.guardOwn (.own 4 64 true [.leaf, .leaf, (.own 3 32 true []), (.own 3 32 true [])]) (gd (copyR v) 7) (PV.guardOwn (.own 1 24 true [(.own 3 32 true [])]) (gd (copyR v) 8) (PV.guardOwn (.own 1 16 false []) (gd (copyR v) 9) o)))))))))) :=
  ok_flat rfl (ok_flat rfl (ok_flat rfl (ok_flat rfl (ok_flat rfl (ok_flat rfl (ok_flat rfl (ok_own (flat_frames _) (ok_own (flat_recs _) (ok_own (flat_strs _) h)))))))))
def codeOf (fs : List FnT) (i : Int) : List InsT := (fs[i.toNat]?.map FnT.code).getD []
def insAt (fs : List FnT) (f : FrT) : InsT := (codeOf fs f.f)[f.pc.toNat]?.getD ⟨0, 0⟩
def actT (_m : MdT) (v : VmT) (fs0 : List FrT) : ActT → VmT
  | .trap c => ⟨v.fr, v.hp, v.made, v.out, 2, c, v.val, v.steps + 1⟩
  | .next fr hp made out => ⟨fs0 ++ [fr], hp, made, out, v.st, v.tr, v.val, v.steps + 1⟩
  | .call fr g => ⟨fs0 ++ [fr, g], v.hp, v.made, v.out, v.st, v.tr, v.val, v.steps + 1⟩
  | .ret a => if fs0 = [] then ⟨[], v.hp, v.made, v.out, 1, v.tr, a, v.steps + 1⟩ else ⟨layOn a fs0, v.hp, v.made, v.out, v.st, v.tr, v.val, v.steps + 1⟩
def nextT (m : MdT) (v : VmT) (fs0 : List FrT) (f : FrT) : ActT :=
  let x := insAt m.funcs f
  let b := f.stk.length - (uses m.funcs x).1.toNat
  doT m ⟨f.f, f.pc + 1, f.loc, f.stk.take b⟩ (f.stk.drop b) (fs0.length + 1) v.hp v.made v.out x
def stepT (m : MdT) (v : VmT) : VmT :=
  if v.st ≠ 0 then v else if v.steps = 50000 then v
  else match v.fr.getLast? with
  | none => v
  | some f => actT m v v.fr.dropLast (nextT m v v.fr.dropLast f)
theorem stepT_run {m : MdT} {v : VmT} {fs0 : List FrT} {f : FrT} (h1 : v.st = 0) (h2 : v.steps ≠ 50000) (h3 : v.fr = fs0 ++ [f]) : stepT m v = actT m v fs0 (nextT m v fs0 f) := by
  unfold stepT
  rw [if_neg (by omega), if_neg h2, h3]
  simp
structure Goes1 (m : MdT) (v : VmT) (fs0 : List FrT) (f : FrT) : Prop where
  fr : v.fr = fs0 ++ [f]
  fi : 0 ≤ f.f ∧ f.f < m.funcs.length
  pc : 0 ≤ f.pc ∧ f.pc < (codeOf m.funcs f.f).length
  nc : (codeOf m.funcs f.f).length ≤ 120
  ins : insOkB m.texts.length m.funcs.length f.loc.length (codeOf m.funcs f.f).length (insAt m.funcs f).o (insAt m.funcs f).a = true
  us : 0 ≤ (uses m.funcs (insAt m.funcs f)).1 ∧ (uses m.funcs (insAt m.funcs f)).1 ≤ f.stk.length
  small : ∀ b, Small m fs0 ⟨f.f, f.pc + 1, f.loc, f.stk.take b⟩ (f.stk.drop b) v.hp v.made v.out
theorem spec_step {m : MdT} {v : VmT} (z : Sz v) (hst : 0 ≤ v.steps ∧ v.steps ≤ 50000) (hg : v.st = 0 → v.steps ≠ 50000 → ∃ fs0 f, Goes1 m v fs0 f) : Ok (fun r => r = [(stepT m v).pv]) (spec_l05Step m.pv v.pv) := by
  rw [spec_l05Step_eq]
  refine ok_whole rfl (ok_cell rfl (ok_cell rfl (ok_whole rfl (ok_cell rfl (ok_cell rfl (ok_cell rfl (ok_cell rfl (ok_cell rfl (ok_cell rfl (ok_cell rfl (ok_cell rfl (ok_cell rfl (ok_cell rfl ?_)))))))))))))
  refine ok_neq (ok_ite_not (fun h => ?_) (fun h => ?_))
  · refine ok_copy z (ok_guards (ok_some ?_))
    unfold stepT
    rw [if_pos h]; rfl
  have h0 : v.st = 0 := by simpa using h
  refine ok_eql (ok_ite (fun h => ?_) (fun h5 => ?_))
  · refine ok_copy z (ok_guards (ok_some ?_))
    unfold stepT
    rw [if_neg (by omega), if_pos h]; rfl
  obtain ⟨fs0, f, G⟩ := hg h0 h5
  rw [stepT_run h0 h5 G.fr]
  obtain ⟨gfr, gfi, gpc, gnc, gins, gus, gsm⟩ := G
  obtain ⟨fi, hfi⟩ := Int.eq_ofNat_of_zero_le gfi.1
  obtain ⟨pi, hpi⟩ := Int.eq_ofNat_of_zero_le gpc.1
  have hfl : fi < m.funcs.length := by omega
  have hco : codeOf m.funcs f.f = m.funcs[fi].code := by simp [codeOf, hfi, List.getElem?_eq_getElem hfl]
  have hpl : pi < m.funcs[fi].code.length := by rw [← hco]; omega
  have hin : insAt m.funcs f = m.funcs[fi].code[pi] := by simp [insAt, hco, hpi, List.getElem?_eq_getElem hpl]
  have n0 := (gsm 0).n0
  have nA : (fs0.map FrT.pv).length ≤ 23 := by rw [List.length_map]; exact n0
  refine ok_copy z (ok_guards ?_)
  have efr : v.fr.map FrT.pv = fs0.map FrT.pv ++ [f.pv] := by rw [gfr, List.map_append]; rfl
  show Ok _ (bd (spec_l05Top_frame _ _ _ _ _ _ _ _ _ _ (.lst (v.fr.map FrT.pv)) _ _) _)
  rw [efr]
  refine ok_frame (by omega) ?_
  refine ok_last_at rfl rfl (ok_cell rfl ?_)
  rw [hfi]
  refine ok_at_map hfl (fun _ => rfl) (ok_cell (y := .lst (m.funcs[fi].code.map InsT.pv)) rfl (ok_last_at rfl rfl (ok_cell rfl ?_)))
  rw [hpi]
  refine ok_at_map hpl (fun _ => rfl) (ok_whole rfl (ok_cell rfl (ok_cell rfl (ok_last_at rfl rfl (ok_cell rfl ?_)))))
  refine ok_add (by omega) (ok_one rfl (ok_last_set rfl rfl (by omega) rfl ?_))
  generalize hb : f.stk.length - (uses m.funcs (insAt m.funcs f)).1.toNat = b
  have hsplit : f.stk = f.stk.take b ++ f.stk.drop b := (List.take_append_drop b f.stk).symm
  have hdo := spec_do (nc := (codeOf m.funcs f.f).length) (a3 := .int .i64 v.st) (a4 := .int .i64 v.tr) (a5 := .int .i64 v.val.k) (a6 := .int .i64 v.val.n) (a7 := .str v.val.s) (a8 := .int .i64 v.steps) (gsm b) gins (by rw [List.length_drop]; omega)
  rw [hin] at hdo hb
  have hnx : nextT m v fs0 f = doT m ⟨f.f, f.pc + 1, f.loc, f.stk.take b⟩ (f.stk.drop b) (fs0.length + 1) v.hp v.made v.out m.funcs[fi].code[pi] := by
    simp only [nextT]
    rw [hin, hb]
  rw [← hnx] at hdo
  rw [← hsplit] at hdo
  refine ok_call hdo (fun r hr => ?_)
  cases ha : nextT m v fs0 f with
  | trap c =>
    rw [ha] at hr
    obtain ⟨hc, hr⟩ := hr
    rw [hr]
    refine ok_neq (ok_ite_not (fun _ => ?_) (fun h => absurd (by simpa using h) hc))
    rw [← efr]
    refine ok_copy z ?_
    refine ok_guards ?_
    refine ok_one rfl ?_
    refine ok_add (by omega) ?_
    refine ok_one rfl (ok_some rfl)
  | next fr hp made out =>
    rw [ha] at hr
    have hr : r = _ := hr
    subst hr
    refine ok_neq (ok_ite_not (fun h => absurd rfl h) (fun _ => ok_add (by omega) (ok_one rfl (ok_some ?_))))
    simp only [actT, VmT.pv, List.map_append]
    rfl
  | call fr g =>
    rw [ha] at hr
    have hr : r = _ := hr
    subst hr
    refine ok_neq (ok_ite_not (fun h => absurd rfl h) (fun _ => ok_add (by omega) (ok_one rfl (ok_some ?_))))
    simp only [actT, VmT.pv, List.map_append, List.append_assoc]
    rfl
  | ret a =>
    rw [ha] at hr
    have hr : r = _ := hr
    by_cases hf : fs0 = []
    · rw [if_pos hf] at hr
      subst hr
      refine ok_neq (ok_ite_not (fun h => absurd rfl h) (fun _ => ok_add (by omega) (ok_one rfl (ok_some ?_))))
      simp only [actT, if_pos hf, VmT.pv]
      rfl
    · rw [if_neg hf] at hr
      subst hr
      refine ok_neq (ok_ite_not (fun h => absurd rfl h) (fun _ => ok_add (by omega) (ok_one rfl (ok_some ?_))))
      simp only [actT, if_neg hf, VmT.pv]
      rfl
def chkV (fs : List FnT) (code : List InsT) (d : List Int) (pc : Nat) : Option Int :=
  match code[pc]? with
  | none => none
  | some x =>
    if d[pc]?.getD 0 < 0 then none
    else if can fs x (d[pc]?.getD 0) = false then some 2
    else if (nexts x pc).any (fun t => decide ((code.length : Int) ≤ t)) = true then some 3
    else if (nexts x pc).any (fun t => !decide (d[t.toNat]?.getD 0 = lefts fs x (d[pc]?.getD 0))) = true then some 4
    else none
def badAt (fs : List FnT) (code : List InsT) (f pc : Nat) : Option (Int × Nat × Nat) := (chkV fs code (depths fs code) pc).map fun c => (c, f, pc)
def badFn (fs : List FnT) (f : Nat) : Option (Int × Nat × Nat) := match fs[f]? with
  | some x => (List.range' 0 x.code.length).findSome? (badAt fs x.code f)
  | none => none
def bad (fs : List FnT) : Option (Int × Nat × Nat) := (List.range' 0 fs.length).findSome? (badFn fs)
def encB : Option (Int × Nat × Nat) → PV
  | some (c, f, pc) => .agg [.int .i64 c, .int .i64 f, .int .i64 pc]
  | none => .agg [.int .i64 0, .int .i64 0, .int .i64 0]
def MdT.verify (m : MdT) : PV := if m.okB then encB (bad m.funcs) else .agg [.int .i64 1, .int .i64 0, .int .i64 0]
theorem ok_scan {n : Nat} {F : Nat → Option R} {P : R → Prop} (I : Nat → Prop) (he : I n → Ok P (F n)) (hs : ∀ i, i < n → I i → (I (i + 1) → Ok P (F (i + 1))) → Ok P (F i)) (h0 : I 0) : Ok P (F 0) :=
  ok_for (σ := Unit) (F := fun i _ => F i) (fun i _ => I i) (fun _ h => he h) (fun i _ hi hI ih => hs i hi hI (fun h => ih () h)) 0 () (by omega) h0
theorem any_drop {α : Type} {xs : List α} {i : Nat} (hi : i < xs.length) (p : α → Bool) : (xs.drop i).any p = (p xs[i] || (xs.drop (i + 1)).any p) := by
  rw [List.drop_eq_getElem_cons hi, List.any_cons]
section
variable {fs : List FnT} {code : List InsT} {T x3 x4 x5 : PV} (F : Fit fs code) {f : Nat} (hf : f < fs.length)
include F hf
theorem spec_joins {P : R → Prop} {pc : Nat} (hpc : pc < code.length) {d : List Int} (hd : d.length = code.length) {left : Int} {ts : List Int} (hts : ∀ t ∈ ts, 0 ≤ t ∧ t < code.length) (hn : ts.length ≤ 10)
    (h4 : ts.any (fun t => !decide (d[t.toNat]?.getD 0 = left)) = true → P [.agg [.int .i64 4, .int .i64 f, .int .i64 pc]])
    (hgo : ts.any (fun t => !decide (d[t.toNat]?.getD 0 = left)) = false → Ok P (spec_Verify_c9 (.int .i64 f) (.lst (code.map InsT.pv)) (ints d) (.int .i64 ((pc : Int) + 1)) T (.lst (fs.map FnT.pv)) x3 x4 x5)) :
    Ok P (spec_Verify_c23 (.int .i64 f) (.lst (code.map InsT.pv)) (ints d) (.int .i64 pc) (.int .i64 left) (ints ts) (.int .i64 0) T (.lst (fs.map FnT.pv)) x3 x4 x5) := by
  have hn2 := F.n2
  refine ok_scan (n := ts.length) (F := fun i => spec_Verify_c23 (.int .i64 f) (.lst (code.map InsT.pv)) (ints d) (.int .i64 pc) (.int .i64 left) (ints ts) (.int .i64 i) T (.lst (fs.map FnT.pv)) x3 x4 x5)
    (fun i => (ts.drop i).any (fun t => !decide (d[t.toNat]?.getD 0 = left)) = ts.any (fun t => !decide (d[t.toNat]?.getD 0 = left))) ?_ ?_ (by rw [List.drop_zero])
  · intro hI
    rw [List.drop_length] at hI
    rw [spec_Verify_c23_eq]
    exact ok_ints_len (ok_lss (ok_ite (fun h => by omega) (fun _ => ok_add (by omega) (hgo hI.symm))))
  · intro i hi hI ih
    rw [any_drop hi] at hI
    have ht := hts ts[i] (List.getElem_mem _)
    rw [spec_Verify_c23_eq]
    refine ok_ints_len (ok_lss (ok_ite (fun _ => ?_) (fun h => by omega)))
    refine ok_ints_at hi (ok_ints_atI (by omega) (by omega) (fun v hv => ?_))
    have hv' : d[ts[i].toNat]?.getD 0 = v := by rw [hv]; rfl
    rw [hv'] at hI
    refine ok_neq (ok_ite_not (fun h => ?_) (fun h => ?_))
    · rw [decide_eq_false h] at hI
      exact ok_one rfl (ok_one rfl (ok_some (h4 hI.symm)))
    · rw [decide_eq_true h] at hI
      exact ok_add (by omega) (ih hI)
theorem spec_ends {P : R → Prop} {pc : Nat} (hpc : pc < code.length) {d : List Int} (hd : d.length = code.length) {left : Int} {ts : List Int} (hts : ∀ t ∈ ts, 0 ≤ t ∧ t ≤ code.length) (hn : ts.length ≤ 10)
    (h3 : ts.any (fun t => decide ((code.length : Int) ≤ t)) = true → P [.agg [.int .i64 3, .int .i64 f, .int .i64 pc]])
    (hgo : ts.any (fun t => decide ((code.length : Int) ≤ t)) = false → Ok P (spec_Verify_c23 (.int .i64 f) (.lst (code.map InsT.pv)) (ints d) (.int .i64 pc) (.int .i64 left) (ints ts) (.int .i64 0) T (.lst (fs.map FnT.pv)) x3 x4 x5)) :
    Ok P (spec_Verify_c18 (.int .i64 f) (.lst (code.map InsT.pv)) (ints d) (.int .i64 pc) (.int .i64 left) (ints ts) (.int .i64 0) T (.lst (fs.map FnT.pv)) x3 x4 x5) := by
  have hn2 := F.n2
  refine ok_scan (n := ts.length) (F := fun i => spec_Verify_c18 (.int .i64 f) (.lst (code.map InsT.pv)) (ints d) (.int .i64 pc) (.int .i64 left) (ints ts) (.int .i64 i) T (.lst (fs.map FnT.pv)) x3 x4 x5)
    (fun i => (ts.drop i).any (fun t => decide ((code.length : Int) ≤ t)) = ts.any (fun t => decide ((code.length : Int) ≤ t))) ?_ ?_ (by rw [List.drop_zero])
  · intro hI
    rw [List.drop_length] at hI
    rw [spec_Verify_c18_eq]
    exact ok_ints_len (ok_lss (ok_ite (fun h => by omega) (fun _ => hgo hI.symm)))
  · intro i hi hI ih
    rw [any_drop hi] at hI
    rw [spec_Verify_c18_eq]
    refine ok_ints_len (ok_lss (ok_ite (fun _ => ?_) (fun h => by omega)))
    refine ok_ints_at hi (ok_len_map (ok_geq (ok_ite (fun h => ?_) (fun h => ?_))))
    · rw [decide_eq_true h] at hI
      exact ok_one rfl (ok_one rfl (ok_some (h3 hI.symm)))
    · rw [decide_eq_false h] at hI
      exact ok_add (by omega) (ih hI)
theorem not_any {ts : List Int} {n : Int} (h : ts.any (fun t => decide (n ≤ t)) = false) : ∀ t ∈ ts, t < n := by
  clear F hf
  intro t ht
  rw [List.any_eq_false] at h
  have := h t ht
  simp at this
  omega
theorem spec_vcode {rest : Option (Int × Nat × Nat)} (hnext : Ok (fun r => r = [encB rest]) (spec_Verify_c4 (.int .i64 ((f : Int) + 1)) T (.lst (fs.map FnT.pv)) x3 x4 x5)) : ∀ pc, pc ≤ code.length →
    Ok (fun r => r = [encB (((List.range' pc (code.length - pc)).findSome? (badAt fs code f)).or rest)]) (spec_Verify_c9 (.int .i64 f) (.lst (code.map InsT.pv)) (ints (depths fs code)) (.int .i64 pc) T (.lst (fs.map FnT.pv)) x3 x4 x5) := by
  have hn2 := F.n2
  have hnf := F.nf
  have hg := depths_hgt F
  generalize hd : depths fs code = d at hg
  refine ok_down ?_ ?_
  · rw [spec_Verify_c9_eq, find_end]
    exact ok_len_map (ok_lss (ok_ite (fun h => by omega) (fun _ => ok_add (by omega) hnext)))
  · intro pc hpc ih
    have hx : code[pc]? = some code[pc] := List.getElem?_eq_getElem hpc
    have hm : code[pc] ∈ code := List.getElem_mem _
    have hu := F.u code[pc] hm
    have hil : pc < d.length := by rw [hg.1]; exact hpc
    have hv := hg.at pc
    have e2 : d[pc] = d[pc]?.getD 0 := getD_is hil
    rw [find_step hpc]
    have eb : badAt fs code f pc = (chkV fs code d pc).map fun c => (c, f, pc) := by unfold badAt; rw [hd]
    rw [eb]
    have ec : chkV fs code d pc = if d[pc]?.getD 0 < 0 then none
      else if can fs code[pc] (d[pc]?.getD 0) = false then some 2
      else if (nexts code[pc] pc).any (fun t => decide ((code.length : Int) ≤ t)) = true then some 3
      else if (nexts code[pc] pc).any (fun t => !decide (d[t.toNat]?.getD 0 = lefts fs code[pc] (d[pc]?.getD 0))) = true then some 4
      else none := by
      conv => lhs; unfold chkV
      rw [hx]
    generalize hw : d[pc]?.getD 0 = w at *
    generalize chkV fs code d pc = ch at *
    rw [spec_Verify_c9_eq]
    refine ok_len_map (ok_lss (ok_ite (fun _ => ?_) (fun h => by omega)))
    refine ok_ints_at hil ?_
    rw [e2]
    refine ok_lss (ok_ite (fun h1 => ?_) (fun h1 => ?_))
    · rw [if_pos h1] at ec
      subst ec
      exact ok_add (by omega) ih
    rw [if_neg h1] at ec
    refine ok_at_map hpc (fun _ => rfl) (ok_call (spec_uses (T := T) (by omega)) (fun r hr => ?_))
    subst hr
    refine ok_comp rfl (ok_comp rfl (ok_ints_at hil ?_))
    rw [e2]
    refine ok_sub (by omega) (ok_add (by omega) (ok_ints_at hil ?_))
    rw [e2]
    refine ok_lss (ok_ite (fun h2 => ?_) (fun h2 => ?_))
    · have hc : can fs code[pc] w = false := by simp only [can]; rw [decide_eq_false (by omega)]; rfl
      rw [if_pos hc] at ec
      subst ec
      exact ok_one rfl (ok_one rfl (ok_some rfl))
    refine ok_gtr (ok_ite (fun h3 => ?_) (fun h3 => ?_))
    · have hc : can fs code[pc] w = false := by simp only [can]; rw [decide_eq_false (p := lefts fs code[pc] w ≤ 16) (by unfold lefts; omega), Bool.and_false]
      rw [if_pos hc] at ec
      subst ec
      exact ok_one rfl (ok_one rfl (ok_some rfl))
    have hc : can fs code[pc] w = true := by simp only [can]; rw [decide_eq_true (by omega), decide_eq_true (p := lefts fs code[pc] w ≤ 16) (by unfold lefts; omega)]; rfl
    rw [hc, if_neg (by simp)] at ec
    refine ok_at_map hpc (fun _ => rfl) (ok_call (spec_next (by omega)) (fun r hr => ?_))
    subst hr
    have hnx := nexts_ok F hm hpc
    have hl10 : (nexts code[pc] pc).length ≤ 10 := by unfold nexts; repeat' split <;> simp
    refine spec_ends F hf hpc hg.1 (left := lefts fs code[pc] w) hnx hl10 (fun h => ?_) (fun h => ?_)
    · rw [if_pos h] at ec
      subst ec
      rfl
    rw [if_neg (by rw [h]; simp)] at ec
    refine spec_joins F hf hpc hg.1 (left := lefts fs code[pc] w) (fun t ht => ⟨(hnx t ht).1, not_any F hf h t ht⟩) hl10 (fun h => ?_) (fun h => ?_)
    · rw [if_pos h] at ec
      subst ec
      rfl
    · rw [if_neg (by rw [h]; simp)] at ec
      subst ec
      exact ih
end
theorem badFn_eq {fs : List FnT} {f : Nat} (hf : f < fs.length) : badFn fs f = (List.range' 0 fs[f].code.length).findSome? (badAt fs fs[f].code f) := by
  unfold badFn
  rw [List.getElem?_eq_getElem hf]
theorem spec_verify {m : MdT} (h : m.sized) : Ok (fun r => r = [m.verify]) (spec_Verify m.pv) := by
  rw [spec_Verify_eq]
  refine ok_whole rfl (ok_cell rfl (ok_cell rfl (ok_call (spec_moduleOk h) (fun r hr => ?_))))
  subst hr
  unfold MdT.verify
  refine ok_not (ok_ite_b (fun hb => ok_some ?_) (fun hb => ?_))
  · have : m.okB = false := by simpa using hb
    rw [this]; rfl
  have hb : m.okB = true := by simpa using hb
  rw [hb, if_pos rfl]
  obtain ⟨h1, h2, h3⟩ := MdT.okB_fit hb
  have key := ok_down (n := m.funcs.length) (P := fun f r => r = [encB ((List.range' f (m.funcs.length - f)).findSome? (badFn m.funcs))])
    (F := fun f => spec_Verify_c4 (.int .i64 f) (.lst (m.texts.map PV.str)) (.lst (m.funcs.map FnT.pv)) (.int .i64 0) (.int .i64 0) (.int .i64 0)) ?_ ?_ 0 (by omega)
  · exact key
  · rw [spec_Verify_c4_eq, find_end]
    exact ok_len_map (ok_lss (ok_ite (fun h => by omega) (fun _ => ok_some rfl)))
  · intro f hf ih
    have F := (h3 m.funcs[f] (List.getElem_mem _)).1
    rw [spec_Verify_c4_eq, find_step hf, badFn_eq hf]
    refine ok_len_map (ok_lss (ok_ite (fun _ => ?_) (fun h => by omega)))
    refine ok_at_map hf (fun _ => rfl) (ok_cell rfl (ok_call (spec_depths F hf rfl) (fun r hr => ?_)))
    subst hr
    exact spec_vcode F hf ih 0 (by omega)
section
variable {P : R → Prop} {k : R → Option R}
theorem index_int {xs : List Int} (hx : xs.length ≤ 1000000000) (y : Int) : Ok (fun r => ∃ n : Int, r = [.int .i64 n] ∧ (0 ≤ n ↔ xs.any (fun x => decide (y = x)) = true)) (slices_Index_int_int (ints xs) (.int .i64 y)) := by
  rw [slices_Index_int_int_eq]
  refine ok_ints_len ?_
  refine ok_scan (n := xs.length) (F := fun i => slices_Index_int_int_c2 (ints xs) (.int .i64 y) (.int .i64 xs.length) (.int .i64 i)) (fun i => (xs.drop i).any (fun x => decide (y = x)) = xs.any (fun x => decide (y = x))) ?_ ?_ (by rw [List.drop_zero])
  · intro hI
    rw [List.drop_length] at hI
    rw [slices_Index_int_int_c2_eq]
    refine ok_lss (ok_ite (fun h => by omega) (fun _ => ok_some ⟨-1, rfl, ?_⟩))
    rw [← hI]; simp
  · intro i hi hI ih
    rw [any_drop hi] at hI
    rw [slices_Index_int_int_c2_eq]
    refine ok_lss (ok_ite (fun _ => ?_) (fun h => by omega))
    refine ok_ints_at hi (ok_eql (ok_ite (fun h => ok_some ⟨i, rfl, ?_⟩) (fun h => ?_)))
    · rw [← hI, decide_eq_true h]; simp
    · rw [decide_eq_false h] at hI
      exact ok_add (by omega) (ih hI)
theorem ok_hasInt {xs : List Int} (hx : xs.length ≤ 1000000000) {y : Int} (h : Ok P (k [.bool (xs.any (fun x => decide (y = x)))])) : Ok P (bd (slices_Contains_int_int (ints xs) (.int .i64 y)) k) := by
  refine ok_call (Q := fun r => r = [.bool (xs.any (fun x => decide (y = x)))]) ?_ (fun r hr => by rw [hr]; exact h)
  rw [slices_Contains_int_int_eq]
  refine ok_call (index_int hx y) ?_
  rintro r ⟨n, rfl, hn⟩
  refine ok_geq (ok_some ?_)
  by_cases h0 : 0 ≤ n
  · rw [decide_eq_true h0, hn.1 h0]
  · rw [decide_eq_false h0]
    cases h2 : xs.any (fun x => decide (y = x)) with
    | false => rfl
    | true => exact absurd (hn.2 h2) h0
theorem ok_anyInt {f : Nat} {caps : List PV} {xs : List Int} (hx : xs.length ≤ 1000000000) (p : Int → Bool) (hp : ∀ x ∈ xs, Ok (fun r => r = [.bool (p x)]) (pcallO f ([.int .i64 x] ++ caps))) (h : Ok P (k [.bool (xs.any p)])) :
    Ok P (bd (slices_ContainsFunc_int_int (ints xs) (.fn f caps)) k) := by
  refine ok_call (Q := fun r => r = [.bool (xs.any p)]) ?_ (fun r hr => by rw [hr]; exact h)
  rw [slices_ContainsFunc_int_int_eq]
  refine ok_call (Q := fun r => ∃ n : Int, r = [.int .i64 n] ∧ (0 ≤ n ↔ xs.any p = true)) ?_ ?_
  · rw [slices_IndexFunc_int_int_eq]
    refine ok_ints_len ?_
    refine ok_scan (n := xs.length) (F := fun i => slices_IndexFunc_int_int_c2 (ints xs) (.fn f caps) (.int .i64 xs.length) (.int .i64 i)) (fun i => (xs.drop i).any p = xs.any p) ?_ ?_ (by rw [List.drop_zero])
    · intro hI
      rw [List.drop_length] at hI
      rw [slices_IndexFunc_int_int_c2_eq]
      refine ok_lss (ok_ite (fun h => by omega) (fun _ => ok_some ⟨-1, rfl, ?_⟩))
      rw [← hI]; simp
    · intro i hi hI ih
      rw [any_drop hi] at hI
      rw [slices_IndexFunc_int_int_c2_eq]
      refine ok_lss (ok_ite (fun _ => ?_) (fun h => by omega))
      refine ok_ints_at hi (ok_apply rfl (hp _ (List.getElem_mem _)) (fun r hr => ?_))
      subst hr
      refine ok_ite_b (fun h => ok_some ⟨i, rfl, ?_⟩) (fun h => ?_)
      · rw [← hI, h]; simp
      · rw [h, Bool.false_or] at hI
        exact ok_add (by omega) (ih hI)
  · rintro r ⟨n, rfl, hn⟩
    refine ok_geq (ok_some ?_)
    by_cases h0 : 0 ≤ n
    · rw [decide_eq_true h0, hn.1 h0]
    · rw [decide_eq_false h0]
      cases h2 : xs.any p with
      | false => rfl
      | true => exact absurd (hn.2 h2) h0
end
theorem any_len {ts : List Int} {n : Int} (h : ∀ t ∈ ts, t ≤ n) : ts.any (fun x => decide (n = x)) = ts.any (fun t => decide (n ≤ t)) := by
  induction ts with
  | nil => rfl
  | cons t r ih =>
    rw [List.any_cons, List.any_cons, ih (fun x hx => h x (List.mem_cons_of_mem _ hx))]
    have := h t List.mem_cons_self
    congr 1
    by_cases h1 : n = t
    · rw [decide_eq_true h1, decide_eq_true (by omega)]
    · rw [decide_eq_false h1, decide_eq_false (by omega)]
section
variable {fs : List FnT} {code : List InsT} {T x3 x4 x5 : PV} (F : Fit fs code) {f : Nat} (hf : f < fs.length)
include F hf
theorem impl_vcode {rest : Option (Int × Nat × Nat)} (hnext : Ok (fun r => r = [encB rest]) (impl_Verify_c4 (.int .i64 fs.length) (.int .i64 ((f : Int) + 1)) T (.lst (fs.map FnT.pv)) x3 x4 x5)) : ∀ pc, pc ≤ code.length →
    Ok (fun r => r = [encB (((List.range' pc (code.length - pc)).findSome? (badAt fs code f)).or rest)])
      (impl_Verify_c8 (.int .i64 f) (.int .i64 fs.length) (.int .i64 f) (.lst (code.map InsT.pv)) (.int .i64 code.length) (.int .i64 pc) T (.lst (fs.map FnT.pv)) x3 x4 x5 (ints (depths fs code))) := by
  have hn2 := F.n2
  have hnf := F.nf
  have hg := depths_hgt F
  generalize hd : depths fs code = d at hg
  refine ok_down ?_ ?_
  · rw [impl_Verify_c8_eq, find_end]
    exact ok_lss (ok_ite (fun h => by omega) (fun _ => ok_add (by omega) hnext))
  · intro pc hpc ih
    have hx : code[pc]? = some code[pc] := List.getElem?_eq_getElem hpc
    have hm : code[pc] ∈ code := List.getElem_mem _
    have hu := F.u code[pc] hm
    have hil : pc < d.length := by rw [hg.1]; exact hpc
    have hv := hg.at pc
    have e2 : d[pc] = d[pc]?.getD 0 := getD_is hil
    rw [find_step hpc]
    have eb : badAt fs code f pc = (chkV fs code d pc).map fun c => (c, f, pc) := by unfold badAt; rw [hd]
    rw [eb]
    have ec : chkV fs code d pc = if d[pc]?.getD 0 < 0 then none
      else if can fs code[pc] (d[pc]?.getD 0) = false then some 2
      else if (nexts code[pc] pc).any (fun t => decide ((code.length : Int) ≤ t)) = true then some 3
      else if (nexts code[pc] pc).any (fun t => !decide (d[t.toNat]?.getD 0 = lefts fs code[pc] (d[pc]?.getD 0))) = true then some 4
      else none := by
      conv => lhs; unfold chkV
      rw [hx]
    generalize hw : d[pc]?.getD 0 = w at *
    generalize chkV fs code d pc = ch at *
    rw [impl_Verify_c8_eq]
    refine ok_lss (ok_ite (fun _ => ?_) (fun h => by omega))
    refine ok_at_map hpc (fun _ => rfl) (ok_whole rfl (ok_cell rfl (ok_cell rfl (ok_ints_at hil ?_))))
    rw [e2]
    refine ok_lss (ok_ite (fun h1 => ?_) (fun h1 => ?_))
    · rw [if_pos h1] at ec
      subst ec
      exact ok_add (by omega) ih
    rw [if_neg h1] at ec
    refine ok_ints_at hil ?_
    rw [e2]
    refine ok_call (impl_left (T := T) F hm hv) (fun r hr => ?_)
    subst hr
    refine ok_comp rfl (ok_comp rfl (ok_one rfl (ok_not (ok_ite_b (fun hc => ?_) (fun hc => ?_)))))
    · have hc : can fs code[pc] w = false := by simpa using hc
      rw [if_pos hc] at ec
      subst ec
      exact ok_one rfl (ok_one rfl (ok_some rfl))
    have hc : can fs code[pc] w = true := by simpa using hc
    rw [hc, if_neg (by simp)] at ec
    refine ok_call (impl_next (x := code[pc]) (by omega)) (fun r hr => ?_)
    subst hr
    have hnx := nexts_ok F hm hpc
    have hl10 : (nexts code[pc] pc).length ≤ 10 := by unfold nexts; repeat' split <;> simp
    refine ok_ints_len (ok_hasInt (by omega) ?_)
    rw [hg.1, any_len (fun t ht => (hnx t ht).2)]
    refine ok_ite_b (fun h => ?_) (fun h => ?_)
    · rw [if_pos h] at ec
      subst ec
      exact ok_one rfl (ok_one rfl (ok_some rfl))
    rw [if_neg (by rw [h]; simp)] at ec
    refine ok_anyInt (by omega) (fun t => !decide (d[t.toNat]?.getD 0 = lefts fs code[pc] w)) (fun t ht => ?_) ?_
    · have := hnx t ht
      have := not_any F hf h t ht
      show Ok _ (impl_Verify_1 _ _ _)
      rw [impl_Verify_1_eq]
      refine ok_deref rfl (ok_ints_atI (by omega) (by rw [hg.1]; omega) (fun v hv => ok_deref rfl (ok_neq (ok_some ?_))))
      rw [hv]; rfl
    · refine ok_flat rfl (ok_ite_b (fun h => ?_) (fun h => ?_))
      · rw [if_pos h] at ec
        subst ec
        exact ok_one rfl (ok_one rfl (ok_some rfl))
      · rw [if_neg (by rw [h]; simp)] at ec
        subst ec
        exact ok_add (by omega) ih
end
theorem impl_verify {m : MdT} (h : m.sized) : Ok (fun r => r = [m.verify]) (impl_Verify m.pv) := by
  rw [impl_Verify_eq]
  refine ok_whole rfl (ok_cell rfl (ok_cell rfl (ok_call (impl_moduleOk h) (fun r hr => ?_))))
  subst hr
  unfold MdT.verify
  refine ok_not (ok_ite_b (fun hb => ok_some ?_) (fun hb => ?_))
  · have : m.okB = false := by simpa using hb
    rw [this]; rfl
  have hb : m.okB = true := by simpa using hb
  rw [hb, if_pos rfl]
  obtain ⟨h1, h2, h3⟩ := MdT.okB_fit hb
  refine ok_len_map ?_
  have key := ok_down (n := m.funcs.length) (P := fun f r => r = [encB ((List.range' f (m.funcs.length - f)).findSome? (badFn m.funcs))])
    (F := fun f => impl_Verify_c4 (.int .i64 m.funcs.length) (.int .i64 f) (.lst (m.texts.map PV.str)) (.lst (m.funcs.map FnT.pv)) (.int .i64 0) (.int .i64 0) (.int .i64 0)) ?_ ?_ 0 (by omega)
  · exact key
  · rw [impl_Verify_c4_eq, find_end]
    exact ok_lss (ok_ite (fun h => by omega) (fun _ => ok_some rfl))
  · intro f hf ih
    have F := (h3 m.funcs[f] (List.getElem_mem _)).1
    rw [impl_Verify_c4_eq, find_step hf, badFn_eq hf]
    refine ok_lss (ok_ite (fun _ => ?_) (fun h => by omega))
    refine ok_call (impl_depths_ok F hf rfl) (fun r hr => ?_)
    subst hr
    refine ok_one rfl (ok_at_map hf (fun _ => rfl) (ok_cell rfl (ok_len_map ?_)))
    exact impl_vcode F hf ih 0 (by omega)
theorem chkV_none {fs : List FnT} {code : List InsT} {d : List Int} {pc : Nat} (hpc : pc < code.length) (h : chkV fs code d pc = none) (h0 : ¬ d[pc]?.getD 0 < 0) :
    can fs code[pc] (d[pc]?.getD 0) = true ∧ ∀ t ∈ nexts code[pc] pc, t < code.length ∧ d[t.toNat]?.getD 0 = lefts fs code[pc] (d[pc]?.getD 0) := by
  unfold chkV at h
  rw [List.getElem?_eq_getElem hpc] at h
  simp only at h
  rw [if_neg h0] at h
  split at h
  · cases h
  rename_i h1
  split at h
  · cases h
  rename_i h2
  split at h
  · cases h
  rename_i h3
  refine ⟨by simpa using h1, fun t ht => ?_⟩
  rw [Bool.not_eq_true, List.any_eq_false] at h2 h3
  have g2 := h2 t ht
  have g3 := h3 t ht
  simp at g2 g3
  exact ⟨by omega, g3⟩
theorem bad_none {fs : List FnT} (h : bad fs = none) {f : Nat} (hf : f < fs.length) {pc : Nat} (hpc : pc < fs[f].code.length) : chkV fs fs[f].code (depths fs fs[f].code) pc = none := by
  unfold bad at h
  rw [List.findSome?_eq_none_iff] at h
  have h1 := h f (by rw [List.mem_range'_1]; omega)
  rw [badFn_eq hf, List.findSome?_eq_none_iff] at h1
  have h2 := h1 pc (by rw [List.mem_range'_1]; omega)
  simpa [badAt] using h2
structure GoodM (m : MdT) : Prop where
  sz : m.sized
  ok : m.okB = true
  bad : bad m.funcs = none
def dAt (m : MdT) (f pc : Int) : Int := (depths m.funcs (codeOf m.funcs f))[pc.toNat]?.getD 0
def insN (m : MdT) (f pc : Int) : InsT := (codeOf m.funcs f)[pc.toNat]?.getD ⟨0, 0⟩
abbrev vOk (m : MdT) (n : Int) (v : VlT) : Prop := valOkB m.funcs.length n v = true
theorem strEq_bs : strEq (bs []) (bs []) = true := strEq_refl _
theorem vNil_ok {nf n : Int} : valOkB nf n vNil = true := by simp [valOkB, vNil, strEq_bs]
theorem vInt_ok {nf n x : Int} (h : numOkB x = true) : valOkB nf n (vInt x) = true := by simp [valOkB, vInt, strEq_bs, h]
theorem vBool_ok {nf n : Int} {b : Bool} : valOkB nf n (vBool b) = true := by cases b <;> simp [valOkB, vBool, strEq_bs, bet]
theorem vText_ok {nf n : Int} {s : ByteArray} (h : txtOkB s = true) : valOkB nf n (vText s) = true := by simp [valOkB, vText, h]
theorem vRec_ok {nf n i : Int} (h : 0 ≤ i ∧ i < n) : valOkB nf n (vRec i) = true := by simp [valOkB, vRec, strEq_bs, h]
theorem vFun_ok {nf n i : Int} (h : 0 ≤ i ∧ i < nf) : valOkB nf n (vFun i) = true := by
  have : i ≤ nf - 1 := by omega
  simp [valOkB, vFun, strEq_bs, bet, h, this]
theorem valOk_mono {nf n n' : Int} (hn : n ≤ n') {v : VlT} (h : valOkB nf n v = true) : valOkB nf n' v = true := by
  unfold valOkB at *
  split at h
  · cases h
  rename_i h0
  rw [if_neg h0]
  split at h
  · rename_i h1; rw [if_pos h1]; exact h
  rename_i h1
  rw [if_neg h1]
  split at h
  · rename_i h1; rw [if_pos h1]; exact h
  rename_i h2
  rw [if_neg h2]
  split at h
  · rename_i h1; rw [if_pos h1]; exact h
  rename_i h3
  rw [if_neg h3]
  split at h
  · rename_i h1; rw [if_pos h1]; exact h
  rename_i h4
  rw [if_neg h4]
  split at h
  · rename_i h1
    rw [if_pos h1]
    simp only [Bool.and_eq_true, decide_eq_true_eq] at *
    omega
  rename_i h5
  rw [if_neg h5]
  exact h
theorem txt_cat {a b : ByteArray} (ha : txtOkB a = true) (hb : txtOkB b = true) (h : ¬ (60 : Int) < a.size + b.size) : txtOkB (a ++ b) = true := by
  simp only [txtOkB, Bool.and_eq_true, decide_eq_true_eq, List.all_eq_true] at *
  refine ⟨by rw [ByteArray.size_append]; omega, fun x hx => ?_⟩
  rw [ByteArray.data_append, Array.toList_append, List.mem_append] at hx
  rcases hx with hx | hx
  · exact ha.2 x hx
  · exact hb.2 x hx
theorem valOk_txt {nf n : Int} {v : VlT} (h : valOkB nf n v = true) (hk : v.k = 3) : txtOkB v.s = true := by
  unfold valOkB at h
  rw [if_neg (fun e => e.1 hk), if_neg (by omega), if_neg (by omega), if_neg (by omega), if_pos hk] at h
  simp only [Bool.and_eq_true] at h
  exact h.2
theorem numT_ok {nf n o : Int} {a b : VlT} : valOkB nf n (numT o a b).1 = true := by
  unfold numT
  repeat' split
  all_goals first
    | exact vNil_ok
    | (rename_i h; exact vInt_ok (by simpa using h))
theorem opT_ok {nf n o : Int} {a b : VlT} (ha : valOkB nf n a = true) (hb : valOkB nf n b = true) : valOkB nf n (opT o a b).1 = true := by
  unfold opT
  split
  · split
    · rename_i h
      split
      · exact vNil_ok
      · rename_i h2
        exact vText_ok (txt_cat (valOk_txt ha h.1) (valOk_txt hb h.2) h2)
    · exact numT_ok
  split
  · exact numT_ok
  split
  · exact numT_ok
  split
  · repeat' split
    all_goals first
      | exact vNil_ok
      | exact vBool_ok
  · exact vBool_ok
theorem GoodM.fit {m : MdT} (g : GoodM m) : 1 ≤ m.funcs.length ∧ m.funcs.length ≤ 12 ∧ ∀ f ∈ m.funcs, Fit m.funcs f.code ∧ 0 ≤ f.p ∧ f.p ≤ 6 ∧ f.p ≤ f.lc ∧ f.lc ≤ 12 := MdT.okB_fit g.ok
theorem GoodM.code {m : MdT} (g : GoodM m) {f : Int} (h : 0 ≤ f ∧ f < m.funcs.length) : ∃ i : Nat, ∃ hi : i < m.funcs.length, f = i ∧ codeOf m.funcs f = m.funcs[i].code ∧ Fit m.funcs m.funcs[i].code ∧ 0 ≤ m.funcs[i].p ∧ m.funcs[i].p ≤ 6 ∧ m.funcs[i].p ≤ m.funcs[i].lc ∧ m.funcs[i].lc ≤ 12 ∧ lcOf m.funcs f = m.funcs[i].lc ∧ parOf m.funcs f = m.funcs[i].p ∧
    ∀ x ∈ m.funcs[i].code, insOkB m.texts.length m.funcs.length m.funcs[i].lc m.funcs[i].code.length x.o x.a = true := by
  obtain ⟨i, hi⟩ := Int.eq_ofNat_of_zero_le h.1
  have hl : i < m.funcs.length := by omega
  have hm : m.funcs[i] ∈ m.funcs := List.getElem_mem _
  obtain ⟨F, p1, p2, p3, p4⟩ := g.fit.2.2 _ hm
  refine ⟨i, hl, hi, by simp [codeOf, hi, List.getElem?_eq_getElem hl], F, p1, p2, p3, p4, by simp [lcOf, hi, List.getElem?_eq_getElem hl], by simp [parOf, hi, List.getElem?_eq_getElem hl], fun x hx => ?_⟩
  have h := g.ok
  simp only [MdT.okB, Bool.and_eq_true, bet_iff, decide_eq_true_eq, List.all_eq_true, fnOkB] at h
  exact (h.2.2.2 _ hm).2.2.2 x hx
theorem GoodM.at_ {m : MdT} (g : GoodM m) {f pc : Int} (h : 0 ≤ f ∧ f < m.funcs.length) (hp : 0 ≤ pc ∧ pc < (codeOf m.funcs f).length) (hd : 0 ≤ dAt m f pc) :
    insOkB m.texts.length m.funcs.length (lcOf m.funcs f) (codeOf m.funcs f).length (insN m f pc).o (insN m f pc).a = true ∧
    (0 ≤ (uses m.funcs (insN m f pc)).1 ∧ (uses m.funcs (insN m f pc)).1 ≤ dAt m f pc ∧ 0 ≤ (uses m.funcs (insN m f pc)).2 ∧ (uses m.funcs (insN m f pc)).2 ≤ 2) ∧ dAt m f pc ≤ 16 ∧ lefts m.funcs (insN m f pc) (dAt m f pc) ≤ 16 ∧
    ∀ t ∈ nexts (insN m f pc) pc, (0 ≤ t ∧ t < (codeOf m.funcs f).length) ∧ dAt m f t = lefts m.funcs (insN m f pc) (dAt m f pc) := by
  obtain ⟨i, hi, rfl, hc, F, p1, p2, p3, p4, hlc, hpar, hins⟩ := g.code h
  obtain ⟨j, rfl⟩ := Int.eq_ofNat_of_zero_le hp.1
  have hj : j < m.funcs[i].code.length := by rw [hc] at hp; omega
  have hx : insN m i j = m.funcs[i].code[j] := by simp [insN, hc, List.getElem?_eq_getElem hj]
  have hm : m.funcs[i].code[j] ∈ m.funcs[i].code := List.getElem_mem _
  have hu := F.u _ hm
  have hdd : ∀ t : Int, dAt m i t = (depths m.funcs m.funcs[i].code)[t.toNat]?.getD 0 := fun t => by rw [dAt, hc]
  have hb := (depths_hgt F).at j
  have hck := chkV_none hj (bad_none g.bad hi hj)
  have hnx := nexts_ok F hm hj
  rw [hx, hc, hlc]
  rw [hdd, Int.toNat_natCast] at hd ⊢
  obtain ⟨hcan, hall⟩ := hck (by omega)
  simp only [can, Bool.and_eq_true, decide_eq_true_eq] at hcan
  refine ⟨hins _ hm, ⟨hu.1, hcan.1, hu.2.2⟩, hb.2, hcan.2, fun t ht => ?_⟩
  obtain ⟨q1, q2⟩ := hall t ht
  exact ⟨⟨(hnx t ht).1, q1⟩, by rw [hdd]; exact q2⟩
structure FrI (m : MdT) (n : Int) (f : FrT) : Prop where
  fi : 0 ≤ f.f ∧ f.f < m.funcs.length
  pc : 0 ≤ f.pc ∧ f.pc < (codeOf m.funcs f.f).length
  loc : (f.loc.length : Int) = lcOf m.funcs f.f
  d : 0 ≤ dAt m f.f f.pc
  vl : ∀ v ∈ f.loc, vOk m n v
  vs : ∀ v ∈ f.stk, vOk m n v
structure TopI (m : MdT) (n : Int) (f : FrT) : Prop extends FrI m n f where
  h : (f.stk.length : Int) = dAt m f.f f.pc
structure LowI (m : MdT) (n : Int) (f : FrT) : Prop extends FrI m n f where
  low : 1 ≤ f.pc ∧ 0 ≤ dAt m f.f (f.pc - 1) ∧ ((insN m f.f (f.pc - 1)).o = 23 ∨ (insN m f.f (f.pc - 1)).o = 24)
  h : (f.stk.length : Int) = dAt m f.f f.pc - 1
structure HpI (m : MdT) (hp : List (List VlT)) (made : Int) (out : List ByteArray) : Prop where
  made : hp.length ≤ made ∧ made ≤ 120
  recs : ∀ r ∈ hp, r.length ≤ 6 ∧ ∀ v ∈ r, vOk m hp.length v
  out : out.length ≤ 200
structure VmI (m : MdT) (v : VmT) : Prop where
  hp : HpI m v.hp v.made v.out
  steps : 0 ≤ v.steps ∧ v.steps ≤ 50000
  nfr : v.fr.length ≤ 24
  run : v.st = 0 → v.fr ≠ []
  top : ∀ fs0 f, v.fr = fs0 ++ [f] → TopI m v.hp.length f ∧ ∀ g ∈ fs0, LowI m v.hp.length g
theorem FrI.mono {m : MdT} {n n' : Int} (hn : n ≤ n') {f : FrT} (h : FrI m n f) : FrI m n' f :=
  ⟨h.fi, h.pc, h.loc, h.d, fun v hv => valOk_mono hn (h.vl v hv), fun v hv => valOk_mono hn (h.vs v hv)⟩
theorem LowI.mono {m : MdT} {n n' : Int} (hn : n ≤ n') {f : FrT} (h : LowI m n f) : LowI m n' f := ⟨h.toFrI.mono hn, h.low, h.h⟩
theorem FrI.small {m : MdT} (g : GoodM m) {n : Int} {f : FrT} (h : FrI m n f) : f.loc.length ≤ 12 := by
  obtain ⟨i, hi, he, hc, F, p1, p2, p3, p4, hlc, hpar, hins⟩ := g.code h.fi
  have := h.loc
  omega
theorem FrI.dle {m : MdT} (g : GoodM m) {n : Int} {f : FrT} (h : FrI m n f) : dAt m f.f f.pc ≤ 16 := (g.at_ h.fi h.pc h.d).2.2.1
theorem VmI.sz {m : MdT} (g : GoodM m) {v : VmT} (h : VmI m v) : Sz v := by
  have := h.hp.made
  have := h.hp.out
  have := h.nfr
  refine ⟨by omega, by omega, by omega, fun f hf => ?_, fun r hr => by have := (h.hp.recs r hr).1; omega⟩
  rcases List.eq_nil_or_concat v.fr with h0 | ⟨fs0, f0, h0⟩
  · rw [h0] at hf; cases hf
  · obtain ⟨t, l⟩ := h.top fs0 f0 (by rw [h0]; simp)
    rw [h0] at hf
    simp only [List.concat_eq_append, List.mem_append, List.mem_singleton] at hf
    rcases hf with hf | rfl
    · have := (l f hf).toFrI.small g
      have := (l f hf).toFrI.dle g
      have := (l f hf).h
      omega
    · have := t.toFrI.small g
      have := t.toFrI.dle g
      have := t.h
      omega
theorem VmI.goes {m : MdT} (g : GoodM m) {v : VmT} (h : VmI m v) (h0 : v.st = 0) : ∃ fs0 f, Goes1 m v fs0 f := by
  rcases List.eq_nil_or_concat v.fr with e | ⟨fs0, f, e⟩
  · exact absurd e (h.run h0)
  rw [List.concat_eq_append] at e
  refine ⟨fs0, f, ?_⟩
  obtain ⟨t, l⟩ := h.top fs0 f e
  obtain ⟨i, hi, he, hc, F, p1, p2, p3, p4, hlc, hpar, hins⟩ := g.code t.fi
  obtain ⟨a1, a2, a3, a4, a5⟩ := g.at_ t.fi t.pc t.d
  have hx : insAt m.funcs f = insN m f.f f.pc := rfl
  have hh := t.h
  have hm := h.hp.made
  have hn := h.nfr
  rw [e, List.length_append, List.length_singleton] at hn
  refine ⟨e, t.fi, t.pc, by rw [hc]; exact F.n2, by rw [hx, t.loc]; exact a1, by rw [hx, hh]; exact ⟨a2.1, a2.2.1⟩, fun b => ?_⟩
  refine ⟨g.fit.2.1, ?_, fun f hf => ?_, by omega, fun f hf => ?_, by have := t.toFrI.small g; exact this, ?_, fun r hr => (h.hp.recs r hr).1, by omega, by omega, h.hp.out, fun v hv => t.vs v (List.mem_of_mem_drop hv)⟩
  · have h := g.ok
    simp only [MdT.okB, Bool.and_eq_true, bet_iff, decide_eq_true_eq] at h
    omega
  · have := g.fit.2.2 f hf
    exact this.2
  · have := (l f hf).toFrI.dle g
    have := (l f hf).h
    omega
  · simp only [List.length_take, List.length_drop]
    omega
structure NextI (m : MdT) (v : VmT) (f : FrT) (x : InsT) (fr : FrT) (hp : List (List VlT)) (made : Int) (out : List ByteArray) : Prop where
  ff : fr.f = f.f
  pc : fr.pc ∈ nexts x f.pc
  loc : fr.loc.length = f.loc.length
  len : (fr.stk.length : Int) = lefts m.funcs x f.stk.length
  vl : ∀ y ∈ fr.loc, vOk m hp.length y
  vs : ∀ y ∈ fr.stk, vOk m hp.length y
  n : v.hp.length ≤ hp.length
  hpI : HpI m hp made out
structure CallI (m : MdT) (v : VmT) (fs0 : List FrT) (f : FrT) (x : InsT) (fr g : FrT) : Prop where
  n : fs0.length + 1 < 24
  o : x.o = 23 ∨ x.o = 24
  frr : fr = ⟨f.f, f.pc + 1, f.loc, f.stk.take (f.stk.length - (uses m.funcs x).1.toNat)⟩
  gg : ∃ i args, g = newF m.funcs i args ∧ (0 ≤ i ∧ i < m.funcs.length) ∧ (args.length : Int) = parOf m.funcs i ∧ ∀ y ∈ args, vOk m v.hp.length y
def ActI (m : MdT) (v : VmT) (fs0 : List FrT) (f : FrT) (x : InsT) : ActT → Prop
  | .trap _ => True
  | .next fr hp made out => NextI m v f x fr hp made out
  | .call fr g => CallI m v fs0 f x fr g
  | .ret a => vOk m v.hp.length a
theorem getD_ok {m : MdT} {n : Int} {l : List VlT} (h : ∀ y ∈ l, vOk m n y) (i : Nat) : vOk m n (l[i]?.getD vNil) := by
  cases hx : l[i]? with
  | none => exact vNil_ok
  | some y => exact h y (List.mem_of_getElem? hx)
theorem rec_ok {m : MdT} {v : VmT} (h : HpI m v.hp v.made v.out) (i : Nat) : (v.hp[i]?.getD []).length ≤ 6 ∧ ∀ y ∈ v.hp[i]?.getD [], vOk m v.hp.length y := by
  cases hx : v.hp[i]? with
  | none => simp
  | some y => exact h.recs y (List.mem_of_getElem? hx)
theorem set_ok {m : MdT} {n : Int} {l : List VlT} (h : ∀ y ∈ l, vOk m n y) {y : VlT} (hy : vOk m n y) (i : Nat) : ∀ z ∈ l.set i y, vOk m n z := by
  intro z hz
  rcases List.mem_or_eq_of_mem_set hz with h1 | rfl
  · exact h z h1
  · exact hy
theorem cat_ok {m : MdT} {n : Int} {a b : List VlT} (h : ∀ y ∈ a, vOk m n y) (h' : ∀ y ∈ b, vOk m n y) : ∀ y ∈ a ++ b, vOk m n y := by
  intro y hy
  rcases List.mem_append.1 hy with h1 | h1
  · exact h y h1
  · exact h' y h1
theorem nexts_inc {x : InsT} {pc : Int} (h : x.o ≠ 17 ∧ x.o ≠ 25) : pc + 1 ∈ nexts x pc := by simp [nexts, h]
theorem nexts_jump {x : InsT} {pc : Int} (h : x.o = 17 ∨ x.o = 18 ∨ x.o = 19) : x.a ∈ nexts x pc := by unfold nexts; rw [if_pos h]; simp
section
variable {m : MdT} {v : VmT} {fs0 : List FrT} {f : FrT} {x : InsT}
theorem do_inv (g : GoodM m) (h : VmI m v) (t : TopI m v.hp.length f) (hx : insAt m.funcs f = x) (hn : fs0.length + 1 ≤ 24) : ActI m v fs0 f x (nextT m v fs0 f) := by
  obtain ⟨a1, a2, a3, a4, a5⟩ := g.at_ t.fi t.pc t.d
  have hi : insN m f.f f.pc = x := hx
  rw [hi] at a1 a2 a4 a5
  have hh := t.h
  rw [← hh] at a2 a3 a4
  rw [← t.loc] at a1
  have ib := insOk_inv a1
  show ActI m v fs0 f x (doT m ⟨f.f, f.pc + 1, f.loc, f.stk.take (f.stk.length - (uses m.funcs (insAt m.funcs f)).1.toNat)⟩ (f.stk.drop (f.stk.length - (uses m.funcs (insAt m.funcs f)).1.toNat)) (fs0.length + 1) v.hp v.made v.out (insAt m.funcs f))
  rw [hx]
  generalize hb : f.stk.length - (uses m.funcs x).1.toNat = b
  have hlt : ((f.stk.take b).length : Int) = f.stk.length - (uses m.funcs x).1 := by rw [List.length_take]; omega
  have hld : ((f.stk.drop b).length : Int) = (uses m.funcs x).1 := by rw [List.length_drop]; omega
  have kt : ∀ y ∈ f.stk.take b, vOk m v.hp.length y := fun y hy => t.vs y (List.mem_of_mem_take hy)
  have kd : ∀ y ∈ f.stk.drop b, vOk m v.hp.length y := fun y hy => t.vs y (List.mem_of_mem_drop hy)
  have hlef : lefts m.funcs x f.stk.length = f.stk.length - (uses m.funcs x).1 + (uses m.funcs x).2 := rfl
  generalize htk : f.stk.take b = T at *
  generalize hdr : f.stk.drop b = D at *
  have ka : vOk m v.hp.length (D.headD vNil) := by
    cases D with
    | nil => exact vNil_ok
    | cons y r => exact kd y (by simp)
  have kb : vOk m v.hp.length (D.tail.headD vNil) := by
    cases D with
    | nil => exact vNil_ok
    | cons y r => cases r with
      | nil => exact vNil_ok
      | cons z r => exact kd z (by simp)
  have ktl : ∀ y ∈ D.tail, vOk m v.hp.length y := fun y hy => kd y (List.mem_of_mem_tail hy)
  have go : ∀ (l : List VlT) (pc : Int), pc ∈ nexts x f.pc → (∀ y ∈ l, vOk m v.hp.length y) → (l.length : Int) = (uses m.funcs x).2 → NextI m v f x ⟨f.f, pc, f.loc, T ++ l⟩ v.hp v.made v.out := fun l pc hpc hl hn =>
    ⟨rfl, hpc, rfl, by rw [hlef, List.length_append]; omega, t.vl, cat_ok kt hl, Nat.le_refl _, h.hp⟩
  have go0 : ∀ pc : Int, pc ∈ nexts x f.pc → (uses m.funcs x).2 = 0 → NextI m v f x ⟨f.f, pc, f.loc, T⟩ v.hp v.made v.out := fun pc hpc hn => by
    have := go [] pc hpc (by simp) (by simp [hn])
    simpa using this
  have one : ∀ y, vOk m v.hp.length y → ∀ z ∈ [y], vOk m v.hp.length z := fun y hy z hz => by rw [List.mem_singleton] at hz; rw [hz]; exact hy
  have two : ∀ y y', vOk m v.hp.length y → vOk m v.hp.length y' → ∀ z ∈ [y, y'], vOk m v.hp.length z := fun y y' hy hy' z hz => by
    simp only [List.mem_cons, List.not_mem_nil, or_false] at hz
    rcases hz with rfl | rfl
    · exact hy
    · exact hy'
  obtain ⟨⟨o1, o2⟩, i3, i67, i20, i21, i23, i5, ij, i1⟩ := ib
  have inc : x.o ≠ 17 → x.o ≠ 25 → f.pc + 1 ∈ nexts x f.pc := fun h1 h2 => nexts_inc ⟨h1, h2⟩
  unfold doT
  simp only
  by_cases h1 : x.o = 1
  · rw [if_pos h1]
    exact go _ _ (inc (by omega) (by omega)) (one _ (vInt_ok (i1 h1))) (by simp [uses, h1])
  rw [if_neg h1]
  by_cases h2 : x.o = 2
  · rw [if_pos h2]
    exact go _ _ (inc (by omega) (by omega)) (one _ vBool_ok) (by simp [uses, h2])
  rw [if_neg h2]
  by_cases h3 : x.o = 3
  · rw [if_pos h3]
    refine go _ _ (inc (by omega) (by omega)) (one _ (vText_ok ?_)) (by simp [uses, h3])
    have hok := g.ok
    simp only [MdT.okB, Bool.and_eq_true, bet_iff, decide_eq_true_eq, List.all_eq_true] at hok
    have := i3 h3
    rw [List.getElem?_eq_getElem (by omega)]
    exact hok.2.2.1 _ (List.getElem_mem _)
  rw [if_neg h3]
  by_cases h4 : x.o = 4
  · rw [if_pos h4]
    exact go _ _ (inc (by omega) (by omega)) (one _ vNil_ok) (by simp [uses, h4])
  rw [if_neg h4]
  by_cases h5 : x.o = 5
  · rw [if_pos h5]
    exact go _ _ (inc (by omega) (by omega)) (one _ (vFun_ok (i5 (.inl h5)))) (by simp [uses, h5])
  rw [if_neg h5]
  by_cases h6 : x.o = 6
  · rw [if_pos h6]
    exact go _ _ (inc (by omega) (by omega)) (one _ (getD_ok t.vl _)) (by simp [uses, h6])
  rw [if_neg h6]
  by_cases h7 : x.o = 7
  · rw [if_pos h7]
    exact ⟨rfl, inc (by omega) (by omega), by simp, by rw [hlef]; simp only; rw [hlt]; simp [uses, h7], set_ok t.vl ka _, kt, Nat.le_refl _, h.hp⟩
  rw [if_neg h7]
  by_cases h8 : x.o = 8
  · rw [if_pos h8]
    exact go _ _ (inc (by omega) (by omega)) (two _ _ ka ka) (by simp [uses, h8])
  rw [if_neg h8]
  by_cases h9 : x.o = 9
  · rw [if_pos h9]
    exact go _ _ (inc (by omega) (by omega)) (by simp) (by simp [uses, h9])
  rw [if_neg h9]
  by_cases h10 : x.o = 10
  · rw [if_pos h10]
    exact go _ _ (inc (by omega) (by omega)) (two _ _ kb ka) (by simp [uses, h10])
  rw [if_neg h10]
  by_cases h15 : x.o ≤ 15
  · rw [if_pos h15]
    have hu : (uses m.funcs x).2 = 1 := by
      have : x.o = 11 ∨ x.o = 12 ∨ x.o = 13 ∨ x.o = 14 ∨ x.o = 15 := by omega
      rcases this with h | h | h | h | h <;> simp [uses, h]
    split
    · trivial
    · exact go _ _ (inc (by omega) (by omega)) (one _ (opT_ok ka kb)) (by rw [hu]; rfl)
  rw [if_neg h15]
  by_cases h16 : x.o = 16
  · rw [if_pos h16]
    split
    · trivial
    · refine go _ _ (inc (by omega) (by omega)) (one _ ?_) (by simp [uses, h16])
      unfold notT
      split
      · exact vNil_ok
      · exact vBool_ok
  rw [if_neg h16]
  by_cases h17 : x.o = 17
  · rw [if_pos h17]
    exact go0 _ (nexts_jump (.inl h17)) (by simp [uses, h17])
  rw [if_neg h17]
  by_cases h19 : x.o ≤ 19
  · rw [if_pos h19]
    have h89 : x.o = 18 ∨ x.o = 19 := by omega
    have hu : (uses m.funcs x).2 = 0 := by rcases h89 with h | h <;> simp [uses, h]
    split
    · trivial
    split
    · exact go0 _ (nexts_jump (.inr h89)) hu
    · exact go _ _ (inc (by omega) (by omega)) (by simp) (by rw [hu]; rfl)
  rw [if_neg h19]
  by_cases h20 : x.o = 20
  · rw [if_pos h20]
    split
    · trivial
    rename_i hm
    have hm0 := h.hp.made
    have hl : (v.hp ++ [List.replicate x.a.toNat vNil]).length = v.hp.length + 1 := by simp
    refine ⟨rfl, inc (by omega) (by omega), rfl, ?_, fun y hy => valOk_mono (by rw [hl]; omega) (t.vl y hy), cat_ok (fun y hy => valOk_mono (by rw [hl]; omega) (kt y hy)) (fun y hy => ?_), by rw [hl]; omega, ⟨by rw [hl]; omega, fun r hr => ?_, h.hp.out⟩⟩
    · rw [hlef]; simp only [List.length_append, List.length_singleton]
      have hu : (uses m.funcs x).2 = 1 := by simp [uses, h20]
      omega
    · rw [List.mem_singleton] at hy
      rw [hy]
      exact vRec_ok (by rw [hl]; omega)
    · rcases List.mem_append.1 hr with hr | hr
      · exact ⟨(h.hp.recs r hr).1, fun y hy => valOk_mono (by rw [hl]; omega) ((h.hp.recs r hr).2 y hy)⟩
      · rw [List.mem_singleton] at hr
        rw [hr]
        have := i20 h20
        refine ⟨by rw [List.length_replicate]; omega, fun y hy => ?_⟩
        rw [List.eq_of_mem_replicate hy]
        exact vNil_ok
  rw [if_neg h20]
  by_cases h21 : x.o = 21
  · rw [if_pos h21]
    split
    · trivial
    split
    · trivial
    exact go _ _ (inc (by omega) (by omega)) (one _ (getD_ok (rec_ok h.hp _).2 _)) (by simp [uses, h21])
  rw [if_neg h21]
  by_cases h22 : x.o = 22
  · rw [if_pos h22]
    split
    · trivial
    split
    · trivial
    have hl : ∀ r, (v.hp.set (D.headD vNil).n.toNat r).length = v.hp.length := fun r => List.length_set
    refine ⟨rfl, inc (by omega) (by omega), rfl, by rw [hlef]; simp only; rw [hlt]; simp [uses, h22], fun y hy => by rw [vOk, hl]; exact t.vl y hy, fun y hy => by rw [vOk, hl]; exact kt y hy, by rw [hl]; omega, ⟨by rw [hl]; exact h.hp.made, fun r hr => ?_, h.hp.out⟩⟩
    rw [hl]
    rcases List.mem_or_eq_of_mem_set hr with hr | hr
    · exact h.hp.recs r hr
    · rw [hr]
      exact ⟨by rw [List.length_set]; exact (rec_ok h.hp _).1, set_ok (rec_ok h.hp _).2 kb _⟩
  rw [if_neg h22]
  by_cases h23 : x.o = 23
  · rw [if_pos h23]
    have hxa := i23 h23
    have hu : uses m.funcs x = (x.a + 1, 1) := by
      have : 0 ≤ x.a ∧ x.a ≤ 6 := hxa
      simp [uses, h23, this]
    rw [hu] at hld hb
    simp only at hld hb
    split
    · trivial
    rename_i hk
    have hk : (D.headD vNil).k = 5 := by omega
    split
    · trivial
    rename_i hp
    have hp : parOf m.funcs (D.headD vNil).n = x.a := by omega
    split
    · trivial
    rename_i hd
    refine ⟨?_, .inl h23, ?_, _, _, rfl, valOk_fun ka hk, by rw [List.length_tail, hp]; omega, ktl⟩
    · omega
    · rw [← htk, ← hb, hu]
  rw [if_neg h23]
  by_cases h24 : x.o = 24
  · rw [if_pos h24]
    have hxa := i5 (.inr h24)
    have hu : uses m.funcs x = (parOf m.funcs x.a, 1) := by
      have : 0 ≤ x.a ∧ x.a < m.funcs.length := hxa
      simp [uses, h24, this]
    rw [hu] at hld hb
    simp only at hld hb
    split
    · trivial
    rename_i hd
    refine ⟨?_, .inr h24, ?_, _, _, rfl, hxa, hld, kd⟩
    · omega
    · rw [← htk, ← hb, hu]
  rw [if_neg h24]
  by_cases h25 : x.o = 25
  · rw [if_pos h25]
    exact ka
  rw [if_neg h25]
  have h26 : x.o = 26 := by omega
  split
  · trivial
  rename_i ho
  have := h.hp.out
  exact ⟨rfl, inc (by omega) (by omega), rfl, by rw [hlef]; simp only; rw [hlt]; simp [uses, h26], t.vl, kt, Nat.le_refl _, ⟨h.hp.made, h.hp.recs, by simp; omega⟩⟩
end
theorem snoc_inj {α : Type} {a b : List α} {x y : α} (h : a ++ [x] = b ++ [y]) : a = b ∧ x = y := by
  have := List.append_inj' h rfl
  exact ⟨this.1, by simpa using this.2⟩
theorem LowI.top {m : MdT} {n : Int} {f : FrT} {a : VlT} (h : LowI m n f) (ha : vOk m n a) : TopI m n ⟨f.f, f.pc, f.loc, f.stk ++ [a]⟩ :=
  ⟨⟨h.fi, h.pc, h.loc, h.d, h.vl, cat_ok h.vs (fun y hy => by rw [List.mem_singleton] at hy; rw [hy]; exact ha)⟩, by
    have := h.h
    simp only [List.length_append, List.length_singleton]
    omega⟩
theorem newF_top {m : MdT} (g : GoodM m) {n i : Int} {args : List VlT} (hi : 0 ≤ i ∧ i < m.funcs.length) (hn : (args.length : Int) = parOf m.funcs i) (ha : ∀ y ∈ args, vOk m n y) : TopI m n (newF m.funcs i args) := by
  obtain ⟨k, hk, he, hc, F, p1, p2, p3, p4, hlc, hpar, hins⟩ := g.code hi
  have h0 : dAt m i 0 = 0 := by
    rw [dAt, hc, Int.toNat_zero, depths_zero F]; rfl
  refine ⟨⟨hi, ?_, ?_, ?_, ?_, fun y hy => by cases hy⟩, ?_⟩
  · show (0 : Int) ≤ 0 ∧ 0 < ((codeOf m.funcs i).length : Int)
    have := F.n1
    rw [hc]; omega
  · show ((args ++ List.replicate ((lcOf m.funcs i).toNat - args.length) vNil).length : Int) = lcOf m.funcs i
    rw [List.length_append, List.length_replicate]
    omega
  · show 0 ≤ dAt m i 0
    omega
  · refine cat_ok ha (fun y hy => ?_)
    rw [List.eq_of_mem_replicate hy]
    exact vNil_ok
  · show ((0 : Nat) : Int) = dAt m i 0
    omega
theorem VmI.step {m : MdT} (g : GoodM m) {v : VmT} (h : VmI m v) : VmI m (stepT m v) := by
  by_cases h0 : v.st ≠ 0
  · have : stepT m v = v := by unfold stepT; rw [if_pos h0]
    rw [this]; exact h
  have h0 : v.st = 0 := by omega
  by_cases h5 : v.steps = 50000
  · have : stepT m v = v := by unfold stepT; rw [if_neg (by omega), if_pos h5]
    rw [this]; exact h
  obtain ⟨fs0, f, G⟩ := h.goes g h0
  obtain ⟨t, low⟩ := h.top fs0 f G.fr
  have hnf := h.nfr
  rw [G.fr, List.length_append, List.length_singleton] at hnf
  have hst := h.steps
  rw [stepT_run h0 h5 G.fr]
  have A := do_inv (fs0 := fs0) g h t rfl hnf
  obtain ⟨a1, a2, a3, a4, a5⟩ := g.at_ t.fi t.pc t.d
  have hh := t.h
  have hx : insN m f.f f.pc = insAt m.funcs f := rfl
  rw [hx] at a1 a2 a4 a5
  cases ha : nextT m v fs0 f with
  | trap c =>
    exact ⟨h.hp, by show 0 ≤ v.steps + 1 ∧ v.steps + 1 ≤ 50000; omega, h.nfr, fun h => absurd h (by show (2 : Int) ≠ 0; omega), h.top⟩
  | next fr hp made out =>
    rw [ha] at A
    have A : NextI m v f (insAt m.funcs f) fr hp made out := A
    obtain ⟨b1, b2⟩ := a5 _ A.pc
    refine ⟨A.hpI, by show 0 ≤ v.steps + 1 ∧ v.steps + 1 ≤ 50000; omega, by show (fs0 ++ [fr]).length ≤ 24; rw [List.length_append, List.length_singleton]; exact hnf, fun _ => by show fs0 ++ [fr] ≠ []; simp, fun fs1 f1 he => ?_⟩
    obtain ⟨rfl, rfl⟩ := snoc_inj (show fs0 ++ [fr] = fs1 ++ [f1] from he)
    refine ⟨⟨⟨by rw [A.ff]; exact t.fi, by rw [A.ff]; exact b1, by rw [A.ff, A.loc]; exact t.loc, by rw [A.ff, b2]; have := A.len; rw [hh] at this; omega, A.vl, A.vs⟩, by rw [A.len, A.ff, b2, hh]⟩, fun f hf => (low f hf).mono (n' := (hp.length : Int)) (by have := A.n; omega)⟩
  | call fr gg =>
    rw [ha] at A
    have A : CallI m v fs0 f (insAt m.funcs f) fr gg := A
    obtain ⟨i, args, rfl, hi, hn, hv⟩ := A.gg
    have hnx : f.pc + 1 ∈ nexts (insAt m.funcs f) f.pc := nexts_inc (by have := A.o; omega)
    obtain ⟨b1, b2⟩ := a5 _ hnx
    have hu2 : (uses m.funcs (insAt m.funcs f)).2 = 1 := by
      have ib := insOk_inv a1
      rcases A.o with ho | ho
      · have := ib.2.2.2.2.2.1 ho
        simp [uses, ho, this]
      · have := ib.2.2.2.2.2.2.1 (.inr ho)
        simp [uses, ho, this]
    have hlef : lefts m.funcs (insAt m.funcs f) (dAt m f.f f.pc) = dAt m f.f f.pc - (uses m.funcs (insAt m.funcs f)).1 + (uses m.funcs (insAt m.funcs f)).2 := rfl
    refine ⟨h.hp, by show 0 ≤ v.steps + 1 ∧ v.steps + 1 ≤ 50000; omega, by show (fs0 ++ [fr, newF m.funcs i args]).length ≤ 24; rw [List.length_append]; have := A.n; simp only [List.length_cons, List.length_nil]; omega, fun _ => by show fs0 ++ [fr, newF m.funcs i args] ≠ []; simp, fun fs1 f1 he => ?_⟩
    have he : fs0 ++ [fr, newF m.funcs i args] = fs1 ++ [f1] := he
    rw [show fs0 ++ [fr, newF m.funcs i args] = (fs0 ++ [fr]) ++ [newF m.funcs i args] by simp] at he
    obtain ⟨rfl, rfl⟩ := snoc_inj he
    refine ⟨newF_top g hi hn hv, fun y hy => ?_⟩
    rcases List.mem_append.1 hy with hy | hy
    · exact low y hy
    · rw [List.mem_singleton] at hy
      rw [hy, A.frr]
      refine ⟨⟨t.fi, b1, t.loc, by show 0 ≤ dAt m f.f (f.pc + 1); rw [b2]; omega, t.vl, fun y hy => t.vs y (List.mem_of_mem_take hy)⟩, ?_, ?_⟩
      · show 1 ≤ f.pc + 1 ∧ 0 ≤ dAt m f.f (f.pc + 1 - 1) ∧ ((insN m f.f (f.pc + 1 - 1)).o = 23 ∨ (insN m f.f (f.pc + 1 - 1)).o = 24)
        rw [show f.pc + 1 - 1 = f.pc by omega]
        exact ⟨by have := t.pc; omega, t.d, A.o⟩
      · show ((f.stk.take (f.stk.length - (uses m.funcs (insAt m.funcs f)).1.toNat)).length : Int) = dAt m f.f (f.pc + 1) - 1
        rw [b2, List.length_take]
        omega
  | ret a =>
    rw [ha] at A
    have A : vOk m v.hp.length a := A
    by_cases hf : fs0 = []
    · have e : actT m v fs0 (.ret a) = ⟨[], v.hp, v.made, v.out, 1, v.tr, a, v.steps + 1⟩ := if_pos hf
      rw [e]
      exact ⟨h.hp, by show 0 ≤ v.steps + 1 ∧ v.steps + 1 ≤ 50000; omega, by simp, fun h => absurd h (by show (1 : Int) ≠ 0; omega), fun fs1 f1 he => by simp at he⟩
    · have e : actT m v fs0 (.ret a) = ⟨layOn a fs0, v.hp, v.made, v.out, v.st, v.tr, v.val, v.steps + 1⟩ := if_neg hf
      rw [e]
      rcases List.eq_nil_or_concat fs0 with e0 | ⟨fs1, f1, e1⟩
      · exact absurd e0 hf
      rw [List.concat_eq_append] at e1
      subst e1
      rw [layOn_last]
      simp only [List.length_append, List.length_singleton] at hnf
      refine ⟨h.hp, by show 0 ≤ v.steps + 1 ∧ v.steps + 1 ≤ 50000; omega, by simp only [List.length_append, List.length_singleton]; omega, fun _ => by simp, fun fs2 f2 he => ?_⟩
      obtain ⟨rfl, rfl⟩ := snoc_inj he
      exact ⟨(low f1 (by simp)).top A, fun y hy => low y (by simp [hy])⟩
end Go.Proofs.YtjgleeamiclokaaGreat
