/-
  Texts of the proof, part 7: a value-level evaluator and its soundness, what the functions compute, laws about it.
  Conditions: none.
-/
import Derived.Test.YtjgleeamiclokaaGreatF
import Derived.Calls
import Derived.KernelRfl
import Derived.Orders
import Derived.IntWalk
import Derived.Test.YtjgleeamiclokaaGreatProg
import Derived.Laws.IdiomCopy
import Derived.Laws.Cells
import Derived.Below
import Derived.Laws.StructEq
import Derived.Laws.BytesString
import Derived.Laws.NewFold
import Derived.Laws.Tables
import Derived.Great.FillDense
import Derived.Lib.Strings
import Derived.WalkKit
import Derived.ProofKit
import Derived.OpenShut
import Derived.ShutString
import Derived.ChangeOld
set_option linter.all false
namespace Go.Proofs.YtjgleeamiclokaaGreat
open Go
attribute [local irreducible] bd PV.ite PV.guardFlat PV.guardOwn PV.whole PV.one PV.cell PV.sub PV.at_ PV.len PV.slen PV.chr PV.beq PV.peq PV.ceq PV.bin PV.neg PV.not PV.conv PV.cut PV.scut PV.cat PV.setAt PV.setCell PV.ncopy PV.copyIn PV.zeros PV.toStr PV.toBytes PV.deref PV.isPtr PV.comp PV.inb PV.off PV.imin PV.imax PV.sel PV.apply
def IsIns (x : PV) : Prop := ∃ o a : Int, x = .agg [.int .i64 o, .int .i64 a] ∧ (-9223372036854775808 ≤ o ∧ o ≤ 9223372036854775807) ∧ (-9223372036854775808 ≤ a ∧ a ≤ 9223372036854775807)
def Cd (cs : List PV) : Prop := ∀ x ∈ cs, IsIns x
theorem Cd.el {cs : List PV} (h : Cd cs) : ∀ x ∈ cs, x.isEl 2 true = true := by
  intro x hx
  obtain ⟨o, a, rfl, _⟩ := h x hx
  rfl
theorem Cd.nil : Cd [] := fun x hx => by cases hx
theorem Cd.append {a b : List PV} (h : Cd a) (k : Cd b) : Cd (a ++ b) := fun x hx => (List.mem_append.1 hx).elim (h x) (k x)
theorem Cd.one {o a : Int} (h : -9223372036854775808 ≤ o ∧ o ≤ 9223372036854775807) (k : -9223372036854775808 ≤ a ∧ a ≤ 9223372036854775807) : Cd [.agg [.int .i64 o, .int .i64 a]] := by
  intro x hx
  simp only [List.mem_singleton] at hx
  exact ⟨o, a, hx, h, k⟩
section
variable {P : R → Prop} {k : R → Option R}
theorem ok_put {o x : Int} {F T L M C A S : PV} {cs : List PV} (ho : -9223372036854775808 ≤ o ∧ o ≤ 9223372036854775807) (hx : -9223372036854775808 ≤ x ∧ x ≤ 9223372036854775807) (hc : Cd cs) (hl : (cs.length : Int) ≤ 1000000000)
    (h : ∀ cs' : List PV, Cd cs' → (cs'.length : Int) = cs.length + 1 → Ok P (k [F, T, L, M, C, A, S, .lst cs'])) : Ok P (bd (spec_l01Asm_put (.int .i64 o) (.int .i64 x) F T L M C A S (.lst cs)) k) := by
  refine ok_call (Q := fun r => r = [F, T, L, M, C, A, S, .lst (cs ++ [.agg [.int .i64 o, .int .i64 x]])]) ?_ (fun r hr => ?_)
  · rw [spec_l01Asm_put_eq]
    refine ok_one rfl (ok_one rfl (ok_cat ?_ (Cd.one ho hx).el (ok_some rfl)))
    simp only [List.length_cons, List.length_nil]
    omega
  · rw [hr]
    exact h _ (hc.append (Cd.one ho hx)) (by simp)
theorem ok_num {x : Int} {F T L M C A S D : PV} (hx : 0 ≤ x ∧ x ≤ 1000000000) (h : Ok P (k [.int .i64 (x + 1), F, T, L, M, C, A, S, D])) : Ok P (bd (spec_l01Asm_number (.int .i64 x) F T L M C A S D) k) := by
  refine ok_call (Q := fun r => r = [.int .i64 (x + 1), F, T, L, M, C, A, S, D]) ?_ (fun r hr => by rw [hr]; exact h)
  rw [spec_l01Asm_number_eq]
  refine ok_add (by omega) (ok_some rfl)
end
def isNumB : PV → Bool
  | .int .i64 n => decide (-1000000000 ≤ n) && decide (n ≤ 1000000000)
  | _ => false
theorem isNumB_inv {x : PV} (h : isNumB x = true) : ∃ n : Int, x = .int .i64 n ∧ -1000000000 ≤ n ∧ n ≤ 1000000000 := by
  unfold isNumB at h
  split at h
  · rename_i n
    simp only [Bool.and_eq_true, decide_eq_true_eq] at h
    exact ⟨n, rfl, h⟩
  · cases h
theorem ok_lits {P : R → Prop} {k : PV → Option R} {xs : List PV} {i : Int} (hx : xs.all isNumB = true) (h0 : 0 ≤ i) (h1 : i < xs.length) (h : ∀ x : Int, -1000000000 ≤ x ∧ x ≤ 1000000000 → Ok P (k (.int .i64 x))) : Ok P (bd (PV.at_ 1 false (.lst xs) (.int .i64 i)) k) := by
  rw [List.all_eq_true] at hx
  refine ok_at h0 h1 (fun x hm => ?_) (fun x hm _ => ?_)
  · obtain ⟨n, rfl, _⟩ := isNumB_inv (hx x hm); rfl
  · obtain ⟨n, rfl, hn⟩ := isNumB_inv (hx x hm); exact h n hn
theorem ok_cut_code {P : R → Prop} {k : PV → Option R} {cs : List PV} {m n : Int} (hc : Cd cs) (h0 : 0 ≤ m) (h1 : m ≤ n) (h2 : n ≤ cs.length) (h : ∀ cs' : List PV, Cd cs' → (cs'.length : Int) = n - m → Ok P (k (.lst cs'))) :
    Ok P (bd (PV.cut 2 true (.lst cs) (.int .i64 m) (.int .i64 n)) k) := by
  refine ok_cut h0 h1 h2 hc.el (h _ (fun x hx => hc x (List.mem_of_mem_take (List.mem_of_mem_drop hx))) ?_)
  rw [List.length_drop, List.length_take]
  omega
theorem ok_setCode {P : R → Prop} {k : PV → Option R} {cs : List PV} {i n : Int} (hc : Cd cs) (h0 : 0 ≤ i) (h1 : i < cs.length) (hn : -9223372036854775808 ≤ n ∧ n ≤ 9223372036854775807) (h : ∀ cs' : List PV, Cd cs' → (cs'.length : Int) = cs.length → Ok P (k (.lst cs'))) :
    Ok P (bd (PV.setCell 2 (.lst cs) (.int .i64 i) 1 (.int .i64 n)) k) := by
  have hlt : i.toNat < cs.length := by omega
  have hx : cs[i.toNat]? = some cs[i.toNat] := List.getElem?_eq_getElem hlt
  obtain ⟨o, a, he, ho, ha⟩ := hc _ (List.mem_of_getElem? hx)
  rw [he] at hx
  refine ok_setCell h0 hx rfl (by omega) rfl (h _ (fun x hm => ?_) (by rw [List.length_set]))
  rcases List.mem_or_eq_of_mem_set hm with h | h
  · exact hc x h
  · exact ⟨o, n, h, ho, hn⟩
def IsHelp (x : PV) : Prop := ∃ p lc : Int, ∃ cs : List PV, x = .agg [.int .i64 p, .int .i64 lc, .lst cs] ∧ (0 ≤ p ∧ p ≤ 2) ∧ (0 ≤ lc ∧ lc ≤ 100) ∧ Cd cs ∧ 1 ≤ (cs.length : Int) ∧ (cs.length : Int) ≤ 100000000
structure Asm (l : List Int) (fs : List PV) (t lc : Int) : Prop where
  hl : Bts l
  hf : ∀ x ∈ fs, IsHelp x
  hn : fs.length ≤ 1000
  ht : 0 ≤ t ∧ t ≤ 1000
  hlc : 1 ≤ lc ∧ lc ≤ 1000
theorem IsHelp.el {fs : List PV} (h : ∀ x ∈ fs, IsHelp x) : ∀ x ∈ fs, x.isEl 3 true = true := by
  intro x hx
  obtain ⟨p, lc, cs, rfl, _⟩ := h x hx
  rfl
def AsmP (l : List Int) (fs : List PV) (t lc : Int) (mn : PV) (A B0 B : Int) (r : R) : Prop := ∃ a s : Int, ∃ cs : List PV, r = [.lst fs, .int .i64 t, .int .i64 lc, mn, bytesOf l, .int .i64 a, .int .i64 s, .lst cs] ∧ 0 ≤ a ∧ a ≤ A ∧ 0 ≤ s ∧ s < 65521 ∧ B0 ≤ cs.length ∧ (cs.length : Int) ≤ B ∧ Cd cs
def AsmOk (l : List Int) (fs : List PV) (t lc : Int) (mn : PV) (c : Int) (f : PV → PV → PV → PV → PV → PV → PV → PV → Option R) : Prop :=
  ∀ (a s : Int) (cs : List PV), 0 ≤ a ∧ a + c ≤ 1000000000 ∧ 0 ≤ s ∧ s < 65521 → (cs.length : Int) + c ≤ 1000000000 → Cd cs →
    Ok (AsmP l fs t lc mn (a + c) cs.length (cs.length + c)) (f (.lst fs) (.int .i64 t) (.int .i64 lc) mn (bytesOf l) (.int .i64 a) (.int .i64 s) (.lst cs))
section
variable {P : R → Prop} {k : R → Option R} {l : List Int} {fs : List PV} {t lc : Int} {mn : PV}
theorem ok_asm {c : Int} {f : PV → PV → PV → PV → PV → PV → PV → PV → Option R} (H : AsmOk l fs t lc mn c f) {a s : Int} {cs : List PV} (h0 : 0 ≤ a ∧ a + c ≤ 1000000000 ∧ 0 ≤ s ∧ s < 65521) (hl : (cs.length : Int) + c ≤ 1000000000) (hc : Cd cs)
    (h : ∀ (a' s' : Int) (cs' : List PV), 0 ≤ a' ∧ a' ≤ a + c ∧ 0 ≤ s' ∧ s' < 65521 ∧ (cs.length : Int) ≤ cs'.length ∧ (cs'.length : Int) ≤ cs.length + c → Cd cs' →
      Ok P (k [.lst fs, .int .i64 t, .int .i64 lc, mn, bytesOf l, .int .i64 a', .int .i64 s', .lst cs'])) :
    Ok P (bd (f (.lst fs) (.int .i64 t) (.int .i64 lc) mn (bytesOf l) (.int .i64 a) (.int .i64 s) (.lst cs)) k) :=
  ok_call (H a s cs h0 hl hc) (fun r ⟨a', s', cs', hr, h1, h2, h3, h4, h5, h6, h7⟩ => by rw [hr]; exact h a' s' cs' ⟨h1, h2, h3, h4, h5, h6⟩ h7)
theorem AsmOk.mono {c c' : Int} {f : PV → PV → PV → PV → PV → PV → PV → PV → Option R} (H : AsmOk l fs t lc mn c f) (hc : 0 ≤ c ∧ c ≤ c') : AsmOk l fs t lc mn c' f := by
  intro a s cs h0 hl hcs
  refine (H a s cs (by omega) (by omega) hcs).mono ?_
  rintro r ⟨a', s', cs', hr, h1, h2, h3, h4, h5, h6, h7⟩
  exact ⟨a', s', cs', hr, h1, by omega, h3, h4, h5, by omega, h7⟩
theorem value_c2 (H : Asm l fs t lc) : AsmOk l fs t lc mn 3 (fun F T L M C A S D => spec_l01Asm_value_c2 F T L M C A S D) := by
  intro a s cs h0 hl hc
  obtain ⟨hb, hfs, hfl, ht, hlc⟩ := H
  show Ok _ (spec_l01Asm_value_c2 _ _ _ _ _ _ _ _)
  rw [spec_l01Asm_value_c2_eq]
  repeat' (first | refine ok_put (by omega) (by omega) (by assumption) (by omega) (fun _ _ _ => ?_) | refine ok_pick hb (by omega) (by omega) (fun _ _ _ _ => ?_) | refine ok_once hb (by omega) (by omega) (fun _ _ _ _ => ?_) | refine ok_inb (by omega) (by first | omega | (simp; omega)) ?_ | refine ok_lits rfl (by omega) (by first | omega | (simp; omega)) (fun _ _ => ?_) | refine ok_setCode (by assumption) (by omega) (by omega) (by omega) (fun _ _ _ => ?_) | refine ok_num (by omega) ?_ | refine ok_cut_code (by assumption) (by omega) (by omega) (by omega) (fun _ _ _ => ?_) | refine ok_lss ?_ | refine ok_leq ?_ | refine ok_gtr ?_ | refine ok_geq ?_ | refine ok_eql ?_ | refine ok_neq ?_ | (refine ok_ite (fun _ => ?_) (fun _ => ?_)) | (refine ok_ite_not (fun _ => ?_) (fun _ => ?_)) | refine ok_ite_b (fun _ => ?_) (fun _ => ?_) | refine ok_add (by omega) ?_ | refine ok_sub (by omega) ?_ | refine ok_rem (by omega) (by omega) ?_ | refine ok_quo (by omega) (by omega) (by omega) ?_ | refine ok_mul (by omega) ?_ | refine ok_neg (by omega) ?_ | refine ok_bytes_len ?_ | refine ok_len ?_ | refine ok_slen ?_ | refine ok_not ?_ | refine ok_i64 (by omega) ?_ | refine ok_one rfl ?_ | refine ok_cell rfl ?_ | refine ok_comp rfl ?_ | refine ok_whole rfl ?_ | exact ok_some ⟨_, _, _, rfl, by omega, by omega, by omega, by omega, by omega, by omega, by assumption⟩)
theorem ok_tail {c : Int} {f : PV → PV → PV → PV → PV → PV → PV → PV → Option R} (H : AsmOk l fs t lc mn c f) {a s A B0 B : Int} {cs : List PV} (h0 : 0 ≤ a ∧ a + c ≤ 1000000000 ∧ 0 ≤ s ∧ s < 65521) (hl : (cs.length : Int) + c ≤ 1000000000) (hc : Cd cs)
    (hA : a + c ≤ A) (hB0 : B0 ≤ cs.length) (hB : cs.length + c ≤ B) :
    Ok (AsmP l fs t lc mn A B0 B) (f (.lst fs) (.int .i64 t) (.int .i64 lc) mn (bytesOf l) (.int .i64 a) (.int .i64 s) (.lst cs)) := by
  refine (H a s cs h0 hl hc).mono ?_
  rintro r ⟨a', s', cs', hr, h1, h2, h3, h4, h5, h6, h7⟩
  exact ⟨a', s', cs', hr, h1, by omega, h3, h4, by omega, by omega, h7⟩
def ValOk (l : List Int) (fs : List PV) (t lc : Int) (mn : PV) (n c : Int) : Prop := ∀ d : Int, -1000 ≤ d → d ≤ n → AsmOk l fs t lc mn c (fun F T L M C A S D => spec_l01Asm_value (.int .i64 d) F T L M C A S D)
theorem value_0 (H : Asm l fs t lc) : ValOk l fs t lc mn 0 3 := by
  intro d hd1 hd2 a s cs h0 hl hc
  show Ok _ (spec_l01Asm_value _ _ _ _ _ _ _ _ _)
  rw [spec_l01Asm_value_eq]
  refine ok_leq (ok_ite (fun _ => ?_) (fun h => absurd hd2 h))
  exact value_c2 H a s cs h0 hl hc
section
variable {n c : Int} (V : ValOk l fs t lc mn n c) (H : Asm l fs t lc) (hc0 : 0 ≤ c ∧ c ≤ 1000000 ∧ 0 ≤ n ∧ n ≤ 100)
include V H hc0
theorem record_loop (m : Int) (hm : 1 ≤ m ∧ m ≤ 3) (K : Int) (hK : 4 ≤ K ∧ K ≤ 1000000000) (j : Int) (hj : 0 ≤ j ∧ j ≤ 10) (ih : ∀ d i : Int, -500 ≤ d → d ≤ n + 1 → 0 ≤ i → i < j → AsmOk l fs t lc mn K (fun F T L M C A S D => spec_l01Asm_record_c3 (.int .i64 d) (.int .i64 m) (.int .i64 i) F T L M C A S D)) :
    ∀ d i : Int, -500 ≤ d → d ≤ n + 1 → 0 ≤ i → i ≤ j → AsmOk l fs t lc mn (K + c + 4) (fun F T L M C A S D => spec_l01Asm_record_c3 (.int .i64 d) (.int .i64 m) (.int .i64 i) F T L M C A S D) := by
  intro d i hd1 hd2 hi1 hi2 a s cs h0 hl hc
  obtain ⟨hb, hfs, hfl, ht, hlc⟩ := H
  show Ok _ (spec_l01Asm_record_c3 _ _ _ _ _ _ _ _ _ _ _)
  rw [spec_l01Asm_record_c3_eq]
  refine ok_gtr (ok_ite (fun _ => ?_) (fun _ => ?_))
  · refine ok_put (by omega) (by omega) (by assumption) (by omega) (fun _ _ _ => ?_)
    refine ok_sub (by omega) ?_
    refine ok_asm (V _ (by omega) (by omega)) (by omega) (by omega) (by assumption) (fun _ _ _ _ _ => ?_)
    refine ok_pick hb (by omega) (by omega) (fun _ _ _ _ => ?_)
    refine ok_put (by omega) (by omega) (by assumption) (by omega) (fun _ _ _ => ?_)
    refine ok_sub (by omega) ?_
    exact ok_tail (ih d _ hd1 hd2 (by omega) (by omega)) (by omega) (by omega) (by assumption) (by omega) (by omega) (by omega)
  · repeat' (first | refine ok_put (by omega) (by omega) (by assumption) (by omega) (fun _ _ _ => ?_) | refine ok_pick hb (by omega) (by omega) (fun _ _ _ _ => ?_) | refine ok_once hb (by omega) (by omega) (fun _ _ _ _ => ?_) | refine ok_inb (by omega) (by first | omega | (simp; omega)) ?_ | refine ok_lits rfl (by omega) (by first | omega | (simp; omega)) (fun _ _ => ?_) | refine ok_setCode (by assumption) (by omega) (by omega) (by omega) (fun _ _ _ => ?_) | refine ok_num (by omega) ?_ | refine ok_cut_code (by assumption) (by omega) (by omega) (by omega) (fun _ _ _ => ?_) | refine ok_lss ?_ | refine ok_leq ?_ | refine ok_gtr ?_ | refine ok_geq ?_ | refine ok_eql ?_ | refine ok_neq ?_ | (refine ok_ite (fun _ => ?_) (fun _ => ?_)) | (refine ok_ite_not (fun _ => ?_) (fun _ => ?_)) | refine ok_ite_b (fun _ => ?_) (fun _ => ?_) | refine ok_add (by omega) ?_ | refine ok_sub (by omega) ?_ | refine ok_rem (by omega) (by omega) ?_ | refine ok_quo (by omega) (by omega) (by omega) ?_ | refine ok_mul (by omega) ?_ | refine ok_neg (by omega) ?_ | refine ok_bytes_len ?_ | refine ok_len ?_ | refine ok_slen ?_ | refine ok_not ?_ | refine ok_i64 (by omega) ?_ | refine ok_one rfl ?_ | refine ok_cell rfl ?_ | refine ok_comp rfl ?_ | refine ok_whole rfl ?_ | exact ok_some ⟨_, _, _, rfl, by omega, by omega, by omega, by omega, by omega, by omega, by assumption⟩)
theorem record_ok : ∀ d : Int, -500 ≤ d → d ≤ n + 1 → AsmOk l fs t lc mn (4 * c + 40) (fun F T L M C A S D => spec_l01Asm_record (.int .i64 d) F T L M C A S D) := by
  intro d hd1 hd2 a s cs h0 hl hc
  have H' := H
  obtain ⟨hb, hfs, hfl, ht, hlc⟩ := H
  show Ok _ (spec_l01Asm_record _ _ _ _ _ _ _ _ _)
  rw [spec_l01Asm_record_eq]
  refine ok_pick hb (by omega) (by omega) (fun v _ _ _ => ?_)
  refine ok_add (by omega) ?_
  refine ok_put (by omega) (by omega) (by assumption) (by omega) (fun _ _ _ => ?_)
  refine ok_add (by omega) ?_
  refine ok_pick hb (by omega) (by omega) (fun w _ _ _ => ?_)
  have L0 := record_loop V H' hc0 (1 + v) (by omega) 4 (by omega) 0 (by omega) (fun d i _ _ h1 h2 => by omega)
  have L1 := record_loop V H' hc0 (1 + v) (by omega) (4 + c + 4) (by omega) 1 (by omega) (fun d i g1 g2 h1 h2 => L0 d i g1 g2 h1 (by omega))
  have L2 := record_loop V H' hc0 (1 + v) (by omega) (4 + c + 4 + c + 4) (by omega) 2 (by omega) (fun d i g1 g2 h1 h2 => L1 d i g1 g2 h1 (by omega))
  have L3 := record_loop V H' hc0 (1 + v) (by omega) (4 + c + 4 + c + 4 + c + 4) (by omega) 3 (by omega) (fun d i g1 g2 h1 h2 => L2 d i g1 g2 h1 (by omega))
  exact ok_tail (L3 d w hd1 hd2 (by omega) (by omega)) (by omega) (by omega) (by assumption) (by omega) (by omega) (by omega)
def Par (fs : List PV) (i p : Int) : Prop := 0 ≤ i ∧ i < fs.length ∧ (0 ≤ p ∧ p ≤ 2) ∧ ∃ q r : PV, fs[i.toNat]? = some (.agg [.int .i64 p, q, r])
omit V H hc0 in
theorem ok_help (H : Asm l fs t lc) {P : R → Prop} {k : PV → Option R} {i p : Int} (hp : Par fs i p) (h : ∀ q r : PV, Ok P (k (.agg [.int .i64 p, q, r]))) : Ok P (bd (PV.at_ 3 true (.lst fs) (.int .i64 i)) k) := by
  obtain ⟨h0, h1, _, q, r, hq⟩ := hp
  refine ok_at h0 h1 (IsHelp.el H.hf) (fun x _ hx => ?_)
  rw [hq] at hx
  cases hx
  exact h q r
omit V H hc0 in
theorem par_of (H : Asm l fs t lc) {i : Int} (h0 : 0 ≤ i) (h1 : i < fs.length) : ∃ p, Par fs i p := by
  have hlt : i.toNat < fs.length := by omega
  have hx : fs[i.toNat]? = some fs[i.toNat] := List.getElem?_eq_getElem hlt
  obtain ⟨p, lc, cs, he, hp, _⟩ := H.hf _ (List.mem_of_getElem? hx)
  exact ⟨p, h0, h1, hp, .int .i64 lc, .lst cs, by rw [hx, he]⟩
theorem invoke_loop (f p : Int) (hp : Par fs f p) (K : Int) (hK : 1 ≤ K ∧ K ≤ 100000000) (j : Int) (ih : ∀ d i : Int, -500 ≤ d → d ≤ n + 1 → 0 ≤ i → i ≤ p → p - i < j → AsmOk l fs t lc mn K (fun F T L M C A S D => spec_l01Asm_value_c38 (.int .i64 d) (.int .i64 f) (.int .i64 i) F T L M C A S D)) :
    ∀ d i : Int, -500 ≤ d → d ≤ n + 1 → 0 ≤ i → i ≤ p → p - i ≤ j → AsmOk l fs t lc mn (K + c) (fun F T L M C A S D => spec_l01Asm_value_c38 (.int .i64 d) (.int .i64 f) (.int .i64 i) F T L M C A S D) := by
  intro d i hd1 hd2 hi1 hi2 hi3 a s cs h0 hl hc
  have H' := H
  obtain ⟨hb, hfs, hfl, ht, hlc⟩ := H
  have hp' := hp.2.2.1
  have hf1 := hp.1
  have hf2 := hp.2.1
  show Ok _ (spec_l01Asm_value_c38 _ _ _ _ _ _ _ _ _ _ _)
  rw [spec_l01Asm_value_c38_eq]
  refine ok_help H' hp (fun q r => ok_cell rfl (ok_lss (ok_ite (fun _ => ?_) (fun _ => ?_))))
  · refine ok_sub (by omega) ?_
    refine ok_asm (V _ (by omega) (by omega)) (by omega) (by omega) (by assumption) (fun _ _ _ _ _ => ?_)
    refine ok_add (by omega) ?_
    exact ok_tail (ih d _ hd1 hd2 (by omega) (by omega) (by omega)) (by omega) (by omega) (by assumption) (by omega) (by omega) (by omega)
  · repeat' (first | refine ok_put (by omega) (by omega) (by assumption) (by omega) (fun _ _ _ => ?_) | refine ok_pick hb (by omega) (by omega) (fun _ _ _ _ => ?_) | refine ok_once hb (by omega) (by omega) (fun _ _ _ _ => ?_) | refine ok_inb (by omega) (by first | omega | (simp; omega)) ?_ | refine ok_lits rfl (by omega) (by first | omega | (simp; omega)) (fun _ _ => ?_) | refine ok_setCode (by assumption) (by omega) (by omega) (by omega) (fun _ _ _ => ?_) | refine ok_num (by omega) ?_ | refine ok_cut_code (by assumption) (by omega) (by omega) (by omega) (fun _ _ _ => ?_) | refine ok_lss ?_ | refine ok_leq ?_ | refine ok_gtr ?_ | refine ok_geq ?_ | refine ok_eql ?_ | refine ok_neq ?_ | (refine ok_ite (fun _ => ?_) (fun _ => ?_)) | (refine ok_ite_not (fun _ => ?_) (fun _ => ?_)) | refine ok_ite_b (fun _ => ?_) (fun _ => ?_) | refine ok_add (by omega) ?_ | refine ok_sub (by omega) ?_ | refine ok_rem (by omega) (by omega) ?_ | refine ok_quo (by omega) (by omega) (by omega) ?_ | refine ok_mul (by omega) ?_ | refine ok_neg (by omega) ?_ | refine ok_bytes_len ?_ | refine ok_len ?_ | refine ok_slen ?_ | refine ok_not ?_ | refine ok_i64 (by omega) ?_ | refine ok_one rfl ?_ | refine ok_cell rfl ?_ | refine ok_comp rfl ?_ | refine ok_whole rfl ?_ | exact ok_some ⟨_, _, _, rfl, by omega, by omega, by omega, by omega, by omega, by omega, by assumption⟩)
theorem invoke_ok (f : Int) (hf : 0 ≤ f ∧ f < fs.length) : ∀ d : Int, -500 ≤ d → d ≤ n + 1 → AsmOk l fs t lc mn (3 * c + 10) (fun F T L M C A S D => spec_l01Asm_value_c38 (.int .i64 d) (.int .i64 f) (.int .i64 0) F T L M C A S D) := by
  intro d hd1 hd2
  obtain ⟨p, hp⟩ := par_of H hf.1 hf.2
  have hp' := hp.2.2.1
  have L0 := invoke_loop V H hc0 f p hp 1 (by omega) 0 (fun d i _ _ h1 h2 h3 => by omega)
  have L1 := invoke_loop V H hc0 f p hp (1 + c) (by omega) 1 (fun d i g1 g2 h1 h2 h3 => L0 d i g1 g2 h1 h2 (by omega))
  have L2 := invoke_loop V H hc0 f p hp (1 + c + c) (by omega) 2 (fun d i g1 g2 h1 h2 h3 => L1 d i g1 g2 h1 h2 (by omega))
  exact (L2 d 0 hd1 hd2 (by omega) (by omega) (by omega)).mono (by omega)
theorem call_loop (f p : Int) (hp : Par fs f p) (K : Int) (hK : 1 ≤ K ∧ K ≤ 100000000) (j : Int) (ih : ∀ d i : Int, -500 ≤ d → d ≤ n + 1 → 0 ≤ i → i ≤ p → p - i < j → AsmOk l fs t lc mn K (fun F T L M C A S D => spec_l01Asm_value_c51 (.int .i64 d) (.int .i64 f) (.int .i64 i) F T L M C A S D)) :
    ∀ d i : Int, -500 ≤ d → d ≤ n + 1 → 0 ≤ i → i ≤ p → p - i ≤ j → AsmOk l fs t lc mn (K + c) (fun F T L M C A S D => spec_l01Asm_value_c51 (.int .i64 d) (.int .i64 f) (.int .i64 i) F T L M C A S D) := by
  intro d i hd1 hd2 hi1 hi2 hi3 a s cs h0 hl hc
  have H' := H
  obtain ⟨hb, hfs, hfl, ht, hlc⟩ := H
  have hp' := hp.2.2.1
  have hf1 := hp.1
  have hf2 := hp.2.1
  show Ok _ (spec_l01Asm_value_c51 _ _ _ _ _ _ _ _ _ _ _)
  rw [spec_l01Asm_value_c51_eq]
  refine ok_help H' hp (fun q r => ok_cell rfl (ok_lss (ok_ite (fun _ => ?_) (fun _ => ?_))))
  · refine ok_sub (by omega) ?_
    refine ok_asm (V _ (by omega) (by omega)) (by omega) (by omega) (by assumption) (fun _ _ _ _ _ => ?_)
    refine ok_add (by omega) ?_
    exact ok_tail (ih d _ hd1 hd2 (by omega) (by omega) (by omega)) (by omega) (by omega) (by assumption) (by omega) (by omega) (by omega)
  · refine ok_help H' hp (fun q r => ok_cell rfl ?_)
    repeat' (first | refine ok_put (by omega) (by omega) (by assumption) (by omega) (fun _ _ _ => ?_) | refine ok_pick hb (by omega) (by omega) (fun _ _ _ _ => ?_) | refine ok_once hb (by omega) (by omega) (fun _ _ _ _ => ?_) | refine ok_inb (by omega) (by first | omega | (simp; omega)) ?_ | refine ok_lits rfl (by omega) (by first | omega | (simp; omega)) (fun _ _ => ?_) | refine ok_setCode (by assumption) (by omega) (by omega) (by omega) (fun _ _ _ => ?_) | refine ok_num (by omega) ?_ | refine ok_cut_code (by assumption) (by omega) (by omega) (by omega) (fun _ _ _ => ?_) | refine ok_lss ?_ | refine ok_leq ?_ | refine ok_gtr ?_ | refine ok_geq ?_ | refine ok_eql ?_ | refine ok_neq ?_ | (refine ok_ite (fun _ => ?_) (fun _ => ?_)) | (refine ok_ite_not (fun _ => ?_) (fun _ => ?_)) | refine ok_ite_b (fun _ => ?_) (fun _ => ?_) | refine ok_add (by omega) ?_ | refine ok_sub (by omega) ?_ | refine ok_rem (by omega) (by omega) ?_ | refine ok_quo (by omega) (by omega) (by omega) ?_ | refine ok_mul (by omega) ?_ | refine ok_neg (by omega) ?_ | refine ok_bytes_len ?_ | refine ok_len ?_ | refine ok_slen ?_ | refine ok_not ?_ | refine ok_i64 (by omega) ?_ | refine ok_one rfl ?_ | refine ok_cell rfl ?_ | refine ok_comp rfl ?_ | refine ok_whole rfl ?_ | exact ok_some ⟨_, _, _, rfl, by omega, by omega, by omega, by omega, by omega, by omega, by assumption⟩)
theorem call_ok (f : Int) (hf : 0 ≤ f ∧ f < fs.length) : ∀ d : Int, -500 ≤ d → d ≤ n + 1 → AsmOk l fs t lc mn (3 * c + 10) (fun F T L M C A S D => spec_l01Asm_value_c50 (.int .i64 d) (.int .i64 f) F T L M C A S D) := by
  intro d hd1 hd2 a s cs h0 hl hc
  obtain ⟨p, hp⟩ := par_of H hf.1 hf.2
  have hp' := hp.2.2.1
  have L0 := call_loop V H hc0 f p hp 1 (by omega) 0 (fun d i _ _ h1 h2 h3 => by omega)
  have L1 := call_loop V H hc0 f p hp (1 + c) (by omega) 1 (fun d i g1 g2 h1 h2 h3 => L0 d i g1 g2 h1 h2 (by omega))
  have L2 := call_loop V H hc0 f p hp (1 + c + c) (by omega) 2 (fun d i g1 g2 h1 h2 h3 => L1 d i g1 g2 h1 h2 (by omega))
  show Ok _ (spec_l01Asm_value_c50 _ _ _ _ _ _ _ _ _ _)
  rw [spec_l01Asm_value_c50_eq]
  exact ok_tail (L2 d 0 hd1 hd2 (by omega) (by omega) (by omega)) (by omega) (by omega) (by assumption) (by omega) (by omega) (by omega)
set_option maxRecDepth 100000 in
set_option maxHeartbeats 4000000 in
theorem value_step : ValOk l fs t lc mn (n + 1) (4 * c + 50) := by
  intro d hd1 hd2 a s cs h0 hl hc
  have RO := record_ok V H hc0
  have IK := invoke_ok V H hc0
  have CO := call_ok V H hc0
  have C2 := value_c2 (mn := mn) H
  obtain ⟨hb, hfs, hfl, ht, hlc⟩ := H
  show Ok _ (spec_l01Asm_value _ _ _ _ _ _ _ _ _)
  rw [spec_l01Asm_value_eq]
  repeat' (first | refine ok_asm (V _ (by omega) (by omega)) (by omega) (by omega) (by assumption) (fun _ _ _ _ _ => ?_) | refine ok_asm (RO _ (by omega) (by omega)) (by omega) (by omega) (by assumption) (fun _ _ _ _ _ => ?_) | exact ok_tail C2 (by omega) (by omega) (by assumption) (by omega) (by omega) (by omega) | exact ok_tail (IK _ (by omega) _ (by omega) (by omega)) (by omega) (by omega) (by assumption) (by omega) (by omega) (by omega) | exact ok_tail (CO _ (by omega) _ (by omega) (by omega)) (by omega) (by omega) (by assumption) (by omega) (by omega) (by omega) | refine ok_put (by omega) (by omega) (by assumption) (by omega) (fun _ _ _ => ?_) | refine ok_pick hb (by omega) (by omega) (fun _ _ _ _ => ?_) | refine ok_once hb (by omega) (by omega) (fun _ _ _ _ => ?_) | refine ok_inb (by omega) (by first | omega | (simp; omega)) ?_ | refine ok_lits rfl (by omega) (by first | omega | (simp; omega)) (fun _ _ => ?_) | refine ok_setCode (by assumption) (by omega) (by omega) (by omega) (fun _ _ _ => ?_) | refine ok_num (by omega) ?_ | refine ok_cut_code (by assumption) (by omega) (by omega) (by omega) (fun _ _ _ => ?_) | refine ok_lss ?_ | refine ok_leq ?_ | refine ok_gtr ?_ | refine ok_geq ?_ | refine ok_eql ?_ | refine ok_neq ?_ | (refine ok_ite (fun _ => ?_) (fun _ => ?_)) | (refine ok_ite_not (fun _ => ?_) (fun _ => ?_)) | refine ok_ite_b (fun _ => ?_) (fun _ => ?_) | refine ok_add (by omega) ?_ | refine ok_sub (by omega) ?_ | refine ok_rem (by omega) (by omega) ?_ | refine ok_quo (by omega) (by omega) (by omega) ?_ | refine ok_mul (by omega) ?_ | refine ok_neg (by omega) ?_ | refine ok_bytes_len ?_ | refine ok_len ?_ | refine ok_slen ?_ | refine ok_not ?_ | refine ok_i64 (by omega) ?_ | refine ok_one rfl ?_ | refine ok_cell rfl ?_ | refine ok_comp rfl ?_ | refine ok_whole rfl ?_ | exact ok_some ⟨_, _, _, rfl, by omega, by omega, by omega, by omega, by omega, by omega, by assumption⟩)
end
end
section
variable {l : List Int} {fs : List PV} {t lc : Int} {mn : PV}
theorem value_1 (H : Asm l fs t lc) : ValOk l fs t lc mn 1 62 := value_step (value_0 H) H (by omega)
theorem value_2 (H : Asm l fs t lc) : ValOk l fs t lc mn 2 298 := value_step (value_1 H) H (by omega)
theorem test_ok (H : Asm l fs t lc) : AsmOk l fs t lc mn 100 (fun F T L M C A S D => spec_l01Asm_test F T L M C A S D) := by
  intro a s cs h0 hl hc
  have V1 := value_1 (mn := mn) H
  have V0 := value_0 (mn := mn) H
  obtain ⟨hb, hfs, hfl, ht, hlc⟩ := H
  show Ok _ (spec_l01Asm_test _ _ _ _ _ _ _ _)
  rw [spec_l01Asm_test_eq]
  refine ok_asm (V1 _ (by omega) (by omega)) (by omega) (by omega) (by assumption) (fun _ _ _ _ _ => ?_)
  refine ok_asm (V0 _ (by omega) (by omega)) (by omega) (by omega) (by assumption) (fun _ _ _ _ _ => ?_)
  repeat' (first | refine ok_put (by omega) (by omega) (by assumption) (by omega) (fun _ _ _ => ?_) | refine ok_pick hb (by omega) (by omega) (fun _ _ _ _ => ?_) | refine ok_once hb (by omega) (by omega) (fun _ _ _ _ => ?_) | refine ok_inb (by omega) (by first | omega | (simp; omega)) ?_ | refine ok_lits rfl (by omega) (by first | omega | (simp; omega)) (fun _ _ => ?_) | refine ok_setCode (by assumption) (by omega) (by omega) (by omega) (fun _ _ _ => ?_) | refine ok_num (by omega) ?_ | refine ok_cut_code (by assumption) (by omega) (by omega) (by omega) (fun _ _ _ => ?_) | refine ok_lss ?_ | refine ok_leq ?_ | refine ok_gtr ?_ | refine ok_geq ?_ | refine ok_eql ?_ | refine ok_neq ?_ | (refine ok_ite (fun _ => ?_) (fun _ => ?_)) | (refine ok_ite_not (fun _ => ?_) (fun _ => ?_)) | refine ok_ite_b (fun _ => ?_) (fun _ => ?_) | refine ok_add (by omega) ?_ | refine ok_sub (by omega) ?_ | refine ok_rem (by omega) (by omega) ?_ | refine ok_quo (by omega) (by omega) (by omega) ?_ | refine ok_mul (by omega) ?_ | refine ok_neg (by omega) ?_ | refine ok_bytes_len ?_ | refine ok_len ?_ | refine ok_slen ?_ | refine ok_not ?_ | refine ok_i64 (by omega) ?_ | refine ok_one rfl ?_ | refine ok_cell rfl ?_ | refine ok_comp rfl ?_ | refine ok_whole rfl ?_ | exact ok_some ⟨_, _, _, rfl, by omega, by omega, by omega, by omega, by omega, by omega, by assumption⟩)
def StmtOk (l : List Int) (fs : List PV) (t lc : Int) (mn : PV) (n c : Int) : Prop := ∀ d : Int, -100 ≤ d → d ≤ n → AsmOk l fs t lc mn c (fun F T L M C A S D => spec_l01Asm_stmt (.int .i64 d) F T L M C A S D)
def ListOk (l : List Int) (fs : List PV) (t lc : Int) (mn : PV) (n q c : Int) : Prop := ∀ d : Int, -100 ≤ d → d ≤ n → AsmOk l fs t lc mn c (fun F T L M C A S D => spec_l01Asm_list (.int .i64 d) (.int .i64 q) F T L M C A S D)
set_option maxRecDepth 100000 in
set_option maxHeartbeats 4000000 in
theorem stmt_0 (H : Asm l fs t lc) : StmtOk l fs t lc mn 0 500 := by
  intro d hd1 hd2 a s cs h0 hl hc
  have V1 := value_1 (mn := mn) H
  have V2 := value_2 (mn := mn) H
  obtain ⟨hb, hfs, hfl, ht, hlc⟩ := H
  show Ok _ (spec_l01Asm_stmt _ _ _ _ _ _ _ _ _)
  rw [spec_l01Asm_stmt_eq]
  repeat' (first | (exfalso; omega) | (first | refine ok_asm (V1 _ (by omega) (by omega)) (by omega) (by omega) (by assumption) (fun _ _ _ _ _ => ?_) | refine ok_asm (V2 _ (by omega) (by omega)) (by omega) (by omega) (by assumption) (fun _ _ _ _ _ => ?_) | refine ok_asm TE (by omega) (by omega) (by assumption) (fun _ _ _ _ _ => ?_) | refine ok_asm (L _ (by omega) (by omega)) (by omega) (by omega) (by assumption) (fun _ _ _ _ _ => ?_) | exact ok_tail (C7 _ _ (by omega) (by omega) (by omega)) (by omega) (by omega) (by assumption) (by omega) (by omega) (by omega) | refine ok_put (by omega) (by omega) (by assumption) (by omega) (fun _ _ _ => ?_) | refine ok_pick hb (by omega) (by omega) (fun _ _ _ _ => ?_) | refine ok_once hb (by omega) (by omega) (fun _ _ _ _ => ?_) | refine ok_inb (by omega) (by first | omega | (simp; omega)) ?_ | refine ok_lits rfl (by omega) (by first | omega | (simp; omega)) (fun _ _ => ?_) | refine ok_setCode (by assumption) (by omega) (by omega) (by omega) (fun _ _ _ => ?_) | refine ok_num (by omega) ?_ | refine ok_cut_code (by assumption) (by omega) (by omega) (by omega) (fun _ _ _ => ?_) | refine ok_lss ?_ | refine ok_leq ?_ | refine ok_gtr ?_ | refine ok_geq ?_ | refine ok_eql ?_ | refine ok_neq ?_ | (refine ok_ite (fun _ => ?_) (fun _ => ?_)) | (refine ok_ite_not (fun _ => ?_) (fun _ => ?_)) | refine ok_ite_b (fun _ => ?_) (fun _ => ?_) | refine ok_add (by omega) ?_ | refine ok_sub (by omega) ?_ | refine ok_rem (by omega) (by omega) ?_ | refine ok_quo (by omega) (by omega) (by omega) ?_ | refine ok_mul (by omega) ?_ | refine ok_neg (by omega) ?_ | refine ok_bytes_len ?_ | refine ok_len ?_ | refine ok_slen ?_ | refine ok_not ?_ | refine ok_i64 (by omega) ?_ | refine ok_one rfl ?_ | refine ok_cell rfl ?_ | refine ok_comp rfl ?_ | refine ok_whole rfl ?_ | exact ok_some ⟨_, _, _, rfl, by omega, by omega, by omega, by omega, by omega, by omega, by assumption⟩))
section
variable {n c : Int} (L : ListOk l fs t lc mn n 2 c) (H : Asm l fs t lc) (hc0 : 0 ≤ c ∧ c ≤ 100000 ∧ 0 ≤ n ∧ n ≤ 50)
include L H hc0
set_option maxRecDepth 100000 in
set_option maxHeartbeats 4000000 in
theorem stmt_c7 : ∀ d x : Int, 1 ≤ d → d ≤ n + 1 → 0 ≤ x ∧ x ≤ 1000 → AsmOk l fs t lc mn (c + 100) (fun F T L M C A S D => spec_l01Asm_stmt_c7 (.int .i64 d) (.int .i64 x) F T L M C A S D) := by
  intro d x hd1 hd2 hx a s cs h0 hl hc
  obtain ⟨hb, hfs, hfl, ht, hlc⟩ := H
  show Ok _ (spec_l01Asm_stmt_c7 _ _ _ _ _ _ _ _ _ _)
  rw [spec_l01Asm_stmt_c7_eq]
  repeat' (first | refine ok_asm (L _ (by omega) (by omega)) (by omega) (by omega) (by assumption) (fun _ _ _ _ _ => ?_) | (first | refine ok_put (by omega) (by omega) (by assumption) (by omega) (fun _ _ _ => ?_) | refine ok_pick hb (by omega) (by omega) (fun _ _ _ _ => ?_) | refine ok_once hb (by omega) (by omega) (fun _ _ _ _ => ?_) | refine ok_inb (by omega) (by first | omega | (simp; omega)) ?_ | refine ok_lits rfl (by omega) (by first | omega | (simp; omega)) (fun _ _ => ?_) | refine ok_setCode (by assumption) (by omega) (by omega) (by omega) (fun _ _ _ => ?_) | refine ok_num (by omega) ?_ | refine ok_cut_code (by assumption) (by omega) (by omega) (by omega) (fun _ _ _ => ?_) | refine ok_lss ?_ | refine ok_leq ?_ | refine ok_gtr ?_ | refine ok_geq ?_ | refine ok_eql ?_ | refine ok_neq ?_ | (refine ok_ite (fun _ => ?_) (fun _ => ?_)) | (refine ok_ite_not (fun _ => ?_) (fun _ => ?_)) | refine ok_ite_b (fun _ => ?_) (fun _ => ?_) | refine ok_add (by omega) ?_ | refine ok_sub (by omega) ?_ | refine ok_rem (by omega) (by omega) ?_ | refine ok_quo (by omega) (by omega) (by omega) ?_ | refine ok_mul (by omega) ?_ | refine ok_neg (by omega) ?_ | refine ok_bytes_len ?_ | refine ok_len ?_ | refine ok_slen ?_ | refine ok_not ?_ | refine ok_i64 (by omega) ?_ | refine ok_one rfl ?_ | refine ok_cell rfl ?_ | refine ok_comp rfl ?_ | refine ok_whole rfl ?_ | exact ok_some ⟨_, _, _, rfl, by omega, by omega, by omega, by omega, by omega, by omega, by assumption⟩))
set_option maxRecDepth 100000 in
set_option maxHeartbeats 4000000 in
theorem stmt_step : StmtOk l fs t lc mn (n + 1) (c + 600) := by
  intro d hd1 hd2 a s cs h0 hl hc
  have V1 := value_1 (mn := mn) H
  have V2 := value_2 (mn := mn) H
  have TE := test_ok (mn := mn) H
  have C7 := stmt_c7 L H hc0
  obtain ⟨hb, hfs, hfl, ht, hlc⟩ := H
  show Ok _ (spec_l01Asm_stmt _ _ _ _ _ _ _ _ _)
  rw [spec_l01Asm_stmt_eq]
  repeat' (first | refine ok_asm (V1 _ (by omega) (by omega)) (by omega) (by omega) (by assumption) (fun _ _ _ _ _ => ?_) | refine ok_asm (V2 _ (by omega) (by omega)) (by omega) (by omega) (by assumption) (fun _ _ _ _ _ => ?_) | refine ok_asm TE (by omega) (by omega) (by assumption) (fun _ _ _ _ _ => ?_) | refine ok_asm (L _ (by omega) (by omega)) (by omega) (by omega) (by assumption) (fun _ _ _ _ _ => ?_) | exact ok_tail (C7 _ _ (by omega) (by omega) (by omega)) (by omega) (by omega) (by assumption) (by omega) (by omega) (by omega) | refine ok_put (by omega) (by omega) (by assumption) (by omega) (fun _ _ _ => ?_) | refine ok_pick hb (by omega) (by omega) (fun _ _ _ _ => ?_) | refine ok_once hb (by omega) (by omega) (fun _ _ _ _ => ?_) | refine ok_inb (by omega) (by first | omega | (simp; omega)) ?_ | refine ok_lits rfl (by omega) (by first | omega | (simp; omega)) (fun _ _ => ?_) | refine ok_setCode (by assumption) (by omega) (by omega) (by omega) (fun _ _ _ => ?_) | refine ok_num (by omega) ?_ | refine ok_cut_code (by assumption) (by omega) (by omega) (by omega) (fun _ _ _ => ?_) | refine ok_lss ?_ | refine ok_leq ?_ | refine ok_gtr ?_ | refine ok_geq ?_ | refine ok_eql ?_ | refine ok_neq ?_ | (refine ok_ite (fun _ => ?_) (fun _ => ?_)) | (refine ok_ite_not (fun _ => ?_) (fun _ => ?_)) | refine ok_ite_b (fun _ => ?_) (fun _ => ?_) | refine ok_add (by omega) ?_ | refine ok_sub (by omega) ?_ | refine ok_rem (by omega) (by omega) ?_ | refine ok_quo (by omega) (by omega) (by omega) ?_ | refine ok_mul (by omega) ?_ | refine ok_neg (by omega) ?_ | refine ok_bytes_len ?_ | refine ok_len ?_ | refine ok_slen ?_ | refine ok_not ?_ | refine ok_i64 (by omega) ?_ | refine ok_one rfl ?_ | refine ok_cell rfl ?_ | refine ok_comp rfl ?_ | refine ok_whole rfl ?_ | exact ok_some ⟨_, _, _, rfl, by omega, by omega, by omega, by omega, by omega, by omega, by assumption⟩)
end
section
variable {n c : Int} (S : StmtOk l fs t lc mn n c) (H : Asm l fs t lc) (hc0 : 0 ≤ c ∧ c ≤ 100000 ∧ 0 ≤ n ∧ n ≤ 50)
include S H hc0
theorem list_loop (K : Int) (hK : 0 ≤ K ∧ K ≤ 10000000) (j : Int) (hj : 0 ≤ j ∧ j ≤ 100) (ih : ∀ d i : Int, -100 ≤ d → d ≤ n → 0 ≤ i → i < j → AsmOk l fs t lc mn K (fun F T L M C A S D => spec_l01Asm_list_c1 (.int .i64 d) (.int .i64 i) F T L M C A S D)) :
    ∀ d i : Int, -100 ≤ d → d ≤ n → 0 ≤ i → i ≤ j → AsmOk l fs t lc mn (K + c) (fun F T L M C A S D => spec_l01Asm_list_c1 (.int .i64 d) (.int .i64 i) F T L M C A S D) := by
  intro d i hd1 hd2 hi1 hi2 a s cs h0 hl hc
  obtain ⟨hb, hfs, hfl, ht, hlc⟩ := H
  show Ok _ (spec_l01Asm_list_c1 _ _ _ _ _ _ _ _ _ _)
  rw [spec_l01Asm_list_c1_eq]
  refine ok_gtr (ok_ite (fun _ => ?_) (fun _ => ?_))
  · refine ok_len (ok_lss (ok_ite (fun _ => ?_) (fun _ => ?_)))
    · refine ok_asm (S _ hd1 hd2) (by omega) (by omega) (by assumption) (fun _ _ _ _ _ => ?_)
      refine ok_sub (by omega) ?_
      exact ok_tail (ih d _ hd1 hd2 (by omega) (by omega)) (by omega) (by omega) (by assumption) (by omega) (by omega) (by omega)
    · repeat' (first | refine ok_put (by omega) (by omega) (by assumption) (by omega) (fun _ _ _ => ?_) | refine ok_pick hb (by omega) (by omega) (fun _ _ _ _ => ?_) | refine ok_once hb (by omega) (by omega) (fun _ _ _ _ => ?_) | refine ok_inb (by omega) (by first | omega | (simp; omega)) ?_ | refine ok_lits rfl (by omega) (by first | omega | (simp; omega)) (fun _ _ => ?_) | refine ok_setCode (by assumption) (by omega) (by omega) (by omega) (fun _ _ _ => ?_) | refine ok_num (by omega) ?_ | refine ok_cut_code (by assumption) (by omega) (by omega) (by omega) (fun _ _ _ => ?_) | refine ok_lss ?_ | refine ok_leq ?_ | refine ok_gtr ?_ | refine ok_geq ?_ | refine ok_eql ?_ | refine ok_neq ?_ | (refine ok_ite (fun _ => ?_) (fun _ => ?_)) | (refine ok_ite_not (fun _ => ?_) (fun _ => ?_)) | refine ok_ite_b (fun _ => ?_) (fun _ => ?_) | refine ok_add (by omega) ?_ | refine ok_sub (by omega) ?_ | refine ok_rem (by omega) (by omega) ?_ | refine ok_quo (by omega) (by omega) (by omega) ?_ | refine ok_mul (by omega) ?_ | refine ok_neg (by omega) ?_ | refine ok_bytes_len ?_ | refine ok_len ?_ | refine ok_slen ?_ | refine ok_not ?_ | refine ok_i64 (by omega) ?_ | refine ok_one rfl ?_ | refine ok_cell rfl ?_ | refine ok_comp rfl ?_ | refine ok_whole rfl ?_ | exact ok_some ⟨_, _, _, rfl, by omega, by omega, by omega, by omega, by omega, by omega, by assumption⟩)
  · repeat' (first | refine ok_put (by omega) (by omega) (by assumption) (by omega) (fun _ _ _ => ?_) | refine ok_pick hb (by omega) (by omega) (fun _ _ _ _ => ?_) | refine ok_once hb (by omega) (by omega) (fun _ _ _ _ => ?_) | refine ok_inb (by omega) (by first | omega | (simp; omega)) ?_ | refine ok_lits rfl (by omega) (by first | omega | (simp; omega)) (fun _ _ => ?_) | refine ok_setCode (by assumption) (by omega) (by omega) (by omega) (fun _ _ _ => ?_) | refine ok_num (by omega) ?_ | refine ok_cut_code (by assumption) (by omega) (by omega) (by omega) (fun _ _ _ => ?_) | refine ok_lss ?_ | refine ok_leq ?_ | refine ok_gtr ?_ | refine ok_geq ?_ | refine ok_eql ?_ | refine ok_neq ?_ | (refine ok_ite (fun _ => ?_) (fun _ => ?_)) | (refine ok_ite_not (fun _ => ?_) (fun _ => ?_)) | refine ok_ite_b (fun _ => ?_) (fun _ => ?_) | refine ok_add (by omega) ?_ | refine ok_sub (by omega) ?_ | refine ok_rem (by omega) (by omega) ?_ | refine ok_quo (by omega) (by omega) (by omega) ?_ | refine ok_mul (by omega) ?_ | refine ok_neg (by omega) ?_ | refine ok_bytes_len ?_ | refine ok_len ?_ | refine ok_slen ?_ | refine ok_not ?_ | refine ok_i64 (by omega) ?_ | refine ok_one rfl ?_ | refine ok_cell rfl ?_ | refine ok_comp rfl ?_ | refine ok_whole rfl ?_ | exact ok_some ⟨_, _, _, rfl, by omega, by omega, by omega, by omega, by omega, by omega, by assumption⟩)
theorem list_ok (q : Int) (hq : 1 ≤ q ∧ q ≤ 6) : ListOk l fs t lc mn n q (7 * c + 2) := by
  intro d hd1 hd2 a s cs h0 hl hc
  have L0 := list_loop S H hc0 0 (by omega) 0 (by omega) (fun d i _ _ h1 h2 => by omega)
  have L1 := list_loop S H hc0 (0 + c) (by omega) 1 (by omega) (fun d i g1 g2 h1 h2 => L0 d i g1 g2 h1 (by omega))
  have L2 := list_loop S H hc0 (0 + c + c) (by omega) 2 (by omega) (fun d i g1 g2 h1 h2 => L1 d i g1 g2 h1 (by omega))
  have L3 := list_loop S H hc0 (0 + c + c + c) (by omega) 3 (by omega) (fun d i g1 g2 h1 h2 => L2 d i g1 g2 h1 (by omega))
  have L4 := list_loop S H hc0 (0 + c + c + c + c) (by omega) 4 (by omega) (fun d i g1 g2 h1 h2 => L3 d i g1 g2 h1 (by omega))
  have L5 := list_loop S H hc0 (0 + c + c + c + c + c) (by omega) 5 (by omega) (fun d i g1 g2 h1 h2 => L4 d i g1 g2 h1 (by omega))
  have hb := H.hl
  show Ok _ (spec_l01Asm_list _ _ _ _ _ _ _ _ _ _)
  rw [spec_l01Asm_list_eq]
  refine ok_pick hb (by omega) (by omega) (fun v _ _ _ => ?_)
  refine ok_add (by omega) ?_
  by_cases hv : 1 + v ≤ 5
  · exact ok_tail ((L5 d (1 + v) hd1 hd2 (by omega) hv)) (by omega) (by omega) (by assumption) (by omega) (by omega) (by omega)
  · have L6 := list_loop S H hc0 (0 + c + c + c + c + c + c) (by omega) 6 (by omega) (fun d i g1 g2 h1 h2 => L5 d i g1 g2 h1 (by omega))
    exact ok_tail ((L6 d (1 + v) hd1 hd2 (by omega) (by omega))) (by omega) (by omega) (by assumption) (by omega) (by omega) (by omega)
end
theorem list_1 (H : Asm l fs t lc) : ListOk l fs t lc mn 1 2 30000 := fun d h1 h2 =>
  (list_ok (stmt_step (list_ok (stmt_0 (mn := mn) H) H (by omega) 2 (by omega)) H (by omega)) H (by omega) 2 (by omega) d h1 (by omega)).mono (by omega)
theorem list_2 (H : Asm l fs t lc) (q : Int) (hq : 1 ≤ q ∧ q ≤ 6) : ListOk l fs t lc mn 2 q 500000 := fun d h1 h2 =>
  (list_ok (stmt_step (list_1 (mn := mn) H) H (by omega)) H (by omega) q hq d h1 (by omega)).mono (by omega)
end
def IsTxt (x : PV) : Prop := ∃ b : ByteArray, x = .str b ∧ b.size ≤ 1000
theorem IsTxt.el {ts : List PV} (h : ∀ x ∈ ts, IsTxt x) : ∀ x ∈ ts, x.isEl 1 false = true := by
  intro x hx
  obtain ⟨b, rfl, _⟩ := h x hx
  rfl
def DrawnP (l : List Int) (A : Int) (r : R) : Prop := ∃ a s : Int, ∃ ts fs : List PV, r = [.agg [.lst ts, .lst fs], bytesOf l, .int .i64 a, .int .i64 s] ∧ 0 ≤ a ∧ a ≤ A ∧ 0 ≤ s ∧ s < 65521 ∧ (∀ x ∈ ts, IsTxt x) ∧ ts.length ≤ 10 ∧ (∀ x ∈ fs, IsHelp x) ∧ 1 ≤ fs.length ∧ fs.length ≤ 10
section
variable {l : List Int} (hl : Bts l) {ts : List PV} (hts : ∀ x ∈ ts, IsTxt x) (htn : ts.length ≤ 10)
include hl hts htn
set_option maxRecDepth 100000 in
set_option maxHeartbeats 4000000 in
theorem main_ok {a s : Int} {hs : List PV} {x4 x5 x7 : PV} (h0 : 0 ≤ a ∧ a + 1000000 ≤ 900000000 ∧ 0 ≤ s ∧ s < 65521) (hh : ∀ x ∈ hs, IsHelp x) (hn : hs.length ≤ 3) :
    Ok (DrawnP l (a + 1000000)) (spec_l01DrawModule_c8 (.int .i64 0) (bytesOf l) (.int .i64 a) (.int .i64 s) x4 x5 (.lst ts) x7 (.lst hs)) := by
  rw [spec_l01DrawModule_c8_eq]
  refine ok_gtr (ok_ite (fun h => by omega) (fun _ => ?_))
  refine ok_pick hl (by omega) (by omega) (fun p a1 s1 h1 => ?_)
  refine ok_pick hl (by omega) (by omega) (fun q a2 s2 h2 => ?_)
  refine ok_add (by omega) (ok_one rfl (ok_one rfl (ok_len (ok_one rfl (ok_one rfl ?_)))))
  have H : Asm l hs (ts.length : Int) (3 + q) := ⟨hl, hh, by omega, by omega, by omega⟩
  refine ok_size hl (by omega) (by omega) (fun w a3 s3 h3 => ?_)
  refine ok_add (by omega) ?_
  refine ok_asm (list_2 (mn := .bool true) H (1 + w) (by omega) 2 (by omega) (by omega)) (by omega) (by simp) Cd.nil (fun a4 s4 c4 h4 k4 => ?_)
  simp only [List.length_nil, Int.natCast_zero] at h4
  refine ok_asm (value_1 (mn := .bool true) H 1 (by omega) (by omega)) (by omega) (by omega) k4 (fun a5 s5 c5 h5 k5 => ?_)
  refine ok_put (by omega) (by omega) k5 (by omega) (fun c6 k6 h6 => ?_)
  refine ok_cat (by simp; omega) (IsHelp.el hh) ?_
  refine ok_some ⟨a5, s5, ts, _, rfl, by omega, by omega, by omega, by omega, hts, htn, ?_, by simp, by simp; omega⟩
  intro x hx
  rcases List.mem_append.1 hx with hx | hx
  · simp only [List.mem_singleton] at hx
    exact ⟨p, 3 + q, c6, hx, by omega, by omega, k6, by omega, by omega⟩
  · exact hh x hx
set_option maxRecDepth 100000 in
set_option maxHeartbeats 4000000 in
theorem helpers_ok (x4 x5 x7 : PV) : ∀ (j : Nat) (k a s : Int) (hs : List PV), 0 ≤ k → k ≤ j → (0 ≤ a ∧ a + 1000000 + 100000 * k ≤ 900000000 ∧ 0 ≤ s ∧ s < 65521) → (∀ x ∈ hs, IsHelp x) → (hs.length : Int) + k ≤ 3 →
    Ok (DrawnP l (a + 1000000 + 100000 * k)) (spec_l01DrawModule_c8 (.int .i64 k) (bytesOf l) (.int .i64 a) (.int .i64 s) x4 x5 (.lst ts) x7 (.lst hs)) := by
  intro j
  induction j with
  | zero =>
    intro k a s hs hk1 hk2 h0 hh hn
    have : k = 0 := by omega
    subst this
    refine (main_ok hl hts htn (by omega) hh (by omega)).mono ?_
    rintro r ⟨a', s', ts', fs', hr, h1, h2, h3⟩
    exact ⟨a', s', ts', fs', hr, h1, by omega, h3⟩
  | succ j ih =>
    intro k a s hs hk1 hk2 h0 hh hn
    by_cases hk : k = 0
    · subst hk
      refine (main_ok hl hts htn (by omega) hh (by omega)).mono ?_
      rintro r ⟨a', s', ts', fs', hr, h1, h2, h3⟩
      exact ⟨a', s', ts', fs', hr, h1, by omega, h3⟩
    rw [spec_l01DrawModule_c8_eq]
    refine ok_gtr (ok_ite (fun _ => ?_) (fun h => by omega))
    refine ok_pick hl (by omega) (by omega) (fun p a1 s1 h1 => ?_)
    refine ok_one rfl (ok_add (by omega) ?_)
    refine ok_pick hl (by omega) (by omega) (fun q a2 s2 h2 => ?_)
    refine ok_add (by omega) (ok_one rfl (ok_len ?_))
    refine ok_cat0 (by omega) (IsHelp.el hh) (ok_one rfl (ok_one rfl ?_))
    have H : Asm l hs (ts.length : Int) (1 + p + q) := ⟨hl, hh, by omega, by omega, by omega⟩
    have C15 : ∀ (a s : Int) (cs : List PV), (0 ≤ a ∧ a + 1000000 + 100000 * (k - 1) + 1000 ≤ 900000000 ∧ 0 ≤ s ∧ s < 65521) → Cd cs → (cs.length : Int) ≤ 1000000 →
        Ok (DrawnP l (a + 1000000 + 100000 * (k - 1) + 1000)) (spec_l01DrawModule_c15 (.int .i64 k) (bytesOf l) (.int .i64 a) (.int .i64 s) (.int .i64 p) (.int .i64 (1 + p + q)) (.lst hs) (.int .i64 ts.length) (.int .i64 (1 + p + q)) (.bool false) x4 x5 (.lst ts) x7 (.lst hs) (.lst []) (.lst cs)) := by
      intro a s cs h0 hc hcl
      rw [spec_l01DrawModule_c15_eq]
      refine ok_asm (value_2 (mn := .bool false) H 2 (by omega) (by omega)) (by omega) (by omega) hc (fun a5 s5 c5 h5 k5 => ?_)
      refine ok_put (by omega) (by omega) k5 (by omega) (fun c6 k6 h6 => ?_)
      have hnew : ∀ x ∈ [PV.agg [.int .i64 p, .int .i64 (1 + p + q), .lst c6]], IsHelp x := by
        intro x hx
        simp only [List.mem_singleton] at hx
        exact ⟨p, 1 + p + q, c6, hx, by omega, by omega, k6, by omega, by omega⟩
      refine ok_cat (by simp; omega) (IsHelp.el hnew) (ok_sub (by omega) ?_)
      refine (ih (k - 1) a5 s5 (hs ++ [.agg [.int .i64 p, .int .i64 (1 + p + q), .lst c6]]) (by omega) (by omega) (by omega) (fun x hx => (List.mem_append.1 hx).elim (hh x) (hnew x)) (by simp; omega)).mono ?_
      rintro r ⟨a', s', ts', fs', hr, h1, h2, h3⟩
      exact ⟨a', s', ts', fs', hr, h1, by omega, h3⟩
    refine ok_once hl (by omega) (by omega) (fun b a3 s3 h3 => ?_)
    refine ok_ite_b (fun _ => ?_) (fun _ => ?_)
    · refine ok_asm (list_1 (mn := .bool false) H 1 (by omega) (by omega)) (by omega) (by simp) Cd.nil (fun a4 s4 c4 h4 k4 => ?_)
      simp only [List.length_nil, Int.natCast_zero] at h4
      refine (C15 a4 s4 c4 (by omega) k4 (by omega)).mono ?_
      rintro r ⟨a', s', ts', fs', hr, h1, h2, h3⟩
      exact ⟨a', s', ts', fs', hr, h1, by omega, h3⟩
    · refine (C15 a3 s3 [] (by omega) Cd.nil (by simp)).mono ?_
      rintro r ⟨a', s', ts', fs', hr, h1, h2, h3⟩
      exact ⟨a', s', ts', fs', hr, h1, by omega, h3⟩
end
theorem txts_lit : ∀ x ∈ [PV.str (bs []), PV.str (bs [97]), PV.str (bs [98, 99]), PV.str (bs [104, 101, 108, 108, 111, 32, 119, 111, 114, 108, 100]), PV.str (bs [120, 32, 121])], IsTxt x := by
  intro x hx
  simp only [List.mem_cons, List.not_mem_nil, or_false] at hx
  rcases hx with rfl | rfl | rfl | rfl | rfl <;> exact ⟨_, rfl, Nat.le_of_ble_eq_true rfl⟩
theorem texts_ok {l : List Int} (hl : Bts l) (x4 x5 : PV) : ∀ (j : Nat) (k a s : Int) (ts : List PV), 0 ≤ k → k ≤ j → (0 ≤ a ∧ a + 2000000 + k ≤ 900000000 ∧ 0 ≤ s ∧ s < 65521) → (∀ x ∈ ts, IsTxt x) → (ts.length : Int) + k ≤ 10 →
    Ok (DrawnP l (a + 2000000 + k)) (spec_l01DrawModule_c3 (.int .i64 k) (bytesOf l) (.int .i64 a) (.int .i64 s) x4 x5 (.lst ts) (.lst [])) := by
  intro j
  induction j with
  | zero =>
    intro k a s ts hk1 hk2 h0 ht hn
    rw [spec_l01DrawModule_c3_eq]
    refine ok_gtr (ok_ite (fun h => by omega) (fun _ => ?_))
    refine ok_pick hl (by omega) (by omega) (fun p a1 s1 h1 => ?_)
    refine (helpers_ok hl ht (by omega) x4 x5 (.lst []) 3 p a1 s1 [] (by omega) (by omega) (by omega) (fun x hx => by cases hx) (by simp; omega)).mono ?_
    rintro r ⟨a', s', ts', fs', hr, h1, h2, h3⟩
    exact ⟨a', s', ts', fs', hr, h1, by omega, h3⟩
  | succ j ih =>
    intro k a s ts hk1 hk2 h0 ht hn
    rw [spec_l01DrawModule_c3_eq]
    refine ok_gtr (ok_ite (fun _ => ?_) (fun _ => ?_))
    · refine ok_pick hl (by omega) (by omega) (fun p a1 s1 h1 => ?_)
      refine ok_inb (by omega) (by simp; omega) ?_
      refine ok_at (by omega) (by simp; omega) (IsTxt.el txts_lit) (fun x hx _ => ?_)
      have hone : ∀ y ∈ [x], IsTxt y := fun y hy => by simp only [List.mem_singleton] at hy; rw [hy]; exact txts_lit x hx
      refine ok_cat0 (by simp) (IsTxt.el hone) ?_
      refine ok_cat (by simp; omega) (IsTxt.el hone) (ok_sub (by omega) ?_)
      refine (ih (k - 1) a1 s1 (ts ++ [x]) (by omega) (by omega) (by omega) (fun y hy => (List.mem_append.1 hy).elim (ht y) (hone y)) (by simp; omega)).mono ?_
      rintro r ⟨a', s', ts', fs', hr, h1, h2, h3⟩
      exact ⟨a', s', ts', fs', hr, h1, by omega, h3⟩
    · refine ok_pick hl (by omega) (by omega) (fun p a1 s1 h1 => ?_)
      refine (helpers_ok hl ht (by omega) x4 x5 (.lst []) 3 p a1 s1 [] (by omega) (by omega) (by omega) (fun x hx => by cases hx) (by simp; omega)).mono ?_
      rintro r ⟨a', s', ts', fs', hr, h1, h2, h3⟩
      exact ⟨a', s', ts', fs', hr, h1, by omega, h3⟩
theorem drawModule_ok {l : List Int} (hl : Bts l) {a s : Int} (h0 : 0 ≤ a ∧ a ≤ 800000000 ∧ 0 ≤ s ∧ s < 65521) : Ok (DrawnP l (a + 3000000)) (spec_l01DrawModule (bytesOf l) (.int .i64 a) (.int .i64 s)) := by
  rw [spec_l01DrawModule_eq]
  refine ok_pick hl (by omega) (by omega) (fun p a1 s1 h1 => ?_)
  refine (texts_ok hl (.lst []) (.lst []) 2 p a1 s1 [] (by omega) (by omega) (by omega) (fun x hx => by cases hx) (by simp; omega)).mono ?_
  rintro r ⟨a', s', ts', fs', hr, h1, h2, h3⟩
  exact ⟨a', s', ts', fs', hr, h1, by omega, h3⟩
theorem copy_loop {ts fs : List PV} (hf : ∀ x ∈ fs, IsHelp x) (hn : fs.length ≤ 100) (x3 x4 : PV) : ∀ (j i : Nat), fs.length - i = j → i ≤ fs.length →
    Ok (fun r => r = [.lst ts, .lst fs]) (spec_l01CopyModule_c3 (.int .i64 i) (.lst ts) (.lst fs) x3 x4 (.lst ts) (.lst (fs.take i))) := by
  intro j
  induction j with
  | zero =>
    intro i h1 h2
    rw [spec_l01CopyModule_c3_eq]
    have : i = fs.length := by omega
    subst this
    refine ok_len (ok_lss (ok_ite (fun h => by omega) (fun _ => ok_some ?_)))
    rw [List.take_length]
  | succ j ih =>
    intro i h1 h2
    rw [spec_l01CopyModule_c3_eq]
    refine ok_len (ok_lss (ok_ite (fun _ => ?_) (fun h => by omega)))
    refine ok_at (by omega) (by omega) (IsHelp.el hf) (fun x hx hi => ?_)
    obtain ⟨p, lc, cs, rfl, hp, hlc, hc, hc1, hc2⟩ := hf x hx
    refine ok_whole rfl (ok_cell rfl (ok_cell rfl (ok_cell rfl ?_)))
    refine ok_cat0 (by omega) hc.el (ok_one rfl (ok_one rfl ?_))
    have hone : ∀ y ∈ [PV.agg [.int .i64 p, .int .i64 lc, .lst cs]], IsHelp y := fun y hy => by
      simp only [List.mem_singleton] at hy
      exact ⟨p, lc, cs, hy, hp, hlc, hc, hc1, hc2⟩
    refine ok_cat (by simp; omega) (IsHelp.el hone) (ok_add (by omega) ?_)
    have htk : fs.take i ++ [PV.agg [.int .i64 p, .int .i64 lc, .lst cs]] = fs.take (i + 1) := by
      have hi' : fs[i]? = some (.agg [.int .i64 p, .int .i64 lc, .lst cs]) := by simpa using hi
      rw [List.take_add_one, hi']; rfl
    rw [htk]
    exact ih (i + 1) (by omega) (by omega)
theorem copy_ok {ts fs : List PV} (ht : ∀ x ∈ ts, IsTxt x) (htn : ts.length ≤ 10) (hf : ∀ x ∈ fs, IsHelp x) (hn : fs.length ≤ 100) :
    Ok (fun r => r = [.lst ts, .lst fs]) (spec_l01CopyModule (.agg [.lst ts, .lst fs])) := by
  rw [spec_l01CopyModule_eq]
  refine ok_whole rfl (ok_cell rfl (ok_cell rfl ?_))
  refine ok_cat0 (by omega) (IsTxt.el ht) ?_
  have := copy_loop (ts := ts) hf hn (.lst []) (.lst []) fs.length 0 (by omega) (by omega)
  exact this
def IsFun (x : PV) : Prop := ∃ p lc : Int, ∃ cs : List PV, x = .agg [.int .i64 p, .int .i64 lc, .lst cs] ∧ (-9223372036854775808 ≤ p ∧ p ≤ 9223372036854775807) ∧ (-9223372036854775808 ≤ lc ∧ lc ≤ 9223372036854775807) ∧ Cd cs ∧ (cs.length : Int) ≤ 200000000
theorem IsHelp.toFun {x : PV} (h : IsHelp x) : IsFun x := by
  obtain ⟨p, lc, cs, rfl, h1, h2, h3, h4, h5⟩ := h
  exact ⟨p, lc, cs, rfl, by omega, by omega, h3, by omega⟩
theorem IsFun.el {fs : List PV} (h : ∀ x ∈ fs, IsFun x) : ∀ x ∈ fs, x.isEl 3 true = true := by
  intro x hx
  obtain ⟨p, lc, cs, rfl, _⟩ := h x hx
  rfl
def ModP (l : List Int) (A : Int) (r : R) : Prop := ∃ a s : Int, ∃ ts fs : List PV, r = [.agg [.lst ts, .lst fs], bytesOf l, .int .i64 a, .int .i64 s] ∧ 0 ≤ a ∧ a ≤ A ∧ 0 ≤ s ∧ s < 65521 ∧ (∀ x ∈ ts, IsTxt x) ∧ ts.length ≤ 100 ∧ (∀ x ∈ fs, IsFun x) ∧ fs.length ≤ 100 ∧ 1 ≤ fs.length
theorem flat_txts : ∀ {ts : List PV}, (∀ x ∈ ts, IsTxt x) → PV.flatEs false [] ts = true
  | [], _ => by simp [PV.flatEs]
  | x :: r, h => by
    obtain ⟨b, rfl, _⟩ := h x List.mem_cons_self
    simp [PV.flatEs, PV.flatE, PV.flat, flat_txts (fun y hy => h y (List.mem_cons_of_mem _ hy))]
theorem flat_code : ∀ {cs : List PV}, Cd cs → PV.flatEs true [] cs = true
  | [], _ => by simp [PV.flatEs]
  | x :: r, h => by
    obtain ⟨o, a, rfl, _⟩ := h x List.mem_cons_self
    simp [PV.flatEs, PV.flatE, PV.flatCs, PV.flat, flat_code (fun y hy => h y (List.mem_cons_of_mem _ hy))]
theorem flat_funs : ∀ {fs : List PV}, (∀ x ∈ fs, IsFun x) → PV.flatEs true [.leaf, .leaf, .own 2 16 true []] fs = true
  | [], _ => by simp [PV.flatEs]
  | x :: r, h => by
    obtain ⟨p, lc, cs, rfl, _, _, hc, _⟩ := h x List.mem_cons_self
    simp [PV.flatEs, PV.flatE, PV.flatCs, PV.flat, flat_code hc, flat_funs (fun y hy => h y (List.mem_cons_of_mem _ hy))]
theorem ok_fun {fs : List PV} (hf : ∀ x ∈ fs, IsFun x) {P : R → Prop} {k : PV → Option R} {i : Int} {x : PV} (h0 : 0 ≤ i) (hx : fs[i.toNat]? = some x) (h : Ok P (k x)) : Ok P (bd (PV.at_ 3 true (.lst fs) (.int .i64 i)) k) := by
  refine ok_at h0 (by have := (List.getElem?_eq_some_iff.1 hx).1; omega) (IsFun.el hf) (fun y _ hy => ?_)
  rw [hx] at hy
  cases hy
  exact h
theorem ok_setOp {P : R → Prop} {k : PV → Option R} {cs : List PV} {i n : Int} (hc : Cd cs) (h0 : 0 ≤ i) (h1 : i < cs.length) (hn : -9223372036854775808 ≤ n ∧ n ≤ 9223372036854775807) (h : ∀ cs' : List PV, Cd cs' → (cs'.length : Int) = cs.length → Ok P (k (.lst cs'))) :
    Ok P (bd (PV.setCell 2 (.lst cs) (.int .i64 i) 0 (.int .i64 n)) k) := by
  have hlt : i.toNat < cs.length := by omega
  have hx : cs[i.toNat]? = some cs[i.toNat] := List.getElem?_eq_getElem hlt
  obtain ⟨o, a, he, ho, ha⟩ := hc _ (List.mem_of_getElem? hx)
  rw [he] at hx
  refine ok_setCell h0 hx rfl (by omega) rfl (h _ (fun x hm => ?_) (by rw [List.length_set]))
  rcases List.mem_or_eq_of_mem_set hm with h | h
  · exact hc x h
  · exact ⟨n, a, h, hn, ha⟩
theorem IsFun.set {fs : List PV} (hf : ∀ x ∈ fs, IsFun x) {i : Nat} {y : PV} (hy : IsFun y) : ∀ x ∈ fs.set i y, IsFun x := by
  intro x hx
  rcases List.mem_or_eq_of_mem_set hx with h | h
  · exact hf x h
  · rw [h]; exact hy
section
variable {l : List Int} (hl : Bts l) {ts : List PV} (ht : ∀ x ∈ ts, IsTxt x) (htn : ts.length ≤ 20)
include hl ht htn
theorem spoil_c21 (x3 x4 : PV) : ∀ (j : Nat) (a s : Int) (fs : List PV), 13 - fs.length ≤ j → (0 ≤ a ∧ a + j + 1 ≤ 900000000 ∧ 0 ≤ s ∧ s < 65521) → (∀ x ∈ fs, IsFun x) → fs.length ≤ 50 →
    Ok (ModP l (a + j + 1)) (spec_l01Spoil_c21 (bytesOf l) (.int .i64 a) (.int .i64 s) x3 x4 (.lst ts) (.lst fs)) := by
  intro j
  induction j with
  | zero =>
    intro a s fs hj h0 hf hn
    rw [spec_l01Spoil_c21_eq]
    refine ok_len (ok_pick hl (by omega) (by omega) (fun p a1 s1 h1 => ?_))
    refine ok_add (by omega) (ok_lss (ok_ite (fun _ => by omega) (fun _ => ?_)))
    exact ok_some ⟨a1, s1, ts, fs, rfl, by omega, by omega, by omega, by omega, ht, by omega, hf, by omega⟩
  | succ j ih =>
    intro a s fs hj h0 hf hn
    rw [spec_l01Spoil_c21_eq]
    refine ok_len (ok_pick hl (by omega) (by omega) (fun p a1 s1 h1 => ?_))
    refine ok_add (by omega) (ok_lss (ok_ite (fun _ => ?_) (fun _ => ?_)))
    · have hone : ∀ y ∈ [PV.agg [.int .i64 0, .int .i64 0, .lst [.agg [.int .i64 4, .int .i64 0], .agg [.int .i64 25, .int .i64 0]]]], IsFun y := fun y hy => by
        simp only [List.mem_singleton] at hy
        exact ⟨0, 0, _, hy, by omega, by omega, (Cd.one (by omega) (by omega)).append (Cd.one (by omega) (by omega)), by simp⟩
      refine ok_cat (by simp; omega) (IsFun.el hone) ?_
      refine (ih a1 s1 _ (by simp; omega) (by omega) (fun x hx => (List.mem_append.1 hx).elim (hf x) (hone x)) (by simp; omega)).mono ?_
      rintro r ⟨a', s', ts', fs', hr, h1, h2, h3⟩
      exact ⟨a', s', ts', fs', hr, h1, by omega, h3⟩
    · exact ok_some ⟨a1, s1, ts, fs, rfl, by omega, by omega, by omega, by omega, ht, by omega, hf, by omega⟩
theorem spoil_c6 (x3 x4 : PV) (f o i : Int) (hf0 : 0 ≤ f) (ho : -9223372036854775808 ≤ o ∧ o ≤ 9223372036854775807) (hi : -9223372036854775808 ≤ i ∧ i ≤ 9223372036854775807) :
    ∀ (j : Nat) (a s : Int) (fs : List PV) (p lc : Int) (cs : List PV), fs[f.toNat]? = some (.agg [.int .i64 p, .int .i64 lc, .lst cs]) → 121 - cs.length ≤ j → (0 ≤ a ∧ a + j + 1 ≤ 900000000 ∧ 0 ≤ s ∧ s < 65521) → (∀ x ∈ fs, IsFun x) → fs.length ≤ 50 →
    Ok (ModP l (a + j + 1)) (spec_l01Spoil_c6 (.int .i64 f) (bytesOf l) (.int .i64 a) (.int .i64 s) (.int .i64 o) (.int .i64 i) x3 x4 (.lst ts) (.lst fs)) := by
  intro j
  induction j with
  | zero =>
    intro a s fs p lc cs hx hj h0 hf hn
    rw [spec_l01Spoil_c6_eq]
    have hlt := (List.getElem?_eq_some_iff.1 hx).1
    refine ok_inb hf0 (by omega) (ok_fun hf hf0 hx (ok_fun hf hf0 hx (ok_cell rfl (ok_len (ok_pick hl (by omega) (by omega) (fun q a1 s1 h1 => ?_))))))
    refine ok_add (by omega) (ok_lss (ok_ite (fun _ => by omega) (fun _ => ?_)))
    exact ok_some ⟨a1, s1, ts, fs, rfl, by omega, by omega, by omega, by omega, ht, by omega, hf, by omega⟩
  | succ j ih =>
    intro a s fs p lc cs hx hj h0 hf hn
    rw [spec_l01Spoil_c6_eq]
    have hlt := (List.getElem?_eq_some_iff.1 hx).1
    obtain ⟨p', lc', cs', he, hp, hlc, hc, hcl⟩ := hf _ (List.mem_of_getElem? hx)
    cases he
    refine ok_inb hf0 (by omega) (ok_fun hf hf0 hx (ok_fun hf hf0 hx (ok_cell rfl (ok_len (ok_pick hl (by omega) (by omega) (fun q a1 s1 h1 => ?_))))))
    refine ok_add (by omega) (ok_lss (ok_ite (fun _ => ?_) (fun _ => ?_)))
    · refine ok_inb hf0 (by omega) (ok_fun hf hf0 hx (ok_fun hf hf0 hx (ok_cell rfl (ok_fun hf hf0 hx (ok_cell rfl ?_)))))
      refine ok_setCell hf0 hx rfl (by omega) rfl ?_
      refine ok_cat (by simp; omega) (Cd.one ho hi).el ?_
      refine ok_inb hf0 (by rw [List.length_set]; omega) ?_
      refine ok_setCell (cs := [.int .i64 p, .int .i64 lc, .hole]) hf0 (List.getElem?_set_self hlt) rfl (by omega) rfl ?_
      rw [List.set_set]
      have hcode : Cd (cs ++ [.agg [.int .i64 o, .int .i64 i]]) := hc.append (Cd.one ho hi)
      refine (ih a1 s1 _ p lc (cs ++ [.agg [.int .i64 o, .int .i64 i]]) (List.getElem?_set_self hlt) (by simp; omega) (by omega) (IsFun.set hf ⟨p, lc, _, rfl, hp, hlc, hcode, by simp; omega⟩) (by rw [List.length_set]; exact hn)).mono ?_
      rintro r ⟨a', s', ts', fs', hr, h1, h2, h3⟩
      exact ⟨a', s', ts', fs', hr, h1, by omega, h3⟩
    · exact ok_some ⟨a1, s1, ts, fs, rfl, by omega, by omega, by omega, by omega, ht, by omega, hf, by omega⟩
end
theorem txts_lit2 : ∀ x ∈ [PV.str (bs [113, 34]), PV.str (bs [10]), PV.str (bs [48, 49, 50, 51, 52, 53, 54, 55, 56, 57, 48, 49, 50, 51, 52, 53, 54, 55, 56, 57, 48, 49, 50, 51, 52, 53, 54, 55, 56, 57, 48, 49, 50, 51, 52, 53, 54, 55, 56, 57, 48, 49, 50, 51, 52, 53, 54, 55, 56, 57, 48, 49, 50, 51, 52, 53, 54, 55, 56, 57, 48]), PV.str (bs [195, 169])], IsTxt x := by
  intro x hx
  simp only [List.mem_cons, List.not_mem_nil, or_false] at hx
  rcases hx with rfl | rfl | rfl | rfl <;> exact ⟨_, rfl, Nat.le_of_ble_eq_true rfl⟩
set_option maxRecDepth 100000 in
set_option maxHeartbeats 4000000 in
theorem spoil_ok {l : List Int} (hl : Bts l) {ts fs : List PV} (ht : ∀ x ∈ ts, IsTxt x) (htn : ts.length ≤ 10) (hh : ∀ x ∈ fs, IsHelp x) (hn1 : 1 ≤ fs.length) (hn : fs.length ≤ 10) {a s : Int} (h0 : 0 ≤ a ∧ a ≤ 850000000 ∧ 0 ≤ s ∧ s < 65521) :
    Ok (ModP l (a + 1000)) (spec_l01Spoil (.lst ts) (.lst fs) (bytesOf l) (.int .i64 a) (.int .i64 s)) := by
  have hf : ∀ x ∈ fs, IsFun x := fun x hx => (hh x hx).toFun
  rw [spec_l01Spoil_eq]
  refine ok_call (copy_ok ht htn hh (by omega)) (fun r hr => ?_)
  subst hr
  refine ok_own (flat_txts ht) (ok_own (flat_funs hf) ?_)
  refine ok_len (ok_pick hl (by omega) (by omega) (fun f a1 s1 h1 => ?_))
  have hlt : f.toNat < fs.length := by omega
  have hx : fs[f.toNat]? = some fs[f.toNat] := List.getElem?_eq_getElem hlt
  obtain ⟨p, lc, cs, he, hp, hlc, hc, hc1, hcl⟩ := hh _ (List.mem_of_getElem? hx)
  rw [he] at hx
  refine ok_inb (by omega) (by omega) (ok_fun hf (by omega) hx (ok_fun hf (by omega) hx (ok_cell rfl (ok_len (ok_pick hl (by omega) (by omega) (fun i a2 s2 h2 => ?_))))))
  refine ok_pick hl (by omega) (by omega) (fun q a3 s3 h3 => ?_)
  have hset : ∀ cs' : List PV, Cd cs' → (cs'.length : Int) ≤ cs.length → ∀ x ∈ fs.set f.toNat (.agg [.int .i64 p, .int .i64 lc, .lst cs']), IsFun x := fun cs' h1 h2 => IsFun.set hf ⟨p, lc, cs', rfl, by omega, by omega, h1, by omega⟩
  refine ok_eql (ok_ite (fun _ => ?_) (fun _ => ?_))
  · refine ok_inb (by omega) (by omega) (ok_fun hf (by omega) hx (ok_pick hl (by omega) (by omega) (fun w a4 s4 h4 => ?_)))
    refine ok_sub (by omega) (ok_fun hf (by omega) hx (ok_cell rfl (ok_inb (by omega) (by omega) (ok_fun hf (by omega) hx (ok_cell rfl (ok_one rfl (ok_fun hf (by omega) hx (ok_cell rfl ?_))))))))
    refine ok_setOp hc (by omega) (by omega) (by omega) (fun cs' hc' hl' => ok_fun hf (by omega) hx (ok_cell rfl ?_))
    refine ok_setCell (by omega) hx rfl (by omega) rfl ?_
    exact ok_some ⟨a4, s4, ts, _, rfl, by omega, by omega, by omega, by omega, ht, by omega, hset cs' hc' (by omega), by rw [List.length_set]; omega⟩
  refine ok_eql (ok_ite (fun _ => ?_) (fun _ => ?_))
  · refine ok_inb (by omega) (by omega) (ok_fun hf (by omega) hx (ok_number hl (by omega) (fun w a4 s4 h4 => ?_)))
    refine ok_fun hf (by omega) hx (ok_cell rfl (ok_inb (by omega) (by omega) (ok_fun hf (by omega) hx (ok_cell rfl (ok_one rfl (ok_fun hf (by omega) hx (ok_cell rfl ?_)))))))
    refine ok_setCode hc (by omega) (by omega) (by omega) (fun cs' hc' hl' => ok_fun hf (by omega) hx (ok_cell rfl ?_))
    refine ok_setCell (by omega) hx rfl (by omega) rfl ?_
    exact ok_some ⟨a4, s4, ts, _, rfl, by omega, by omega, by omega, by omega, ht, by omega, hset cs' hc' (by omega), by rw [List.length_set]; omega⟩
  refine ok_eql (ok_ite (fun _ => ?_) (fun _ => ?_))
  · refine ok_pick hl (by omega) (by omega) (fun w a4 s4 h4 => ?_)
    refine ok_sub (by omega) (ok_inb (by omega) (by omega) (ok_one rfl ?_))
    refine ok_setCell (by omega) hx rfl (by omega) rfl ?_
    exact ok_some ⟨a4, s4, ts, _, rfl, by omega, by omega, by omega, by omega, ht, by omega, IsFun.set hf ⟨w - 1, lc, cs, rfl, by omega, by omega, hc, by omega⟩, by rw [List.length_set]; omega⟩
  refine ok_eql (ok_ite (fun _ => ?_) (fun _ => ?_))
  · refine ok_pick hl (by omega) (by omega) (fun w a4 s4 h4 => ?_)
    refine ok_inb (by omega) (by simp; omega) (ok_lits rfl (by omega) (by simp; omega) (fun y hy => ?_))
    refine ok_inb (by omega) (by omega) (ok_one rfl ?_)
    refine ok_setCell (by omega) hx rfl (by omega) rfl ?_
    exact ok_some ⟨a4, s4, ts, _, rfl, by omega, by omega, by omega, by omega, ht, by omega, IsFun.set hf ⟨p, y, cs, rfl, by omega, by omega, hc, by omega⟩, by rw [List.length_set]; omega⟩
  refine ok_eql (ok_ite (fun _ => ?_) (fun _ => ?_))
  · refine ok_pick hl (by omega) (by omega) (fun w a4 s4 h4 => ?_)
    refine ok_inb (by omega) (by simp; omega) (ok_at (by omega) (by simp; omega) (IsTxt.el txts_lit2) (fun y hy _ => ?_))
    have hone : ∀ z ∈ [y], IsTxt z := fun z hz => by simp only [List.mem_singleton] at hz; rw [hz]; exact txts_lit2 y hy
    refine ok_cat0 (by simp) (IsTxt.el hone) (ok_cat (by simp; omega) (IsTxt.el hone) ?_)
    exact ok_some ⟨a4, s4, _, fs, rfl, by omega, by omega, by omega, by omega, fun z hz => (List.mem_append.1 hz).elim (ht z) (hone z), by simp; omega, hf, by omega⟩
  refine ok_eql (ok_ite (fun _ => ?_) (fun _ => ?_))
  · refine ok_inb (by omega) (by omega) (ok_fun hf (by omega) hx (ok_fun hf (by omega) hx (ok_cell rfl (ok_cut_code hc (by omega) (by omega) (by omega) (fun c1 k1 e1 => ?_)))))
    refine ok_inb (by omega) (by omega) (ok_fun hf (by omega) hx (ok_add (by omega) (ok_fun hf (by omega) hx (ok_cell rfl (ok_len (ok_cut_code hc (by omega) (by omega) (by omega) (fun c2 k2 e2 => ?_)))))))
    refine ok_fun hf (by omega) hx (ok_cell rfl (ok_fun hf (by omega) hx (ok_cell rfl (ok_cut_code hc (by omega) (by omega) (by omega) (fun c3 k3 e3 => ?_)))))
    refine ok_cut_code hc (by omega) (by omega) (by omega) (fun c4 k4 e4 => ok_fun hf (by omega) hx (ok_cell rfl ?_))
    refine ok_setCell (by omega) hx rfl (by omega) rfl ?_
    refine ok_cat (by omega) k3.el ?_
    refine ok_inb (by omega) (by rw [List.length_set]; omega) ?_
    refine ok_setCell (cs := [.int .i64 p, .int .i64 lc, .hole]) (by omega) (List.getElem?_set_self hlt) rfl (by omega) rfl ?_
    rw [List.set_set]
    exact ok_some ⟨a3, s3, ts, _, rfl, by omega, by omega, by omega, by omega, ht, by omega, hset _ (k4.append k3) (by rw [List.length_append]; omega), by rw [List.length_set]; omega⟩
  refine ok_eql (ok_ite (fun _ => ?_) (fun _ => ?_))
  · refine (spoil_c21 hl ht (by omega) (.lst []) (.lst []) 13 a3 s3 fs (by omega) (by omega) hf (by omega)).mono ?_
    rintro r ⟨a', s', ts', fs', hr, h1, h2, h3⟩
    exact ⟨a', s', ts', fs', hr, h1, by omega, h3⟩
  · refine ok_inb (by omega) (by omega) (ok_fun hf (by omega) hx (ok_fun hf (by omega) hx (ok_cell rfl (ok_inb (by omega) (by omega) (ok_fun hf (by omega) hx (ok_cell rfl ?_))))))
    refine ok_at (by omega) (by omega) hc.el (fun y hy _ => ?_)
    obtain ⟨o, b, rfl, ho, hb⟩ := hc y hy
    refine ok_whole rfl (ok_cell rfl (ok_cell rfl ?_))
    refine (spoil_c6 hl ht (by omega) (.lst []) (.lst []) f o b (by omega) ho hb 121 a3 s3 fs p lc cs hx (by omega) (by omega) hf (by omega)).mono ?_
    rintro r ⟨a', s', ts', fs', hr, h1, h2, h3⟩
    exact ⟨a', s', ts', fs', hr, h1, by omega, h3⟩
theorem drawAny_ok {l : List Int} (hl : Bts l) {n a s : Int} (hn : 1 ≤ n ∧ n ≤ 1000) (h0 : 0 ≤ a ∧ a ≤ 800000000 ∧ 0 ≤ s ∧ s < 65521) : Ok (ModP l (a + 4000000)) (spec_l01DrawAny (.int .i64 n) (bytesOf l) (.int .i64 a) (.int .i64 s)) := by
  rw [spec_l01DrawAny_eq]
  refine ok_call (drawModule_ok hl h0) ?_
  rintro r ⟨a1, s1, ts, fs, rfl, h1, h2, h3, h4, ht, htn, hf, hn1, hn2⟩
  refine ok_whole rfl (ok_cell rfl (ok_cell rfl ?_))
  refine ok_once hl (by omega) (by omega) (fun b a2 s2 h5 => ok_ite_b (fun _ => ?_) (fun _ => ?_))
  · refine ok_call (spoil_ok hl ht htn hf hn1 hn2 (by omega)) ?_
    rintro r ⟨a3, s3, ts3, fs3, rfl, g1, g2, g3, g4, g5, g6, g7, g8⟩
    refine ok_whole rfl (ok_cell rfl (ok_cell rfl ?_))
    exact ok_some ⟨a3, s3, ts3, fs3, rfl, by omega, by omega, by omega, by omega, g5, g6, g7, g8⟩
  · exact ok_some ⟨a2, s2, ts, fs, rfl, by omega, by omega, by omega, by omega, ht, by omega, fun x hx => (hf x hx).toFun, by omega⟩
theorem ok_open {l : List Int} (hl : Bts l) {P : R → Prop} {k : R → Option R} (h : ∀ s : Int, 0 ≤ s ∧ s < 65521 → Ok P (k [bytesOf l, .int .i64 0, .int .i64 s])) : Ok P (bd (spec_l01Open (bytesOf l)) k) := by
  refine ok_call (Q := fun r => ∃ s : Int, r = [bytesOf l, .int .i64 0, .int .i64 s] ∧ 0 ≤ s ∧ s < 65521) ?_ (fun r ⟨s, hr, hs⟩ => by rw [hr]; exact h s hs)
  rw [spec_l01Open_eq]
  refine ok_bytes_len (ok_rem (by omega) (by omega) (ok_add (by omega) (ok_one rfl (ok_one rfl (ok_some ⟨_, rfl, by omega, by omega⟩)))))
def IsMod (x : PV) : Prop := ∃ ts fs : List PV, x = .agg [.lst ts, .lst fs] ∧ (∀ x ∈ ts, IsTxt x) ∧ ts.length ≤ 100 ∧ (∀ x ∈ fs, IsFun x) ∧ fs.length ≤ 100 ∧ 1 ≤ fs.length
def Byt (l : List Int) : Prop := ∀ x ∈ l, 0 ≤ x ∧ x ≤ 255
theorem txts_of : ∀ {ts : List PV}, (∀ x ∈ ts, IsTxt x) → ∃ l : List ByteArray, ts = l.map PV.str ∧ ∀ t ∈ l, t.size ≤ 1000
  | [], _ => ⟨[], rfl, fun t ht => by cases ht⟩
  | x :: r, h => by
    obtain ⟨b, rfl, hb⟩ := h x List.mem_cons_self
    obtain ⟨l, rfl, hl⟩ := txts_of (fun y hy => h y (List.mem_cons_of_mem _ hy))
    refine ⟨b :: l, rfl, fun t ht => ?_⟩
    rcases List.mem_cons.1 ht with rfl | ht
    · exact hb
    · exact hl t ht
theorem code_of : ∀ {cs : List PV}, Cd cs → ∃ l : List InsT, cs = l.map InsT.pv
  | [], _ => ⟨[], rfl⟩
  | x :: r, h => by
    obtain ⟨o, a, rfl, _⟩ := h x List.mem_cons_self
    obtain ⟨l, rfl⟩ := code_of (fun y hy => h y (List.mem_cons_of_mem _ hy))
    exact ⟨⟨o, a⟩ :: l, rfl⟩
theorem funs_of : ∀ {fs : List PV}, (∀ x ∈ fs, IsFun x) → ∃ l : List FnT, fs = l.map FnT.pv ∧ ∀ f ∈ l, f.code.length ≤ 1000000000
  | [], _ => ⟨[], rfl, fun t ht => by cases ht⟩
  | x :: r, h => by
    obtain ⟨p, lc, cs, rfl, _, _, hc, hl⟩ := h x List.mem_cons_self
    obtain ⟨l, rfl, hl2⟩ := funs_of (fun y hy => h y (List.mem_cons_of_mem _ hy))
    obtain ⟨c, rfl⟩ := code_of hc
    refine ⟨⟨p, lc, c⟩ :: l, rfl, fun t ht => ?_⟩
    rcases List.mem_cons.1 ht with rfl | ht
    · rw [List.length_map] at hl
      show c.length ≤ _
      omega
    · exact hl2 t ht
theorem big_ok {l : List Int} (hb : Byt l) {P : R → Prop} {k : R → Option R} (h1 : Bts l → Ok P (k [.bool false])) (h2 : Ok P (k [.bool true])) : Ok P (bd (laws_big (bytesOf l)) k) := by
  refine ok_call (Q := fun r => r = [.bool (decide ((1048576 : Int) < l.length))]) ?_ (fun r hr => ?_)
  · rw [laws_big_eq]
    exact ok_bytes_len (ok_gtr (ok_some rfl))
  · subst hr
    by_cases h : (1048576 : Int) < l.length
    · rw [decide_eq_true h]; exact h2
    · rw [decide_eq_false h]; exact h1 ⟨hb, by omega⟩
open Go Go.IntWalk
def goodB (m : MdT) : Bool := m.okB && (bad m.funcs).isNone
theorem goodB_good {m : MdT} (hs : m.sized) (h : goodB m = true) : GoodM m := by
  simp only [goodB, Bool.and_eq_true, Option.isNone_iff_eq_none] at h
  exact ⟨hs, h.1, h.2⟩
theorem chkV_code {fs : List FnT} {code : List InsT} {d : List Int} {pc : Nat} {c : Int} (h : chkV fs code d pc = some c) : c ≠ 0 := by
  unfold chkV at h
  repeat' split at h
  all_goals first
    | (cases h; done)
    | (injection h with h; omega)
theorem bad_code {fs : List FnT} {c : Int} {f pc : Nat} (h : bad fs = some (c, f, pc)) : c ≠ 0 := by
  unfold bad at h
  obtain ⟨i, _, h⟩ := List.exists_of_findSome?_eq_some h
  unfold badFn at h
  split at h
  · obtain ⟨j, _, h⟩ := List.exists_of_findSome?_eq_some h
    unfold badAt at h
    simp only [Option.map_eq_some_iff] at h
    obtain ⟨c', h1, h2⟩ := h
    injection h2 with h2 h3
    rw [← h2]
    exact chkV_code h1
  · cases h
section
variable {P : R → Prop} {k : R → Option R}
theorem ok_good {m : MdT} (hs : m.sized) (h : Ok P (k [.bool (goodB m)])) : Ok P (bd (spec_l03Good m.pv) k) := by
  refine ok_call (Q := fun r => r = [.bool (goodB m)]) ?_ (fun r hr => by rw [hr]; exact h)
  rw [spec_l03Good_eq]
  refine ok_whole rfl (ok_cell rfl (ok_cell rfl (ok_call (spec_verify hs) (fun r hr => ?_))))
  subst hr
  show Ok _ (bd (PV.cell m.verify 0) _)
  unfold MdT.verify goodB
  cases ho : m.okB with
  | false => exact ok_cell (y := .int .i64 1) rfl (ok_eql (ok_some rfl))
  | true =>
    simp only [if_true, Bool.true_and]
    cases hb : bad m.funcs with
    | none => exact ok_cell (y := .int .i64 0) rfl (ok_eql (ok_some rfl))
    | some p =>
      obtain ⟨c, f, pc⟩ := p
      have := bad_code hb
      refine ok_cell (y := .int .i64 c) rfl (ok_eql (ok_some ?_))
      rw [decide_eq_false this]; rfl
theorem ok_goodI {m : MdT} (hs : m.sized) (h : Ok P (k [.bool (goodB m)])) : Ok P (bd (impl_isGood m.pv) k) := by
  refine ok_call (Q := fun r => r = [.bool (goodB m)]) ?_ (fun r hr => by rw [hr]; exact h)
  rw [impl_isGood_eq]
  refine ok_whole rfl (ok_cell rfl (ok_cell rfl (ok_call (impl_verify hs) (fun r hr => ?_))))
  subst hr
  show Ok _ (bd (PV.whole 3 m.verify) _)
  have eq : ∀ a b c : Int, (PV.ceq [1, 1, 1] .eql (.agg [.int .i64 a, .int .i64 b, .int .i64 c]) (.agg [.int .i64 0, .int .i64 0, .int .i64 0])) = some (.bool (decide (a = 0) && (decide (b = 0) && decide (c = 0)))) := by
    intro a b c
    simp [PV.ceq, PV.eqCells, PV.eqScalar, PV.eqOr]
    rfl
  unfold MdT.verify goodB
  cases ho : m.okB with
  | false => exact ok_whole (cs := [.int .i64 1, .int .i64 0, .int .i64 0]) rfl (ok_cell rfl (ok_cell rfl (ok_cell rfl (ok_bd _ (eq _ _ _) (ok_some rfl)))))
  | true =>
    simp only [if_true, Bool.true_and]
    cases hb : bad m.funcs with
    | none => exact ok_whole (cs := [.int .i64 0, .int .i64 0, .int .i64 0]) rfl (ok_cell rfl (ok_cell rfl (ok_cell rfl (ok_bd _ (eq _ _ _) (ok_some rfl)))))
    | some p =>
      obtain ⟨c, f, pc⟩ := p
      have := bad_code hb
      refine ok_whole (cs := [.int .i64 c, .int .i64 f, .int .i64 pc]) rfl (ok_cell rfl (ok_cell rfl (ok_cell rfl (ok_bd _ (eq _ _ _) (ok_some ?_)))))
      rw [decide_eq_false this]; rfl
def cmpI (a b : Int) : Int := if a < b then -1 else if b < a then 1 else 0
theorem ok_nan {a : Int} (h : Ok P (k [.bool false])) : Ok P (bd (cmp_isNaN_int (.int .i64 a)) k) := by
  refine ok_call (Q := fun r => r = [.bool false]) ?_ (fun r hr => by rw [hr]; exact h)
  rw [cmp_isNaN_int_eq]
  exact ok_neq (ok_some (by simp))
theorem ok_cmp {a b : Int} (h : Ok P (k [.int .i64 (cmpI a b)])) : Ok P (bd (cmp_Compare_int (.int .i64 a) (.int .i64 b)) k) := by
  refine ok_call (Q := fun r => r = [.int .i64 (cmpI a b)]) ?_ (fun r hr => by rw [hr]; exact h)
  rw [cmp_Compare_int_eq]
  refine ok_nan (ok_nan (ok_ite_f (ok_ite_f (ok_lss (ok_ite (fun h => ok_some ?_) (fun h => ok_gtr (ok_ite (fun h' => ok_some ?_) (fun h' => ok_some ?_))))))))
  · rw [cmpI, if_pos h]
  · rw [cmpI, if_neg h, if_pos h']
  · rw [cmpI, if_neg h, if_neg h']
theorem ok_or2 {a b : Int} (h : Ok P (k [.int .i64 (if a ≠ 0 then a else b)])) : Ok P (bd (PV.cat 1 8 false (.lst []) (.lst [.int .i64 a, .int .i64 b])) fun v => bd (cmp_Or_int v) k) := by
  refine cat_two (ok_call (Q := fun r => r = [.int .i64 (if a ≠ 0 then a else b)]) ?_ (fun r hr => by rw [hr]; exact h))
  rw [cmp_Or_int_eq]
  refine ok_ints_len ?_
  rw [cmp_Or_int_c3_eq]
  refine ok_lss (ok_ite_t ?_)
  refine ok_ints_at (i := 0) (l := [a, b]) (by simp) ?_
  refine ok_neq (ok_ite_not (fun h0 => ok_some (by rw [if_pos (show a ≠ 0 from h0)]; rfl)) (fun h0 => ok_add (by omega) ?_))
  have h0 : a = 0 := h0
  rw [cmp_Or_int_c3_eq]
  refine ok_lss (ok_ite_t ?_)
  refine ok_ints_at (i := 1) (l := [a, b]) (by simp) ?_
  refine ok_neq (ok_ite_not (fun h1 => ok_some (by rw [if_neg (by omega)]; rfl)) (fun h1 => ok_add (by omega) ?_))
  rw [cmp_Or_int_c3_eq]
  refine ok_lss (ok_ite_f (ok_some ?_))
  have : b = 0 := h1
  rw [if_neg (by omega), this]
end
structure SiT where
  f : Int
  pc : Int
  seen : Int
  tgt : Int
def SiT.pv (s : SiT) : PV := .agg [.int .i64 s.f, .int .i64 s.pc, .int .i64 s.seen, .int .i64 s.tgt]
def sitesPV (l : List SiT) : PV := .lst (l.map SiT.pv)
def isW (o : Int) : Prop := o = 23 ∨ (11 ≤ o ∧ o ≤ 14)
instance (o : Int) : Decidable (isW o) := by unfold isW; infer_instance
def lessS (a b : SiT) : Prop := a.f < b.f ∨ (a.f = b.f ∧ a.pc < b.pc)
instance (a b : SiT) : Decidable (lessS a b) := by unfold lessS; infer_instance
def plP (m : MdT) (f pc : Int) : Prop := (0 ≤ f ∧ f < m.funcs.length) ∧ (0 ≤ pc ∧ pc < (codeOf m.funcs f).length)
instance (m : MdT) (f pc : Int) : Decidable (plP m f pc) := by unfold plP; infer_instance
def siteP (m : MdT) (s : SiT) : Prop := plP m s.f s.pc ∧
  (((insN m s.f s.pc).o = 23 ∧ s.seen = 1 ∧ 0 ≤ s.tgt ∧ s.tgt < m.funcs.length) ∨ ((insN m s.f s.pc).o = 23 ∧ s.seen = 2 ∧ s.tgt = 0) ∨ ((11 ≤ (insN m s.f s.pc).o ∧ (insN m s.f s.pc).o ≤ 14) ∧ 1 ≤ s.seen ∧ s.seen ≤ 3 ∧ s.tgt = 0))
instance (m : MdT) (s : SiT) : Decidable (siteP m s) := by unfold siteP; infer_instance
def profT (m : MdT) : Option SiT → List SiT → Bool
  | _, [] => true
  | q, s :: r => decide (siteP m s) && ((match q with | none => true | some q => decide (lessS q s)) && profT m (some s) r)
def profB (m : MdT) (p : List SiT) : Bool := decide (p.length ≤ 150) && profT m none p
def prevS (p : List SiT) (i : Nat) : Option SiT := if i = 0 then none else p[i - 1]?
theorem prevS_succ {p : List SiT} {i : Nat} (h : i < p.length) : prevS p (i + 1) = some p[i] := by simp [prevS, List.getElem?_eq_getElem h]
section
variable {P : R → Prop} {k : R → Option R} {m : MdT}
theorem ok_fn_at {kp : PV → Option R} {i : Int} (h0 : 0 ≤ i ∧ i < m.funcs.length) (h : ∀ lc, Ok P (kp (.agg [.int .i64 (parOf m.funcs i), lc, .lst ((codeOf m.funcs i).map InsT.pv)]))) : Ok P (bd (PV.at_ 3 true (.lst (m.funcs.map FnT.pv)) (.int .i64 i)) kp) := by
  obtain ⟨j, rfl⟩ := Int.eq_ofNat_of_zero_le h0.1
  have hj : j < m.funcs.length := by omega
  refine ok_at_map hj (fun _ => rfl) ?_
  have := h (.int .i64 m.funcs[j].lc)
  have e1 : codeOf m.funcs j = m.funcs[j].code := by simp [codeOf, List.getElem?_eq_getElem hj]
  have e2 : parOf m.funcs j = m.funcs[j].p := by simp [parOf, List.getElem?_eq_getElem hj]
  rw [e1, e2] at this
  exact this
theorem ok_code_at {kp : PV → Option R} {i j : Int} (h0 : 0 ≤ j ∧ j < (codeOf m.funcs i).length) (h : Ok P (kp (.agg [.int .i64 (insN m i j).o, .int .i64 (insN m i j).a]))) : Ok P (bd (PV.at_ 2 true (.lst ((codeOf m.funcs i).map InsT.pv)) (.int .i64 j)) kp) := by
  obtain ⟨q, rfl⟩ := Int.eq_ofNat_of_zero_le h0.1
  have hq : q < (codeOf m.funcs i).length := by omega
  refine ok_at_map hq (fun _ => rfl) ?_
  have e : insN m i q = (codeOf m.funcs i)[q] := by simp [insN, List.getElem?_eq_getElem hq]
  rw [e] at h
  exact h
theorem code_len (hs : m.sized) (i : Int) : (codeOf m.funcs i).length ≤ 1000000000 := by
  unfold codeOf
  cases hx : m.funcs[i.toNat]? with
  | none => simp
  | some f => exact hs.2.2.2 f (List.mem_of_getElem? hx)
theorem ok_isW {o : Int} (h : Ok P (k [.bool (decide (isW o))])) : Ok P (bd (spec_l07Is (.int .i64 o)) k) := by
  refine ok_call (Q := fun r => r = [.bool (decide (isW o))]) ?_ (fun r hr => by rw [hr]; exact h)
  rw [spec_l07Is_eq]
  have t : isW o → Ok (fun r => r = [.bool (decide (isW o))]) (some [.bool true]) := fun h => ok_some (by rw [decide_eq_true h])
  have f : ¬ isW o → Ok (fun r => r = [.bool (decide (isW o))]) (some [.bool false]) := fun h => ok_some (by rw [decide_eq_false h])
  unfold isW at t f ⊢
  refine ok_eql (ok_ite (fun _ => t (by omega)) (fun _ => ?_))
  refine ok_eql (ok_ite (fun _ => t (by omega)) (fun _ => ?_))
  refine ok_eql (ok_ite (fun _ => t (by omega)) (fun _ => ?_))
  refine ok_eql (ok_ite (fun _ => t (by omega)) (fun _ => ?_))
  exact ok_eql (ok_ite (fun _ => t (by omega)) (fun _ => f (by omega)))
theorem ok_lessS {a b : SiT} (h : Ok P (k [.bool (decide (lessS a b))])) : Ok P (bd (spec_l07Less a.pv b.pv) k) := by
  refine ok_call (Q := fun r => r = [.bool (decide (lessS a b))]) ?_ (fun r hr => by rw [hr]; exact h)
  rw [spec_l07Less_eq]
  have t : (a.f < b.f ∨ (a.f = b.f ∧ a.pc < b.pc)) → decide (lessS a b) = true := fun h => decide_eq_true h
  have f : ¬ (a.f < b.f ∨ (a.f = b.f ∧ a.pc < b.pc)) → decide (lessS a b) = false := fun h => decide_eq_false h
  refine ok_whole rfl (ok_cell rfl (ok_cell rfl (ok_cell rfl (ok_cell rfl (ok_whole rfl (ok_cell rfl (ok_cell rfl (ok_cell rfl (ok_cell rfl ?_)))))))))
  refine ok_lss (ok_ite (fun h => ok_some (by rw [t (by omega)])) (fun h => ok_eql (ok_ite (fun h' => ok_lss (ok_some ?_)) (fun h' => ok_some (by rw [f (by omega)])))))
  by_cases h2 : a.pc < b.pc
  · rw [t (by omega), decide_eq_true h2]
  · rw [f (by omega), decide_eq_false h2]
theorem ok_cmpS {a b : SiT} (h : ∀ n : Int, (0 ≤ n ↔ ¬ lessS a b) → Ok P (k [.int .i64 n])) : Ok P (bd (impl_compareSites a.pv b.pv) k) := by
  refine ok_call (Q := fun r => ∃ n : Int, r = [.int .i64 n] ∧ (0 ≤ n ↔ ¬ lessS a b)) ?_ (fun r ⟨n, hr, hn⟩ => by rw [hr]; exact h n hn)
  rw [impl_compareSites_eq]
  refine ok_whole rfl (ok_cell rfl (ok_cell rfl (ok_cell rfl (ok_cell rfl (ok_whole rfl (ok_cell rfl (ok_cell rfl (ok_cell rfl (ok_cell rfl ?_)))))))))
  refine ok_cmp (ok_cmp (ok_or2 (ok_flat rfl (ok_some ⟨_, rfl, ?_⟩))))
  unfold cmpI lessS
  repeat' split
  all_goals omega
theorem spec_profOk (hs : m.sized) {p : List SiT} (hp : p.length ≤ 1000000) : Ok (fun r => r = [.bool (profB m p)]) (spec_l07Ok m.pv (sitesPV p)) := by
  have hfl := hs.2.1
  rw [spec_l07Ok_eq]
  refine ok_whole rfl (ok_cell rfl (ok_cell rfl (ok_len_map ?_)))
  refine ok_gtr (ok_ite (fun h => ok_some (by rw [profB, decide_eq_false (by omega)]; rfl)) (fun h => ?_))
  have e : profB m p = profT m (prevS p 0) (p.drop 0) := by rw [profB, decide_eq_true (by omega)]; rfl
  rw [e]
  refine ok_down (n := p.length) (P := fun i r => r = [.bool (profT m (prevS p i) (p.drop i))]) (F := fun i => spec_l07Ok_c4 (sitesPV p) (.int .i64 i) (.lst (m.texts.map PV.str)) (.lst (m.funcs.map FnT.pv))) ?_ ?_ 0 (by omega)
  · rw [spec_l07Ok_c4_eq]
    refine ok_len_map (ok_lss (ok_ite (fun h => by omega) (fun _ => ok_some ?_)))
    rw [List.drop_length]; rfl
  · intro i hi ih
    rw [spec_l07Ok_c4_eq]
    have hpv := prevS_succ hi
    have hdr : p.drop i = p[i] :: p.drop (i + 1) := List.drop_eq_getElem_cons hi
    rw [hpv] at ih
    rw [hdr]
    have no : ¬ siteP m p[i] → Ok (fun r => r = [.bool (profT m (prevS p i) (p[i] :: p.drop (i + 1)))]) (some [.bool false]) := fun h => ok_some (by simp only [profT]; rw [decide_eq_false h]; rfl)
    have body : (∀ q, prevS p i = some q → lessS q p[i]) → Ok (fun r => r = [.bool (profT m (prevS p i) (p[i] :: p.drop (i + 1)))])
        (bd (PV.len (.lst (m.funcs.map FnT.pv))) fun v410 => bd (PV.bin .sub v410 (.int .i64 1)) fun v411 => bd (spec_l01Between (.int .i64 p[i].f) (.int .i64 0) v411) fun r412 =>
          bd (PV.not (hd r412)) fun v413 =>
          PV.ite v413
            (some [(.bool false)])
            (bd (PV.at_ 3 true (.lst (m.funcs.map FnT.pv)) (.int .i64 p[i].f)) fun v414 =>
            bd (PV.cell v414 2) fun v415 =>
            bd (PV.len v415) fun v416 =>
            bd (PV.bin .sub v416 (.int .i64 1)) fun v417 =>
            bd (spec_l01Between (.int .i64 p[i].pc) (.int .i64 0) v417) fun r418 =>
            bd (PV.not (hd r418)) fun v419 =>
            PV.ite v419
              (some [(.bool false)])
              (bd (PV.at_ 3 true (.lst (m.funcs.map FnT.pv)) (.int .i64 p[i].f)) fun v420 =>
              bd (PV.cell v420 2) fun v421 =>
              bd (PV.at_ 2 true v421 (.int .i64 p[i].pc)) fun v422 =>
              bd (PV.cell v422 0) fun v423 =>
              bd (spec_l07Is v423) fun r424 =>
              bd (PV.not (hd r424)) fun v425 =>
              PV.ite v425
                (some [(.bool false)])
                (bd (spec_l01Between (.int .i64 p[i].seen) (.int .i64 1) (.int .i64 3)) fun r426 =>
                bd (PV.not (hd r426)) fun v427 =>
                PV.ite v427
                  (some [(.bool false)])
                  (bd (PV.bin .eql v423 (.int .i64 23)) fun v428 =>
                  PV.ite v428
                    (bd (PV.bin .eql (.int .i64 p[i].seen) (.int .i64 1)) fun v429 =>
                    PV.ite v429
                      (spec_l07Ok_c13 (sitesPV p) (.int .i64 i) (.lst (m.texts.map PV.str)) (.lst (m.funcs.map FnT.pv)) (.int .i64 p[i].f) (.int .i64 p[i].pc) (.int .i64 p[i].seen) (.int .i64 p[i].tgt))
                      (spec_l07Ok_c15 (sitesPV p) (.int .i64 i) v423 (.lst (m.texts.map PV.str)) (.lst (m.funcs.map FnT.pv)) (.int .i64 p[i].f) (.int .i64 p[i].pc) (.int .i64 p[i].seen) (.int .i64 p[i].tgt)))
                    (spec_l07Ok_c15 (sitesPV p) (.int .i64 i) v423 (.lst (m.texts.map PV.str)) (.lst (m.funcs.map FnT.pv)) (.int .i64 p[i].f) (.int .i64 p[i].pc) (.int .i64 p[i].seen) (.int .i64 p[i].tgt))))))) := by
      intro hq
      have yes : siteP m p[i] → Ok (fun r => r = [.bool (profT m (prevS p i) (p[i] :: p.drop (i + 1)))]) (spec_l07Ok_c4 (sitesPV p) (.int .i64 ((i : Int) + 1)) (.lst (m.texts.map PV.str)) (.lst (m.funcs.map FnT.pv))) := by
        intro h
        have e : profT m (prevS p i) (p[i] :: p.drop (i + 1)) = profT m (some p[i]) (p.drop (i + 1)) := by
          simp only [profT]
          rw [decide_eq_true h]
          cases hpp : prevS p i with
          | none => rfl
          | some q => simp only; rw [decide_eq_true (hq q hpp)]; rfl
        rw [e]
        exact ih
      unfold siteP plP at no yes
      have hcl := code_len hs p[i].f
      generalize p[i] = s at *
      refine ok_len_map (ok_sub (by omega) (ok_bet (ok_not ?_)))
      cases hb : bet s.f 0 ((m.funcs.length : Int) - 1) with
      | false => exact ok_ite_t (no (by have := bet_not.1 hb; omega))
      | true =>
        have h1 := bet_iff.1 hb
        refine ok_ite_f (ok_fn_at (by omega) (fun lc => ok_cell rfl (ok_len_map (ok_sub (by omega) (ok_bet (ok_not ?_))))))
        cases hb2 : bet s.pc 0 (((codeOf m.funcs s.f).length : Int) - 1) with
        | false => exact ok_ite_t (no (by have := bet_not.1 hb2; omega))
        | true =>
          have h2 := bet_iff.1 hb2
          refine ok_ite_f (ok_fn_at (by omega) (fun lc => ok_cell rfl (ok_code_at (by omega) (ok_cell rfl (ok_isW (ok_not (ok_ite_not (fun h3 => ?_) (fun h3 => ok_bet (ok_not ?_)))))))))
          · unfold isW at h3
            exact no (by omega)
          unfold isW at h3
          cases hb3 : bet s.seen 1 3 with
          | false => exact ok_ite_t (no (by have := bet_not.1 hb3; omega))
          | true =>
            have h4 := bet_iff.1 hb3
            refine ok_ite_f ?_
            have c15 : ¬ ((insN m s.f s.pc).o = 23 ∧ s.seen = 1) → Ok (fun r => r = [.bool (profT m (prevS p i) (s :: p.drop (i + 1)))]) (spec_l07Ok_c15 (sitesPV p) (.int .i64 i) (.int .i64 (insN m s.f s.pc).o) (.lst (m.texts.map PV.str)) (.lst (m.funcs.map FnT.pv)) (.int .i64 s.f) (.int .i64 s.pc) (.int .i64 s.seen) (.int .i64 s.tgt)) := by
              intro hn
              rw [spec_l07Ok_c15_eq]
              refine ok_neq (ok_ite_not (fun h5 => no (by omega)) (fun h5 => ?_))
              refine ok_eql (ok_ite (fun h6 => ?_) (fun h6 => ok_add (by omega) (yes (by omega))))
              exact ok_eql (ok_ite (fun h7 => no (by omega)) (fun h7 => ok_add (by omega) (yes (by omega))))
            refine ok_eql (ok_ite (fun h5 => ok_eql (ok_ite (fun h6 => ?_) (fun h6 => c15 (by omega)))) (fun h5 => c15 (by omega)))
            rw [spec_l07Ok_c13_eq]
            refine ok_len_map (ok_sub (by omega) (ok_bet (ok_not ?_)))
            cases hb4 : bet s.tgt 0 ((m.funcs.length : Int) - 1) with
            | false => exact ok_ite_t (no (by have := bet_not.1 hb4; omega))
            | true =>
              have := bet_iff.1 hb4
              exact ok_ite_f (ok_add (by omega) (yes (by omega)))
    refine ok_len_map (ok_lss (ok_ite (fun _ => ?_) (fun h => by omega)))
    refine ok_at_map hi (fun _ => rfl) (ok_whole rfl (ok_cell rfl (ok_cell rfl (ok_cell rfl (ok_cell rfl ?_)))))
    refine ok_gtr (ok_ite (fun h => ?_) (fun h => body (fun q hq => by rw [prevS, if_pos (by omega)] at hq; cases hq)))
    obtain ⟨j, rfl⟩ : ∃ j, i = j + 1 := ⟨i - 1, by omega⟩
    refine ok_sub (by omega) ?_
    have ej : ((j + 1 : Nat) : Int) - 1 = (j : Int) := by omega
    rw [ej]
    have hj : j < p.length := by omega
    refine ok_at_map hj (fun _ => rfl) (ok_lessS (ok_not (ok_ite_not (fun h3 => ok_some ?_) (fun h3 => ?_))))
    · rw [prevS_succ hj]
      simp only [profT]
      rw [decide_eq_false h3]; simp
    · exact body (fun q hq => by rw [prevS_succ hj] at hq; cases hq; exact h3)
end
def insR (m : MdT) (f pc : Int) : R := if plP m f pc then [.tup [.agg [.int .i64 (insN m f pc).o, .int .i64 (insN m f pc).a], .bool true]] else [.tup [.agg [.int .i64 0, .int .i64 0], .bool false]]
section
variable {P : R → Prop} {k : R → Option R} {m : MdT}
theorem impl_ins_at (hs : m.sized) {f pc : Int} : Ok (fun r => r = insR m f pc) (impl_insAt m.pv (.int .i64 f) (.int .i64 pc)) := by
  have hfl := hs.2.1
  have hcl := code_len hs f
  rw [impl_insAt_eq]
  have no : ¬ ((0 ≤ f ∧ f < m.funcs.length) ∧ (0 ≤ pc ∧ pc < (codeOf m.funcs f).length)) → Ok (fun r => r = insR m f pc) (some [.tup [.agg [.int .i64 0, .int .i64 0], .bool false]]) := fun h => ok_some (by rw [insR, if_neg (show ¬ plP m f pc from h)])
  have yes : ((0 ≤ f ∧ f < m.funcs.length) ∧ (0 ≤ pc ∧ pc < (codeOf m.funcs f).length)) → Ok (fun r => r = insR m f pc) (some [.tup [.agg [.int .i64 (insN m f pc).o, .int .i64 (insN m f pc).a], .bool true]]) := fun h => ok_some (by rw [insR, if_pos (show plP m f pc from h)])
  refine ok_whole rfl (ok_cell rfl (ok_cell rfl (ok_len_map (ok_place (by omega) (ok_not ?_)))))
  cases hb : bet f 0 ((m.funcs.length : Int) - 1) with
  | false => exact ok_ite_t (no (by have := bet_not.1 hb; omega))
  | true =>
    have h1 := bet_iff.1 hb
    refine ok_ite_f (ok_fn_at (by omega) (fun lc => ok_cell rfl (ok_len_map (ok_place (by omega) (ok_not ?_)))))
    cases hb2 : bet pc 0 (((codeOf m.funcs f).length : Int) - 1) with
    | false => exact ok_ite_t (no (by have := bet_not.1 hb2; omega))
    | true =>
      have h2 := bet_iff.1 hb2
      exact ok_ite_f (ok_fn_at (by omega) (fun lc => ok_cell rfl (ok_code_at (by omega) (ok_whole rfl (ok_cell rfl (ok_cell rfl (yes (by omega))))))))
theorem ok_insAt (hs : m.sized) {f pc : Int} (h1 : plP m f pc → Ok P (k [.tup [.agg [.int .i64 (insN m f pc).o, .int .i64 (insN m f pc).a], .bool true]])) (h2 : ¬ plP m f pc → Ok P (k [.tup [.agg [.int .i64 0, .int .i64 0], .bool false]])) :
    Ok P (bd (impl_insAt m.pv (.int .i64 f) (.int .i64 pc)) k) := by
  refine ok_call (impl_ins_at hs) (fun r hr => ?_)
  subst hr
  unfold insR
  by_cases h : plP m f pc
  · rw [if_pos h]; exact h1 h
  · rw [if_neg h]; exact h2 h
theorem ok_isArith {o a : Int} (h : Ok P (k [.bool (bet o 11 14)])) : Ok P (bd (impl_isArith (.agg [.int .i64 o, .int .i64 a])) k) := by
  refine ok_call (Q := fun r => r = [.bool (bet o 11 14)]) ?_ (fun r hr => by rw [hr]; exact h)
  rw [impl_isArith_eq]
  exact ok_whole rfl (ok_cell rfl (ok_cell rfl (ok_range (ok_some rfl))))
theorem impl_site (hs : m.sized) {s : SiT} : Ok (fun r => r = [.bool (decide (siteP m s))]) (impl_siteOk m.pv s.pv) := by
  have hfl := hs.2.1
  rw [impl_siteOk_eq]
  have ans : ∀ b : Bool, (b = true ↔ siteP m s) → Ok (fun r => r = [.bool (decide (siteP m s))]) (some [.bool b]) := by
    intro b hb
    refine ok_some ?_
    congr 2
    cases b with
    | true => exact (decide_eq_true (hb.1 rfl)).symm
    | false => exact (decide_eq_false (fun h => by have := hb.2 h; cases this)).symm
  refine ok_whole rfl (ok_cell rfl (ok_cell rfl (ok_whole rfl (ok_cell rfl (ok_cell rfl (ok_cell rfl (ok_cell rfl ?_)))))))
  refine ok_insAt hs (fun hp => ?_) (fun hp => ?_)
  · refine ok_comp rfl (ok_comp rfl (ok_whole rfl (ok_cell rfl (ok_cell rfl (ok_not (ok_ite_f ?_))))))
    have c6 : ¬ ((insN m s.f s.pc).o = 23 ∧ s.seen = 1) → Ok (fun r => r = [.bool (decide (siteP m s))]) (impl_siteOk_c6 (.int .i64 s.f) (.int .i64 s.pc) (.int .i64 s.seen) (.int .i64 s.tgt) (.int .i64 (insN m s.f s.pc).o) (.int .i64 (insN m s.f s.pc).a)) := by
      intro hn
      rw [impl_siteOk_c6_eq]
      refine ok_eql (ok_ite (fun h1 => ok_eql (ok_ite (fun h2 => ok_eql (ans _ ?_)) (fun h2 => ans _ ?_))) (fun h1 => ok_isArith ?_))
      · rw [decide_eq_true_eq]; unfold siteP; constructor
        · intro h; exact ⟨hp, by omega⟩
        · rintro ⟨_, h⟩; omega
      · unfold siteP; constructor
        · intro h; cases h
        · rintro ⟨_, h⟩; omega
      · cases hb : bet (insN m s.f s.pc).o 11 14 with
        | false =>
          have hb := bet_not.1 hb
          refine ok_ite_f (ans _ ?_)
          unfold siteP; constructor
          · intro h; cases h
          · rintro ⟨_, h⟩; omega
        | true =>
          have hb := bet_iff.1 hb
          refine ok_ite_t (ok_range ?_)
          cases hb2 : bet s.seen 1 3 with
          | false =>
            have hb2 := bet_not.1 hb2
            refine ok_ite_f (ans _ ?_)
            unfold siteP; constructor
            · intro h; cases h
            · rintro ⟨_, h⟩; omega
          | true =>
            have hb2 := bet_iff.1 hb2
            refine ok_ite_t (ok_eql (ans _ ?_))
            rw [decide_eq_true_eq]; unfold siteP; constructor
            · intro h; exact ⟨hp, by omega⟩
            · rintro ⟨_, h⟩; omega
    refine ok_eql (ok_ite (fun h1 => ok_eql (ok_ite (fun h2 => ?_) (fun h2 => c6 (by omega)))) (fun h1 => c6 (by omega)))
    rw [impl_siteOk_c5_eq]
    refine ok_len_map (ok_place (by omega) (ans _ ?_))
    rw [bet_iff]; unfold siteP; constructor
    · intro h; exact ⟨hp, by omega⟩
    · rintro ⟨_, h⟩; omega
  · refine ok_comp rfl (ok_comp rfl (ok_whole rfl (ok_cell rfl (ok_cell rfl (ok_not (ok_ite_t (ans _ ?_)))))))
    unfold siteP; constructor
    · intro h; cases h
    · rintro ⟨h, _⟩; exact absurd h hp
theorem impl_profOk (hs : m.sized) {p : List SiT} (hp : p.length ≤ 1000000) : Ok (fun r => r = [.bool (profB m p)]) (impl_profileOk m.pv (sitesPV p)) := by
  rw [impl_profileOk_eq]
  refine ok_whole rfl (ok_cell rfl (ok_cell rfl (ok_len_map ?_)))
  have e : profB m p = (profT m (prevS p 0) (p.drop 0) && decide (p.length ≤ 150)) := by rw [profB, Bool.and_comm]; rfl
  rw [e]
  refine ok_down (n := p.length) (P := fun i r => r = [.bool (profT m (prevS p i) (p.drop i) && decide (p.length ≤ 150))]) (F := fun i => impl_profileOk_c2 (sitesPV p) (sitesPV p) (.int .i64 p.length) (.int .i64 i) (.lst (m.texts.map PV.str)) (.lst (m.funcs.map FnT.pv))) ?_ ?_ 0 (by omega)
  · rw [impl_profileOk_c2_eq]
    refine ok_lss (ok_ite (fun h => by omega) (fun _ => ok_len_map (ok_leq (ok_some ?_))))
    rw [List.drop_length]
    simp only [profT, Bool.true_and]
    congr 2
    exact decide_eq_decide.2 (by omega)
  · intro i hi ih
    rw [impl_profileOk_c2_eq]
    have hpv := prevS_succ hi
    have hdr : p.drop i = p[i] :: p.drop (i + 1) := List.drop_eq_getElem_cons hi
    rw [hpv] at ih
    rw [hdr]
    refine ok_lss (ok_ite (fun _ => ?_) (fun h => by omega))
    refine ok_at_map hi (fun _ => rfl) (ok_whole rfl (ok_cell rfl (ok_cell rfl (ok_cell rfl (ok_cell rfl ?_)))))
    refine ok_call (impl_site hs (s := p[i])) (fun r hr => ?_)
    subst hr
    refine ok_not (ok_ite_not (fun h => ok_some (by simp only [profT]; rw [decide_eq_false h]; rfl)) (fun h => ?_))
    refine ok_gtr (ok_ite (fun h0 => ?_) (fun h0 => ok_add (by omega) ?_))
    · obtain ⟨j, rfl⟩ : ∃ j, i = j + 1 := ⟨i - 1, by omega⟩
      refine ok_sub (by omega) ?_
      have ej : ((j + 1 : Nat) : Int) - 1 = (j : Int) := by omega
      rw [ej]
      have hj : j < p.length := by omega
      refine ok_at_map hj (fun _ => rfl) (ok_cmpS (fun n hn => ok_geq (ok_ite (fun h3 => ok_some ?_) (fun h3 => ok_add (by omega) ?_))))
      · rw [prevS_succ hj]
        simp only [profT]
        rw [decide_eq_false (hn.1 h3)]; simp
      · rw [prevS_succ hj]
        simp only [profT]
        have : lessS p[j] p[j + 1] := by
          apply Classical.byContradiction
          intro h
          exact h3 (hn.2 h)
        rw [decide_eq_true h, decide_eq_true this]
        exact ih
    · have : prevS p i = none := by rw [prevS, if_pos (by omega)]
      rw [this]
      simp only [profT]
      rw [decide_eq_true h]
      exact ih
def okB2 (m : MdT) (p : List SiT) : Bool := goodB m && profB m p
theorem ok_profile (hs : m.sized) {p : List SiT} (hp : p.length ≤ 1000000) (h : Ok P (k [.bool (okB2 m p)])) : Ok P (bd (spec_ProfileOk m.pv (sitesPV p)) k) := by
  refine ok_call (Q := fun r => r = [.bool (okB2 m p)]) ?_ (fun r hr => by rw [hr]; exact h)
  rw [spec_ProfileOk_eq]
  refine ok_whole rfl (ok_cell rfl (ok_cell rfl (ok_good hs (ok_ite_b (fun h => ok_call (spec_profOk hs hp) (fun r hr => by subst hr; exact ok_some (by rw [okB2, h]; rfl))) (fun h => ok_some (by rw [okB2, h]; rfl))))))
theorem ok_profileI (hs : m.sized) {p : List SiT} (hp : p.length ≤ 1000000) (h : Ok P (k [.bool (okB2 m p)])) : Ok P (bd (impl_ProfileOk m.pv (sitesPV p)) k) := by
  refine ok_call (Q := fun r => r = [.bool (okB2 m p)]) ?_ (fun r hr => by rw [hr]; exact h)
  rw [impl_ProfileOk_eq]
  refine ok_whole rfl (ok_cell rfl (ok_cell rfl (ok_goodI hs (ok_ite_b (fun h => ok_call (impl_profOk hs hp) (fun r hr => by subst hr; exact ok_some (by rw [okB2, h]; rfl))) (fun h => ok_some (by rw [okB2, h]; rfl))))))
def hitS (f pc : Int) (s : SiT) : Bool := decide (s.f = f) && decide (s.pc = pc)
def siteAt (p : List SiT) (f pc : Int) : SiT := (p.find? (hitS f pc)).getD ⟨0, 0, 0, 0⟩
theorem siteAt_cons {s : SiT} {p : List SiT} {f pc : Int} : siteAt (s :: p) f pc = if s.f = f ∧ s.pc = pc then s else siteAt p f pc := by
  unfold siteAt
  rw [List.find?_cons]
  by_cases h : s.f = f ∧ s.pc = pc
  · have : hitS f pc s = true := by simp [hitS, h]
    rw [this, if_pos h]; rfl
  · have : hitS f pc s = false := by simp [hitS]; omega
    rw [this, if_neg h]
theorem ok_siteAt {p : List SiT} (hp : p.length ≤ 1000000) {f pc : Int} (h : Ok P (k [(siteAt p f pc).pv])) : Ok P (bd (spec_SiteAt (sitesPV p) (.int .i64 f) (.int .i64 pc)) k) := by
  refine ok_call (Q := fun r => r = [(siteAt p f pc).pv]) ?_ (fun r hr => by rw [hr]; exact h)
  rw [spec_SiteAt_eq]
  refine ok_down (n := p.length) (P := fun i r => r = [(siteAt (p.drop i) f pc).pv]) (F := fun i => spec_SiteAt_c2 (sitesPV p) (.int .i64 f) (.int .i64 pc) (.int .i64 i) (.int .i64 0) (.int .i64 0) (.int .i64 0) (.int .i64 0)) ?_ ?_ 0 (by omega)
  · rw [spec_SiteAt_c2_eq]
    refine ok_len_map (ok_lss (ok_ite (fun h => by omega) (fun _ => ok_some ?_)))
    rw [List.drop_length]; rfl
  · intro i hi ih
    rw [spec_SiteAt_c2_eq, List.drop_eq_getElem_cons hi, siteAt_cons]
    refine ok_len_map (ok_lss (ok_ite (fun _ => ?_) (fun h => by omega)))
    refine ok_at_map hi (fun _ => rfl) (ok_cell rfl (ok_eql (ok_ite (fun h1 => ?_) (fun h1 => ok_add (by omega) ?_))))
    · refine ok_at_map hi (fun _ => rfl) (ok_cell rfl (ok_eql (ok_ite (fun h2 => ?_) (fun h2 => ok_add (by omega) ?_))))
      · refine ok_at_map hi (fun _ => rfl) (ok_whole rfl (ok_cell rfl (ok_cell rfl (ok_cell rfl (ok_cell rfl (ok_some ?_))))))
        rw [if_pos ⟨h1, h2⟩]; rfl
      · rw [if_neg (fun h => h2 h.2)]; exact ih
    · rw [if_neg (fun h => h1 h.1)]; exact ih
theorem ok_siteAtI {p : List SiT} (hp : p.length ≤ 1000000) {f pc : Int} (h : Ok P (k [(siteAt p f pc).pv])) : Ok P (bd (impl_SiteAt (sitesPV p) (.int .i64 f) (.int .i64 pc)) k) := by
  refine ok_call (Q := fun r => r = [(siteAt p f pc).pv]) ?_ (fun r hr => by rw [hr]; exact h)
  rw [impl_SiteAt_eq]
  refine ok_len_map ?_
  refine ok_down (n := p.length) (P := fun i r => r = [(siteAt (p.drop i) f pc).pv]) (F := fun i => impl_SiteAt_c2 (.int .i64 f) (.int .i64 pc) (sitesPV p) (.int .i64 p.length) (.int .i64 i) (.int .i64 0) (.int .i64 0) (.int .i64 0) (.int .i64 0)) ?_ ?_ 0 (by omega)
  · rw [impl_SiteAt_c2_eq]
    refine ok_lss (ok_ite (fun h => by omega) (fun _ => ok_some ?_))
    rw [List.drop_length]; rfl
  · intro i hi ih
    rw [impl_SiteAt_c2_eq, List.drop_eq_getElem_cons hi, siteAt_cons]
    refine ok_lss (ok_ite (fun _ => ?_) (fun h => by omega))
    refine ok_at_map hi (fun _ => rfl) (ok_whole rfl (ok_cell rfl (ok_cell rfl (ok_cell rfl (ok_cell rfl (ok_eql (ok_ite (fun h1 => ?_) (fun h1 => ok_add (by omega) ?_))))))))
    · refine ok_eql (ok_ite (fun h2 => ok_some ?_) (fun h2 => ok_add (by omega) ?_))
      · rw [if_pos ⟨h1, h2⟩]; rfl
      · rw [if_neg (fun h => h2 h.2)]; exact ih
    · rw [if_neg (fun h => h1 h.1)]; exact ih
end
structure SpT where
  f : Int
  pc : Int
  kind : Int
  tgt : Int
def SpT.pv (s : SpT) : PV := .agg [.int .i64 s.f, .int .i64 s.pc, .int .i64 s.kind, .int .i64 s.tgt]
def specsPV (l : List SpT) : PV := .lst (l.map SpT.pv)
def specP (m : MdT) (s : SpT) : Prop := plP m s.f s.pc ∧
  ((s.kind = 1 ∧ (11 ≤ (insN m s.f s.pc).o ∧ (insN m s.f s.pc).o ≤ 14) ∧ s.tgt = 0) ∨ (s.kind = 2 ∧ (insN m s.f s.pc).o = 23 ∧ (0 ≤ s.tgt ∧ s.tgt < m.funcs.length) ∧ parOf m.funcs s.tgt = (insN m s.f s.pc).a))
instance (m : MdT) (s : SpT) : Decidable (specP m s) := by unfold specP; infer_instance
def guess (m : MdT) (x : SiT) : SpT := if (insN m x.f x.pc).o = 23 then ⟨x.f, x.pc, 2, x.tgt⟩ else ⟨x.f, x.pc, 1, 0⟩
def hitB (s b : SpT) : Bool := decide (b.f = s.f) && (decide (b.pc = s.pc) && decide (b.kind = s.kind))
def keepS (m : MdT) (black : List SpT) (x : SiT) : Bool := decide (x.seen = 1) && (decide (specP m (guess m x)) && !(black.any (hitB (guess m x))))
def planT (m : MdT) (sites : List SiT) (black : List SpT) : List SpT := (sites.filter (keepS m black)).map (guess m)
theorem planT_cons {m : MdT} {x : SiT} {r : List SiT} {black : List SpT} : planT m (x :: r) black = if keepS m black x then guess m x :: planT m r black else planT m r black := by
  unfold planT
  rw [List.filter_cons]
  split <;> rfl
theorem guess_pl {m : MdT} {x : SiT} : (guess m x).f = x.f ∧ (guess m x).pc = x.pc := by unfold guess; split <;> exact ⟨rfl, rfl⟩
section
variable {P : R → Prop} {k : R → Option R} {m : MdT}
theorem ans_of {p : Prop} [Decidable p] (b : Bool) (hb : b = true ↔ p) : Ok (fun r => r = [.bool (decide p)]) (some [.bool b]) := by
  refine ok_some ?_
  congr 2
  cases b with
  | true => exact (decide_eq_true (hb.1 rfl)).symm
  | false => exact (decide_eq_false (fun h => by have := hb.2 h; cases this)).symm
theorem spec_specOk (hs : m.sized) {s : SpT} : Ok (fun r => r = [.bool (decide (specP m s))]) (spec_l09SpecOk m.pv s.pv) := by
  have hfl := hs.2.1
  have hcl := code_len hs s.f
  have ans := ans_of (p := specP m s)
  unfold specP plP at ans
  rw [spec_l09SpecOk_eq]
  show Ok (fun r => r = [.bool (decide (specP m s))]) _
  refine ok_whole rfl (ok_cell rfl (ok_cell rfl (ok_whole rfl (ok_cell rfl (ok_cell rfl (ok_cell rfl (ok_cell rfl (ok_len_map (ok_sub (by omega) (ok_bet (ok_not ?_)))))))))))
  cases hb : bet s.f 0 ((m.funcs.length : Int) - 1) with
  | false =>
    have hb := bet_not.1 hb
    exact ok_ite_t (ans false ⟨fun h => (by cases h), fun h => by omega⟩)
  | true =>
    have h1 := bet_iff.1 hb
    refine ok_ite_f (ok_fn_at (by omega) (fun lc => ok_cell rfl (ok_len_map (ok_sub (by omega) (ok_bet (ok_not ?_))))))
    cases hb2 : bet s.pc 0 (((codeOf m.funcs s.f).length : Int) - 1) with
    | false =>
      have hb2 := bet_not.1 hb2
      exact ok_ite_t (ans false ⟨fun h => (by cases h), fun h => by omega⟩)
    | true =>
      have h2 := bet_iff.1 hb2
      refine ok_ite_f (ok_fn_at (by omega) (fun lc => ok_cell rfl (ok_code_at (by omega) (ok_whole rfl (ok_cell rfl (ok_cell rfl ?_))))))
      refine ok_eql (ok_ite (fun h3 => ok_isW (ok_ite (fun h4 => ?_) (fun h4 => ?_))) (fun h3 => ok_eql (ok_ite (fun h4 => ok_eql (ok_ite (fun h5 => ?_) (fun h5 => ?_))) (fun h4 => ?_))))
      · unfold isW at h4
        refine ok_neq (ok_ite_not (fun h5 => ok_eql (ans _ ?_)) (fun h5 => ans _ ?_))
        · rw [decide_eq_true_eq]; exact ⟨fun h => by omega, fun h => by omega⟩
        · exact ⟨fun h => (by cases h), fun h => by omega⟩
      · unfold isW at h4
        exact ans _ ⟨fun h => (by cases h), fun h => by omega⟩
      · refine ok_len_map (ok_sub (by omega) (ok_bet ?_))
        cases hb3 : bet s.tgt 0 ((m.funcs.length : Int) - 1) with
        | false =>
          have hb3 := bet_not.1 hb3
          exact ok_ite_f (ans _ ⟨fun h => (by cases h), fun h => by omega⟩)
        | true =>
          have h6 := bet_iff.1 hb3
          refine ok_ite_t (ok_fn_at (by omega) (fun lc => ok_cell rfl (ok_eql (ans _ ?_))))
          rw [decide_eq_true_eq]; exact ⟨fun h => by omega, fun h => by omega⟩
      · exact ans _ ⟨fun h => (by cases h), fun h => by omega⟩
      · exact ans _ ⟨fun h => (by cases h), fun h => by omega⟩
theorem impl_specOk' (hs : m.sized) {s : SpT} : Ok (fun r => r = [.bool (decide (specP m s))]) (impl_specOk m.pv s.pv) := by
  have hfl := hs.2.1
  have ans := ans_of (p := specP m s)
  unfold specP at ans
  rw [impl_specOk_eq]
  show Ok (fun r => r = [.bool (decide (specP m s))]) _
  refine ok_whole rfl (ok_cell rfl (ok_cell rfl (ok_whole rfl (ok_cell rfl (ok_cell rfl (ok_cell rfl (ok_cell rfl ?_)))))))
  refine ok_insAt hs (fun hp => ?_) (fun hp => ok_comp rfl (ok_comp rfl (ok_whole rfl (ok_cell rfl (ok_cell rfl (ok_not (ok_ite_t (ans false ⟨fun h => (by cases h), fun h => absurd h.1 hp⟩))))))))
  refine ok_comp rfl (ok_comp rfl (ok_whole rfl (ok_cell rfl (ok_cell rfl (ok_not (ok_ite_f ?_))))))
  refine ok_eql (ok_ite (fun h3 => ok_isArith ?_) (fun h3 => ok_eql (ok_ite (fun h4 => ok_eql (ok_ite (fun h5 => ok_len_map (ok_place (by omega) ?_)) (fun h5 => ?_))) (fun h4 => ?_))))
  · cases hb : bet (insN m s.f s.pc).o 11 14 with
    | false =>
      have hb := bet_not.1 hb
      exact ok_ite_f (ans _ ⟨fun h => (by cases h), fun h => by have := h.2; omega⟩)
    | true =>
      have hb := bet_iff.1 hb
      refine ok_ite_t (ok_eql (ans _ ?_))
      rw [decide_eq_true_eq]; exact ⟨fun h => ⟨hp, by omega⟩, fun h => by have := h.2; omega⟩
  · cases hb : bet s.tgt 0 ((m.funcs.length : Int) - 1) with
    | false =>
      have hb := bet_not.1 hb
      exact ok_ite_f (ans _ ⟨fun h => (by cases h), fun h => by have := h.2; omega⟩)
    | true =>
      have hb := bet_iff.1 hb
      refine ok_ite_t (ok_fn_at (by omega) (fun lc => ok_cell rfl (ok_eql (ans _ ?_))))
      rw [decide_eq_true_eq]; exact ⟨fun h => ⟨hp, by omega⟩, fun h => by have := h.2; omega⟩
  · exact ans _ ⟨fun h => (by cases h), fun h => by have := h.2; omega⟩
  · exact ans _ ⟨fun h => (by cases h), fun h => by have := h.2; omega⟩
theorem ok_hit {kp : PV → Option R} {black : List SpT} {j : Nat} (hj : j < black.length) {off : Nat} {y : PV} (hy : [PV.int .i64 black[j].f, .int .i64 black[j].pc, .int .i64 black[j].kind, .int .i64 black[j].tgt][off]? = some y) (h : Ok P (kp y)) :
    Ok P (bd (PV.at_ 4 true (specsPV black) (.int .i64 j)) fun v => bd (PV.cell v off) kp) := ok_at_map hj (fun _ => rfl) (ok_cell hy h)
theorem take_any {α : Type} {xs : List α} {i : Nat} (hi : i < xs.length) (p : α → Bool) : (xs.take (i + 1)).any p = ((xs.take i).any p || p xs[i]) := by
  rw [List.take_add_one, List.getElem?_eq_getElem hi, List.any_append]; simp
theorem spec_plan (hs : m.sized) {sites : List SiT} (hp : sites.length ≤ 1000000) {black : List SpT} (hb : black.length ≤ 1000000) {lay : Int} {bare : Bool} (hok : ∀ s ∈ sites, siteP m s) :
    Ok (fun r => r = [.agg [specsPV (planT m sites black), .int .i64 lay, .bool bare]]) (spec_l09Plan m.pv (sitesPV sites) (specsPV black) (.int .i64 lay) (.bool bare)) := by
  rw [spec_l09Plan_eq]
  refine ok_whole rfl (ok_cell rfl (ok_cell rfl (ok_one rfl (ok_one rfl ?_))))
  refine ok_for (n := sites.length) (σ := List SpT) (F := fun i acc => spec_l09Plan_c3 (sitesPV sites) (specsPV black) (.int .i64 i) (.lst (m.texts.map PV.str)) (.lst (m.funcs.map FnT.pv)) (.int .i64 0) (.bool false) (.int .i64 lay) (.bool bare) (.lst []) (specsPV acc)) (fun i acc => acc ++ planT m (sites.drop i) black = planT m sites black ∧ acc.length ≤ i) ?_ ?_ 0 [] (by omega) ⟨rfl, Nat.le_refl _⟩
  · rintro acc ⟨ha, _⟩
    rw [List.drop_length] at ha
    have ha : acc ++ [] = planT m sites black := ha
    rw [List.append_nil] at ha
    subst ha
    show Ok _ (spec_l09Plan_c3 _ _ _ _ _ _ _ _ _ _ _)
    rw [spec_l09Plan_c3_eq]
    exact ok_len_map (ok_lss (ok_ite (fun h => by omega) (fun _ => ok_some rfl)))
  · rintro i acc hi ⟨ha, hl⟩ ih
    show Ok _ (spec_l09Plan_c3 _ _ _ _ _ _ _ _ _ _ _)
    rw [spec_l09Plan_c3_eq]
    rw [List.drop_eq_getElem_cons hi, planT_cons] at ha
    have hsi := hok _ (List.getElem_mem hi)
    obtain ⟨hpl, hsi2⟩ := hsi
    obtain ⟨hpl1, hpl2⟩ := hpl
    have hge : ∀ g : SpT, g = guess m sites[i] → Ok (fun r => r = [.agg [specsPV (planT m sites black), .int .i64 lay, .bool bare]]) (spec_l09Plan_c9 (sitesPV sites) (specsPV black) (.int .i64 i) (.lst (m.texts.map PV.str)) (.lst (m.funcs.map FnT.pv)) (.int .i64 0) (.bool false) (.int .i64 lay) (.bool bare) (.int .i64 g.f) (.int .i64 g.pc) (.int .i64 g.kind) (.int .i64 g.tgt) (.lst []) (specsPV acc)) := by
      intro g hg
      rw [spec_l09Plan_c9_eq]
      have loop : ∀ b0 : Bool, (b0 = (!decide (sites[i].seen = 1) || !decide (specP m g))) → Ok (fun r => r = [.agg [specsPV (planT m sites black), .int .i64 lay, .bool bare]]) (spec_l09Plan_c11 (sitesPV sites) (specsPV black) (.int .i64 i) (.bool b0) (.int .i64 0) (.lst (m.texts.map PV.str)) (.lst (m.funcs.map FnT.pv)) (.int .i64 0) (.bool false) (.int .i64 lay) (.bool bare) (.int .i64 g.f) (.int .i64 g.pc) (.int .i64 g.kind) (.int .i64 g.tgt) (.lst []) (specsPV acc)) := by
        intro b0 hb0
        refine ok_for (n := black.length) (σ := Bool) (F := fun j b => spec_l09Plan_c11 (sitesPV sites) (specsPV black) (.int .i64 i) (.bool b) (.int .i64 j) (.lst (m.texts.map PV.str)) (.lst (m.funcs.map FnT.pv)) (.int .i64 0) (.bool false) (.int .i64 lay) (.bool bare) (.int .i64 g.f) (.int .i64 g.pc) (.int .i64 g.kind) (.int .i64 g.tgt) (.lst []) (specsPV acc)) (fun j b => b = (b0 || (black.take j).any (hitB g))) ?_ ?_ 0 b0 (by omega) (by simp)
        · intro b hb1
          rw [List.take_length] at hb1
          show Ok _ (spec_l09Plan_c11 _ _ _ _ _ _ _ _ _ _ _ _ _ _ _ _ _)
          rw [spec_l09Plan_c11_eq]
          have hk : keepS m black sites[i] = !b := by
            rw [hb1, hb0, keepS, ← hg]
            cases decide (sites[i].seen = 1) <;> cases decide (specP m g) <;> cases black.any (hitB g) <;> rfl
          refine ok_len_map (ok_lss (ok_ite (fun h => by omega) (fun _ => ok_not (ok_ite_b (fun hbb => ?_) (fun hbb => ?_)))))
          · rw [hk, hbb, if_pos rfl, ← hg] at ha
            refine ok_cat (by simp; omega) (fun x hx => by simp only [List.mem_singleton] at hx; subst hx; rfl) (ok_add (by omega) ?_)
            have := ih (acc ++ [g]) ⟨by rw [List.append_assoc]; exact ha, by simp; omega⟩
            rw [show acc.map SpT.pv ++ [PV.agg [.int .i64 g.f, .int .i64 g.pc, .int .i64 g.kind, .int .i64 g.tgt]] = (acc ++ [g]).map SpT.pv by rw [List.map_append]; rfl]
            exact this
          · rw [hk, hbb, if_neg (by simp)] at ha
            exact ok_add (by omega) (ih acc ⟨ha, by omega⟩)
        · intro j b hj hb1 ih2
          show Ok _ (spec_l09Plan_c11 _ _ _ _ _ _ _ _ _ _ _ _ _ _ _ _ _)
          rw [spec_l09Plan_c11_eq]
          have tk := take_any hj (hitB g)
          refine ok_len_map (ok_lss (ok_ite (fun _ => ok_ite_b (fun hbb => ok_add (by omega) (ih2 true ?_)) (fun hbb => ok_hit hj rfl (ok_eql (ok_ite (fun h1 => ok_hit hj rfl (ok_eql (ok_ite (fun h2 => ok_hit hj rfl (ok_eql (ok_add (by omega) (ih2 _ ?_)))) (fun h2 => ok_add (by omega) (ih2 false ?_))))) (fun h1 => ok_add (by omega) (ih2 false ?_)))))) (fun h => by omega)))
          all_goals rw [tk, ← Bool.or_assoc, ← hb1, hbb]
          · rfl
          · rw [Bool.false_or, hitB, decide_eq_true h1, decide_eq_true h2]; rfl
          · rw [Bool.false_or, hitB, decide_eq_false h2]; simp
          · rw [Bool.false_or, hitB, decide_eq_false h1]; rfl
      refine ok_at_map hi (fun _ => rfl) (ok_cell rfl (ok_neq (ok_ite_not (fun h => loop true ?_) (fun h => ?_))))
      · rw [decide_eq_false h]; rfl
      · refine ok_call (spec_specOk hs (s := g)) (fun r hr => ?_)
        subst hr
        refine ok_not (loop _ ?_)
        rw [decide_eq_true h]; rfl
    refine ok_len_map (ok_lss (ok_ite (fun _ => ?_) (fun h => by omega)))
    refine ok_at_map hi (fun _ => rfl) (ok_cell rfl (ok_at_map hi (fun _ => rfl) (ok_cell rfl (ok_one rfl (ok_one rfl ?_)))))
    refine ok_fn_at hpl1 (fun lc => ok_cell rfl (ok_code_at hpl2 (ok_cell rfl (ok_eql (ok_ite (fun h => ?_) (fun h => ?_))))))
    · refine ok_at_map hi (fun _ => rfl) (ok_cell rfl (ok_one rfl ?_))
      exact hge ⟨sites[i].f, sites[i].pc, 2, sites[i].tgt⟩ (by rw [guess, if_pos h])
    · exact hge ⟨sites[i].f, sites[i].pc, 1, 0⟩ (by rw [guess, if_neg h])
end
section
variable {P : R → Prop} {k : R → Option R} {m : MdT}
theorem ok_anySp {f : Nat} {caps : List PV} {xs : List SpT} (hx : xs.length ≤ 1000000000) (p : SpT → Bool) (hp : ∀ x ∈ xs, Ok (fun r => r = [.bool (p x)]) (pcallO f ([x.pv] ++ caps))) (h : Ok P (k [.bool (xs.any p)])) :
    Ok P (bd (slices_ContainsFunc_impl_Spec_impl_Spec (specsPV xs) (.fn f caps)) k) := by
  refine ok_call (Q := fun r => r = [.bool (xs.any p)]) ?_ (fun r hr => by rw [hr]; exact h)
  rw [slices_ContainsFunc_impl_Spec_impl_Spec_eq]
  refine ok_call (Q := fun r => ∃ n : Int, r = [.int .i64 n] ∧ (0 ≤ n ↔ xs.any p = true)) ?_ ?_
  · rw [slices_IndexFunc_impl_Spec_impl_Spec_eq]
    refine ok_len_map ?_
    refine ok_scan (n := xs.length) (F := fun i => slices_IndexFunc_impl_Spec_impl_Spec_c2 (specsPV xs) (.fn f caps) (.int .i64 xs.length) (.int .i64 i)) (fun i => (xs.drop i).any p = xs.any p) ?_ ?_ (by rw [List.drop_zero])
    · intro hI
      rw [List.drop_length] at hI
      rw [slices_IndexFunc_impl_Spec_impl_Spec_c2_eq]
      refine ok_lss (ok_ite (fun h => by omega) (fun _ => ok_some ⟨-1, rfl, ?_⟩))
      rw [← hI]; simp
    · intro i hi hI ih
      rw [any_drop hi] at hI
      rw [slices_IndexFunc_impl_Spec_impl_Spec_c2_eq]
      refine ok_lss (ok_ite (fun _ => ?_) (fun h => by omega))
      refine ok_at_map hi (fun _ => rfl) (ok_apply rfl (hp _ (List.getElem_mem _)) (fun r hr => ?_))
      subst hr
      refine ok_ite_b (fun h => ok_some ⟨i, rfl, ?_⟩) (fun h => ?_)
      · rw [← hI, h]; simp
      · rw [h, Bool.false_or] at hI
        exact ok_add (by omega) (ih hI)
  · rintro r ⟨n, rfl, hn⟩
    refine ok_geq (ok_some ?_)
    by_cases h0 : 0 ≤ n
    · rw [decide_eq_true h0, hn.1 h0]
    · rw [decide_eq_false h0]
      cases h2 : xs.any p with
      | false => rfl
      | true => exact absurd (hn.2 h2) h0
theorem hit_fn {g b : SpT} : Ok (fun r => r = [.bool (hitB g b)]) (impl_PlanOf_1 b.pv (.bx [.int .i64 g.f, .int .i64 g.pc, .int .i64 g.kind, .int .i64 g.tgt])) := by
  rw [impl_PlanOf_1_eq]
  unfold hitB
  have isp : ∀ {P : R → Prop} {k : PV → Option R} {cs : List PV}, Ok P (k (.bx cs)) → Ok P (bd (PV.isPtr (.bx cs)) k) := fun h => ok_bd _ (by simp only [PV.isPtr]) h
  refine ok_whole rfl (ok_cell rfl (ok_cell rfl (ok_cell rfl (ok_cell rfl (isp (ok_deref rfl ?_))))))
  refine ok_eql (ok_ite (fun h1 => isp (ok_deref rfl (ok_eql (ok_ite (fun h2 => isp (ok_deref rfl (ok_eql (ok_some ?_)))) (fun h2 => ok_some ?_))))) (fun h1 => ok_some ?_))
  · rw [decide_eq_true h1, decide_eq_true h2]; rfl
  · rw [decide_eq_true h1, decide_eq_false h2]; rfl
  · rw [decide_eq_false h1]; rfl
theorem impl_plan (hs : m.sized) {sites : List SiT} (hp : sites.length ≤ 1000000) {black : List SpT} (hb : black.length ≤ 1000000) {lay : Int} {bare : Bool} (hok : ∀ s ∈ sites, siteP m s) :
    Ok (fun r => r = [.agg [specsPV (planT m sites black), .int .i64 lay, .bool bare]]) (impl_PlanOf_c5 (specsPV black) (sitesPV sites) (.int .i64 sites.length) (.int .i64 0) (.lst (m.texts.map PV.str)) (.lst (m.funcs.map FnT.pv)) (.int .i64 0) (.bool false) (.int .i64 lay) (.bool bare) (.lst []) (.lst [])) := by
  refine ok_for (n := sites.length) (σ := List SpT) (F := fun i acc => impl_PlanOf_c5 (specsPV black) (sitesPV sites) (.int .i64 sites.length) (.int .i64 i) (.lst (m.texts.map PV.str)) (.lst (m.funcs.map FnT.pv)) (.int .i64 0) (.bool false) (.int .i64 lay) (.bool bare) (.lst []) (specsPV acc)) (fun i acc => acc ++ planT m (sites.drop i) black = planT m sites black ∧ acc.length ≤ i) ?_ ?_ 0 [] (by omega) ⟨rfl, Nat.le_refl _⟩
  · rintro acc ⟨ha, _⟩
    rw [List.drop_length] at ha
    have ha : acc ++ [] = planT m sites black := ha
    rw [List.append_nil] at ha
    subst ha
    show Ok _ (impl_PlanOf_c5 _ _ _ _ _ _ _ _ _ _ _ _)
    rw [impl_PlanOf_c5_eq]
    exact ok_lss (ok_ite (fun h => by omega) (fun _ => ok_some rfl))
  · rintro i acc hi ⟨ha, hl⟩ ih
    show Ok _ (impl_PlanOf_c5 _ _ _ _ _ _ _ _ _ _ _ _)
    rw [impl_PlanOf_c5_eq]
    rw [List.drop_eq_getElem_cons hi, planT_cons] at ha
    obtain ⟨⟨hpl1, hpl2⟩, hsi2⟩ := hok _ (List.getElem_mem hi)
    have hge : ∀ g : SpT, g = guess m sites[i] → Ok (fun r => r = [.agg [specsPV (planT m sites black), .int .i64 lay, .bool bare]]) (impl_PlanOf_c10 (specsPV black) (sitesPV sites) (.int .i64 sites.length) (.int .i64 i) (.lst (m.texts.map PV.str)) (.lst (m.funcs.map FnT.pv)) (.int .i64 0) (.bool false) (.int .i64 lay) (.bool bare) (.int .i64 sites[i].f) (.int .i64 sites[i].pc) (.int .i64 sites[i].seen) (.int .i64 sites[i].tgt) (.int .i64 g.f) (.int .i64 g.pc) (.int .i64 g.kind) (.int .i64 g.tgt) (.lst []) (specsPV acc)) := by
      intro g hg
      rw [impl_PlanOf_c10_eq]
      refine ok_anySp (by omega) (hitB g) (fun b _ => hit_fn) (ok_flat rfl ?_)
      have hk : keepS m black sites[i] = (decide (sites[i].seen = 1) && (decide (specP m g) && !(black.any (hitB g)))) := by rw [keepS, ← hg]
      have no : keepS m black sites[i] = false → Ok (fun r => r = [.agg [specsPV (planT m sites black), .int .i64 lay, .bool bare]]) (impl_PlanOf_c5 (specsPV black) (sitesPV sites) (.int .i64 sites.length) (.int .i64 ((i : Int) + 1)) (.lst (m.texts.map PV.str)) (.lst (m.funcs.map FnT.pv)) (.int .i64 0) (.bool false) (.int .i64 lay) (.bool bare) (.lst []) (specsPV acc)) := fun h => by
        rw [h, if_neg (by simp)] at ha
        exact ih acc ⟨ha, by omega⟩
      refine ok_eql (ok_ite (fun h1 => ok_not (ok_ite_b (fun h2 => ?_) (fun h2 => ok_add (by omega) (no ?_)))) (fun h1 => ok_add (by omega) (no ?_)))
      · refine ok_call (impl_specOk' hs (s := g)) (fun r hr => ?_)
        subst hr
        refine ok_ite (fun h3 => ?_) (fun h3 => ok_add (by omega) (no ?_))
        · rw [impl_PlanOf_c12_eq]
          have : keepS m black sites[i] = true := by rw [hk, decide_eq_true h1, decide_eq_true h3, h2]; rfl
          rw [this, if_pos rfl, ← hg] at ha
          refine ok_cat (by simp; omega) (fun x hx => by simp only [List.mem_singleton] at hx; subst hx; rfl) (ok_add (by omega) ?_)
          have := ih (acc ++ [g]) ⟨by rw [List.append_assoc]; exact ha, by simp; omega⟩
          rw [show acc.map SpT.pv ++ [PV.agg [.int .i64 g.f, .int .i64 g.pc, .int .i64 g.kind, .int .i64 g.tgt]] = (acc ++ [g]).map SpT.pv by rw [List.map_append]; rfl]
          exact this
        · rw [hk, decide_eq_false h3]; simp
      · rw [hk, h2]; simp
      · rw [hk, decide_eq_false h1]; rfl
    refine ok_lss (ok_ite (fun _ => ?_) (fun h => by omega))
    refine ok_at_map hi (fun _ => rfl) (ok_whole rfl (ok_cell rfl (ok_cell rfl (ok_cell rfl (ok_cell rfl (ok_one rfl (ok_one rfl (ok_one rfl ?_))))))))
    refine ok_fn_at hpl1 (fun lc => ok_cell rfl (ok_code_at hpl2 (ok_cell rfl (ok_eql (ok_ite (fun h => ?_) (fun h => ?_))))))
    · exact hge ⟨sites[i].f, sites[i].pc, 2, sites[i].tgt⟩ (by rw [guess, if_pos h])
    · have e : sites[i].tgt = 0 := by omega
      have := hge ⟨sites[i].f, sites[i].pc, 1, 0⟩ (by rw [guess, if_neg h])
      rw [e] at this ⊢
      exact this
theorem prof_all {q : Option SiT} {p : List SiT} (h : profT m q p = true) : ∀ s ∈ p, siteP m s := by
  induction p generalizing q with
  | nil => intro s hs; cases hs
  | cons x r ih =>
    simp only [profT, Bool.and_eq_true, decide_eq_true_eq] at h
    intro s hs
    rcases List.mem_cons.1 hs with rfl | hs
    · exact h.1
    · exact ih h.2.2 s hs
def planR (m : MdT) (sites : List SiT) (black : List SpT) (lay : Int) (bare : Bool) : PV :=
  if okB2 m sites = true ∧ 0 ≤ lay ∧ lay ≤ 3 then .agg [specsPV (planT m sites black), .int .i64 lay, .bool bare] else .agg [.lst [], .int .i64 0, .bool false]
theorem okB2_all {sites : List SiT} (h : okB2 m sites = true) : ∀ s ∈ sites, siteP m s := by
  simp only [okB2, profB, Bool.and_eq_true] at h
  exact prof_all h.2.2
theorem spec_planOf (hs : m.sized) {sites : List SiT} (hp : sites.length ≤ 1000000) {black : List SpT} (hb : black.length ≤ 1000000) {lay : Int} {bare : Bool} :
    Ok (fun r => r = [planR m sites black lay bare]) (spec_PlanOf m.pv (sitesPV sites) (specsPV black) (.int .i64 lay) (.bool bare)) := by
  rw [spec_PlanOf_eq]
  unfold planR
  refine ok_whole rfl (ok_cell rfl (ok_cell rfl (ok_profile hs hp (ok_not (ok_ite_b (fun h => ok_some ?_) (fun h => ok_bet (ok_not (ok_ite_b (fun h2 => ok_some ?_) (fun h2 => ?_)))))))))
  · rw [if_neg (fun e => by rw [e.1] at h; cases h)]
  · rw [if_neg (fun e => by rw [bet_iff.2 e.2] at h2; cases h2)]
  · have e1 : okB2 m sites = true := by simpa using h
    have e2 : bet lay 0 3 = true := by simpa using h2
    rw [if_pos ⟨e1, bet_iff.1 e2⟩]
    refine ok_call (spec_plan hs hp hb (okB2_all e1)) (fun r hr => ?_)
    subst hr
    exact ok_whole rfl (ok_cell rfl (ok_cell rfl (ok_cell rfl (ok_some rfl))))
theorem impl_planOf (hs : m.sized) {sites : List SiT} (hp : sites.length ≤ 1000000) {black : List SpT} (hb : black.length ≤ 1000000) {lay : Int} {bare : Bool} :
    Ok (fun r => r = [planR m sites black lay bare]) (impl_PlanOf m.pv (sitesPV sites) (specsPV black) (.int .i64 lay) (.bool bare)) := by
  rw [impl_PlanOf_eq]
  unfold planR
  refine ok_whole rfl (ok_cell rfl (ok_cell rfl (ok_profileI hs hp (ok_not (ok_ite_b (fun h => ok_some ?_) (fun h => ok_range (ok_not (ok_ite_b (fun h2 => ok_some ?_) (fun h2 => ?_)))))))))
  · rw [if_neg (fun e => by rw [e.1] at h; cases h)]
  · rw [if_neg (fun e => by rw [bet_iff.2 e.2] at h2; cases h2)]
  · have e1 : okB2 m sites = true := by simpa using h
    have e2 : bet lay 0 3 = true := by simpa using h2
    rw [if_pos ⟨e1, bet_iff.1 e2⟩]
    exact ok_one rfl (ok_one rfl (ok_len_map (impl_plan hs hp hb (okB2_all e1))))
end
def lessP (a b : SpT) : Prop := a.f < b.f ∨ (a.f = b.f ∧ a.pc < b.pc)
theorem prof_pair {m : MdT} : ∀ {q : Option SiT} {p : List SiT}, profT m q p = true → p.Pairwise lessS ∧ ∀ q0, q = some q0 → ∀ s ∈ p, lessS q0 s
  | q, [], _ => ⟨.nil, fun _ _ s hs => by cases hs⟩
  | q, x :: r, h => by
    simp only [profT, Bool.and_eq_true, decide_eq_true_eq] at h
    obtain ⟨h1, h2, h3⟩ := h
    obtain ⟨i1, i2⟩ := prof_pair h3
    have hx := i2 x rfl
    refine ⟨.cons hx i1, fun q0 hq s hs => ?_⟩
    subst hq
    simp only [decide_eq_true_eq] at h2
    rcases List.mem_cons.1 hs with rfl | hs
    · exact h2
    · have := hx s hs
      unfold lessS at *
      omega
theorem okB2_pair {m : MdT} {sites : List SiT} (h : okB2 m sites = true) : sites.Pairwise lessS ∧ sites.length ≤ 150 ∧ goodB m = true := by
  simp only [okB2, profB, Bool.and_eq_true, decide_eq_true_eq] at h
  exact ⟨(prof_pair h.2.2).1, by omega, h.1⟩
theorem siteAt_mem : ∀ {p : List SiT}, p.Pairwise lessS → ∀ x ∈ p, siteAt p x.f x.pc = x
  | [], _, x, hx => by cases hx
  | s :: r, h, x, hx => by
    rw [siteAt_cons]
    rcases List.mem_cons.1 hx with rfl | hx
    · rw [if_pos ⟨rfl, rfl⟩]
    · have h1 := (List.pairwise_cons.1 h).1 x hx
      unfold lessS at h1
      rw [if_neg (by omega)]
      exact siteAt_mem (List.pairwise_cons.1 h).2 x hx
theorem plan_mem {m : MdT} {sites : List SiT} {black : List SpT} {s : SpT} (h : s ∈ planT m sites black) : ∃ x ∈ sites, keepS m black x = true ∧ s = guess m x := by
  unfold planT at h
  obtain ⟨x, hx, rfl⟩ := List.mem_map.1 h
  have := List.mem_filter.1 hx
  exact ⟨x, this.1, this.2, rfl⟩
theorem plan_pair {m : MdT} {sites : List SiT} {black : List SpT} (h : sites.Pairwise lessS) : (planT m sites black).Pairwise lessP := by
  unfold planT
  rw [List.pairwise_map]
  refine (h.filter (keepS m black)).imp (fun {a b} hab => ?_)
  have ha := guess_pl (m := m) (x := a)
  have hb := guess_pl (m := m) (x := b)
  unfold lessP
  rw [ha.1, ha.2, hb.1, hb.2]
  exact hab
theorem plan_len {m : MdT} {sites : List SiT} {black : List SpT} : (planT m sites black).length ≤ sites.length := by
  unfold planT
  rw [List.length_map]
  exact List.length_filter_le _ _
section
variable {P : R → Prop} {k : R → Option R} {m : MdT}
theorem ok_cmpP {a b : SpT} (h : ∀ n : Int, (0 ≤ n ↔ ¬ lessP a b) → Ok P (k [.int .i64 n])) : Ok P (bd (impl_comparePlaces a.pv b.pv) k) := by
  refine ok_call (Q := fun r => ∃ n : Int, r = [.int .i64 n] ∧ (0 ≤ n ↔ ¬ lessP a b)) ?_ (fun r ⟨n, hr, hn⟩ => by rw [hr]; exact h n hn)
  rw [impl_comparePlaces_eq]
  refine ok_whole rfl (ok_cell rfl (ok_cell rfl (ok_cell rfl (ok_cell rfl (ok_whole rfl (ok_cell rfl (ok_cell rfl (ok_cell rfl (ok_cell rfl ?_)))))))))
  refine ok_cmp (ok_cmp (ok_or2 (ok_flat rfl (ok_some ⟨_, rfl, ?_⟩))))
  unfold cmpI lessP
  repeat' split
  all_goals omega
theorem impl_planOk' (hs : m.sized) (hg : goodB m = true) {ps : List SpT} (h1 : ∀ s ∈ ps, specP m s) (h2 : ps.Pairwise lessP) (h3 : ps.length ≤ 150) {lay : Int} (h4 : 0 ≤ lay ∧ lay ≤ 3) {bare : Bool} :
    Ok (fun r => r = [.bool true]) (impl_PlanOk m.pv (.agg [specsPV ps, .int .i64 lay, .bool bare])) := by
  rw [impl_PlanOk_eq]
  refine ok_whole rfl (ok_cell rfl (ok_cell rfl (ok_whole rfl (ok_cell rfl (ok_cell rfl (ok_cell rfl (ok_goodI hs ?_)))))))
  rw [hg]
  refine ok_ite_t (ok_call (Q := fun r => r = [.bool true]) ?_ (fun r hr => by subst hr; exact ok_some rfl))
  rw [impl_planOk_eq]
  refine ok_whole rfl (ok_cell rfl (ok_cell rfl (ok_whole rfl (ok_cell rfl (ok_cell rfl (ok_cell rfl (ok_len_map ?_)))))))
  refine ok_down (n := ps.length) (P := fun _ r => r = [.bool true]) (F := fun i => impl_planOk_c2 (specsPV ps) (.int .i64 ps.length) (.int .i64 i) (.lst (m.texts.map PV.str)) (.lst (m.funcs.map FnT.pv)) (specsPV ps) (.int .i64 lay) (.bool bare)) ?_ ?_ 0 (by omega)
  · rw [impl_planOk_c2_eq]
    refine ok_lss (ok_ite (fun h => by omega) (fun _ => ok_len_map (ok_leq (ok_ite (fun _ => ok_range (ok_some ?_)) (fun h => by omega)))))
    rw [bet_iff.2 h4]; rfl
  · intro i hi ih
    rw [impl_planOk_c2_eq]
    refine ok_lss (ok_ite (fun _ => ?_) (fun h => by omega))
    refine ok_at_map hi (fun _ => rfl) (ok_whole rfl (ok_cell rfl (ok_cell rfl (ok_cell rfl (ok_cell rfl ?_)))))
    refine ok_call (impl_specOk' hs (s := ps[i])) (fun r hr => ?_)
    subst hr
    refine ok_not (ok_ite_not (fun h => absurd (h1 _ (List.getElem_mem hi)) h) (fun _ => ?_))
    refine ok_gtr (ok_ite (fun h0 => ?_) (fun h0 => ok_add (by omega) ih))
    obtain ⟨j, rfl⟩ : ∃ j, i = j + 1 := ⟨i - 1, by omega⟩
    refine ok_sub (by omega) ?_
    have ej : ((j + 1 : Nat) : Int) - 1 = (j : Int) := by omega
    rw [ej]
    have hj : j < ps.length := by omega
    refine ok_at_map hj (fun _ => rfl) (ok_cmpP (fun n hn => ok_geq (ok_ite (fun h => ?_) (fun _ => ok_add (by omega) ih))))
    exact absurd (List.pairwise_iff_getElem.1 h2 j (j + 1) hj hi (by omega)) (hn.1 h)
theorem ceq4_same {kp : PV → Option R} {a b c d : Int} (h : Ok P (kp (.bool false))) : Ok P (bd (PV.ceq [1, 1, 1, 1] .neq (.agg [.int .i64 a, .int .i64 b, .int .i64 c, .int .i64 d]) (.agg [.int .i64 a, .int .i64 b, .int .i64 c, .int .i64 d])) kp) :=
  ok_bd _ (by simp [PV.ceq, PV.eqCells, PV.eqScalar, PV.eqOr]) h
theorem law_loop (hs : m.sized) {sites : List SiT} (hp : sites.length ≤ 1000000) {black : List SpT} (hb : black.length ≤ 1000000) (hk : okB2 m sites = true) {lay : Int} (hl : 0 ≤ lay ∧ lay ≤ 3) {bare : Bool} {x9 x10 : PV} :
    Ok (fun r => r = [.bool true]) (laws_FnPlanned_c11 (sitesPV sites) (specsPV black) (.int .i64 0) (.lst (m.texts.map PV.str)) (.lst (m.funcs.map FnT.pv)) (specsPV (planT m sites black)) (.int .i64 lay) (.bool bare) (specsPV (planT m sites black)) x9 x10) := by
  obtain ⟨hpair, hlen, hg⟩ := okB2_pair hk
  have hpl : (planT m sites black).length ≤ 150 := Nat.le_trans plan_len hlen
  have hsp : ∀ s ∈ planT m sites black, specP m s := fun s h => by
    obtain ⟨x, hx, hkx, rfl⟩ := plan_mem h
    simp only [keepS, Bool.and_eq_true, decide_eq_true_eq] at hkx
    exact hkx.2.1
  have hpp := plan_pair (m := m) (black := black) hpair
  have hmem : ∀ s ∈ planT m sites black, ∃ x ∈ sites, keepS m black x = true ∧ s = guess m x := fun s h => plan_mem h
  generalize planT m sites black = ps at *
  refine ok_down (n := ps.length) (P := fun _ r => r = [.bool true]) (F := fun i => laws_FnPlanned_c11 (sitesPV sites) (specsPV black) (.int .i64 i) (.lst (m.texts.map PV.str)) (.lst (m.funcs.map FnT.pv)) (specsPV ps) (.int .i64 lay) (.bool bare) (specsPV ps) x9 x10) ?_ ?_ 0 (by omega)
  · rw [laws_FnPlanned_c11_eq]
    refine ok_len_map (ok_lss (ok_ite (fun h => by omega) (fun _ => ok_call (impl_planOk' hs hg hsp hpp hpl hl) (fun r hr => ?_))))
    subst hr
    exact ok_some rfl
  · intro i hi ih
    rw [laws_FnPlanned_c11_eq]
    obtain ⟨x, hx, hkx, hgx⟩ := hmem _ (List.getElem_mem hi)
    have hat := siteAt_mem hpair x hx
    have hgp := guess_pl (m := m) (x := x)
    rw [← hgx] at hgp
    simp only [keepS, Bool.and_eq_true, decide_eq_true_eq, Bool.not_eq_true'] at hkx
    rw [← hgx] at hkx
    obtain ⟨k1, k2, k3⟩ := hkx
    have ktgt : ps[i].kind = 2 → x.tgt = ps[i].tgt := fun h => by
      rw [hgx] at h ⊢
      unfold guess at h ⊢
      split at h
      · rename_i h0; rw [if_pos h0]
      · simp at h
    have hnb : ∀ b ∈ black, hitB ps[i] b = false := by
      intro b hb
      have := List.any_eq_false.1 k3 b hb
      simpa using this
    have c18 : Ok (fun r => r = [.bool true]) (laws_FnPlanned_c18 (sitesPV sites) (specsPV black) (.int .i64 i) (.int .i64 0) (.lst (m.texts.map PV.str)) (.lst (m.funcs.map FnT.pv)) (specsPV ps) (.int .i64 lay) (.bool bare) (specsPV ps) x9 x10 (.int .i64 ps[i].f) (.int .i64 ps[i].pc) (.int .i64 ps[i].kind) (.int .i64 ps[i].tgt)) := by
      refine ok_down (n := black.length) (P := fun _ r => r = [.bool true]) (F := fun j => laws_FnPlanned_c18 (sitesPV sites) (specsPV black) (.int .i64 i) (.int .i64 j) (.lst (m.texts.map PV.str)) (.lst (m.funcs.map FnT.pv)) (specsPV ps) (.int .i64 lay) (.bool bare) (specsPV ps) x9 x10 (.int .i64 ps[i].f) (.int .i64 ps[i].pc) (.int .i64 ps[i].kind) (.int .i64 ps[i].tgt)) ?_ ?_ 0 (by omega)
      · rw [laws_FnPlanned_c18_eq]
        exact ok_len_map (ok_lss (ok_ite (fun h => by omega) (fun _ => ok_add (by omega) ih)))
      · intro j hj ih2
        rw [laws_FnPlanned_c18_eq]
        have hn := hnb _ (List.getElem_mem hj)
        refine ok_len_map (ok_lss (ok_ite (fun _ => ?_) (fun h => by omega)))
        refine ok_hit hj rfl (ok_eql (ok_ite (fun h1 => ok_hit hj rfl (ok_eql (ok_ite (fun h2 => ok_hit hj rfl (ok_eql (ok_ite (fun h3 => ?_) (fun _ => ok_add (by omega) ih2)))) (fun _ => ok_add (by omega) ih2)))) (fun _ => ok_add (by omega) ih2)))
        rw [hitB, decide_eq_true h1, decide_eq_true h2, decide_eq_true h3] at hn
        cases hn
    refine ok_len_map (ok_lss (ok_ite (fun _ => ?_) (fun h => by omega)))
    refine ok_at_map hi (fun _ => rfl) (ok_whole rfl (ok_cell rfl (ok_cell rfl (ok_cell rfl (ok_cell rfl (ok_siteAtI hp ?_))))))
    rw [hgp.1, hgp.2, hat, ← hgp.1, ← hgp.2]
    refine ok_whole rfl (ok_cell rfl (ok_cell rfl (ok_cell rfl (ok_cell rfl (ok_at_map hi (fun _ => rfl) (ok_whole rfl (ok_cell rfl (ok_cell rfl (ok_cell rfl (ok_cell rfl (ceq4_same (ok_ite_f ?_))))))))))))
    refine ok_neq (ok_ite_not (fun h => absurd k1 h) (fun _ => ok_eql (ok_ite (fun h => ok_neq (ok_ite_not (fun h' => absurd (ktgt h) h') (fun _ => c18))) (fun _ => c18))))
theorem law_drawn {l : List Int} (hl : Byt l) (hd : Bts l → Ok (fun r => ∃ m : MdT, ∃ sites : List SiT, ∃ black : List SpT, ∃ lay : Int, ∃ bare : Bool, r = [.tup [m.pv, sitesPV sites, specsPV black, .int .i64 lay, .bool bare]] ∧ m.sized ∧ sites.length ≤ 1000000 ∧ black.length ≤ 1000000) (spec_DrawPlanOf (bytesOf l))) :
    Ok (fun r => r = [.bool true]) (laws_FnPlanned (bytesOf l)) := by
  rw [laws_FnPlanned_eq]
  refine big_ok hl (fun hl0 => ok_ite_f ?_) (ok_ite_t (ok_some rfl))
  refine ok_call (hd hl0) ?_
  rintro r ⟨m, sites, black, lay, bare, rfl, hs, hp, hb⟩
  refine ok_comp rfl (ok_comp rfl (ok_comp rfl (ok_comp rfl (ok_comp rfl (ok_whole rfl (ok_cell rfl (ok_cell rfl ?_)))))))
  refine ok_call (impl_planOf hs hp hb) (fun r hr => ?_)
  subst hr
  show Ok _ (bd (PV.whole 3 (planR m sites black lay bare)) _)
  have hw := spec_planOf hs hp hb (lay := lay) (bare := bare)
  unfold planR at hw ⊢
  by_cases h : okB2 m sites = true ∧ 0 ≤ lay ∧ lay ≤ 3
  · rw [if_pos h] at hw ⊢
    refine ok_whole rfl (ok_cell rfl (ok_cell rfl (ok_cell rfl (ok_call hw (fun r hr => ?_)))))
    subst hr
    refine ok_whole rfl (ok_cell rfl (ok_cell rfl (ok_cell rfl ?_)))
    refine ok_len_map (ok_len_map (ok_neq (ok_ite_not (fun h => absurd rfl h) (fun _ => ok_neq (ok_ite_not (fun h => absurd rfl h) (fun _ => ok_beq_neq (ok_ite_b (fun h => by cases bare <;> cases h) (fun _ => ?_))))))))
    refine ok_profile hs hp (ok_not ?_)
    rw [h.1]
    refine ok_ite_f (ok_lss (ok_ite (fun h' => by omega) (fun _ => ok_gtr (ok_ite (fun h' => by omega) (fun _ => ?_)))))
    exact law_loop hs hp hb h.1 h.2
  · rw [if_neg h] at hw ⊢
    refine ok_whole rfl (ok_cell rfl (ok_cell rfl (ok_cell rfl (ok_call hw (fun r hr => ?_)))))
    subst hr
    refine ok_whole rfl (ok_cell rfl (ok_cell rfl (ok_cell rfl ?_)))
    refine ok_len (ok_len (ok_neq (ok_ite_not (fun h => absurd rfl h) (fun _ => ok_neq (ok_ite_not (fun h => absurd rfl h) (fun _ => ok_beq_neq (ok_ite_f ?_)))))))
    refine ok_profile hs hp (ok_not (ok_ite_b (fun _ => ok_len (ok_eql (ok_some rfl))) (fun h1 => ?_)))
    refine ok_lss (ok_ite (fun _ => ok_len (ok_eql (ok_some rfl))) (fun h2 => ok_gtr (ok_ite (fun _ => ok_len (ok_eql (ok_some rfl))) (fun h3 => ?_))))
    exact absurd ⟨by simpa using h1, by omega, by omega⟩ h
end
def MdP (l : List Int) (A : Int) (r : R) : Prop := ∃ a s : Int, ∃ m : MdT, r = [m.pv, bytesOf l, .int .i64 a, .int .i64 s] ∧ 0 ≤ a ∧ a ≤ A ∧ 0 ≤ s ∧ s < 65521 ∧ m.sized ∧ 1 ≤ m.funcs.length ∧ m.funcs.length ≤ 100
theorem MdP.of {l : List Int} {A a s : Int} {ts fs : List PV} (h : 0 ≤ a ∧ a ≤ A ∧ 0 ≤ s ∧ s < 65521) (h1 : ∀ x ∈ ts, IsTxt x) (h2 : ts.length ≤ 100) (h3 : ∀ x ∈ fs, IsFun x) (h4 : fs.length ≤ 100) (h5 : 1 ≤ fs.length) : ∃ m : MdT, ts = m.texts.map PV.str ∧ fs = m.funcs.map FnT.pv ∧ m.sized ∧ 1 ≤ m.funcs.length ∧ m.funcs.length ≤ 100 := by
  obtain ⟨t, rfl, ht⟩ := txts_of h1
  obtain ⟨f, rfl, hf⟩ := funs_of h3
  rw [List.length_map] at h2 h4 h5
  exact ⟨⟨t, f⟩, rfl, rfl, ⟨by show t.length ≤ _; omega, by show f.length ≤ _; omega, fun x hx => by have := ht x hx; omega, hf⟩, h5, h4⟩
section
variable {l : List Int} (hl : Bts l) {P : R → Prop}
include hl
theorem drawGood_ok {a s : Int} (h0 : 0 ≤ a ∧ a ≤ 800000000 ∧ 0 ≤ s ∧ s < 65521) : Ok (MdP l (a + 4000000)) (spec_l05DrawGood (bytesOf l) (.int .i64 a) (.int .i64 s)) := by
  rw [spec_l05DrawGood_eq]
  refine ok_call (drawModule_ok hl h0) ?_
  rintro r ⟨a1, s1, ts, fs, rfl, h1, h2, h3, h4, ht, htn, hf, hn1, hn2⟩
  obtain ⟨m, rfl, rfl, hs, hm1, hm2⟩ := MdP.of (l := l) (A := a1) (a := a1) (s := s1) (by omega) ht (by omega) (fun x hx => (hf x hx).toFun) (by omega) hn1
  refine ok_whole rfl (ok_cell rfl (ok_cell rfl (ok_good hs (ok_not (ok_ite_b (fun _ => ok_some ?_) (fun _ => ok_some ?_))))))
  · refine ⟨a1, s1, ⟨[], [⟨0, 1, [⟨6, 0⟩, ⟨26, 0⟩, ⟨4, 0⟩, ⟨25, 0⟩]⟩]⟩, rfl, by omega, by omega, by omega, by omega, ⟨?_, ?_, ?_, ?_⟩, ?_, ?_⟩
    all_goals simp
  · exact ⟨a1, s1, m, rfl, by omega, by omega, by omega, by omega, hs, hm1, hm2⟩
theorem drawMany_ok {a s : Int} (h0 : 0 ≤ a ∧ a ≤ 700000000 ∧ 0 ≤ s ∧ s < 65521) : Ok (MdP l (a + 5000000)) (spec_l05DrawMany (bytesOf l) (.int .i64 a) (.int .i64 s)) := by
  rw [spec_l05DrawMany_eq]
  refine ok_once hl (by omega) (by omega) (fun b a1 s1 h1 => ok_ite_b (fun _ => ?_) (fun _ => ?_))
  · refine ok_call (drawAny_ok hl (by omega) (by omega)) ?_
    rintro r ⟨a2, s2, ts, fs, rfl, g1, g2, g3, g4, ht, htn, hf, hn2, hn1⟩
    obtain ⟨m, rfl, rfl, hs, hm1, hm2⟩ := MdP.of (l := l) (A := a2) (a := a2) (s := s2) (by omega) ht (by omega) hf (by omega) hn1
    exact ok_whole rfl (ok_cell rfl (ok_cell rfl (ok_some ⟨a2, s2, m, rfl, by omega, by omega, by omega, by omega, hs, hm1, hm2⟩)))
  · refine ok_call (drawGood_ok hl (by omega)) ?_
    rintro r ⟨a2, s2, m, rfl, g1, g2, g3, g4, hs, hm1, hm2⟩
    exact ok_whole rfl (ok_cell rfl (ok_cell rfl (ok_some ⟨a2, s2, m, rfl, by omega, by omega, by omega, by omega, hs, hm1, hm2⟩)))
def ValP (l : List Int) (A : Int) (r : R) : Prop := ∃ a s : Int, ∃ v : VlT, r = [v.pv, bytesOf l, .int .i64 a, .int .i64 s] ∧ 0 ≤ a ∧ a ≤ A ∧ 0 ≤ s ∧ s < 65521 ∧ v.s.size ≤ 1000
omit hl in
theorem txts_v1 : ∀ x ∈ [PV.str (bs []), PV.str (bs [97]), PV.str (bs [98, 99]), PV.str (bs [48, 49, 50, 51, 52, 53, 54, 55, 56, 57, 48, 49, 50, 51, 52, 53, 54, 55, 56, 57, 48, 49, 50, 51, 52, 53, 54, 55, 56, 57, 48, 49, 50, 51, 52, 53, 54, 55, 56, 57])], IsTxt x := by
  intro x hx
  simp only [List.mem_cons, List.not_mem_nil, or_false] at hx
  rcases hx with rfl | rfl | rfl | rfl <;> exact ⟨_, rfl, by decide⟩
omit hl in
theorem txts_v2 : ∀ x ∈ [PV.str (bs []), PV.str (bs [97]), PV.str (bs [34])], IsTxt x := by
  intro x hx
  simp only [List.mem_cons, List.not_mem_nil, or_false] at hx
  rcases hx with rfl | rfl | rfl <;> exact ⟨_, rfl, by decide⟩
theorem drawValue_ok {a s : Int} (h0 : 0 ≤ a ∧ a ≤ 800000000 ∧ 0 ≤ s ∧ s < 65521) : Ok (ValP l (a + 10)) (spec_l04DrawValue (bytesOf l) (.int .i64 a) (.int .i64 s)) := by
  rw [spec_l04DrawValue_eq]
  have e0 : (bs []).size ≤ 1000 := by decide
  have num : ∀ {a1 s1 : Int}, a ≤ a1 ∧ a1 ≤ a + 1 ∧ 0 ≤ s1 ∧ s1 < 65521 → Ok (ValP l (a + 10)) (bd (spec_l01Cur_number (bytesOf l) (.int .i64 a1) (.int .i64 s1)) fun r1757 =>
      bd (spec_l04Int (gd r1757 0)) fun r1758 =>
      bd (PV.whole 3 (hd r1758)) fun v1759 =>
      bd (PV.cell v1759 0) fun v1760 =>
      bd (PV.cell v1759 1) fun v1761 =>
      bd (PV.cell v1759 2) fun v1762 =>
      some [(.agg [v1760, v1761, v1762]), (gd r1757 1), (gd r1757 2), (gd r1757 3)]) := fun h =>
    ok_number hl (by omega) (fun n a2 s2 h2 => ok_int04 (ok_whole rfl (ok_cell rfl (ok_cell rfl (ok_cell rfl (ok_some ⟨a2, s2, vInt n, rfl, by omega, by omega, by omega, by omega, e0⟩))))))
  refine ok_pick hl (by omega) (by omega) (fun x a1 s1 h1 => ?_)
  refine ok_eql (ok_ite (fun _ => ok_some ⟨a1, s1, vNil, rfl, by omega, by omega, by omega, by omega, e0⟩) (fun _ => ?_))
  refine ok_eql (ok_ite (fun _ => num (by omega)) (fun _ => ?_))
  refine ok_eql (ok_ite (fun _ => num (by omega)) (fun _ => ?_))
  refine ok_eql (ok_ite (fun _ => num (by omega)) (fun _ => ?_))
  refine ok_eql (ok_ite (fun _ => ok_pick hl (by omega) (by omega) (fun y a2 s2 h2 => ok_one rfl (ok_some ⟨a2, s2, ⟨2, y, bs []⟩, rfl, by omega, by omega, by omega, by omega, e0⟩))) (fun _ => ?_))
  refine ok_eql (ok_ite (fun _ => ok_pick hl (by omega) (by omega) (fun y a2 s2 h2 => ?_)) (fun _ => ?_))
  · refine ok_inb (by omega) (by simp; omega) (ok_at (by omega) (by simp; omega) (IsTxt.el txts_v1) (fun z hz _ => ?_))
    obtain ⟨b, rfl, hb⟩ := txts_v1 z hz
    exact ok_one rfl (ok_some ⟨a2, s2, ⟨3, 0, b⟩, rfl, by omega, by omega, by omega, by omega, hb⟩)
  refine ok_eql (ok_ite (fun _ => ok_pick hl (by omega) (by omega) (fun y a2 s2 h2 => ok_one rfl (ok_some ⟨a2, s2, ⟨4, y, bs []⟩, rfl, by omega, by omega, by omega, by omega, e0⟩))) (fun _ => ?_))
  refine ok_eql (ok_ite (fun _ => ok_pick hl (by omega) (by omega) (fun y a2 s2 h2 => ok_one rfl (ok_some ⟨a2, s2, ⟨5, y, bs []⟩, rfl, by omega, by omega, by omega, by omega, e0⟩))) (fun _ => ?_))
  refine ok_pick hl (by omega) (by omega) (fun y a2 s2 h2 => ok_sub (by omega) (ok_pick hl (by omega) (by omega) (fun z a3 s3 h3 => ok_sub (by omega) (ok_pick hl (by omega) (by omega) (fun w a4 s4 h4 => ?_)))))
  refine ok_inb (by omega) (by simp; omega) (ok_at (by omega) (by simp; omega) (IsTxt.el txts_v2) (fun t ht _ => ?_))
  obtain ⟨b, rfl, hb⟩ := txts_v2 t ht
  exact ok_one rfl (ok_one rfl (ok_one rfl (ok_some ⟨a4, s4, ⟨y - 1, z - 1, b⟩, rfl, by omega, by omega, by omega, by omega, hb⟩)))
def ArgsP (l : List Int) (A : Int) (r : R) : Prop := ∃ a s : Int, ∃ vs : List VlT, r = [vals vs, bytesOf l, .int .i64 a, .int .i64 s] ∧ 0 ≤ a ∧ a ≤ A ∧ 0 ≤ s ∧ s < 65521 ∧ (∀ v ∈ vs, v.s.size ≤ 1000) ∧ vs.length ≤ 21
omit hl in
theorem small_cat {vs : List VlT} (h : ∀ v ∈ vs, v.s.size ≤ 1000) {v : VlT} (hv : v.s.size ≤ 1000) : ∀ w ∈ vs ++ [v], w.s.size ≤ 1000 := by
  intro w hw
  rcases List.mem_append.1 hw with hw | hw
  · exact h w hw
  · rw [List.mem_singleton] at hw; rw [hw]; exact hv
omit hl in
theorem ok_val_cat {k : PV → Option R} {vs : List VlT} (hn : vs.length ≤ 1000) {v : VlT} (h : Ok P (k (vals (vs ++ [v])))) : Ok P (bd (PV.cat 3 32 true (.lst []) (.lst [v.pv])) fun y => bd (PV.cat 3 32 true (vals vs) y) k) := by
  refine ok_cat0 (by simp) (vals_el (l := [v])) (ok_cat (by simp; omega) (vals_el (l := [v])) ?_)
  rw [show vs.map VlT.pv ++ [v.pv] = (vs ++ [v]).map VlT.pv by rw [List.map_append]; rfl]
  exact h
theorem args_end {a s : Int} {vs : List VlT} (h0 : 0 ≤ a ∧ a ≤ 790000000 ∧ 0 ≤ s ∧ s < 65521) (hv : ∀ v ∈ vs, v.s.size ≤ 1000) (hn : vs.length ≤ 20) : Ok (ArgsP l (a + 20)) (bd (spec_l01Cur_once (.int .i64 30) (bytesOf l) (.int .i64 a) (.int .i64 s)) fun r1440 =>
    PV.ite (gd r1440 0)
      (bd (spec_l04DrawValue (gd r1440 1) (gd r1440 2) (gd r1440 3)) fun r1441 =>
      bd (PV.cat 3 32 true (.lst []) (.lst [(gd r1441 0)])) fun v1442 =>
      bd (PV.cat 3 32 true (vals vs) v1442) fun v1443 =>
      some [v1443, (gd r1441 1), (gd r1441 2), (gd r1441 3)])
      (some [vals vs, (gd r1440 1), (gd r1440 2), (gd r1440 3)])) := by
  refine ok_once hl (by omega) (by omega) (fun b a1 s1 h1 => ok_ite_b (fun _ => ok_call (drawValue_ok hl (by omega)) ?_) (fun _ => ok_some ⟨a1, s1, vs, rfl, by omega, by omega, by omega, by omega, hv, by omega⟩))
  rintro r ⟨a2, s2, v, rfl, g1, g2, g3, g4, g5⟩
  exact ok_val_cat (by omega) (ok_some ⟨a2, s2, vs ++ [v], rfl, by omega, by omega, by omega, by omega, small_cat hv g5, by simp; omega⟩)
theorem drawArgs_ok {m : MdT} (hs : m.sized) (hm : 1 ≤ m.funcs.length) {a s : Int} (h0 : 0 ≤ a ∧ a ≤ 700000000 ∧ 0 ≤ s ∧ s < 65521) : Ok (ArgsP l (a + 1000)) (spec_l05DrawArgs (.lst (m.texts.map PV.str)) (.lst (m.funcs.map FnT.pv)) (bytesOf l) (.int .i64 a) (.int .i64 s)) := by
  rw [spec_l05DrawArgs_eq]
  have hfl := hs.2.1
  have loop : ∀ (j : Nat) (q a1 s1 : Int) (vs : List VlT), q + j = 20 → 0 ≤ q → vs.length = q → (a ≤ a1 ∧ a1 ≤ a + 10 * q ∧ 0 ≤ s1 ∧ s1 < 65521) → (∀ v ∈ vs, v.s.size ≤ 1000) →
      Ok (ArgsP l (a + 1000)) (spec_l05DrawArgs_c3 (.int .i64 q) (bytesOf l) (.int .i64 a1) (.int .i64 s1) (.lst (m.texts.map PV.str)) (.lst (m.funcs.map FnT.pv)) (vals vs)) := by
    intro j
    induction j with
    | zero =>
      intro q a1 s1 vs hq hq0 hn h1 hv
      have fin := args_end hl (a := a1) (s := s1) (vs := vs) (by omega) hv (by omega)
      have fin : Ok (ArgsP l (a + 1000)) _ := fin.mono (fun r ⟨a', s', v', hr, g1, g2, g⟩ => ⟨a', s', v', hr, g1, by omega, g⟩)
      rw [spec_l05DrawArgs_c3_eq]
      refine ok_fn_at (by omega) (fun lc => ok_cell rfl (ok_lss (ok_ite (fun _ => ok_lss (ok_ite (fun h => by omega) (fun _ => fin))) (fun _ => fin))))
    | succ j ih =>
      intro q a1 s1 vs hq hq0 hn h1 hv
      have fin := args_end hl (a := a1) (s := s1) (vs := vs) (by omega) hv (by omega)
      have fin : Ok (ArgsP l (a + 1000)) _ := fin.mono (fun r ⟨a', s', v', hr, g1, g2, g⟩ => ⟨a', s', v', hr, g1, by omega, g⟩)
      rw [spec_l05DrawArgs_c3_eq]
      refine ok_fn_at (by omega) (fun lc => ok_cell rfl (ok_lss (ok_ite (fun _ => ok_lss (ok_ite (fun _ => ?_) (fun _ => fin))) (fun _ => fin))))
      refine ok_pick hl (by omega) (by omega) (fun x1 a2 s2 h2 => ok_int04 (ok_pick hl (by omega) (by omega) (fun x2 a3 s3 h3 => ok_sub (by omega) (ok_int04 (ok_pick hl (by omega) (by omega) (fun x3 a4 s4 h4 => ok_int04 (ok_bool04 (ok_len_map (ok_pick hl (by omega) (by omega) (fun x4 a5 s5 h5 => ok_one rfl ?_))))))))))
      refine ok_cat0 (by simp) (vals_el (l := [vInt x1, vInt (x2 - 2), vInt x3, vBool true, vText (bs [113]), vNil, vFun x4])) ?_
      refine ok_pick hl (by omega) (by omega) (fun x5 a6 s6 h6 => ?_)
      refine ok_inb (by omega) (by simp; omega) (ok_at (by omega) (by simp; omega) (vals_el (l := [vInt x1, vInt (x2 - 2), vInt x3, vBool true, vText (bs [113]), vNil, vFun x4])) (fun z hz _ => ?_))
      obtain ⟨v, hv', rfl⟩ := List.mem_map.1 (show z ∈ [vInt x1, vInt (x2 - 2), vInt x3, vBool true, vText (bs [113]), vNil, vFun x4].map VlT.pv from hz)
      have hvs : v.s.size ≤ 1000 := by
        have e0 : (bs []).size ≤ 1000 := by decide
        have e1 : (bs [113]).size ≤ 1000 := by decide
        simp only [List.mem_cons, List.not_mem_nil, or_false] at hv'
        rcases hv' with rfl | rfl | rfl | rfl | rfl | rfl | rfl <;> first | exact e0 | exact e1
      refine ok_val_cat (by omega) (ok_add (by omega) (ih (q + 1) a6 s6 (vs ++ [v]) (by omega) (by omega) (by simp; omega) (by omega) (small_cat hv hvs)))
  exact loop 20 0 a s [] (by omega) (by omega) rfl (by omega) (by simp)
end
theorem site_el {l : List SiT} : ∀ x ∈ l.map SiT.pv, x.isEl 4 true = true := by
  intro x hx
  obtain ⟨a, _, rfl⟩ := List.mem_map.1 hx
  rfl
theorem flat_sites (l : List SiT) : PV.flatO (.own 4 32 true []) (sitesPV l) = true := by
  show PV.flatEs true [] (l.map SiT.pv) = true
  induction l with
  | nil => simp [PV.flatEs]
  | cons x r ih => simp [PV.flatEs, PV.flatE, PV.flatCs, PV.flat, SiT.pv, ih]
section
variable {P : R → Prop} {m : MdT}
theorem ok_orI {k : PV → Option R} {a b : Int} (h : ∀ n : Int, Ok P (k (.int .i64 n))) : Ok P (bd (PV.bin .or (.int .i64 a) (.int .i64 b)) k) :=
  ok_bd _ (by rw [bin_int (by simp) (by simp)]; rfl) (h _)
theorem ok_both {k : R → Option R} {o : Int} {a b : SiT} (h : ∀ c : SiT, Ok P (k [c.pv])) : Ok P (bd (spec_l07Both (.int .i64 o) a.pv b.pv) k) := by
  refine ok_call (Q := fun r => ∃ c : SiT, r = [c.pv]) ?_ (fun r ⟨c, hr⟩ => by rw [hr]; exact h c)
  rw [spec_l07Both_eq]
  refine ok_whole rfl (ok_cell rfl (ok_cell rfl (ok_cell rfl (ok_cell rfl (ok_whole rfl (ok_cell rfl (ok_cell rfl (ok_cell rfl (ok_cell rfl ?_)))))))))
  refine ok_neq (ok_ite_not (fun _ => ok_orI (fun n => ok_one rfl (ok_some ⟨⟨a.f, a.pc, n, a.tgt⟩, rfl⟩))) (fun _ => ?_))
  have f : Ok (fun r => ∃ c : SiT, r = [c.pv]) (some [.agg [.int .i64 a.f, .int .i64 a.pc, .int .i64 2, .int .i64 0]]) := ok_some ⟨⟨a.f, a.pc, 2, 0⟩, rfl⟩
  exact ok_neq (ok_ite_not (fun _ => f) (fun _ => ok_neq (ok_ite_not (fun _ => f) (fun _ => ok_neq (ok_ite_not (fun _ => f) (fun _ => ok_some ⟨a, rfl⟩))))))
theorem ok_site_cat {k : PV → Option R} {vs : List SiT} (hn : vs.length ≤ 100000) {v : SiT} (h : Ok P (k (sitesPV (vs ++ [v])))) : Ok P (bd (PV.cat 4 32 true (sitesPV vs) (.lst [v.pv])) k) := by
  refine ok_cat (by simp; omega) (site_el (l := [v])) ?_
  rw [show vs.map SiT.pv ++ [v.pv] = (vs ++ [v]).map SiT.pv by rw [List.map_append]; rfl]
  exact h
theorem ok_site_one {k : PV → Option R} {v : SiT} (h : Ok P (k (.lst [v.pv]))) : Ok P (bd (PV.cat 4 32 true (.lst []) (.lst [v.pv])) k) := ok_cat0 (by simp) (site_el (l := [v])) h
theorem ok_lay {k : R → Option R} {p : List SiT} (hp : p.length ≤ 10000) {s : SiT} (hs : plP m s.f s.pc) (h : ∀ q : List SiT, q.length ≤ p.length + 1 → Ok P (k [sitesPV q])) : Ok P (bd (spec_l07Lay m.pv (sitesPV p) s.pv) k) := by
  refine ok_call (Q := fun r => ∃ q : List SiT, r = [sitesPV q] ∧ q.length ≤ p.length + 1) ?_ (fun r ⟨q, hr, hq⟩ => by rw [hr]; exact h q hq)
  rw [spec_l07Lay_eq]
  refine ok_whole rfl (ok_cell rfl (ok_cell rfl (ok_whole rfl (ok_cell rfl (ok_cell rfl (ok_cell rfl (ok_cell rfl ?_)))))))
  refine ok_for (n := p.length) (σ := Bool × List SiT) (F := fun i z => spec_l07Lay_c4 (sitesPV p) (.bool z.1) (.int .i64 i) (.lst (m.texts.map PV.str)) (.lst (m.funcs.map FnT.pv)) (.int .i64 s.f) (.int .i64 s.pc) (.int .i64 s.seen) (.int .i64 s.tgt) (sitesPV z.2)) (fun i z => z.2.length ≤ i + (if z.1 then 1 else 0)) ?_ ?_ 0 (false, []) (by omega) (by simp)
  · rintro ⟨d, acc⟩ hz
    show Ok _ (spec_l07Lay_c4 _ _ _ _ _ _ _ _ _ _)
    rw [spec_l07Lay_c4_eq]
    have hz : acc.length ≤ p.length + (if d then 1 else 0) := hz
    refine ok_len_map (ok_lss (ok_ite (fun h => by omega) (fun _ => ok_not (ok_ite_b (fun hd => ?_) (fun hd => ok_some ⟨acc, rfl, ?_⟩)))))
    · have : d = false := by simpa using hd
      rw [this, if_neg (by simp)] at hz
      exact ok_site_cat (vs := acc) (v := s) (by omega) (ok_some ⟨acc ++ [s], rfl, by simp; omega⟩)
    · cases d <;> simp at hz <;> omega
  · rintro i ⟨d, acc⟩ hi hz ih
    show Ok _ (spec_l07Lay_c4 _ _ _ _ _ _ _ _ _ _)
    rw [spec_l07Lay_c4_eq]
    have hz : acc.length ≤ i + (if d then 1 else 0) := hz
    have hz2 : acc.length ≤ i + 1 := by cases d <;> simp at hz <;> omega
    have c7 : Ok (fun r => ∃ q : List SiT, r = [sitesPV q] ∧ q.length ≤ p.length + 1) (spec_l07Lay_c7 (sitesPV p) (.int .i64 i) (.lst (m.texts.map PV.str)) (.lst (m.funcs.map FnT.pv)) (.int .i64 s.f) (.int .i64 s.pc) (.int .i64 s.seen) (.int .i64 s.tgt) (sitesPV acc)) := by
      rw [spec_l07Lay_c7_eq]
      refine ok_fn_at hs.1 (fun lc => ok_cell rfl (ok_code_at hs.2 (ok_cell rfl (ok_at_map hi (fun _ => rfl) (ok_both (b := s) (fun c => ok_site_one (ok_site_cat (by omega) (ok_add (by omega) ?_))))))))
      exact ih (true, acc ++ [c]) (by simp; omega)
    have c9 : Ok (fun r => ∃ q : List SiT, r = [sitesPV q] ∧ q.length ≤ p.length + 1) (spec_l07Lay_c9 (sitesPV p) (.bool d) (.int .i64 i) (.lst (m.texts.map PV.str)) (.lst (m.funcs.map FnT.pv)) (.int .i64 s.f) (.int .i64 s.pc) (.int .i64 s.seen) (.int .i64 s.tgt) (sitesPV acc)) := by
      rw [spec_l07Lay_c9_eq]
      have go : Ok (fun r => ∃ q : List SiT, r = [sitesPV q] ∧ q.length ≤ p.length + 1) (spec_l07Lay_c4 (sitesPV p) (.bool d) (.int .i64 ((i : Int) + 1)) (.lst (m.texts.map PV.str)) (.lst (m.funcs.map FnT.pv)) (.int .i64 s.f) (.int .i64 s.pc) (.int .i64 s.seen) (.int .i64 s.tgt) (sitesPV (acc ++ [p[i]]))) :=
        ih (d, acc ++ [p[i]]) (by simp; omega)
      refine ok_not (ok_ite_b (fun hd => ?_) (fun _ => ok_at_map hi (fun _ => rfl) (ok_site_one (ok_site_cat (by omega) (ok_add (by omega) go)))))
      have hd : d = false := by simpa using hd
      refine ok_at_map hi (fun _ => rfl) (ok_lessS (a := s) (ok_ite (fun _ => ?_) (fun _ => ok_at_map hi (fun _ => rfl) (ok_site_one (ok_site_cat (by omega) (ok_add (by omega) go))))))
      rw [spec_l07Lay_c10_eq]
      rw [hd, if_neg (by simp)] at hz
      refine ok_site_cat (v := s) (by omega) (ok_at_map hi (fun _ => rfl) (ok_site_one (ok_site_cat (by simp; omega) (ok_add (by omega) ?_))))
      exact ih (true, acc ++ [s] ++ [p[i]]) (by simp; omega)
    refine ok_len_map (ok_lss (ok_ite (fun _ => ?_) (fun h => by omega)))
    exact ok_at_map hi (fun _ => rfl) (ok_cell rfl (ok_eql (ok_ite (fun _ => ok_at_map hi (fun _ => rfl) (ok_cell rfl (ok_eql (ok_ite (fun _ => c7) (fun _ => c9))))) (fun _ => c9))))
theorem ok_see {k : R → Option R} {v : VmT} (g : GoodM m) (h : VmI m v) (hk : ∀ (s : SiT) (b : Bool), (b = true → plP m s.f s.pc) → Ok P (k [.tup [s.pv, .bool b]])) : Ok P (bd (spec_l07See m.pv v.pv) k) := by
  refine ok_call (Q := fun r => ∃ (s : SiT) (b : Bool), r = [.tup [s.pv, .bool b]] ∧ (b = true → plP m s.f s.pc)) ?_ (fun r ⟨s, b, hr, hb⟩ => by rw [hr]; exact hk s b hb)
  rw [spec_l07See_eq]
  have no : Ok (fun r => ∃ (s : SiT) (b : Bool), r = [.tup [s.pv, .bool b]] ∧ (b = true → plP m s.f s.pc)) (some [.tup [.agg [.int .i64 0, .int .i64 0, .int .i64 0, .int .i64 0], .bool false]]) := ok_some ⟨⟨0, 0, 0, 0⟩, false, rfl, fun h => by cases h⟩
  refine ok_whole rfl (ok_cell rfl (ok_cell rfl (ok_whole rfl (ok_cell rfl (ok_cell rfl (ok_cell rfl (ok_cell rfl (ok_cell rfl (ok_cell rfl (ok_cell rfl (ok_cell rfl (ok_cell rfl (ok_cell rfl ?_)))))))))))))
  refine ok_neq (ok_ite_not (fun _ => no) (fun h0 => ?_))
  have h0 : v.st = 0 := h0
  obtain ⟨fs0, f, G⟩ := h.goes g h0
  obtain ⟨t, low⟩ := h.top fs0 f G.fr
  obtain ⟨a1, a2, a3, a4, a5⟩ := g.at_ t.fi t.pc t.d
  have hh := t.h
  have hl : fs0.length ≤ 23 := by
    have := h.nfr
    rw [G.fr] at this
    simp at this ⊢
    omega
  have yes : ∀ s : SiT, s.f = f.f → s.pc = f.pc → Ok (fun r => ∃ (s : SiT) (b : Bool), r = [.tup [s.pv, .bool b]] ∧ (b = true → plP m s.f s.pc)) (some [.tup [s.pv, .bool true]]) := fun s h1 h2 => ok_some ⟨s, true, rfl, fun _ => by rw [h1, h2]; exact ⟨t.fi, t.pc⟩⟩
  have efr : v.fr.map FrT.pv = fs0.map FrT.pv ++ [f.pv] := by rw [G.fr, List.map_append]; rfl
  rw [efr]
  refine ok_len (ok_sub (by simp; omega) (ok_last_at (by simp) rfl (ok_whole rfl (ok_cell rfl (ok_cell rfl (ok_cell rfl (ok_cell rfl ?_)))))))
  refine ok_fn_at t.fi (fun lc => ok_cell rfl (ok_code_at t.pc (ok_whole rfl (ok_cell rfl (ok_cell rfl (ok_one rfl (ok_one rfl (ok_len_map (ok_isW (ok_not (ok_ite_not (fun _ => no) (fun hw => ?_))))))))))))
  unfold isW at hw
  generalize insN m f.f f.pc = x at *
  have hsl : f.stk.length ≤ 16 := by omega
  have stk : ∀ {k : PV → Option R} {i : Int} {Q : R → Prop}, 0 ≤ i → i < f.stk.length → (∀ y : VlT, Ok Q (k y.pv)) → Ok Q (bd (PV.at_ 3 true (vals f.stk) (.int .i64 i)) k) := by
    intro k i Q h1 h2 hk
    obtain ⟨j, rfl⟩ := Int.eq_ofNat_of_zero_le h1
    exact ok_at_map (by omega) (fun _ => rfl) (hk _)
  refine ok_eql (ok_ite (fun h23 => ?_) (fun h23 => ?_))
  · have hxa := (insOk_inv a1).2.2.2.2.2.1 h23
    have hu : uses m.funcs x = (x.a + 1, 1) := by
      have : 0 ≤ x.a ∧ x.a ≤ 6 := hxa
      simp [uses, h23, this]
    rw [hu] at a2
    simp only at a2
    refine ok_sub (by omega) (ok_sub (by omega) (stk (by omega) (by omega) (fun y => ok_whole rfl (ok_cell rfl (ok_cell rfl (ok_cell rfl (ok_eql (ok_ite (fun _ => ok_one rfl ?_) (fun _ => ?_)))))))))
    · exact yes ⟨f.f, f.pc, 1, y.n⟩ rfl rfl
    · exact yes ⟨f.f, f.pc, 2, 0⟩ rfl rfl
  · have hu : (uses m.funcs x).1 = 2 := by
      have : x.o = 11 ∨ x.o = 12 ∨ x.o = 13 ∨ x.o = 14 := by omega
      rcases this with h | h | h | h <;> simp [uses, h]
    rw [hu] at a2
    have f2 := yes ⟨f.f, f.pc, 2, 0⟩ rfl rfl
    refine ok_sub (by omega) (stk (by omega) (by omega) (fun y => ok_cell rfl (ok_eql (ok_ite (fun _ => ok_sub (by omega) (stk (by omega) (by omega) (fun w => ok_cell rfl (ok_eql (ok_ite (fun _ => ?_) (fun _ => f2)))))) (fun _ => f2)))))
    exact yes ⟨f.f, f.pc, 1, 0⟩ rfl rfl
end
section
variable {P : R → Prop} {m : MdT}
theorem ok_fn_at2 {kp : PV → Option R} {i : Int} (h0 : 0 ≤ i ∧ i < m.funcs.length) (h : Ok P (kp (.agg [.int .i64 (parOf m.funcs i), .int .i64 (lcOf m.funcs i), .lst ((codeOf m.funcs i).map InsT.pv)]))) : Ok P (bd (PV.at_ 3 true (.lst (m.funcs.map FnT.pv)) (.int .i64 i)) kp) := by
  obtain ⟨j, rfl⟩ := Int.eq_ofNat_of_zero_le h0.1
  have hj : j < m.funcs.length := by omega
  refine ok_at_map hj (fun _ => rfl) ?_
  have e1 : codeOf m.funcs j = m.funcs[j].code := by simp [codeOf, List.getElem?_eq_getElem hj]
  have e2 : parOf m.funcs j = m.funcs[j].p := by simp [parOf, List.getElem?_eq_getElem hj]
  have e3 : lcOf m.funcs j = m.funcs[j].lc := by simp [lcOf, List.getElem?_eq_getElem hj]
  rw [e1, e2, e3] at h
  exact h
def vmZ : VmT := ⟨[], [], 0, [], 0, 0, vNil, 0⟩
theorem ok_start {k : R → Option R} (hs : m.sized) {args : List VlT} (ha : ∀ v ∈ args, v.s.size ≤ 1000) (hn : args.length ≤ 1000)
    (h1 : ∀ v : VmT, GoodM m → VmI m v → Ok P (k [.tup [v.pv, .bool true]])) (h2 : Ok P (k [.tup [vmZ.pv, .bool false]])) : Ok P (bd (spec_Start m.pv (vals args)) k) := by
  refine ok_call (Q := fun r => (∃ v : VmT, GoodM m ∧ VmI m v ∧ r = [.tup [v.pv, .bool true]]) ∨ r = [.tup [vmZ.pv, .bool false]]) ?_ (fun r hr => by
    rcases hr with ⟨v, g, hv, rfl⟩ | rfl
    · exact h1 v g hv
    · exact h2)
  rw [spec_Start_eq]
  have no : Ok (fun r => (∃ v : VmT, GoodM m ∧ VmI m v ∧ r = [.tup [v.pv, .bool true]]) ∨ r = [.tup [vmZ.pv, .bool false]]) (some [(.tup [(.agg [(.lst []), (.lst []), (.int .i64 0), (.lst []), (.int .i64 0), (.int .i64 0), (.int .i64 0), (.int .i64 0), (.str (bs [])), (.int .i64 0)]), (.bool false)])]) := ok_some (.inr rfl)
  refine ok_whole rfl (ok_cell rfl (ok_cell rfl (ok_good hs (ok_not (ok_ite_b (fun _ => no) (fun hg => ?_))))))
  have g : GoodM m := goodB_good hs (by simpa using hg)
  obtain ⟨f1, f2, ff⟩ := g.fit
  have h0 : (0 : Int) ≤ 0 ∧ (0 : Int) < m.funcs.length := by omega
  obtain ⟨i0, hi0, he, hc, F, p1, p2, p3, p4, hlc, hpar, hins⟩ := g.code h0
  refine ok_len_map (ok_fn_at2 h0 (ok_cell rfl (ok_neq (ok_ite_not (fun _ => no) (fun hpn => ?_)))))
  have hpn : (args.length : Int) = parOf m.funcs 0 := hpn
  refine ok_scan (n := args.length) (F := fun i => spec_Start_c4 (vals args) (.int .i64 i) (.lst (m.texts.map PV.str)) (.lst (m.funcs.map FnT.pv)) (.int .i64 0) (.int .i64 0) (.int .i64 0) (.int .i64 0) (.int .i64 0) (.str (bs [])) (.int .i64 0) (.lst []) (.lst []) (.lst [])) (fun i => ∀ v ∈ args.take i, vOk m 0 v) ?_ ?_ (by simp)
  · intro hI
    rw [List.take_length] at hI
    rw [spec_Start_c4_eq]
    obtain ⟨n, hn0⟩ := Int.eq_ofNat_of_zero_le (show 0 ≤ lcOf m.funcs 0 by omega)
    refine ok_len_map (ok_lss (ok_ite (fun h => by omega) (fun _ => ok_fn_at2 h0 (ok_cell rfl ?_))))
    rw [hn0]
    refine ok_zeros (by omega) (by omega) (ok_leq (ok_ite (fun _ => ok_zeros (by omega) (by omega) ?_) (fun h => absurd (Int.le_refl _) h)))
    rw [show List.replicate n (PV.agg [.int .i64 0, .int .i64 0, .str (bs [])]) = (List.replicate n vNil).map VlT.pv by rw [List.map_replicate]; rfl]
    refine ok_for (n := args.length) (σ := List VlT) (F := fun i L => spec_Start_c10 (vals args) (.int .i64 i) (.int .i64 0) (.int .i64 0) (.int .i64 0) (.int .i64 0) (.int .i64 0) (.str (bs [])) (.int .i64 0) (.int .i64 0) (.int .i64 0) (.lst []) (.lst []) (.lst []) (vals L) (.lst [])) (fun i L => L.length = n ∧ ∀ v ∈ L, vOk m 0 v) ?_ ?_ 0 (List.replicate n vNil) (by omega) ⟨by simp, fun v hv => by rw [List.eq_of_mem_replicate hv]; exact vNil_ok⟩
    · rintro L ⟨hL1, hL2⟩
      show Ok _ (spec_Start_c10 _ _ _ _ _ _ _ _ _ _ _ _ _ _ _ _)
      rw [spec_Start_c10_eq]
      refine ok_len_map (ok_lss (ok_ite (fun h => by omega) (fun _ => ok_some (.inl ⟨⟨[⟨0, 0, L, []⟩], [], 0, [], 0, 0, vNil, 0⟩, g, ?_, rfl⟩))))
      have hd : dAt m 0 0 = 0 := by rw [dAt, hc, Int.toNat_zero, depths_zero F]; rfl
      refine ⟨⟨by simp, by simp, by simp⟩, by simp, by simp, by simp, fun fs0 f hf => ?_⟩
      obtain ⟨rfl, rfl⟩ := snoc_inj (a := []) (show [] ++ [(⟨0, 0, L, []⟩ : FrT)] = fs0 ++ [f] from hf)
      refine ⟨⟨⟨h0, ?_, ?_, ?_, hL2, by simp⟩, ?_⟩, by simp⟩
      · show (0 : Int) ≤ 0 ∧ (0 : Int) < ((codeOf m.funcs 0).length : Int)
        have := F.n1
        rw [hc]; omega
      · show (L.length : Int) = lcOf m.funcs 0
        omega
      · show 0 ≤ dAt m 0 0
        omega
      · show ((0 : Nat) : Int) = dAt m 0 0
        omega
    · rintro i L hi ⟨hL1, hL2⟩ ih
      show Ok _ (spec_Start_c10 _ _ _ _ _ _ _ _ _ _ _ _ _ _ _ _)
      rw [spec_Start_c10_eq]
      refine ok_len_map (ok_lss (ok_ite (fun _ => ?_) (fun h => by omega)))
      refine ok_at_map hi (fun _ => rfl) (ok_inb (by omega) (by simp; omega) (ok_setAt (by omega) (by simp; omega) rfl (ok_add (by omega) ?_)))
      rw [Int.toNat_natCast, ← List.map_set]
      refine ih (L.set i args[i]) ⟨by simp [hL1], fun v hv => ?_⟩
      rcases List.mem_or_eq_of_mem_set hv with hv | rfl
      · exact hL2 v hv
      · exact hI _ (List.getElem_mem hi)
  · intro i hi hI ih
    rw [spec_Start_c4_eq]
    have := ha _ (List.getElem_mem hi)
    have hfl := hs.2.1
    refine ok_len_map (ok_lss (ok_ite (fun _ => ok_at_map hi (fun _ => rfl) (ok_call (spec_valOk (v := args[i]) hfl (by omega)) (fun r hr => ?_))) (fun h => by omega)))
    subst hr
    refine ok_not (ok_ite_b (fun _ => no) (fun hv => ok_add (by omega) (ih (fun v hv' => ?_))))
    rw [List.take_add_one, List.getElem?_eq_getElem hi] at hv'
    rcases List.mem_append.1 hv' with hv' | hv'
    · exact hI v hv'
    · simp only [Option.toList_some, List.mem_singleton] at hv'
      rw [hv']
      simpa using hv
theorem ok_observe {k : R → Option R} (g : GoodM m) {v : VmT} (h : VmI m v) {p : List SiT} (hp : p.length ≤ 10000) (hk : ∀ q : List SiT, q.length ≤ p.length + 1 → Ok P (k [sitesPV q])) : Ok P (bd (spec_l07Observe m.pv (sitesPV p) v.pv) k) := by
  refine ok_call (Q := fun r => ∃ q : List SiT, r = [sitesPV q] ∧ q.length ≤ p.length + 1) ?_ (fun r ⟨q, hr, hq⟩ => by rw [hr]; exact hk q hq)
  rw [spec_l07Observe_eq]
  refine ok_whole rfl (ok_cell rfl (ok_cell rfl (ok_whole rfl (ok_cell rfl (ok_cell rfl (ok_cell rfl (ok_cell rfl (ok_cell rfl (ok_cell rfl (ok_cell rfl (ok_cell rfl (ok_cell rfl (ok_cell rfl ?_)))))))))))))
  refine ok_see g h (fun s b hb => ok_comp rfl (ok_comp rfl (ok_whole rfl (ok_cell rfl (ok_cell rfl (ok_cell rfl (ok_cell rfl (ok_not ?_))))))))
  have copy : Ok (fun r => ∃ q : List SiT, r = [sitesPV q] ∧ q.length ≤ p.length + 1) (bd (PV.cat 4 32 true (.lst []) (sitesPV p)) fun x => some [x]) := ok_cat0 (by simp; omega) site_el (ok_some ⟨p, rfl, by omega⟩)
  refine ok_ite_b (fun _ => copy) (fun hb2 => ?_)
  have hb2 : b = true := by simpa using hb2
  have lay : Ok (fun r => ∃ q : List SiT, r = [sitesPV q] ∧ q.length ≤ p.length + 1) (bd (spec_l07Lay m.pv (sitesPV p) s.pv) fun r => PV.guardOwn (.own 4 32 true []) (gd r 0) (some [gd r 0])) :=
    ok_lay hp (hb hb2) (fun q hq => ok_own (flat_sites q) (ok_some ⟨q, rfl, hq⟩))
  refine ok_siteAt (by omega) (ok_cell rfl (ok_eql (ok_ite (fun _ => ok_len_map (ok_eql (ok_ite (fun _ => copy) (fun _ => lay)))) (fun _ => lay))))
theorem ok_profileOf {k : R → Option R} (hs : m.sized) {args : List VlT} (ha : ∀ v ∈ args, v.s.size ≤ 1000) (hn : args.length ≤ 1000) {fuel : Int} (hf : 0 ≤ fuel ∧ fuel ≤ 5000) (hk : ∀ q : List SiT, q.length ≤ 5000 → Ok P (k [sitesPV q])) : Ok P (bd (spec_ProfileOf m.pv (vals args) (.int .i64 fuel)) k) := by
  refine ok_call (Q := fun r => ∃ q : List SiT, r = [sitesPV q] ∧ q.length ≤ 5000) ?_ (fun r ⟨q, hr, hq⟩ => by rw [hr]; exact hk q hq)
  rw [spec_ProfileOf_eq]
  refine ok_whole rfl (ok_cell rfl (ok_cell rfl (ok_start hs ha hn (fun v g hv => ?_) ?_)))
  · refine ok_comp rfl (ok_comp rfl (ok_whole rfl (ok_cell rfl (ok_cell rfl (ok_cell rfl (ok_cell rfl (ok_cell rfl (ok_cell rfl (ok_cell rfl (ok_cell rfl (ok_cell rfl (ok_cell rfl (ok_not (ok_ite_f (ok_bet (ok_not (ok_ite_b (fun _ => ok_some ⟨[], rfl, by simp⟩) (fun _ => ?_))))))))))))))))))
    obtain ⟨n, rfl⟩ := Int.eq_ofNat_of_zero_le hf.1
    refine ok_for (n := n) (σ := VmT × List SiT) (F := fun i z => spec_ProfileOf_c6 (.int .i64 n) (.int .i64 i) (.lst (m.texts.map PV.str)) (.lst (m.funcs.map FnT.pv)) (.lst (z.1.fr.map FrT.pv)) (.lst (z.1.hp.map recPV)) (.int .i64 z.1.made) (.lst (z.1.out.map PV.str)) (.int .i64 z.1.st) (.int .i64 z.1.tr) (.int .i64 z.1.val.k) (.int .i64 z.1.val.n) (.str z.1.val.s) (.int .i64 z.1.steps) (sitesPV z.2)) (fun i z => VmI m z.1 ∧ z.2.length ≤ i) ?_ ?_ 0 (v, []) (by omega) ⟨hv, Nat.le_refl _⟩
    · rintro ⟨v, p⟩ ⟨hv, hp⟩
      show Ok _ (spec_ProfileOf_c6 _ _ _ _ _ _ _ _ _ _ _ _ _ _ _)
      have hp : p.length ≤ n := hp
      rw [spec_ProfileOf_c6_eq]
      exact ok_lss (ok_ite (fun h => by omega) (fun _ => ok_some ⟨p, rfl, by omega⟩))
    · rintro i ⟨v, p⟩ hi ⟨hv, hp⟩ ih
      show Ok _ (spec_ProfileOf_c6 _ _ _ _ _ _ _ _ _ _ _ _ _ _ _)
      have hp : p.length ≤ i := hp
      have hv : VmI m v := hv
      rw [spec_ProfileOf_c6_eq]
      refine ok_lss (ok_ite (fun _ => ok_eql (ok_ite (fun _ => ?_) (fun _ => ok_some ⟨p, rfl, by omega⟩))) (fun h => by omega))
      refine ok_observe g hv (by omega) (fun q hq => ok_own (flat_sites q) ?_)
      refine ok_call (spec_step (hv.sz g) hv.steps (fun h0 _ => hv.goes g h0)) (fun r hr => ?_)
      subst hr
      refine ok_whole rfl (ok_cell rfl (ok_cell rfl (ok_cell rfl (ok_cell rfl (ok_cell rfl (ok_cell rfl (ok_cell rfl (ok_cell rfl (ok_cell rfl (ok_cell rfl (ok_add (by omega) ?_)))))))))))
      exact ih (stepT m v, q) ⟨hv.step g, by show q.length ≤ i + 1; omega⟩
  · refine ok_comp rfl (ok_comp rfl (ok_whole rfl (ok_cell rfl (ok_cell rfl (ok_cell rfl (ok_cell rfl (ok_cell rfl (ok_cell rfl (ok_cell rfl (ok_cell rfl (ok_cell rfl (ok_cell rfl (ok_not (ok_ite_t (ok_some ⟨[], rfl, by simp⟩)))))))))))))))
end
def ProfP (l : List Int) (A : Int) (r : R) : Prop := ∃ a s : Int, ∃ p : List SiT, r = [sitesPV p, bytesOf l, .int .i64 a, .int .i64 s] ∧ 0 ≤ a ∧ a ≤ A ∧ 0 ≤ s ∧ s < 65521 ∧ p.length ≤ 10000
section
variable {l : List Int} (hl : Bts l) {m : MdT} (hs : m.sized) (hm : 1 ≤ m.funcs.length)
include hl hs hm
omit hs hm in
theorem prof_end {n : Int} (hn : 1 ≤ n ∧ n ≤ 1000) {a s : Int} (h0 : 0 ≤ a ∧ a ≤ 750000000 ∧ 0 ≤ s ∧ s < 65521) {p : List SiT} (hp : p.length ≤ 9000) : Ok (ProfP l (a + 10)) (spec_l07DrawProfile_c19 (.int .i64 n) (bytesOf l) (.int .i64 a) (.int .i64 s) (sitesPV p)) := by
  rw [spec_l07DrawProfile_c19_eq]
  refine ok_once hl (by omega) (by omega) (fun b a1 s1 h1 => ok_ite_b (fun _ => ?_) (fun _ => ok_some ⟨a1, s1, p, rfl, by omega, by omega, by omega, by omega, by omega⟩))
  refine ok_pick hl (by omega) (by omega) (fun x1 a2 s2 h2 => ok_sub (by omega) (ok_pick hl (by omega) (by omega) (fun x2 a3 s3 h3 => ok_sub (by omega) (ok_pick hl (by omega) (by omega) (fun x3 a4 s4 h4 => ok_sub (by omega) (ok_pick hl (by omega) (by omega) (fun x4 a5 s5 h5 => ok_sub (by omega) (ok_one rfl (ok_one rfl (ok_one rfl (ok_one rfl ?_)))))))))))
  exact ok_site_cat (v := ⟨x1 - 1, x2 - 1, x3 - 1, x4 - 1⟩) (by omega) (ok_some ⟨a5, s5, p ++ [⟨x1 - 1, x2 - 1, x3 - 1, x4 - 1⟩], rfl, by omega, by omega, by omega, by omega, by simp; omega⟩)
theorem prof_c4 {n : Int} (hn : 1 ≤ n ∧ n ≤ 1000) {a s : Int} (h0 : 0 ≤ a ∧ a ≤ 700000000 ∧ 0 ≤ s ∧ s < 65521) {p : List SiT} (hp : p.length ≤ 5000) : Ok (ProfP l (a + 10000)) (spec_l07DrawProfile_c4 (.int .i64 n) (bytesOf l) (.int .i64 a) (.int .i64 s) (.lst (m.texts.map PV.str)) (.lst (m.funcs.map FnT.pv)) (sitesPV p)) := by
  rw [spec_l07DrawProfile_c4_eq]
  have fin : ∀ {a1 s1 : Int} {q : List SiT}, (a ≤ a1 ∧ a1 ≤ a + 9000 ∧ 0 ≤ s1 ∧ s1 < 65521) → q.length ≤ 9000 → Ok (ProfP l (a + 10000)) (spec_l07DrawProfile_c19 (.int .i64 n) (bytesOf l) (.int .i64 a1) (.int .i64 s1) (sitesPV q)) := fun h hq =>
    (prof_end hl hn (by omega) hq).mono (fun r ⟨a', s', v', hr, g1, g2, g⟩ => ⟨a', s', v', hr, g1, by omega, g⟩)
  refine ok_good hs (ok_ite_b (fun hg => ?_) (fun _ => fin (by omega) (by omega)))
  have g : GoodM m := goodB_good hs hg
  obtain ⟨f1, f2, ff⟩ := g.fit
  refine ok_for (n := m.funcs.length) (σ := Int × Int × List SiT) (F := fun i z => spec_l07DrawProfile_c6 (.int .i64 n) (.int .i64 i) (bytesOf l) (.int .i64 z.1) (.int .i64 z.2.1) (.lst (m.texts.map PV.str)) (.lst (m.funcs.map FnT.pv)) (sitesPV z.2.2)) (fun i z => (a ≤ z.1 ∧ z.1 ≤ a + 500 * i ∧ 0 ≤ z.2.1 ∧ z.2.1 < 65521) ∧ z.2.2.length ≤ 5000 + 120 * i) ?_ ?_ 0 (a, s, p) (by omega) ⟨by dsimp only; omega, by dsimp only; omega⟩
  · rintro ⟨a1, s1, q⟩ ⟨hz, hq⟩
    show Ok _ (spec_l07DrawProfile_c6 _ _ _ _ _ _ _ _)
    have hz : a ≤ a1 ∧ a1 ≤ a + 500 * m.funcs.length ∧ 0 ≤ s1 ∧ s1 < 65521 := hz
    have hq : q.length ≤ 5000 + 120 * m.funcs.length := hq
    rw [spec_l07DrawProfile_c6_eq]
    exact ok_len_map (ok_lss (ok_ite (fun h => by omega) (fun _ => fin (by omega) (by omega))))
  · rintro i ⟨a1, s1, q⟩ hi ⟨hz, hq⟩ ih
    show Ok _ (spec_l07DrawProfile_c6 _ _ _ _ _ _ _ _)
    have hz : a ≤ a1 ∧ a1 ≤ a + 500 * i ∧ 0 ≤ s1 ∧ s1 < 65521 := hz
    have hq : q.length ≤ 5000 + 120 * i := hq
    have hii : (0 : Int) ≤ i ∧ (i : Int) < m.funcs.length := by omega
    obtain ⟨i0, hi0, he, hc, F, p1, p2, p3, p4, hlc, hpar, hins⟩ := g.code hii
    have hcl : (codeOf m.funcs i).length ≤ 120 := by rw [hc]; exact F.n2
    rw [spec_l07DrawProfile_c6_eq]
    refine ok_len_map (ok_lss (ok_ite (fun _ => ?_) (fun h => by omega)))
    refine ok_for (n := (codeOf m.funcs i).length) (σ := Int × Int × List SiT) (F := fun j z => spec_l07DrawProfile_c9 (.int .i64 n) (.int .i64 i) (.int .i64 j) (bytesOf l) (.int .i64 z.1) (.int .i64 z.2.1) (.lst (m.texts.map PV.str)) (.lst (m.funcs.map FnT.pv)) (sitesPV z.2.2)) (fun j z => (a ≤ z.1 ∧ z.1 ≤ a + 500 * i + 4 * j ∧ 0 ≤ z.2.1 ∧ z.2.1 < 65521) ∧ z.2.2.length ≤ 5000 + 120 * i + j) ?_ ?_ 0 (a1, s1, q) (by omega) ⟨by dsimp only; omega, by dsimp only; omega⟩
    · rintro ⟨a2, s2, q2⟩ ⟨hz2, hq2⟩
      show Ok _ (spec_l07DrawProfile_c9 _ _ _ _ _ _ _ _ _)
      have hz2 : a ≤ a2 ∧ a2 ≤ a + 500 * i + 4 * (codeOf m.funcs i).length ∧ 0 ≤ s2 ∧ s2 < 65521 := hz2
      have hq2 : q2.length ≤ 5000 + 120 * i + (codeOf m.funcs i).length := hq2
      rw [spec_l07DrawProfile_c9_eq]
      refine ok_fn_at hii (fun lc => ok_cell rfl (ok_len_map (ok_lss (ok_ite (fun h => by omega) (fun _ => ok_add (by omega) ?_)))))
      exact ih (a2, s2, q2) ⟨by show a ≤ a2 ∧ a2 ≤ a + 500 * ((i + 1 : Nat) : Int) ∧ 0 ≤ s2 ∧ s2 < 65521; omega, by show q2.length ≤ 5000 + 120 * (i + 1); omega⟩
    · rintro j ⟨a2, s2, q2⟩ hj ⟨hz2, hq2⟩ ih2
      show Ok _ (spec_l07DrawProfile_c9 _ _ _ _ _ _ _ _ _)
      have hz2 : a ≤ a2 ∧ a2 ≤ a + 500 * i + 4 * j ∧ 0 ≤ s2 ∧ s2 < 65521 := hz2
      have hq2 : q2.length ≤ 5000 + 120 * i + j := hq2
      rw [spec_l07DrawProfile_c9_eq]
      have next : ∀ {a3 s3 : Int} {q3 : List SiT}, (a2 ≤ a3 ∧ a3 ≤ a2 + 4 ∧ 0 ≤ s3 ∧ s3 < 65521) → q3.length ≤ q2.length + 1 → Ok (ProfP l (a + 10000)) (spec_l07DrawProfile_c9 (.int .i64 n) (.int .i64 i) (.int .i64 ((j : Int) + 1)) (bytesOf l) (.int .i64 a3) (.int .i64 s3) (.lst (m.texts.map PV.str)) (.lst (m.funcs.map FnT.pv)) (sitesPV q3)) := fun {a3 s3 q3} h hq3 =>
        ih2 (a3, s3, q3) ⟨by show a ≤ a3 ∧ a3 ≤ a + 500 * i + 4 * ((j + 1 : Nat) : Int) ∧ 0 ≤ s3 ∧ s3 < 65521; omega, by show q3.length ≤ 5000 + 120 * i + (j + 1); omega⟩
      have lay : ∀ {a3 s3 : Int} {x y : Int}, (a2 ≤ a3 ∧ a3 ≤ a2 + 4 ∧ 0 ≤ s3 ∧ s3 < 65521) → Ok (ProfP l (a + 10000)) (bd (spec_l07Lay m.pv (sitesPV q2) (.agg [.int .i64 i, .int .i64 j, .int .i64 x, .int .i64 y])) fun r => PV.guardOwn (.own 4 32 true []) (gd r 0) (bd (PV.bin .add (.int .i64 j) (.int .i64 1)) fun v => spec_l07DrawProfile_c9 (.int .i64 n) (.int .i64 i) v (bytesOf l) (.int .i64 a3) (.int .i64 s3) (.lst (m.texts.map PV.str)) (.lst (m.funcs.map FnT.pv)) (gd r 0))) := fun {a3 s3 x y} h =>
        ok_lay (s := ⟨i, j, x, y⟩) (by omega) ⟨hii, by dsimp only; omega⟩ (fun q3 hq3 => ok_own (flat_sites q3) (ok_add (by omega) (next h hq3)))
      refine ok_fn_at hii (fun lc => ok_cell rfl (ok_len_map (ok_lss (ok_ite (fun _ => ?_) (fun h => by omega)))))
      refine ok_fn_at hii (fun lc => ok_cell rfl (ok_code_at (by omega) (ok_cell rfl (ok_isW (ok_not (ok_ite_not (fun _ => ok_add (by omega) (next (a3 := a2) (s3 := s2) (q3 := q2) (by omega) (by omega))) (fun _ => ?_)))))))
      refine ok_pick hl (by omega) (by omega) (fun x1 a3 s3 h3 => ok_gtr (ok_ite (fun _ => ok_add (by omega) (next (a3 := a3) (s3 := s3) (q3 := q2) (by omega) (by omega))) (fun _ => ok_one rfl (ok_one rfl (ok_eql (ok_ite (fun _ => ?_) (fun _ => ?_)))))))
      · exact ok_len_map (ok_pick hl (by omega) (by omega) (fun x2 a4 s4 h4 => ok_one rfl (lay (by omega))))
      · refine ok_once hl (by omega) (by omega) (fun b a4 s4 h4 => ok_ite_b (fun _ => ?_) (fun _ => lay (by omega)))
        exact ok_pick hl (by omega) (by omega) (fun x3 a5 s5 h5 => ok_add (by omega) (ok_one rfl (lay (by omega))))
theorem drawProf_ok {n : Int} (hn : 1 ≤ n ∧ n ≤ 1000) {a s : Int} (h0 : 0 ≤ a ∧ a ≤ 600000000 ∧ 0 ≤ s ∧ s < 65521) : Ok (ProfP l (a + 20000)) (spec_l07DrawProfile (.lst (m.texts.map PV.str)) (.lst (m.funcs.map FnT.pv)) (.int .i64 n) (bytesOf l) (.int .i64 a) (.int .i64 s)) := by
  rw [spec_l07DrawProfile_eq]
  have fin : ∀ {a1 s1 : Int} {q : List SiT}, (0 ≤ a1 ∧ a1 ≤ a + 5000 ∧ 0 ≤ s1 ∧ s1 < 65521) → q.length ≤ 5000 → Ok (ProfP l (a + 20000)) (spec_l07DrawProfile_c4 (.int .i64 n) (bytesOf l) (.int .i64 a1) (.int .i64 s1) (.lst (m.texts.map PV.str)) (.lst (m.funcs.map FnT.pv)) (sitesPV q)) := fun h hq =>
    (prof_c4 hl hs hm hn (by omega) hq).mono (fun r ⟨a', s', v', hr, g1, g2, g⟩ => ⟨a', s', v', hr, g1, by omega, g⟩)
  refine ok_pick hl (by omega) (by omega) (fun x a1 s1 h1 => ok_gtr (ok_ite (fun _ => ?_) (fun _ => fin (q := []) (by omega) (by simp))))
  refine ok_call (drawArgs_ok hl hs hm (by omega)) ?_
  rintro r ⟨a2, s2, vs, rfl, g1, g2, g3, g4, g5, g6⟩
  refine ok_pick hl (by omega) (by omega) (fun y a3 s3 h3 => ?_)
  exact ok_profileOf hs g5 (by omega) (by omega) (fun q hq => ok_own (flat_sites q) (fin (by omega) hq))
end
theorem drawPlanOf_ok {l : List Int} (hl : Bts l) : Ok (fun r => ∃ m : MdT, ∃ sites : List SiT, ∃ black : List SpT, ∃ lay : Int, ∃ bare : Bool, r = [.tup [m.pv, sitesPV sites, specsPV black, .int .i64 lay, .bool bare]] ∧ m.sized ∧ sites.length ≤ 1000000 ∧ black.length ≤ 1000000) (spec_DrawPlanOf (bytesOf l)) := by
  rw [spec_DrawPlanOf_eq]
  refine ok_open hl (fun s hs0 => ok_call (drawMany_ok hl (by omega)) ?_)
  rintro r ⟨a1, s1, m, rfl, g1, g2, g3, g4, hs, hm1, hm2⟩
  refine ok_whole rfl (ok_cell rfl (ok_cell rfl (ok_call (drawProf_ok hl hs hm1 (by omega) (by omega)) ?_)))
  rintro r ⟨a2, s2, p, rfl, k1, k2, k3, k4, k5⟩
  refine ok_pick hl (by omega) (by omega) (fun x a3 s3 h3 => ?_)
  have fin : ∀ {a4 s4 : Int} {black : List SpT}, (0 ≤ a4 ∧ a4 ≤ 800000000 ∧ 0 ≤ s4 ∧ s4 < 65521) → black.length ≤ 1000 → Ok (fun r => ∃ m : MdT, ∃ sites : List SiT, ∃ black : List SpT, ∃ lay : Int, ∃ bare : Bool, r = [.tup [m.pv, sitesPV sites, specsPV black, .int .i64 lay, .bool bare]] ∧ m.sized ∧ sites.length ≤ 1000000 ∧ black.length ≤ 1000000)
      (bd (spec_l01Cur_pick (.int .i64 6) (bytesOf l) (.int .i64 a4) (.int .i64 s4)) fun r126 =>
      bd (PV.bin .sub (gd r126 0) (.int .i64 1)) fun v127 =>
      bd (spec_l01Cur_once (.int .i64 2) (gd r126 1) (gd r126 2) (gd r126 3)) fun r128 =>
      some [(.tup [m.pv, sitesPV p, specsPV black, v127, (gd r128 0)])]) := fun h hb =>
    ok_pick hl (by omega) (by omega) (fun y a5 s5 h5 => ok_sub (by omega) (ok_once hl (by omega) (by omega) (fun b a6 s6 h6 => ok_some ⟨m, p, _, y - 1, b, rfl, hs, by omega, by omega⟩)))
  have loop : ∀ (j : Nat) (q a4 s4 : Int) (black : List SpT), q ≤ j → (a3 ≤ a4 ∧ a4 + 4 * j ≤ a3 + 100 ∧ 0 ≤ s4 ∧ s4 < 65521) → black.length + j ≤ 100 →
      Ok (fun r => ∃ m : MdT, ∃ sites : List SiT, ∃ black : List SpT, ∃ lay : Int, ∃ bare : Bool, r = [.tup [m.pv, sitesPV sites, specsPV black, .int .i64 lay, .bool bare]] ∧ m.sized ∧ sites.length ≤ 1000000 ∧ black.length ≤ 1000000)
        (spec_DrawPlanOf_c6 (sitesPV p) (.int .i64 q) (bytesOf l) (.int .i64 a4) (.int .i64 s4) (.lst (m.texts.map PV.str)) (.lst (m.funcs.map FnT.pv)) (.lst []) (.lst []) (specsPV black)) := by
    intro j
    induction j with
    | zero =>
      intro q a4 s4 black hq h4 hb
      rw [spec_DrawPlanOf_c6_eq]
      exact ok_gtr (ok_ite (fun h => by omega) (fun _ => fin (by omega) (by omega)))
    | succ j ih =>
      intro q a4 s4 black hq h4 hb
      rw [spec_DrawPlanOf_c6_eq]
      refine ok_gtr (ok_ite (fun _ => ok_len_map (ok_gtr (ok_ite (fun hp => ?_) (fun _ => fin (by omega) (by omega))))) (fun _ => fin (by omega) (by omega)))
      refine ok_len_map (ok_pick hl (by omega) (by omega) (fun i a5 s5 h5 => ?_))
      obtain ⟨i, rfl⟩ := Int.eq_ofNat_of_zero_le h5.1
      refine ok_at_map (by omega) (fun _ => rfl) (ok_whole rfl (ok_cell rfl (ok_cell rfl (ok_cell rfl (ok_cell rfl ?_)))))
      refine ok_pick hl (by omega) (by omega) (fun y a6 s6 h6 => ok_add (by omega) (ok_pick hl (by omega) (by omega) (fun z a7 s7 h7 => ok_one rfl (ok_one rfl (ok_one rfl (ok_one rfl ?_))))))
      refine ok_cat (by simp; omega) (fun x hx => by simp only [List.mem_singleton] at hx; subst hx; rfl) (ok_sub (by omega) ?_)
      have := ih (q - 1) a7 s7 (black ++ [⟨p[i].f, p[i].pc, 1 + y, z⟩]) (by omega) (by omega) (by simp; omega)
      rw [show specsPV (black ++ [⟨p[i].f, p[i].pc, 1 + y, z⟩]) = .lst (black.map SpT.pv ++ [PV.agg [.int .i64 p[i].f, .int .i64 p[i].pc, .int .i64 (1 + y), .int .i64 z]]) by unfold specsPV; rw [List.map_append]; rfl] at this
      exact this
  exact loop 4 x a3 s3 [] (by omega) (by omega) (by simp)
theorem planned_ok {l : List Int} (h0 : ∀ x ∈ l, 0 ≤ x ∧ x ≤ 255) : Ok (fun r => r = [.bool true]) (laws_FnPlanned (bytesOf l)) :=
  law_drawn h0 (fun hl => drawPlanOf_ok hl)
end Go.Proofs.YtjgleeamiclokaaGreat
namespace Go.Proofs.YtjgleeamiclokaaGreat
open Go Go.ChangeShapes Go.WideShapes Go.ChangeAt Go.RowKit
def IsBytes (w : World) (a : Option Addr) (len cap : Nat) (zs : List Int) : Prop :=
  (a = none ∧ len = 0 ∧ cap = 0 ∧ zs = []) ∨
  ∃ x, a = some x ∧ len ≤ cap ∧ cap ≤ maxLen ∧ zs.length = cap ∧ (∀ i, i < zs.length → w.cell? (x.add i) = some (.int .u8 (zs.getD i 0))) ∧ ∀ n ∈ zs, (Lit.int .u8 n).wf = true
theorem cell_inv {w : World} {a : Addr} {v : Value} (h : w.cell? a = some v) : a.spot = none ∧ ∃ c e fz, w.heap[a.block]? = some (.cells c e fz) ∧ c[a.off]? = some v := by
  unfold World.cell? at h
  split at h
  · rename_i c e fz hc
    split at h
    · cases h
    · rename_i hs
      exact ⟨by simpa using hs, c, e, fz, hc, h⟩
  · cases h
theorem IsBytes.rep {w : World} {a : Option Addr} {len cap : Nat} {zs : List Int} (h : IsBytes w a len cap zs) : Rep w (fun r => r < w.heap.size) (bytesOf (zs.take len)) (.slice a len cap) := by
  rcases h with ⟨rfl, rfl, rfl, rfl⟩ | ⟨x, rfl, hl, _, hz, hc, _⟩
  · exact .empty none 0
  · by_cases h0 : len = 0
    · subst h0; exact .empty _ cap
    · have hlen : ((zs.take len).map (PV.int .u8)).length = len := by simp; omega
      obtain ⟨hsp, c, e, fz, hh, hc0⟩ := cell_inv (hc 0 (by omega))
      have hx : x = ⟨x.block, x.off, none⟩ := by
        have : x.spot = none := by
          have h1 : (x.add 0).spot = none := hsp
          unfold Addr.add at h1
          split at h1 <;> simp_all
        cases x; simp_all
      rw [hx] at hc ⊢
      have hb : (x.add 0).block = x.block := by unfold Addr.add; split <;> rfl
      rw [hb] at hh
      have := Rep.lst (w := w) (Z := fun r => r < w.heap.size) ((zs.take len).map (PV.int .u8)) x.block x.off 1 cap false c e fz (fun i _ => .int .u8 (zs.getD i 0)) (Array.getElem?_eq_some_iff.1 hh).1 hh (by omega) (by omega)
        (fun i y hy => by
          rw [List.getElem?_map] at hy
          cases hi : (zs.take len)[i]? with
          | none => rw [hi] at hy; cases hy
          | some q => rw [hi] at hy; cases hy; rfl)
        (fun i j hi hj => by
          have hj0 : j = 0 := by omega
          subst hj0
          have h1 := hc i (by omega)
          rw [add_none] at h1
          obtain ⟨_, c', e', fz', hh', hc'⟩ := cell_inv h1
          have hh' : w.heap[x.block]? = some (.cells c' e' fz') := hh'
          rw [hh] at hh'
          cases hh'
          simpa using hc')
        (fun _ _ _ _ => trivial)
        (fun i j y hy hj => by
          rw [List.getElem?_map] at hy
          cases hi : (zs.take len)[i]? with
          | none => rw [hi] at hy; cases hy
          | some q =>
            rw [hi] at hy
            cases hy
            have hlt : i < (zs.take len).length := (List.getElem?_eq_some_iff.1 hi).1
            have : zs.getD i 0 = q := by
              rw [List.getElem?_take] at hi
              split at hi
              · rw [List.getD, hi]; rfl
              · cases hi
            rw [this]
            exact .int _ _)
      rw [hlen] at this
      exact this
theorem IsBytes.wf {w : World} {a : Option Addr} {len cap : Nat} {zs : List Int} (h : IsBytes w a len cap zs) : ∀ x ∈ zs.take len, (Lit.int .u8 x).wf = true := by
  intro x hx
  rcases h with ⟨_, _, _, rfl⟩ | ⟨_, _, _, _, _, _, hw⟩
  · simp at hx
  · exact hw x (List.mem_of_mem_take hx)
theorem bytes_walk (n : Nat) (args : List PV) (vals : Array Value) (h : pcallO n args = some [.bool true]) {w : World} (hl : args.length = vals.size) (hr : ∀ (i : Nat) x v, args[i]? = some x → vals[i]? = some v → Rep w (fun r => r < w.heap.size) x v) :
    Calls Tryz.prog n vals w fun e w' => e = .returned (.bool true) ∧ Below w.heap.size w w' := by
  refine (pcall_sound hyp h (Z := fun r => r < w.heap.size) (fun _ h => h) hl hr).mono ?_
  rintro e w' ⟨v, rfl, Z', pe, hrep⟩
  have hrep : Rep w' Z' (.bool true) v := hrep
  rw [hrep.bool_inv]
  exact ⟨rfl, pe.os, pe.tape, pe.output, pe.size, pe.old⟩
theorem byt_wf {l : List Int} (h : ∀ x ∈ l, (Lit.int .u8 x).wf = true) : ∀ x ∈ l, 0 ≤ x ∧ x ≤ 255 := by
  intro x hx
  have := h x hx
  have e1 : IntKind.min .u8 = 0 := rfl
  have e2 : IntKind.max .u8 = 255 := rfl
  simp only [Lit.wf, e1, e2, Bool.and_eq_true, decide_eq_true_eq] at this
  exact this
theorem own : ownKnob Tryz.prog.godebug = none := by kernel_rfl
theorem laidOut : laidOutB Tryz.prog = true := by kernel_rfl
end Go.Proofs.YtjgleeamiclokaaGreat
