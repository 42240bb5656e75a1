/-
  Texts of the proof, part 6: a value-level evaluator and its soundness, what the functions compute, laws about it.
  Conditions: none.
-/
import Derived.Test.YtkcilikjhgkakaaE
import Derived.Calls
import Derived.KernelRfl
import Derived.Orders
import Derived.IntWalk
import Derived.Test.YtkcilikjhgkakaaProg
import Derived.Laws.IdiomCopy
import Derived.Laws.Cells
import Derived.Below
import Derived.Laws.StructEq
import Derived.Laws.BytesString
import Derived.Laws.NewFold
import Derived.Laws.Tables
import Derived.Great.FillDense
import Derived.WalkKit
import Derived.ProofKit
import Derived.OpenShut
import Derived.ShutString
import Derived.ChangeOld
set_option linter.all false
namespace Go.Proofs.Ytkcilikjhgkakaa
open Go
attribute [local irreducible] bd PV.ite PV.guardFlat PV.guardOwn PV.whole PV.one PV.cell PV.sub PV.at_ PV.len PV.slen PV.chr PV.beq PV.peq PV.ceq PV.bin PV.neg PV.not PV.conv PV.cut PV.scut PV.cat PV.setAt PV.setCell PV.ncopy PV.copyIn PV.zeros PV.toStr PV.toBytes PV.deref PV.isPtr PV.comp PV.inb PV.off PV.imin PV.imax PV.sel PV.apply

/-- An instruction. -/
def IsIns (x : PV) : Prop := ∃ o a : Int, x = .agg [.int .i64 o, .int .i64 a] ∧ (-9223372036854775808 ≤ o ∧ o ≤ 9223372036854775807) ∧ (-9223372036854775808 ≤ a ∧ a ≤ 9223372036854775807)
def Cd (cs : List PV) : Prop := ∀ x ∈ cs, IsIns x

theorem Cd.el {cs : List PV} (h : Cd cs) : ∀ x ∈ cs, x.isEl 2 true = true := by
  intro x hx
  obtain ⟨o, a, rfl, _⟩ := h x hx
  rfl

theorem Cd.nil : Cd [] := fun x hx => by cases hx
theorem Cd.append {a b : List PV} (h : Cd a) (k : Cd b) : Cd (a ++ b) := fun x hx => (List.mem_append.1 hx).elim (h x) (k x)
theorem Cd.one {o a : Int} (h : -9223372036854775808 ≤ o ∧ o ≤ 9223372036854775807) (k : -9223372036854775808 ≤ a ∧ a ≤ 9223372036854775807) : Cd [.agg [.int .i64 o, .int .i64 a]] := by
  intro x hx
  simp only [List.mem_singleton] at hx
  exact ⟨o, a, hx, h, k⟩

section
variable {P : R → Prop} {k : R → Option R}

theorem ok_put {o x : Int} {F T L M C A S : PV} {cs : List PV} (ho : -9223372036854775808 ≤ o ∧ o ≤ 9223372036854775807) (hx : -9223372036854775808 ≤ x ∧ x ≤ 9223372036854775807) (hc : Cd cs) (hl : (cs.length : Int) ≤ 1000000000)
    (h : ∀ cs' : List PV, Cd cs' → (cs'.length : Int) = cs.length + 1 → Ok P (k [F, T, L, M, C, A, S, .lst cs'])) : Ok P (bd (spec_l01Asm_put (.int .i64 o) (.int .i64 x) F T L M C A S (.lst cs)) k) := by
  refine ok_call (Q := fun r => r = [F, T, L, M, C, A, S, .lst (cs ++ [.agg [.int .i64 o, .int .i64 x]])]) ?_ (fun r hr => ?_)
  · rw [spec_l01Asm_put_eq]
    refine ok_one rfl (ok_one rfl (ok_cat ?_ (Cd.one ho hx).el (ok_some rfl)))
    simp only [List.length_cons, List.length_nil]
    omega
  · rw [hr]
    exact h _ (hc.append (Cd.one ho hx)) (by simp)

theorem ok_num {x : Int} {F T L M C A S D : PV} (hx : 0 ≤ x ∧ x ≤ 1000000000) (h : Ok P (k [.int .i64 (x + 1), F, T, L, M, C, A, S, D])) : Ok P (bd (spec_l01Asm_number (.int .i64 x) F T L M C A S D) k) := by
  refine ok_call (Q := fun r => r = [.int .i64 (x + 1), F, T, L, M, C, A, S, D]) ?_ (fun r hr => by rw [hr]; exact h)
  rw [spec_l01Asm_number_eq]
  refine ok_add (by omega) (ok_some rfl)

end

def isNumB : PV → Bool
  | .int .i64 n => decide (-1000000000 ≤ n) && decide (n ≤ 1000000000)
  | _ => false

theorem isNumB_inv {x : PV} (h : isNumB x = true) : ∃ n : Int, x = .int .i64 n ∧ -1000000000 ≤ n ∧ n ≤ 1000000000 := by
  unfold isNumB at h
  split at h
  · rename_i n
    simp only [Bool.and_eq_true, decide_eq_true_eq] at h
    exact ⟨n, rfl, h⟩
  · cases h

/-- A literal row of small numbers. -/
theorem ok_lits {P : R → Prop} {k : PV → Option R} {xs : List PV} {i : Int} (hx : xs.all isNumB = true) (h0 : 0 ≤ i) (h1 : i < xs.length) (h : ∀ x : Int, -1000000000 ≤ x ∧ x ≤ 1000000000 → Ok P (k (.int .i64 x))) : Ok P (bd (PV.at_ 1 false (.lst xs) (.int .i64 i)) k) := by
  rw [List.all_eq_true] at hx
  refine ok_at h0 h1 (fun x hm => ?_) (fun x hm _ => ?_)
  · obtain ⟨n, rfl, _⟩ := isNumB_inv (hx x hm); rfl
  · obtain ⟨n, rfl, hn⟩ := isNumB_inv (hx x hm); exact h n hn

theorem ok_cut_code {P : R → Prop} {k : PV → Option R} {cs : List PV} {m n : Int} (hc : Cd cs) (h0 : 0 ≤ m) (h1 : m ≤ n) (h2 : n ≤ cs.length) (h : ∀ cs' : List PV, Cd cs' → (cs'.length : Int) = n - m → Ok P (k (.lst cs'))) :
    Ok P (bd (PV.cut 2 true (.lst cs) (.int .i64 m) (.int .i64 n)) k) := by
  refine ok_cut h0 h1 h2 hc.el (h _ (fun x hx => hc x (List.mem_of_mem_take (List.mem_of_mem_drop hx))) ?_)
  rw [List.length_drop, List.length_take]
  omega

theorem ok_setCode {P : R → Prop} {k : PV → Option R} {cs : List PV} {i n : Int} (hc : Cd cs) (h0 : 0 ≤ i) (h1 : i < cs.length) (hn : -9223372036854775808 ≤ n ∧ n ≤ 9223372036854775807) (h : ∀ cs' : List PV, Cd cs' → (cs'.length : Int) = cs.length → Ok P (k (.lst cs'))) :
    Ok P (bd (PV.setCell 2 (.lst cs) (.int .i64 i) 1 (.int .i64 n)) k) := by
  have hlt : i.toNat < cs.length := by omega
  have hx : cs[i.toNat]? = some cs[i.toNat] := List.getElem?_eq_getElem hlt
  obtain ⟨o, a, he, ho, ha⟩ := hc _ (List.mem_of_getElem? hx)
  rw [he] at hx
  refine ok_setCell h0 hx rfl (by omega) rfl (h _ (fun x hm => ?_) (by rw [List.length_set]))
  rcases List.mem_or_eq_of_mem_set hm with h | h
  · exact hc x h
  · exact ⟨o, n, h, ho, hn⟩

/-- A function, as a helper of those that are drawn. -/
def IsHelp (x : PV) : Prop := ∃ p lc : Int, ∃ cs : List PV, x = .agg [.int .i64 p, .int .i64 lc, .lst cs] ∧ (0 ≤ p ∧ p ≤ 2) ∧ (0 ≤ lc ∧ lc ≤ 100) ∧ Cd cs ∧ 1 ≤ (cs.length : Int) ∧ (cs.length : Int) ≤ 100000000

/-- What stays while code is drawn. -/
structure Asm (l : List Int) (fs : List PV) (t lc : Int) : Prop where
  hl : Bts l
  hf : ∀ x ∈ fs, IsHelp x
  hn : fs.length ≤ 1000
  ht : 0 ≤ t ∧ t ≤ 1000
  hlc : 1 ≤ lc ∧ lc ≤ 1000

theorem IsHelp.el {fs : List PV} (h : ∀ x ∈ fs, IsHelp x) : ∀ x ∈ fs, x.isEl 3 true = true := by
  intro x hx
  obtain ⟨p, lc, cs, rfl, _⟩ := h x hx
  rfl

/-- Behind it: the cursor at most at A, from B0 to B instructions. -/
def AsmP (l : List Int) (fs : List PV) (t lc : Int) (mn : PV) (A B0 B : Int) (r : R) : Prop := ∃ a s : Int, ∃ cs : List PV, r = [.lst fs, .int .i64 t, .int .i64 lc, mn, bytesOf l, .int .i64 a, .int .i64 s, .lst cs] ∧ 0 ≤ a ∧ a ≤ A ∧ 0 ≤ s ∧ s < 65521 ∧ B0 ≤ cs.length ∧ (cs.length : Int) ≤ B ∧ Cd cs

def AsmOk (l : List Int) (fs : List PV) (t lc : Int) (mn : PV) (c : Int) (f : PV → PV → PV → PV → PV → PV → PV → PV → Option R) : Prop :=
  ∀ (a s : Int) (cs : List PV), 0 ≤ a ∧ a + c ≤ 1000000000 ∧ 0 ≤ s ∧ s < 65521 → (cs.length : Int) + c ≤ 1000000000 → Cd cs →
    Ok (AsmP l fs t lc mn (a + c) cs.length (cs.length + c)) (f (.lst fs) (.int .i64 t) (.int .i64 lc) mn (bytesOf l) (.int .i64 a) (.int .i64 s) (.lst cs))

section
variable {P : R → Prop} {k : R → Option R} {l : List Int} {fs : List PV} {t lc : Int} {mn : PV}

theorem ok_asm {c : Int} {f : PV → PV → PV → PV → PV → PV → PV → PV → Option R} (H : AsmOk l fs t lc mn c f) {a s : Int} {cs : List PV} (h0 : 0 ≤ a ∧ a + c ≤ 1000000000 ∧ 0 ≤ s ∧ s < 65521) (hl : (cs.length : Int) + c ≤ 1000000000) (hc : Cd cs)
    (h : ∀ (a' s' : Int) (cs' : List PV), 0 ≤ a' ∧ a' ≤ a + c ∧ 0 ≤ s' ∧ s' < 65521 ∧ (cs.length : Int) ≤ cs'.length ∧ (cs'.length : Int) ≤ cs.length + c → Cd cs' →
      Ok P (k [.lst fs, .int .i64 t, .int .i64 lc, mn, bytesOf l, .int .i64 a', .int .i64 s', .lst cs'])) :
    Ok P (bd (f (.lst fs) (.int .i64 t) (.int .i64 lc) mn (bytesOf l) (.int .i64 a) (.int .i64 s) (.lst cs)) k) :=
  ok_call (H a s cs h0 hl hc) (fun r ⟨a', s', cs', hr, h1, h2, h3, h4, h5, h6, h7⟩ => by rw [hr]; exact h a' s' cs' ⟨h1, h2, h3, h4, h5, h6⟩ h7)

theorem AsmOk.mono {c c' : Int} {f : PV → PV → PV → PV → PV → PV → PV → PV → Option R} (H : AsmOk l fs t lc mn c f) (hc : 0 ≤ c ∧ c ≤ c') : AsmOk l fs t lc mn c' f := by
  intro a s cs h0 hl hcs
  refine (H a s cs (by omega) (by omega) hcs).mono ?_
  rintro r ⟨a', s', cs', hr, h1, h2, h3, h4, h5, h6, h7⟩
  exact ⟨a', s', cs', hr, h1, by omega, h3, h4, h5, by omega, h7⟩

/-- A value of depth 0. -/
theorem value_c2 (H : Asm l fs t lc) : AsmOk l fs t lc mn 3 (fun F T L M C A S D => spec_l01Asm_value_c2 F T L M C A S D) := by
  intro a s cs h0 hl hc
  obtain ⟨hb, hfs, hfl, ht, hlc⟩ := H
  show Ok _ (spec_l01Asm_value_c2 _ _ _ _ _ _ _ _)
  rw [spec_l01Asm_value_c2_eq]
  repeat' (first | refine ok_put (by omega) (by omega) (by assumption) (by omega) (fun _ _ _ => ?_) | refine ok_pick hb (by omega) (by omega) (fun _ _ _ _ => ?_) | refine ok_once hb (by omega) (by omega) (fun _ _ _ _ => ?_) | refine ok_inb (by omega) (by first | omega | (simp; omega)) ?_ | refine ok_lits rfl (by omega) (by first | omega | (simp; omega)) (fun _ _ => ?_) | refine ok_setCode (by assumption) (by omega) (by omega) (by omega) (fun _ _ _ => ?_) | refine ok_num (by omega) ?_ | refine ok_cut_code (by assumption) (by omega) (by omega) (by omega) (fun _ _ _ => ?_) | refine ok_lss ?_ | refine ok_leq ?_ | refine ok_gtr ?_ | refine ok_geq ?_ | refine ok_eql ?_ | refine ok_neq ?_ | (refine ok_ite (fun _ => ?_) (fun _ => ?_)) | (refine ok_ite_not (fun _ => ?_) (fun _ => ?_)) | refine ok_ite_b (fun _ => ?_) (fun _ => ?_) | refine ok_add (by omega) ?_ | refine ok_sub (by omega) ?_ | refine ok_rem (by omega) (by omega) ?_ | refine ok_quo (by omega) (by omega) (by omega) ?_ | refine ok_mul (by omega) ?_ | refine ok_neg (by omega) ?_ | refine ok_bytes_len ?_ | refine ok_len ?_ | refine ok_slen ?_ | refine ok_not ?_ | refine ok_i64 (by omega) ?_ | refine ok_one rfl ?_ | refine ok_cell rfl ?_ | refine ok_comp rfl ?_ | refine ok_whole rfl ?_ | exact ok_some ⟨_, _, _, rfl, by omega, by omega, by omega, by omega, by omega, by omega, by assumption⟩)

theorem ok_tail {c : Int} {f : PV → PV → PV → PV → PV → PV → PV → PV → Option R} (H : AsmOk l fs t lc mn c f) {a s A B0 B : Int} {cs : List PV} (h0 : 0 ≤ a ∧ a + c ≤ 1000000000 ∧ 0 ≤ s ∧ s < 65521) (hl : (cs.length : Int) + c ≤ 1000000000) (hc : Cd cs)
    (hA : a + c ≤ A) (hB0 : B0 ≤ cs.length) (hB : cs.length + c ≤ B) :
    Ok (AsmP l fs t lc mn A B0 B) (f (.lst fs) (.int .i64 t) (.int .i64 lc) mn (bytesOf l) (.int .i64 a) (.int .i64 s) (.lst cs)) := by
  refine (H a s cs h0 hl hc).mono ?_
  rintro r ⟨a', s', cs', hr, h1, h2, h3, h4, h5, h6, h7⟩
  exact ⟨a', s', cs', hr, h1, by omega, h3, h4, by omega, by omega, h7⟩

/-- Values of depth at most n. -/
def ValOk (l : List Int) (fs : List PV) (t lc : Int) (mn : PV) (n c : Int) : Prop := ∀ d : Int, -1000 ≤ d → d ≤ n → AsmOk l fs t lc mn c (fun F T L M C A S D => spec_l01Asm_value (.int .i64 d) F T L M C A S D)

theorem value_0 (H : Asm l fs t lc) : ValOk l fs t lc mn 0 3 := by
  intro d hd1 hd2 a s cs h0 hl hc
  show Ok _ (spec_l01Asm_value _ _ _ _ _ _ _ _ _)
  rw [spec_l01Asm_value_eq]
  refine ok_leq (ok_ite (fun _ => ?_) (fun h => absurd hd2 h))
  exact value_c2 H a s cs h0 hl hc

section
variable {n c : Int} (V : ValOk l fs t lc mn n c) (H : Asm l fs t lc) (hc0 : 0 ≤ c ∧ c ≤ 1000000 ∧ 0 ≤ n ∧ n ≤ 100)
include V H hc0

theorem record_loop (m : Int) (hm : 1 ≤ m ∧ m ≤ 3) (K : Int) (hK : 4 ≤ K ∧ K ≤ 1000000000) (j : Int) (hj : 0 ≤ j ∧ j ≤ 10) (ih : ∀ d i : Int, -500 ≤ d → d ≤ n + 1 → 0 ≤ i → i < j → AsmOk l fs t lc mn K (fun F T L M C A S D => spec_l01Asm_record_c3 (.int .i64 d) (.int .i64 m) (.int .i64 i) F T L M C A S D)) :
    ∀ d i : Int, -500 ≤ d → d ≤ n + 1 → 0 ≤ i → i ≤ j → AsmOk l fs t lc mn (K + c + 4) (fun F T L M C A S D => spec_l01Asm_record_c3 (.int .i64 d) (.int .i64 m) (.int .i64 i) F T L M C A S D) := by
  intro d i hd1 hd2 hi1 hi2 a s cs h0 hl hc
  obtain ⟨hb, hfs, hfl, ht, hlc⟩ := H
  show Ok _ (spec_l01Asm_record_c3 _ _ _ _ _ _ _ _ _ _ _)
  rw [spec_l01Asm_record_c3_eq]
  refine ok_gtr (ok_ite (fun _ => ?_) (fun _ => ?_))
  · refine ok_put (by omega) (by omega) (by assumption) (by omega) (fun _ _ _ => ?_)
    refine ok_sub (by omega) ?_
    refine ok_asm (V _ (by omega) (by omega)) (by omega) (by omega) (by assumption) (fun _ _ _ _ _ => ?_)
    refine ok_pick hb (by omega) (by omega) (fun _ _ _ _ => ?_)
    refine ok_put (by omega) (by omega) (by assumption) (by omega) (fun _ _ _ => ?_)
    refine ok_sub (by omega) ?_
    exact ok_tail (ih d _ hd1 hd2 (by omega) (by omega)) (by omega) (by omega) (by assumption) (by omega) (by omega) (by omega)
  · repeat' (first | refine ok_put (by omega) (by omega) (by assumption) (by omega) (fun _ _ _ => ?_) | refine ok_pick hb (by omega) (by omega) (fun _ _ _ _ => ?_) | refine ok_once hb (by omega) (by omega) (fun _ _ _ _ => ?_) | refine ok_inb (by omega) (by first | omega | (simp; omega)) ?_ | refine ok_lits rfl (by omega) (by first | omega | (simp; omega)) (fun _ _ => ?_) | refine ok_setCode (by assumption) (by omega) (by omega) (by omega) (fun _ _ _ => ?_) | refine ok_num (by omega) ?_ | refine ok_cut_code (by assumption) (by omega) (by omega) (by omega) (fun _ _ _ => ?_) | refine ok_lss ?_ | refine ok_leq ?_ | refine ok_gtr ?_ | refine ok_geq ?_ | refine ok_eql ?_ | refine ok_neq ?_ | (refine ok_ite (fun _ => ?_) (fun _ => ?_)) | (refine ok_ite_not (fun _ => ?_) (fun _ => ?_)) | refine ok_ite_b (fun _ => ?_) (fun _ => ?_) | refine ok_add (by omega) ?_ | refine ok_sub (by omega) ?_ | refine ok_rem (by omega) (by omega) ?_ | refine ok_quo (by omega) (by omega) (by omega) ?_ | refine ok_mul (by omega) ?_ | refine ok_neg (by omega) ?_ | refine ok_bytes_len ?_ | refine ok_len ?_ | refine ok_slen ?_ | refine ok_not ?_ | refine ok_i64 (by omega) ?_ | refine ok_one rfl ?_ | refine ok_cell rfl ?_ | refine ok_comp rfl ?_ | refine ok_whole rfl ?_ | exact ok_some ⟨_, _, _, rfl, by omega, by omega, by omega, by omega, by omega, by omega, by assumption⟩)

theorem record_ok : ∀ d : Int, -500 ≤ d → d ≤ n + 1 → AsmOk l fs t lc mn (4 * c + 40) (fun F T L M C A S D => spec_l01Asm_record (.int .i64 d) F T L M C A S D) := by
  intro d hd1 hd2 a s cs h0 hl hc
  have H' := H
  obtain ⟨hb, hfs, hfl, ht, hlc⟩ := H
  show Ok _ (spec_l01Asm_record _ _ _ _ _ _ _ _ _)
  rw [spec_l01Asm_record_eq]
  refine ok_pick hb (by omega) (by omega) (fun v _ _ _ => ?_)
  refine ok_add (by omega) ?_
  refine ok_put (by omega) (by omega) (by assumption) (by omega) (fun _ _ _ => ?_)
  refine ok_add (by omega) ?_
  refine ok_pick hb (by omega) (by omega) (fun w _ _ _ => ?_)
  have L0 := record_loop V H' hc0 (1 + v) (by omega) 4 (by omega) 0 (by omega) (fun d i _ _ h1 h2 => by omega)
  have L1 := record_loop V H' hc0 (1 + v) (by omega) (4 + c + 4) (by omega) 1 (by omega) (fun d i g1 g2 h1 h2 => L0 d i g1 g2 h1 (by omega))
  have L2 := record_loop V H' hc0 (1 + v) (by omega) (4 + c + 4 + c + 4) (by omega) 2 (by omega) (fun d i g1 g2 h1 h2 => L1 d i g1 g2 h1 (by omega))
  have L3 := record_loop V H' hc0 (1 + v) (by omega) (4 + c + 4 + c + 4 + c + 4) (by omega) 3 (by omega) (fun d i g1 g2 h1 h2 => L2 d i g1 g2 h1 (by omega))
  exact ok_tail (L3 d w hd1 hd2 (by omega) (by omega)) (by omega) (by omega) (by assumption) (by omega) (by omega) (by omega)

/-- The parameters of a helper. -/
def Par (fs : List PV) (i p : Int) : Prop := 0 ≤ i ∧ i < fs.length ∧ (0 ≤ p ∧ p ≤ 2) ∧ ∃ q r : PV, fs[i.toNat]? = some (.agg [.int .i64 p, q, r])

omit V H hc0 in
theorem ok_help (H : Asm l fs t lc) {P : R → Prop} {k : PV → Option R} {i p : Int} (hp : Par fs i p) (h : ∀ q r : PV, Ok P (k (.agg [.int .i64 p, q, r]))) : Ok P (bd (PV.at_ 3 true (.lst fs) (.int .i64 i)) k) := by
  obtain ⟨h0, h1, _, q, r, hq⟩ := hp
  refine ok_at h0 h1 (IsHelp.el H.hf) (fun x _ hx => ?_)
  rw [hq] at hx
  cases hx
  exact h q r

omit V H hc0 in
theorem par_of (H : Asm l fs t lc) {i : Int} (h0 : 0 ≤ i) (h1 : i < fs.length) : ∃ p, Par fs i p := by
  have hlt : i.toNat < fs.length := by omega
  have hx : fs[i.toNat]? = some fs[i.toNat] := List.getElem?_eq_getElem hlt
  obtain ⟨p, lc, cs, he, hp, _⟩ := H.hf _ (List.mem_of_getElem? hx)
  exact ⟨p, h0, h1, hp, .int .i64 lc, .lst cs, by rw [hx, he]⟩

theorem invoke_loop (f p : Int) (hp : Par fs f p) (K : Int) (hK : 1 ≤ K ∧ K ≤ 100000000) (j : Int) (ih : ∀ d i : Int, -500 ≤ d → d ≤ n + 1 → 0 ≤ i → i ≤ p → p - i < j → AsmOk l fs t lc mn K (fun F T L M C A S D => spec_l01Asm_value_c38 (.int .i64 d) (.int .i64 f) (.int .i64 i) F T L M C A S D)) :
    ∀ d i : Int, -500 ≤ d → d ≤ n + 1 → 0 ≤ i → i ≤ p → p - i ≤ j → AsmOk l fs t lc mn (K + c) (fun F T L M C A S D => spec_l01Asm_value_c38 (.int .i64 d) (.int .i64 f) (.int .i64 i) F T L M C A S D) := by
  intro d i hd1 hd2 hi1 hi2 hi3 a s cs h0 hl hc
  have H' := H
  obtain ⟨hb, hfs, hfl, ht, hlc⟩ := H
  have hp' := hp.2.2.1
  have hf1 := hp.1
  have hf2 := hp.2.1
  show Ok _ (spec_l01Asm_value_c38 _ _ _ _ _ _ _ _ _ _ _)
  rw [spec_l01Asm_value_c38_eq]
  refine ok_help H' hp (fun q r => ok_cell rfl (ok_lss (ok_ite (fun _ => ?_) (fun _ => ?_))))
  · refine ok_sub (by omega) ?_
    refine ok_asm (V _ (by omega) (by omega)) (by omega) (by omega) (by assumption) (fun _ _ _ _ _ => ?_)
    refine ok_add (by omega) ?_
    exact ok_tail (ih d _ hd1 hd2 (by omega) (by omega) (by omega)) (by omega) (by omega) (by assumption) (by omega) (by omega) (by omega)
  · repeat' (first | refine ok_put (by omega) (by omega) (by assumption) (by omega) (fun _ _ _ => ?_) | refine ok_pick hb (by omega) (by omega) (fun _ _ _ _ => ?_) | refine ok_once hb (by omega) (by omega) (fun _ _ _ _ => ?_) | refine ok_inb (by omega) (by first | omega | (simp; omega)) ?_ | refine ok_lits rfl (by omega) (by first | omega | (simp; omega)) (fun _ _ => ?_) | refine ok_setCode (by assumption) (by omega) (by omega) (by omega) (fun _ _ _ => ?_) | refine ok_num (by omega) ?_ | refine ok_cut_code (by assumption) (by omega) (by omega) (by omega) (fun _ _ _ => ?_) | refine ok_lss ?_ | refine ok_leq ?_ | refine ok_gtr ?_ | refine ok_geq ?_ | refine ok_eql ?_ | refine ok_neq ?_ | (refine ok_ite (fun _ => ?_) (fun _ => ?_)) | (refine ok_ite_not (fun _ => ?_) (fun _ => ?_)) | refine ok_ite_b (fun _ => ?_) (fun _ => ?_) | refine ok_add (by omega) ?_ | refine ok_sub (by omega) ?_ | refine ok_rem (by omega) (by omega) ?_ | refine ok_quo (by omega) (by omega) (by omega) ?_ | refine ok_mul (by omega) ?_ | refine ok_neg (by omega) ?_ | refine ok_bytes_len ?_ | refine ok_len ?_ | refine ok_slen ?_ | refine ok_not ?_ | refine ok_i64 (by omega) ?_ | refine ok_one rfl ?_ | refine ok_cell rfl ?_ | refine ok_comp rfl ?_ | refine ok_whole rfl ?_ | exact ok_some ⟨_, _, _, rfl, by omega, by omega, by omega, by omega, by omega, by omega, by assumption⟩)

theorem invoke_ok (f : Int) (hf : 0 ≤ f ∧ f < fs.length) : ∀ d : Int, -500 ≤ d → d ≤ n + 1 → AsmOk l fs t lc mn (3 * c + 10) (fun F T L M C A S D => spec_l01Asm_value_c38 (.int .i64 d) (.int .i64 f) (.int .i64 0) F T L M C A S D) := by
  intro d hd1 hd2
  obtain ⟨p, hp⟩ := par_of H hf.1 hf.2
  have hp' := hp.2.2.1
  have L0 := invoke_loop V H hc0 f p hp 1 (by omega) 0 (fun d i _ _ h1 h2 h3 => by omega)
  have L1 := invoke_loop V H hc0 f p hp (1 + c) (by omega) 1 (fun d i g1 g2 h1 h2 h3 => L0 d i g1 g2 h1 h2 (by omega))
  have L2 := invoke_loop V H hc0 f p hp (1 + c + c) (by omega) 2 (fun d i g1 g2 h1 h2 h3 => L1 d i g1 g2 h1 h2 (by omega))
  exact (L2 d 0 hd1 hd2 (by omega) (by omega) (by omega)).mono (by omega)

theorem call_loop (f p : Int) (hp : Par fs f p) (K : Int) (hK : 1 ≤ K ∧ K ≤ 100000000) (j : Int) (ih : ∀ d i : Int, -500 ≤ d → d ≤ n + 1 → 0 ≤ i → i ≤ p → p - i < j → AsmOk l fs t lc mn K (fun F T L M C A S D => spec_l01Asm_value_c51 (.int .i64 d) (.int .i64 f) (.int .i64 i) F T L M C A S D)) :
    ∀ d i : Int, -500 ≤ d → d ≤ n + 1 → 0 ≤ i → i ≤ p → p - i ≤ j → AsmOk l fs t lc mn (K + c) (fun F T L M C A S D => spec_l01Asm_value_c51 (.int .i64 d) (.int .i64 f) (.int .i64 i) F T L M C A S D) := by
  intro d i hd1 hd2 hi1 hi2 hi3 a s cs h0 hl hc
  have H' := H
  obtain ⟨hb, hfs, hfl, ht, hlc⟩ := H
  have hp' := hp.2.2.1
  have hf1 := hp.1
  have hf2 := hp.2.1
  show Ok _ (spec_l01Asm_value_c51 _ _ _ _ _ _ _ _ _ _ _)
  rw [spec_l01Asm_value_c51_eq]
  refine ok_help H' hp (fun q r => ok_cell rfl (ok_lss (ok_ite (fun _ => ?_) (fun _ => ?_))))
  · refine ok_sub (by omega) ?_
    refine ok_asm (V _ (by omega) (by omega)) (by omega) (by omega) (by assumption) (fun _ _ _ _ _ => ?_)
    refine ok_add (by omega) ?_
    exact ok_tail (ih d _ hd1 hd2 (by omega) (by omega) (by omega)) (by omega) (by omega) (by assumption) (by omega) (by omega) (by omega)
  · refine ok_help H' hp (fun q r => ok_cell rfl ?_)
    repeat' (first | refine ok_put (by omega) (by omega) (by assumption) (by omega) (fun _ _ _ => ?_) | refine ok_pick hb (by omega) (by omega) (fun _ _ _ _ => ?_) | refine ok_once hb (by omega) (by omega) (fun _ _ _ _ => ?_) | refine ok_inb (by omega) (by first | omega | (simp; omega)) ?_ | refine ok_lits rfl (by omega) (by first | omega | (simp; omega)) (fun _ _ => ?_) | refine ok_setCode (by assumption) (by omega) (by omega) (by omega) (fun _ _ _ => ?_) | refine ok_num (by omega) ?_ | refine ok_cut_code (by assumption) (by omega) (by omega) (by omega) (fun _ _ _ => ?_) | refine ok_lss ?_ | refine ok_leq ?_ | refine ok_gtr ?_ | refine ok_geq ?_ | refine ok_eql ?_ | refine ok_neq ?_ | (refine ok_ite (fun _ => ?_) (fun _ => ?_)) | (refine ok_ite_not (fun _ => ?_) (fun _ => ?_)) | refine ok_ite_b (fun _ => ?_) (fun _ => ?_) | refine ok_add (by omega) ?_ | refine ok_sub (by omega) ?_ | refine ok_rem (by omega) (by omega) ?_ | refine ok_quo (by omega) (by omega) (by omega) ?_ | refine ok_mul (by omega) ?_ | refine ok_neg (by omega) ?_ | refine ok_bytes_len ?_ | refine ok_len ?_ | refine ok_slen ?_ | refine ok_not ?_ | refine ok_i64 (by omega) ?_ | refine ok_one rfl ?_ | refine ok_cell rfl ?_ | refine ok_comp rfl ?_ | refine ok_whole rfl ?_ | exact ok_some ⟨_, _, _, rfl, by omega, by omega, by omega, by omega, by omega, by omega, by assumption⟩)

theorem call_ok (f : Int) (hf : 0 ≤ f ∧ f < fs.length) : ∀ d : Int, -500 ≤ d → d ≤ n + 1 → AsmOk l fs t lc mn (3 * c + 10) (fun F T L M C A S D => spec_l01Asm_value_c50 (.int .i64 d) (.int .i64 f) F T L M C A S D) := by
  intro d hd1 hd2 a s cs h0 hl hc
  obtain ⟨p, hp⟩ := par_of H hf.1 hf.2
  have hp' := hp.2.2.1
  have L0 := call_loop V H hc0 f p hp 1 (by omega) 0 (fun d i _ _ h1 h2 h3 => by omega)
  have L1 := call_loop V H hc0 f p hp (1 + c) (by omega) 1 (fun d i g1 g2 h1 h2 h3 => L0 d i g1 g2 h1 h2 (by omega))
  have L2 := call_loop V H hc0 f p hp (1 + c + c) (by omega) 2 (fun d i g1 g2 h1 h2 h3 => L1 d i g1 g2 h1 h2 (by omega))
  show Ok _ (spec_l01Asm_value_c50 _ _ _ _ _ _ _ _ _ _)
  rw [spec_l01Asm_value_c50_eq]
  exact ok_tail (L2 d 0 hd1 hd2 (by omega) (by omega) (by omega)) (by omega) (by omega) (by assumption) (by omega) (by omega) (by omega)

set_option maxRecDepth 100000 in
set_option maxHeartbeats 4000000 in
theorem value_step : ValOk l fs t lc mn (n + 1) (4 * c + 50) := by
  intro d hd1 hd2 a s cs h0 hl hc
  have RO := record_ok V H hc0
  have IK := invoke_ok V H hc0
  have CO := call_ok V H hc0
  have C2 := value_c2 (mn := mn) H
  obtain ⟨hb, hfs, hfl, ht, hlc⟩ := H
  show Ok _ (spec_l01Asm_value _ _ _ _ _ _ _ _ _)
  rw [spec_l01Asm_value_eq]
  repeat' (first | refine ok_asm (V _ (by omega) (by omega)) (by omega) (by omega) (by assumption) (fun _ _ _ _ _ => ?_) | refine ok_asm (RO _ (by omega) (by omega)) (by omega) (by omega) (by assumption) (fun _ _ _ _ _ => ?_) | exact ok_tail C2 (by omega) (by omega) (by assumption) (by omega) (by omega) (by omega) | exact ok_tail (IK _ (by omega) _ (by omega) (by omega)) (by omega) (by omega) (by assumption) (by omega) (by omega) (by omega) | exact ok_tail (CO _ (by omega) _ (by omega) (by omega)) (by omega) (by omega) (by assumption) (by omega) (by omega) (by omega) | refine ok_put (by omega) (by omega) (by assumption) (by omega) (fun _ _ _ => ?_) | refine ok_pick hb (by omega) (by omega) (fun _ _ _ _ => ?_) | refine ok_once hb (by omega) (by omega) (fun _ _ _ _ => ?_) | refine ok_inb (by omega) (by first | omega | (simp; omega)) ?_ | refine ok_lits rfl (by omega) (by first | omega | (simp; omega)) (fun _ _ => ?_) | refine ok_setCode (by assumption) (by omega) (by omega) (by omega) (fun _ _ _ => ?_) | refine ok_num (by omega) ?_ | refine ok_cut_code (by assumption) (by omega) (by omega) (by omega) (fun _ _ _ => ?_) | refine ok_lss ?_ | refine ok_leq ?_ | refine ok_gtr ?_ | refine ok_geq ?_ | refine ok_eql ?_ | refine ok_neq ?_ | (refine ok_ite (fun _ => ?_) (fun _ => ?_)) | (refine ok_ite_not (fun _ => ?_) (fun _ => ?_)) | refine ok_ite_b (fun _ => ?_) (fun _ => ?_) | refine ok_add (by omega) ?_ | refine ok_sub (by omega) ?_ | refine ok_rem (by omega) (by omega) ?_ | refine ok_quo (by omega) (by omega) (by omega) ?_ | refine ok_mul (by omega) ?_ | refine ok_neg (by omega) ?_ | refine ok_bytes_len ?_ | refine ok_len ?_ | refine ok_slen ?_ | refine ok_not ?_ | refine ok_i64 (by omega) ?_ | refine ok_one rfl ?_ | refine ok_cell rfl ?_ | refine ok_comp rfl ?_ | refine ok_whole rfl ?_ | exact ok_some ⟨_, _, _, rfl, by omega, by omega, by omega, by omega, by omega, by omega, by assumption⟩)

end

end

end Go.Proofs.Ytkcilikjhgkakaa

namespace Go.Proofs.Ytkcilikjhgkakaa
open Go
attribute [local irreducible] bd PV.ite PV.guardFlat PV.guardOwn PV.whole PV.one PV.cell PV.sub PV.at_ PV.len PV.slen PV.chr PV.beq PV.peq PV.ceq PV.bin PV.neg PV.not PV.conv PV.cut PV.scut PV.cat PV.setAt PV.setCell PV.ncopy PV.copyIn PV.zeros PV.toStr PV.toBytes PV.deref PV.isPtr PV.comp PV.inb PV.off PV.imin PV.imax PV.sel PV.apply

section
variable {l : List Int} {fs : List PV} {t lc : Int} {mn : PV}

theorem value_1 (H : Asm l fs t lc) : ValOk l fs t lc mn 1 62 := value_step (value_0 H) H (by omega)
theorem value_2 (H : Asm l fs t lc) : ValOk l fs t lc mn 2 298 := value_step (value_1 H) H (by omega)

theorem test_ok (H : Asm l fs t lc) : AsmOk l fs t lc mn 100 (fun F T L M C A S D => spec_l01Asm_test F T L M C A S D) := by
  intro a s cs h0 hl hc
  have V1 := value_1 (mn := mn) H
  have V0 := value_0 (mn := mn) H
  obtain ⟨hb, hfs, hfl, ht, hlc⟩ := H
  show Ok _ (spec_l01Asm_test _ _ _ _ _ _ _ _)
  rw [spec_l01Asm_test_eq]
  refine ok_asm (V1 _ (by omega) (by omega)) (by omega) (by omega) (by assumption) (fun _ _ _ _ _ => ?_)
  refine ok_asm (V0 _ (by omega) (by omega)) (by omega) (by omega) (by assumption) (fun _ _ _ _ _ => ?_)
  repeat' (first | refine ok_put (by omega) (by omega) (by assumption) (by omega) (fun _ _ _ => ?_) | refine ok_pick hb (by omega) (by omega) (fun _ _ _ _ => ?_) | refine ok_once hb (by omega) (by omega) (fun _ _ _ _ => ?_) | refine ok_inb (by omega) (by first | omega | (simp; omega)) ?_ | refine ok_lits rfl (by omega) (by first | omega | (simp; omega)) (fun _ _ => ?_) | refine ok_setCode (by assumption) (by omega) (by omega) (by omega) (fun _ _ _ => ?_) | refine ok_num (by omega) ?_ | refine ok_cut_code (by assumption) (by omega) (by omega) (by omega) (fun _ _ _ => ?_) | refine ok_lss ?_ | refine ok_leq ?_ | refine ok_gtr ?_ | refine ok_geq ?_ | refine ok_eql ?_ | refine ok_neq ?_ | (refine ok_ite (fun _ => ?_) (fun _ => ?_)) | (refine ok_ite_not (fun _ => ?_) (fun _ => ?_)) | refine ok_ite_b (fun _ => ?_) (fun _ => ?_) | refine ok_add (by omega) ?_ | refine ok_sub (by omega) ?_ | refine ok_rem (by omega) (by omega) ?_ | refine ok_quo (by omega) (by omega) (by omega) ?_ | refine ok_mul (by omega) ?_ | refine ok_neg (by omega) ?_ | refine ok_bytes_len ?_ | refine ok_len ?_ | refine ok_slen ?_ | refine ok_not ?_ | refine ok_i64 (by omega) ?_ | refine ok_one rfl ?_ | refine ok_cell rfl ?_ | refine ok_comp rfl ?_ | refine ok_whole rfl ?_ | exact ok_some ⟨_, _, _, rfl, by omega, by omega, by omega, by omega, by omega, by omega, by assumption⟩)

def StmtOk (l : List Int) (fs : List PV) (t lc : Int) (mn : PV) (n c : Int) : Prop := ∀ d : Int, -100 ≤ d → d ≤ n → AsmOk l fs t lc mn c (fun F T L M C A S D => spec_l01Asm_stmt (.int .i64 d) F T L M C A S D)
def ListOk (l : List Int) (fs : List PV) (t lc : Int) (mn : PV) (n q c : Int) : Prop := ∀ d : Int, -100 ≤ d → d ≤ n → AsmOk l fs t lc mn c (fun F T L M C A S D => spec_l01Asm_list (.int .i64 d) (.int .i64 q) F T L M C A S D)

set_option maxRecDepth 100000 in
set_option maxHeartbeats 4000000 in
theorem stmt_0 (H : Asm l fs t lc) : StmtOk l fs t lc mn 0 500 := by
  intro d hd1 hd2 a s cs h0 hl hc
  have V1 := value_1 (mn := mn) H
  have V2 := value_2 (mn := mn) H
  obtain ⟨hb, hfs, hfl, ht, hlc⟩ := H
  show Ok _ (spec_l01Asm_stmt _ _ _ _ _ _ _ _ _)
  rw [spec_l01Asm_stmt_eq]
  repeat' (first | (exfalso; omega) | (first | refine ok_asm (V1 _ (by omega) (by omega)) (by omega) (by omega) (by assumption) (fun _ _ _ _ _ => ?_) | refine ok_asm (V2 _ (by omega) (by omega)) (by omega) (by omega) (by assumption) (fun _ _ _ _ _ => ?_) | refine ok_asm TE (by omega) (by omega) (by assumption) (fun _ _ _ _ _ => ?_) | refine ok_asm (L _ (by omega) (by omega)) (by omega) (by omega) (by assumption) (fun _ _ _ _ _ => ?_) | exact ok_tail (C7 _ _ (by omega) (by omega) (by omega)) (by omega) (by omega) (by assumption) (by omega) (by omega) (by omega) | refine ok_put (by omega) (by omega) (by assumption) (by omega) (fun _ _ _ => ?_) | refine ok_pick hb (by omega) (by omega) (fun _ _ _ _ => ?_) | refine ok_once hb (by omega) (by omega) (fun _ _ _ _ => ?_) | refine ok_inb (by omega) (by first | omega | (simp; omega)) ?_ | refine ok_lits rfl (by omega) (by first | omega | (simp; omega)) (fun _ _ => ?_) | refine ok_setCode (by assumption) (by omega) (by omega) (by omega) (fun _ _ _ => ?_) | refine ok_num (by omega) ?_ | refine ok_cut_code (by assumption) (by omega) (by omega) (by omega) (fun _ _ _ => ?_) | refine ok_lss ?_ | refine ok_leq ?_ | refine ok_gtr ?_ | refine ok_geq ?_ | refine ok_eql ?_ | refine ok_neq ?_ | (refine ok_ite (fun _ => ?_) (fun _ => ?_)) | (refine ok_ite_not (fun _ => ?_) (fun _ => ?_)) | refine ok_ite_b (fun _ => ?_) (fun _ => ?_) | refine ok_add (by omega) ?_ | refine ok_sub (by omega) ?_ | refine ok_rem (by omega) (by omega) ?_ | refine ok_quo (by omega) (by omega) (by omega) ?_ | refine ok_mul (by omega) ?_ | refine ok_neg (by omega) ?_ | refine ok_bytes_len ?_ | refine ok_len ?_ | refine ok_slen ?_ | refine ok_not ?_ | refine ok_i64 (by omega) ?_ | refine ok_one rfl ?_ | refine ok_cell rfl ?_ | refine ok_comp rfl ?_ | refine ok_whole rfl ?_ | exact ok_some ⟨_, _, _, rfl, by omega, by omega, by omega, by omega, by omega, by omega, by assumption⟩))

section
variable {n c : Int} (L : ListOk l fs t lc mn n 2 c) (H : Asm l fs t lc) (hc0 : 0 ≤ c ∧ c ≤ 100000 ∧ 0 ≤ n ∧ n ≤ 50)
include L H hc0

set_option maxRecDepth 100000 in
set_option maxHeartbeats 4000000 in
theorem stmt_c7 : ∀ d x : Int, 1 ≤ d → d ≤ n + 1 → 0 ≤ x ∧ x ≤ 1000 → AsmOk l fs t lc mn (c + 100) (fun F T L M C A S D => spec_l01Asm_stmt_c7 (.int .i64 d) (.int .i64 x) F T L M C A S D) := by
  intro d x hd1 hd2 hx a s cs h0 hl hc
  obtain ⟨hb, hfs, hfl, ht, hlc⟩ := H
  show Ok _ (spec_l01Asm_stmt_c7 _ _ _ _ _ _ _ _ _ _)
  rw [spec_l01Asm_stmt_c7_eq]
  repeat' (first | refine ok_asm (L _ (by omega) (by omega)) (by omega) (by omega) (by assumption) (fun _ _ _ _ _ => ?_) | (first | refine ok_put (by omega) (by omega) (by assumption) (by omega) (fun _ _ _ => ?_) | refine ok_pick hb (by omega) (by omega) (fun _ _ _ _ => ?_) | refine ok_once hb (by omega) (by omega) (fun _ _ _ _ => ?_) | refine ok_inb (by omega) (by first | omega | (simp; omega)) ?_ | refine ok_lits rfl (by omega) (by first | omega | (simp; omega)) (fun _ _ => ?_) | refine ok_setCode (by assumption) (by omega) (by omega) (by omega) (fun _ _ _ => ?_) | refine ok_num (by omega) ?_ | refine ok_cut_code (by assumption) (by omega) (by omega) (by omega) (fun _ _ _ => ?_) | refine ok_lss ?_ | refine ok_leq ?_ | refine ok_gtr ?_ | refine ok_geq ?_ | refine ok_eql ?_ | refine ok_neq ?_ | (refine ok_ite (fun _ => ?_) (fun _ => ?_)) | (refine ok_ite_not (fun _ => ?_) (fun _ => ?_)) | refine ok_ite_b (fun _ => ?_) (fun _ => ?_) | refine ok_add (by omega) ?_ | refine ok_sub (by omega) ?_ | refine ok_rem (by omega) (by omega) ?_ | refine ok_quo (by omega) (by omega) (by omega) ?_ | refine ok_mul (by omega) ?_ | refine ok_neg (by omega) ?_ | refine ok_bytes_len ?_ | refine ok_len ?_ | refine ok_slen ?_ | refine ok_not ?_ | refine ok_i64 (by omega) ?_ | refine ok_one rfl ?_ | refine ok_cell rfl ?_ | refine ok_comp rfl ?_ | refine ok_whole rfl ?_ | exact ok_some ⟨_, _, _, rfl, by omega, by omega, by omega, by omega, by omega, by omega, by assumption⟩))

set_option maxRecDepth 100000 in
set_option maxHeartbeats 4000000 in
theorem stmt_step : StmtOk l fs t lc mn (n + 1) (c + 600) := by
  intro d hd1 hd2 a s cs h0 hl hc
  have V1 := value_1 (mn := mn) H
  have V2 := value_2 (mn := mn) H
  have TE := test_ok (mn := mn) H
  have C7 := stmt_c7 L H hc0
  obtain ⟨hb, hfs, hfl, ht, hlc⟩ := H
  show Ok _ (spec_l01Asm_stmt _ _ _ _ _ _ _ _ _)
  rw [spec_l01Asm_stmt_eq]
  repeat' (first | refine ok_asm (V1 _ (by omega) (by omega)) (by omega) (by omega) (by assumption) (fun _ _ _ _ _ => ?_) | refine ok_asm (V2 _ (by omega) (by omega)) (by omega) (by omega) (by assumption) (fun _ _ _ _ _ => ?_) | refine ok_asm TE (by omega) (by omega) (by assumption) (fun _ _ _ _ _ => ?_) | refine ok_asm (L _ (by omega) (by omega)) (by omega) (by omega) (by assumption) (fun _ _ _ _ _ => ?_) | exact ok_tail (C7 _ _ (by omega) (by omega) (by omega)) (by omega) (by omega) (by assumption) (by omega) (by omega) (by omega) | refine ok_put (by omega) (by omega) (by assumption) (by omega) (fun _ _ _ => ?_) | refine ok_pick hb (by omega) (by omega) (fun _ _ _ _ => ?_) | refine ok_once hb (by omega) (by omega) (fun _ _ _ _ => ?_) | refine ok_inb (by omega) (by first | omega | (simp; omega)) ?_ | refine ok_lits rfl (by omega) (by first | omega | (simp; omega)) (fun _ _ => ?_) | refine ok_setCode (by assumption) (by omega) (by omega) (by omega) (fun _ _ _ => ?_) | refine ok_num (by omega) ?_ | refine ok_cut_code (by assumption) (by omega) (by omega) (by omega) (fun _ _ _ => ?_) | refine ok_lss ?_ | refine ok_leq ?_ | refine ok_gtr ?_ | refine ok_geq ?_ | refine ok_eql ?_ | refine ok_neq ?_ | (refine ok_ite (fun _ => ?_) (fun _ => ?_)) | (refine ok_ite_not (fun _ => ?_) (fun _ => ?_)) | refine ok_ite_b (fun _ => ?_) (fun _ => ?_) | refine ok_add (by omega) ?_ | refine ok_sub (by omega) ?_ | refine ok_rem (by omega) (by omega) ?_ | refine ok_quo (by omega) (by omega) (by omega) ?_ | refine ok_mul (by omega) ?_ | refine ok_neg (by omega) ?_ | refine ok_bytes_len ?_ | refine ok_len ?_ | refine ok_slen ?_ | refine ok_not ?_ | refine ok_i64 (by omega) ?_ | refine ok_one rfl ?_ | refine ok_cell rfl ?_ | refine ok_comp rfl ?_ | refine ok_whole rfl ?_ | exact ok_some ⟨_, _, _, rfl, by omega, by omega, by omega, by omega, by omega, by omega, by assumption⟩)

end

section
variable {n c : Int} (S : StmtOk l fs t lc mn n c) (H : Asm l fs t lc) (hc0 : 0 ≤ c ∧ c ≤ 100000 ∧ 0 ≤ n ∧ n ≤ 50)
include S H hc0

theorem list_loop (K : Int) (hK : 0 ≤ K ∧ K ≤ 10000000) (j : Int) (hj : 0 ≤ j ∧ j ≤ 100) (ih : ∀ d i : Int, -100 ≤ d → d ≤ n → 0 ≤ i → i < j → AsmOk l fs t lc mn K (fun F T L M C A S D => spec_l01Asm_list_c1 (.int .i64 d) (.int .i64 i) F T L M C A S D)) :
    ∀ d i : Int, -100 ≤ d → d ≤ n → 0 ≤ i → i ≤ j → AsmOk l fs t lc mn (K + c) (fun F T L M C A S D => spec_l01Asm_list_c1 (.int .i64 d) (.int .i64 i) F T L M C A S D) := by
  intro d i hd1 hd2 hi1 hi2 a s cs h0 hl hc
  obtain ⟨hb, hfs, hfl, ht, hlc⟩ := H
  show Ok _ (spec_l01Asm_list_c1 _ _ _ _ _ _ _ _ _ _)
  rw [spec_l01Asm_list_c1_eq]
  refine ok_gtr (ok_ite (fun _ => ?_) (fun _ => ?_))
  · refine ok_len (ok_lss (ok_ite (fun _ => ?_) (fun _ => ?_)))
    · refine ok_asm (S _ hd1 hd2) (by omega) (by omega) (by assumption) (fun _ _ _ _ _ => ?_)
      refine ok_sub (by omega) ?_
      exact ok_tail (ih d _ hd1 hd2 (by omega) (by omega)) (by omega) (by omega) (by assumption) (by omega) (by omega) (by omega)
    · repeat' (first | refine ok_put (by omega) (by omega) (by assumption) (by omega) (fun _ _ _ => ?_) | refine ok_pick hb (by omega) (by omega) (fun _ _ _ _ => ?_) | refine ok_once hb (by omega) (by omega) (fun _ _ _ _ => ?_) | refine ok_inb (by omega) (by first | omega | (simp; omega)) ?_ | refine ok_lits rfl (by omega) (by first | omega | (simp; omega)) (fun _ _ => ?_) | refine ok_setCode (by assumption) (by omega) (by omega) (by omega) (fun _ _ _ => ?_) | refine ok_num (by omega) ?_ | refine ok_cut_code (by assumption) (by omega) (by omega) (by omega) (fun _ _ _ => ?_) | refine ok_lss ?_ | refine ok_leq ?_ | refine ok_gtr ?_ | refine ok_geq ?_ | refine ok_eql ?_ | refine ok_neq ?_ | (refine ok_ite (fun _ => ?_) (fun _ => ?_)) | (refine ok_ite_not (fun _ => ?_) (fun _ => ?_)) | refine ok_ite_b (fun _ => ?_) (fun _ => ?_) | refine ok_add (by omega) ?_ | refine ok_sub (by omega) ?_ | refine ok_rem (by omega) (by omega) ?_ | refine ok_quo (by omega) (by omega) (by omega) ?_ | refine ok_mul (by omega) ?_ | refine ok_neg (by omega) ?_ | refine ok_bytes_len ?_ | refine ok_len ?_ | refine ok_slen ?_ | refine ok_not ?_ | refine ok_i64 (by omega) ?_ | refine ok_one rfl ?_ | refine ok_cell rfl ?_ | refine ok_comp rfl ?_ | refine ok_whole rfl ?_ | exact ok_some ⟨_, _, _, rfl, by omega, by omega, by omega, by omega, by omega, by omega, by assumption⟩)
  · repeat' (first | refine ok_put (by omega) (by omega) (by assumption) (by omega) (fun _ _ _ => ?_) | refine ok_pick hb (by omega) (by omega) (fun _ _ _ _ => ?_) | refine ok_once hb (by omega) (by omega) (fun _ _ _ _ => ?_) | refine ok_inb (by omega) (by first | omega | (simp; omega)) ?_ | refine ok_lits rfl (by omega) (by first | omega | (simp; omega)) (fun _ _ => ?_) | refine ok_setCode (by assumption) (by omega) (by omega) (by omega) (fun _ _ _ => ?_) | refine ok_num (by omega) ?_ | refine ok_cut_code (by assumption) (by omega) (by omega) (by omega) (fun _ _ _ => ?_) | refine ok_lss ?_ | refine ok_leq ?_ | refine ok_gtr ?_ | refine ok_geq ?_ | refine ok_eql ?_ | refine ok_neq ?_ | (refine ok_ite (fun _ => ?_) (fun _ => ?_)) | (refine ok_ite_not (fun _ => ?_) (fun _ => ?_)) | refine ok_ite_b (fun _ => ?_) (fun _ => ?_) | refine ok_add (by omega) ?_ | refine ok_sub (by omega) ?_ | refine ok_rem (by omega) (by omega) ?_ | refine ok_quo (by omega) (by omega) (by omega) ?_ | refine ok_mul (by omega) ?_ | refine ok_neg (by omega) ?_ | refine ok_bytes_len ?_ | refine ok_len ?_ | refine ok_slen ?_ | refine ok_not ?_ | refine ok_i64 (by omega) ?_ | refine ok_one rfl ?_ | refine ok_cell rfl ?_ | refine ok_comp rfl ?_ | refine ok_whole rfl ?_ | exact ok_some ⟨_, _, _, rfl, by omega, by omega, by omega, by omega, by omega, by omega, by assumption⟩)

theorem list_ok (q : Int) (hq : 1 ≤ q ∧ q ≤ 6) : ListOk l fs t lc mn n q (7 * c + 2) := by
  intro d hd1 hd2 a s cs h0 hl hc
  have L0 := list_loop S H hc0 0 (by omega) 0 (by omega) (fun d i _ _ h1 h2 => by omega)
  have L1 := list_loop S H hc0 (0 + c) (by omega) 1 (by omega) (fun d i g1 g2 h1 h2 => L0 d i g1 g2 h1 (by omega))
  have L2 := list_loop S H hc0 (0 + c + c) (by omega) 2 (by omega) (fun d i g1 g2 h1 h2 => L1 d i g1 g2 h1 (by omega))
  have L3 := list_loop S H hc0 (0 + c + c + c) (by omega) 3 (by omega) (fun d i g1 g2 h1 h2 => L2 d i g1 g2 h1 (by omega))
  have L4 := list_loop S H hc0 (0 + c + c + c + c) (by omega) 4 (by omega) (fun d i g1 g2 h1 h2 => L3 d i g1 g2 h1 (by omega))
  have L5 := list_loop S H hc0 (0 + c + c + c + c + c) (by omega) 5 (by omega) (fun d i g1 g2 h1 h2 => L4 d i g1 g2 h1 (by omega))
  have hb := H.hl
  show Ok _ (spec_l01Asm_list _ _ _ _ _ _ _ _ _ _)
  rw [spec_l01Asm_list_eq]
  refine ok_pick hb (by omega) (by omega) (fun v _ _ _ => ?_)
  refine ok_add (by omega) ?_
  by_cases hv : 1 + v ≤ 5
  · exact ok_tail ((L5 d (1 + v) hd1 hd2 (by omega) hv)) (by omega) (by omega) (by assumption) (by omega) (by omega) (by omega)
  · have L6 := list_loop S H hc0 (0 + c + c + c + c + c + c) (by omega) 6 (by omega) (fun d i g1 g2 h1 h2 => L5 d i g1 g2 h1 (by omega))
    exact ok_tail ((L6 d (1 + v) hd1 hd2 (by omega) (by omega))) (by omega) (by omega) (by assumption) (by omega) (by omega) (by omega)

end

theorem list_1 (H : Asm l fs t lc) : ListOk l fs t lc mn 1 2 30000 := fun d h1 h2 =>
  (list_ok (stmt_step (list_ok (stmt_0 (mn := mn) H) H (by omega) 2 (by omega)) H (by omega)) H (by omega) 2 (by omega) d h1 (by omega)).mono (by omega)
theorem list_2 (H : Asm l fs t lc) (q : Int) (hq : 1 ≤ q ∧ q ≤ 6) : ListOk l fs t lc mn 2 q 500000 := fun d h1 h2 =>
  (list_ok (stmt_step (list_1 (mn := mn) H) H (by omega)) H (by omega) q hq d h1 (by omega)).mono (by omega)

end

end Go.Proofs.Ytkcilikjhgkakaa

namespace Go.Proofs.Ytkcilikjhgkakaa
open Go
attribute [local irreducible] bd PV.ite PV.guardFlat PV.guardOwn PV.whole PV.one PV.cell PV.sub PV.at_ PV.len PV.slen PV.chr PV.beq PV.peq PV.ceq PV.bin PV.neg PV.not PV.conv PV.cut PV.scut PV.cat PV.setAt PV.setCell PV.ncopy PV.copyIn PV.zeros PV.toStr PV.toBytes PV.deref PV.isPtr PV.comp PV.inb PV.off PV.imin PV.imax PV.sel PV.apply

/-- A text, not too long. -/
def IsTxt (x : PV) : Prop := ∃ b : ByteArray, x = .str b ∧ b.size ≤ 1000

theorem IsTxt.el {ts : List PV} (h : ∀ x ∈ ts, IsTxt x) : ∀ x ∈ ts, x.isEl 1 false = true := by
  intro x hx
  obtain ⟨b, rfl, _⟩ := h x hx
  rfl

/-- A module as it is drawn: texts, functions that are not empty. -/
def DrawnP (l : List Int) (A : Int) (r : R) : Prop := ∃ a s : Int, ∃ ts fs : List PV, r = [.agg [.lst ts, .lst fs], bytesOf l, .int .i64 a, .int .i64 s] ∧ 0 ≤ a ∧ a ≤ A ∧ 0 ≤ s ∧ s < 65521 ∧ (∀ x ∈ ts, IsTxt x) ∧ ts.length ≤ 10 ∧ (∀ x ∈ fs, IsHelp x) ∧ 1 ≤ fs.length ∧ fs.length ≤ 10

section
variable {l : List Int} (hl : Bts l) {ts : List PV} (hts : ∀ x ∈ ts, IsTxt x) (htn : ts.length ≤ 10)
include hl hts htn

set_option maxRecDepth 100000 in
set_option maxHeartbeats 4000000 in
/-- The main function is drawn last. -/
theorem main_ok {a s : Int} {hs : List PV} {x4 x5 x7 : PV} (h0 : 0 ≤ a ∧ a + 1000000 ≤ 900000000 ∧ 0 ≤ s ∧ s < 65521) (hh : ∀ x ∈ hs, IsHelp x) (hn : hs.length ≤ 3) :
    Ok (DrawnP l (a + 1000000)) (spec_l01DrawModule_c8 (.int .i64 0) (bytesOf l) (.int .i64 a) (.int .i64 s) x4 x5 (.lst ts) x7 (.lst hs)) := by
  rw [spec_l01DrawModule_c8_eq]
  refine ok_gtr (ok_ite (fun h => by omega) (fun _ => ?_))
  refine ok_pick hl (by omega) (by omega) (fun p a1 s1 h1 => ?_)
  refine ok_pick hl (by omega) (by omega) (fun q a2 s2 h2 => ?_)
  refine ok_add (by omega) (ok_one rfl (ok_one rfl (ok_len (ok_one rfl (ok_one rfl ?_)))))
  have H : Asm l hs (ts.length : Int) (3 + q) := ⟨hl, hh, by omega, by omega, by omega⟩
  refine ok_size hl (by omega) (by omega) (fun w a3 s3 h3 => ?_)
  refine ok_add (by omega) ?_
  refine ok_asm (list_2 (mn := .bool true) H (1 + w) (by omega) 2 (by omega) (by omega)) (by omega) (by simp) Cd.nil (fun a4 s4 c4 h4 k4 => ?_)
  simp only [List.length_nil, Int.natCast_zero] at h4
  refine ok_asm (value_1 (mn := .bool true) H 1 (by omega) (by omega)) (by omega) (by omega) k4 (fun a5 s5 c5 h5 k5 => ?_)
  refine ok_put (by omega) (by omega) k5 (by omega) (fun c6 k6 h6 => ?_)
  refine ok_cat (by simp; omega) (IsHelp.el hh) ?_
  refine ok_some ⟨a5, s5, ts, _, rfl, by omega, by omega, by omega, by omega, hts, htn, ?_, by simp, by simp; omega⟩
  intro x hx
  rcases List.mem_append.1 hx with hx | hx
  · simp only [List.mem_singleton] at hx
    exact ⟨p, 3 + q, c6, hx, by omega, by omega, k6, by omega, by omega⟩
  · exact hh x hx

set_option maxRecDepth 100000 in
set_option maxHeartbeats 4000000 in
theorem helpers_ok (x4 x5 x7 : PV) : ∀ (j : Nat) (k a s : Int) (hs : List PV), 0 ≤ k → k ≤ j → (0 ≤ a ∧ a + 1000000 + 100000 * k ≤ 900000000 ∧ 0 ≤ s ∧ s < 65521) → (∀ x ∈ hs, IsHelp x) → (hs.length : Int) + k ≤ 3 →
    Ok (DrawnP l (a + 1000000 + 100000 * k)) (spec_l01DrawModule_c8 (.int .i64 k) (bytesOf l) (.int .i64 a) (.int .i64 s) x4 x5 (.lst ts) x7 (.lst hs)) := by
  intro j
  induction j with
  | zero =>
    intro k a s hs hk1 hk2 h0 hh hn
    have : k = 0 := by omega
    subst this
    refine (main_ok hl hts htn (by omega) hh (by omega)).mono ?_
    rintro r ⟨a', s', ts', fs', hr, h1, h2, h3⟩
    exact ⟨a', s', ts', fs', hr, h1, by omega, h3⟩
  | succ j ih =>
    intro k a s hs hk1 hk2 h0 hh hn
    by_cases hk : k = 0
    · subst hk
      refine (main_ok hl hts htn (by omega) hh (by omega)).mono ?_
      rintro r ⟨a', s', ts', fs', hr, h1, h2, h3⟩
      exact ⟨a', s', ts', fs', hr, h1, by omega, h3⟩
    rw [spec_l01DrawModule_c8_eq]
    refine ok_gtr (ok_ite (fun _ => ?_) (fun h => by omega))
    refine ok_pick hl (by omega) (by omega) (fun p a1 s1 h1 => ?_)
    refine ok_one rfl (ok_add (by omega) ?_)
    refine ok_pick hl (by omega) (by omega) (fun q a2 s2 h2 => ?_)
    refine ok_add (by omega) (ok_one rfl (ok_len ?_))
    refine ok_cat0 (by omega) (IsHelp.el hh) (ok_one rfl (ok_one rfl ?_))
    have H : Asm l hs (ts.length : Int) (1 + p + q) := ⟨hl, hh, by omega, by omega, by omega⟩
    have C15 : ∀ (a s : Int) (cs : List PV), (0 ≤ a ∧ a + 1000000 + 100000 * (k - 1) + 1000 ≤ 900000000 ∧ 0 ≤ s ∧ s < 65521) → Cd cs → (cs.length : Int) ≤ 1000000 →
        Ok (DrawnP l (a + 1000000 + 100000 * (k - 1) + 1000)) (spec_l01DrawModule_c15 (.int .i64 k) (bytesOf l) (.int .i64 a) (.int .i64 s) (.int .i64 p) (.int .i64 (1 + p + q)) (.lst hs) (.int .i64 ts.length) (.int .i64 (1 + p + q)) (.bool false) x4 x5 (.lst ts) x7 (.lst hs) (.lst []) (.lst cs)) := by
      intro a s cs h0 hc hcl
      rw [spec_l01DrawModule_c15_eq]
      refine ok_asm (value_2 (mn := .bool false) H 2 (by omega) (by omega)) (by omega) (by omega) hc (fun a5 s5 c5 h5 k5 => ?_)
      refine ok_put (by omega) (by omega) k5 (by omega) (fun c6 k6 h6 => ?_)
      have hnew : ∀ x ∈ [PV.agg [.int .i64 p, .int .i64 (1 + p + q), .lst c6]], IsHelp x := by
        intro x hx
        simp only [List.mem_singleton] at hx
        exact ⟨p, 1 + p + q, c6, hx, by omega, by omega, k6, by omega, by omega⟩
      refine ok_cat (by simp; omega) (IsHelp.el hnew) (ok_sub (by omega) ?_)
      refine (ih (k - 1) a5 s5 (hs ++ [.agg [.int .i64 p, .int .i64 (1 + p + q), .lst c6]]) (by omega) (by omega) (by omega) (fun x hx => (List.mem_append.1 hx).elim (hh x) (hnew x)) (by simp; omega)).mono ?_
      rintro r ⟨a', s', ts', fs', hr, h1, h2, h3⟩
      exact ⟨a', s', ts', fs', hr, h1, by omega, h3⟩
    refine ok_once hl (by omega) (by omega) (fun b a3 s3 h3 => ?_)
    refine ok_ite_b (fun _ => ?_) (fun _ => ?_)
    · refine ok_asm (list_1 (mn := .bool false) H 1 (by omega) (by omega)) (by omega) (by simp) Cd.nil (fun a4 s4 c4 h4 k4 => ?_)
      simp only [List.length_nil, Int.natCast_zero] at h4
      refine (C15 a4 s4 c4 (by omega) k4 (by omega)).mono ?_
      rintro r ⟨a', s', ts', fs', hr, h1, h2, h3⟩
      exact ⟨a', s', ts', fs', hr, h1, by omega, h3⟩
    · refine (C15 a3 s3 [] (by omega) Cd.nil (by simp)).mono ?_
      rintro r ⟨a', s', ts', fs', hr, h1, h2, h3⟩
      exact ⟨a', s', ts', fs', hr, h1, by omega, h3⟩

end

theorem txts_lit : ∀ x ∈ [PV.str (bs []), PV.str (bs [97]), PV.str (bs [98, 99]), PV.str (bs [104, 101, 108, 108, 111, 32, 119, 111, 114, 108, 100]), PV.str (bs [120, 32, 121])], IsTxt x := by
  intro x hx
  simp only [List.mem_cons, List.not_mem_nil, or_false] at hx
  rcases hx with rfl | rfl | rfl | rfl | rfl <;> exact ⟨_, rfl, Nat.le_of_ble_eq_true rfl⟩

theorem texts_ok {l : List Int} (hl : Bts l) (x4 x5 : PV) : ∀ (j : Nat) (k a s : Int) (ts : List PV), 0 ≤ k → k ≤ j → (0 ≤ a ∧ a + 2000000 + k ≤ 900000000 ∧ 0 ≤ s ∧ s < 65521) → (∀ x ∈ ts, IsTxt x) → (ts.length : Int) + k ≤ 10 →
    Ok (DrawnP l (a + 2000000 + k)) (spec_l01DrawModule_c3 (.int .i64 k) (bytesOf l) (.int .i64 a) (.int .i64 s) x4 x5 (.lst ts) (.lst [])) := by
  intro j
  induction j with
  | zero =>
    intro k a s ts hk1 hk2 h0 ht hn
    rw [spec_l01DrawModule_c3_eq]
    refine ok_gtr (ok_ite (fun h => by omega) (fun _ => ?_))
    refine ok_pick hl (by omega) (by omega) (fun p a1 s1 h1 => ?_)
    refine (helpers_ok hl ht (by omega) x4 x5 (.lst []) 3 p a1 s1 [] (by omega) (by omega) (by omega) (fun x hx => by cases hx) (by simp; omega)).mono ?_
    rintro r ⟨a', s', ts', fs', hr, h1, h2, h3⟩
    exact ⟨a', s', ts', fs', hr, h1, by omega, h3⟩
  | succ j ih =>
    intro k a s ts hk1 hk2 h0 ht hn
    rw [spec_l01DrawModule_c3_eq]
    refine ok_gtr (ok_ite (fun _ => ?_) (fun _ => ?_))
    · refine ok_pick hl (by omega) (by omega) (fun p a1 s1 h1 => ?_)
      refine ok_inb (by omega) (by simp; omega) ?_
      refine ok_at (by omega) (by simp; omega) (IsTxt.el txts_lit) (fun x hx _ => ?_)
      have hone : ∀ y ∈ [x], IsTxt y := fun y hy => by simp only [List.mem_singleton] at hy; rw [hy]; exact txts_lit x hx
      refine ok_cat0 (by simp) (IsTxt.el hone) ?_
      refine ok_cat (by simp; omega) (IsTxt.el hone) (ok_sub (by omega) ?_)
      refine (ih (k - 1) a1 s1 (ts ++ [x]) (by omega) (by omega) (by omega) (fun y hy => (List.mem_append.1 hy).elim (ht y) (hone y)) (by simp; omega)).mono ?_
      rintro r ⟨a', s', ts', fs', hr, h1, h2, h3⟩
      exact ⟨a', s', ts', fs', hr, h1, by omega, h3⟩
    · refine ok_pick hl (by omega) (by omega) (fun p a1 s1 h1 => ?_)
      refine (helpers_ok hl ht (by omega) x4 x5 (.lst []) 3 p a1 s1 [] (by omega) (by omega) (by omega) (fun x hx => by cases hx) (by simp; omega)).mono ?_
      rintro r ⟨a', s', ts', fs', hr, h1, h2, h3⟩
      exact ⟨a', s', ts', fs', hr, h1, by omega, h3⟩

theorem drawModule_ok {l : List Int} (hl : Bts l) {a s : Int} (h0 : 0 ≤ a ∧ a ≤ 800000000 ∧ 0 ≤ s ∧ s < 65521) : Ok (DrawnP l (a + 3000000)) (spec_l01DrawModule (bytesOf l) (.int .i64 a) (.int .i64 s)) := by
  rw [spec_l01DrawModule_eq]
  refine ok_pick hl (by omega) (by omega) (fun p a1 s1 h1 => ?_)
  refine (texts_ok hl (.lst []) (.lst []) 2 p a1 s1 [] (by omega) (by omega) (by omega) (fun x hx => by cases hx) (by simp; omega)).mono ?_
  rintro r ⟨a', s', ts', fs', hr, h1, h2, h3⟩
  exact ⟨a', s', ts', fs', hr, h1, by omega, h3⟩

/-- A copy is the same. -/
theorem copy_loop {ts fs : List PV} (hf : ∀ x ∈ fs, IsHelp x) (hn : fs.length ≤ 100) (x3 x4 : PV) : ∀ (j i : Nat), fs.length - i = j → i ≤ fs.length →
    Ok (fun r => r = [.lst ts, .lst fs]) (spec_l01CopyModule_c3 (.int .i64 i) (.lst ts) (.lst fs) x3 x4 (.lst ts) (.lst (fs.take i))) := by
  intro j
  induction j with
  | zero =>
    intro i h1 h2
    rw [spec_l01CopyModule_c3_eq]
    have : i = fs.length := by omega
    subst this
    refine ok_len (ok_lss (ok_ite (fun h => by omega) (fun _ => ok_some ?_)))
    rw [List.take_length]
  | succ j ih =>
    intro i h1 h2
    rw [spec_l01CopyModule_c3_eq]
    refine ok_len (ok_lss (ok_ite (fun _ => ?_) (fun h => by omega)))
    refine ok_at (by omega) (by omega) (IsHelp.el hf) (fun x hx hi => ?_)
    obtain ⟨p, lc, cs, rfl, hp, hlc, hc, hc1, hc2⟩ := hf x hx
    refine ok_whole rfl (ok_cell rfl (ok_cell rfl (ok_cell rfl ?_)))
    refine ok_cat0 (by omega) hc.el (ok_one rfl (ok_one rfl ?_))
    have hone : ∀ y ∈ [PV.agg [.int .i64 p, .int .i64 lc, .lst cs]], IsHelp y := fun y hy => by
      simp only [List.mem_singleton] at hy
      exact ⟨p, lc, cs, hy, hp, hlc, hc, hc1, hc2⟩
    refine ok_cat (by simp; omega) (IsHelp.el hone) (ok_add (by omega) ?_)
    have htk : fs.take i ++ [PV.agg [.int .i64 p, .int .i64 lc, .lst cs]] = fs.take (i + 1) := by
      have hi' : fs[i]? = some (.agg [.int .i64 p, .int .i64 lc, .lst cs]) := by simpa using hi
      rw [List.take_add_one, hi']; rfl
    rw [htk]
    exact ih (i + 1) (by omega) (by omega)

theorem copy_ok {ts fs : List PV} (ht : ∀ x ∈ ts, IsTxt x) (htn : ts.length ≤ 10) (hf : ∀ x ∈ fs, IsHelp x) (hn : fs.length ≤ 100) :
    Ok (fun r => r = [.lst ts, .lst fs]) (spec_l01CopyModule (.agg [.lst ts, .lst fs])) := by
  rw [spec_l01CopyModule_eq]
  refine ok_whole rfl (ok_cell rfl (ok_cell rfl ?_))
  refine ok_cat0 (by omega) (IsTxt.el ht) ?_
  have := copy_loop (ts := ts) hf hn (.lst []) (.lst []) fs.length 0 (by omega) (by omega)
  exact this

end Go.Proofs.Ytkcilikjhgkakaa

namespace Go.Proofs.Ytkcilikjhgkakaa
open Go
attribute [local irreducible] bd PV.ite PV.guardFlat PV.guardOwn PV.whole PV.one PV.cell PV.sub PV.at_ PV.len PV.slen PV.chr PV.beq PV.peq PV.ceq PV.bin PV.neg PV.not PV.conv PV.cut PV.scut PV.cat PV.setAt PV.setCell PV.ncopy PV.copyIn PV.zeros PV.toStr PV.toBytes PV.deref PV.isPtr PV.comp PV.inb PV.off PV.imin PV.imax PV.sel PV.apply

/-- A function of a module. -/
def IsFun (x : PV) : Prop := ∃ p lc : Int, ∃ cs : List PV, x = .agg [.int .i64 p, .int .i64 lc, .lst cs] ∧ (-9223372036854775808 ≤ p ∧ p ≤ 9223372036854775807) ∧ (-9223372036854775808 ≤ lc ∧ lc ≤ 9223372036854775807) ∧ Cd cs ∧ (cs.length : Int) ≤ 200000000

theorem IsHelp.toFun {x : PV} (h : IsHelp x) : IsFun x := by
  obtain ⟨p, lc, cs, rfl, h1, h2, h3, h4, h5⟩ := h
  exact ⟨p, lc, cs, rfl, by omega, by omega, h3, by omega⟩

theorem IsFun.el {fs : List PV} (h : ∀ x ∈ fs, IsFun x) : ∀ x ∈ fs, x.isEl 3 true = true := by
  intro x hx
  obtain ⟨p, lc, cs, rfl, _⟩ := h x hx
  rfl

/-- A module. -/
def ModP (l : List Int) (A : Int) (r : R) : Prop := ∃ a s : Int, ∃ ts fs : List PV, r = [.agg [.lst ts, .lst fs], bytesOf l, .int .i64 a, .int .i64 s] ∧ 0 ≤ a ∧ a ≤ A ∧ 0 ≤ s ∧ s < 65521 ∧ (∀ x ∈ ts, IsTxt x) ∧ ts.length ≤ 100 ∧ (∀ x ∈ fs, IsFun x) ∧ fs.length ≤ 100

theorem flat_txts : ∀ {ts : List PV}, (∀ x ∈ ts, IsTxt x) → PV.flatEs false [] ts = true
  | [], _ => by simp [PV.flatEs]
  | x :: r, h => by
    obtain ⟨b, rfl, _⟩ := h x List.mem_cons_self
    simp [PV.flatEs, PV.flatE, PV.flat, flat_txts (fun y hy => h y (List.mem_cons_of_mem _ hy))]

theorem flat_code : ∀ {cs : List PV}, Cd cs → PV.flatEs true [] cs = true
  | [], _ => by simp [PV.flatEs]
  | x :: r, h => by
    obtain ⟨o, a, rfl, _⟩ := h x List.mem_cons_self
    simp [PV.flatEs, PV.flatE, PV.flatCs, PV.flat, flat_code (fun y hy => h y (List.mem_cons_of_mem _ hy))]

theorem flat_funs : ∀ {fs : List PV}, (∀ x ∈ fs, IsFun x) → PV.flatEs true [.leaf, .leaf, .own 2 16 true []] fs = true
  | [], _ => by simp [PV.flatEs]
  | x :: r, h => by
    obtain ⟨p, lc, cs, rfl, _, _, hc, _⟩ := h x List.mem_cons_self
    simp [PV.flatEs, PV.flatE, PV.flatCs, PV.flat, flat_code hc, flat_funs (fun y hy => h y (List.mem_cons_of_mem _ hy))]

theorem ok_fun {fs : List PV} (hf : ∀ x ∈ fs, IsFun x) {P : R → Prop} {k : PV → Option R} {i : Int} {x : PV} (h0 : 0 ≤ i) (hx : fs[i.toNat]? = some x) (h : Ok P (k x)) : Ok P (bd (PV.at_ 3 true (.lst fs) (.int .i64 i)) k) := by
  refine ok_at h0 (by have := (List.getElem?_eq_some_iff.1 hx).1; omega) (IsFun.el hf) (fun y _ hy => ?_)
  rw [hx] at hy
  cases hy
  exact h

theorem ok_setOp {P : R → Prop} {k : PV → Option R} {cs : List PV} {i n : Int} (hc : Cd cs) (h0 : 0 ≤ i) (h1 : i < cs.length) (hn : -9223372036854775808 ≤ n ∧ n ≤ 9223372036854775807) (h : ∀ cs' : List PV, Cd cs' → (cs'.length : Int) = cs.length → Ok P (k (.lst cs'))) :
    Ok P (bd (PV.setCell 2 (.lst cs) (.int .i64 i) 0 (.int .i64 n)) k) := by
  have hlt : i.toNat < cs.length := by omega
  have hx : cs[i.toNat]? = some cs[i.toNat] := List.getElem?_eq_getElem hlt
  obtain ⟨o, a, he, ho, ha⟩ := hc _ (List.mem_of_getElem? hx)
  rw [he] at hx
  refine ok_setCell h0 hx rfl (by omega) rfl (h _ (fun x hm => ?_) (by rw [List.length_set]))
  rcases List.mem_or_eq_of_mem_set hm with h | h
  · exact hc x h
  · exact ⟨n, a, h, hn, ha⟩

theorem IsFun.set {fs : List PV} (hf : ∀ x ∈ fs, IsFun x) {i : Nat} {y : PV} (hy : IsFun y) : ∀ x ∈ fs.set i y, IsFun x := by
  intro x hx
  rcases List.mem_or_eq_of_mem_set hx with h | h
  · exact hf x h
  · rw [h]; exact hy

section
variable {l : List Int} (hl : Bts l) {ts : List PV} (ht : ∀ x ∈ ts, IsTxt x) (htn : ts.length ≤ 20)
include hl ht htn

/-- Functions are added. -/
theorem spoil_c21 (x3 x4 : PV) : ∀ (j : Nat) (a s : Int) (fs : List PV), 13 - fs.length ≤ j → (0 ≤ a ∧ a + j + 1 ≤ 900000000 ∧ 0 ≤ s ∧ s < 65521) → (∀ x ∈ fs, IsFun x) → fs.length ≤ 50 →
    Ok (ModP l (a + j + 1)) (spec_l01Spoil_c21 (bytesOf l) (.int .i64 a) (.int .i64 s) x3 x4 (.lst ts) (.lst fs)) := by
  intro j
  induction j with
  | zero =>
    intro a s fs hj h0 hf hn
    rw [spec_l01Spoil_c21_eq]
    refine ok_len (ok_pick hl (by omega) (by omega) (fun p a1 s1 h1 => ?_))
    refine ok_add (by omega) (ok_lss (ok_ite (fun _ => by omega) (fun _ => ?_)))
    exact ok_some ⟨a1, s1, ts, fs, rfl, by omega, by omega, by omega, by omega, ht, by omega, hf, by omega⟩
  | succ j ih =>
    intro a s fs hj h0 hf hn
    rw [spec_l01Spoil_c21_eq]
    refine ok_len (ok_pick hl (by omega) (by omega) (fun p a1 s1 h1 => ?_))
    refine ok_add (by omega) (ok_lss (ok_ite (fun _ => ?_) (fun _ => ?_)))
    · have hone : ∀ y ∈ [PV.agg [.int .i64 0, .int .i64 0, .lst [.agg [.int .i64 4, .int .i64 0], .agg [.int .i64 25, .int .i64 0]]]], IsFun y := fun y hy => by
        simp only [List.mem_singleton] at hy
        exact ⟨0, 0, _, hy, by omega, by omega, (Cd.one (by omega) (by omega)).append (Cd.one (by omega) (by omega)), by simp⟩
      refine ok_cat (by simp; omega) (IsFun.el hone) ?_
      refine (ih a1 s1 _ (by simp; omega) (by omega) (fun x hx => (List.mem_append.1 hx).elim (hf x) (hone x)) (by simp; omega)).mono ?_
      rintro r ⟨a', s', ts', fs', hr, h1, h2, h3⟩
      exact ⟨a', s', ts', fs', hr, h1, by omega, h3⟩
    · exact ok_some ⟨a1, s1, ts, fs, rfl, by omega, by omega, by omega, by omega, ht, by omega, hf, by omega⟩

/-- Instructions are added. -/
theorem spoil_c6 (x3 x4 : PV) (f o i : Int) (hf0 : 0 ≤ f) (ho : -9223372036854775808 ≤ o ∧ o ≤ 9223372036854775807) (hi : -9223372036854775808 ≤ i ∧ i ≤ 9223372036854775807) :
    ∀ (j : Nat) (a s : Int) (fs : List PV) (p lc : Int) (cs : List PV), fs[f.toNat]? = some (.agg [.int .i64 p, .int .i64 lc, .lst cs]) → 121 - cs.length ≤ j → (0 ≤ a ∧ a + j + 1 ≤ 900000000 ∧ 0 ≤ s ∧ s < 65521) → (∀ x ∈ fs, IsFun x) → fs.length ≤ 50 →
    Ok (ModP l (a + j + 1)) (spec_l01Spoil_c6 (.int .i64 f) (bytesOf l) (.int .i64 a) (.int .i64 s) (.int .i64 o) (.int .i64 i) x3 x4 (.lst ts) (.lst fs)) := by
  intro j
  induction j with
  | zero =>
    intro a s fs p lc cs hx hj h0 hf hn
    rw [spec_l01Spoil_c6_eq]
    have hlt := (List.getElem?_eq_some_iff.1 hx).1
    refine ok_inb hf0 (by omega) (ok_fun hf hf0 hx (ok_fun hf hf0 hx (ok_cell rfl (ok_len (ok_pick hl (by omega) (by omega) (fun q a1 s1 h1 => ?_))))))
    refine ok_add (by omega) (ok_lss (ok_ite (fun _ => by omega) (fun _ => ?_)))
    exact ok_some ⟨a1, s1, ts, fs, rfl, by omega, by omega, by omega, by omega, ht, by omega, hf, by omega⟩
  | succ j ih =>
    intro a s fs p lc cs hx hj h0 hf hn
    rw [spec_l01Spoil_c6_eq]
    have hlt := (List.getElem?_eq_some_iff.1 hx).1
    obtain ⟨p', lc', cs', he, hp, hlc, hc, hcl⟩ := hf _ (List.mem_of_getElem? hx)
    cases he
    refine ok_inb hf0 (by omega) (ok_fun hf hf0 hx (ok_fun hf hf0 hx (ok_cell rfl (ok_len (ok_pick hl (by omega) (by omega) (fun q a1 s1 h1 => ?_))))))
    refine ok_add (by omega) (ok_lss (ok_ite (fun _ => ?_) (fun _ => ?_)))
    · refine ok_inb hf0 (by omega) (ok_fun hf hf0 hx (ok_fun hf hf0 hx (ok_cell rfl (ok_fun hf hf0 hx (ok_cell rfl ?_)))))
      refine ok_setCell hf0 hx rfl (by omega) rfl ?_
      refine ok_cat (by simp; omega) (Cd.one ho hi).el ?_
      refine ok_inb hf0 (by rw [List.length_set]; omega) ?_
      refine ok_setCell (cs := [.int .i64 p, .int .i64 lc, .hole]) hf0 (List.getElem?_set_self hlt) rfl (by omega) rfl ?_
      rw [List.set_set]
      have hcode : Cd (cs ++ [.agg [.int .i64 o, .int .i64 i]]) := hc.append (Cd.one ho hi)
      refine (ih a1 s1 _ p lc (cs ++ [.agg [.int .i64 o, .int .i64 i]]) (List.getElem?_set_self hlt) (by simp; omega) (by omega) (IsFun.set hf ⟨p, lc, _, rfl, hp, hlc, hcode, by simp; omega⟩) (by rw [List.length_set]; exact hn)).mono ?_
      rintro r ⟨a', s', ts', fs', hr, h1, h2, h3⟩
      exact ⟨a', s', ts', fs', hr, h1, by omega, h3⟩
    · exact ok_some ⟨a1, s1, ts, fs, rfl, by omega, by omega, by omega, by omega, ht, by omega, hf, by omega⟩

end

theorem txts_lit2 : ∀ x ∈ [PV.str (bs [113, 34]), PV.str (bs [10]), PV.str (bs [48, 49, 50, 51, 52, 53, 54, 55, 56, 57, 48, 49, 50, 51, 52, 53, 54, 55, 56, 57, 48, 49, 50, 51, 52, 53, 54, 55, 56, 57, 48, 49, 50, 51, 52, 53, 54, 55, 56, 57, 48, 49, 50, 51, 52, 53, 54, 55, 56, 57, 48, 49, 50, 51, 52, 53, 54, 55, 56, 57, 48]), PV.str (bs [195, 169])], IsTxt x := by
  intro x hx
  simp only [List.mem_cons, List.not_mem_nil, or_false] at hx
  rcases hx with rfl | rfl | rfl | rfl <;> exact ⟨_, rfl, Nat.le_of_ble_eq_true rfl⟩

set_option maxRecDepth 100000 in
set_option maxHeartbeats 4000000 in
theorem spoil_ok {l : List Int} (hl : Bts l) {ts fs : List PV} (ht : ∀ x ∈ ts, IsTxt x) (htn : ts.length ≤ 10) (hh : ∀ x ∈ fs, IsHelp x) (hn1 : 1 ≤ fs.length) (hn : fs.length ≤ 10) {a s : Int} (h0 : 0 ≤ a ∧ a ≤ 850000000 ∧ 0 ≤ s ∧ s < 65521) :
    Ok (ModP l (a + 1000)) (spec_l01Spoil (.lst ts) (.lst fs) (bytesOf l) (.int .i64 a) (.int .i64 s)) := by
  have hf : ∀ x ∈ fs, IsFun x := fun x hx => (hh x hx).toFun
  rw [spec_l01Spoil_eq]
  refine ok_call (copy_ok ht htn hh (by omega)) (fun r hr => ?_)
  subst hr
  refine ok_own (flat_txts ht) (ok_own (flat_funs hf) ?_)
  refine ok_len (ok_pick hl (by omega) (by omega) (fun f a1 s1 h1 => ?_))
  have hlt : f.toNat < fs.length := by omega
  have hx : fs[f.toNat]? = some fs[f.toNat] := List.getElem?_eq_getElem hlt
  obtain ⟨p, lc, cs, he, hp, hlc, hc, hc1, hcl⟩ := hh _ (List.mem_of_getElem? hx)
  rw [he] at hx
  refine ok_inb (by omega) (by omega) (ok_fun hf (by omega) hx (ok_fun hf (by omega) hx (ok_cell rfl (ok_len (ok_pick hl (by omega) (by omega) (fun i a2 s2 h2 => ?_))))))
  refine ok_pick hl (by omega) (by omega) (fun q a3 s3 h3 => ?_)
  have hset : ∀ cs' : List PV, Cd cs' → (cs'.length : Int) ≤ cs.length → ∀ x ∈ fs.set f.toNat (.agg [.int .i64 p, .int .i64 lc, .lst cs']), IsFun x := fun cs' h1 h2 => IsFun.set hf ⟨p, lc, cs', rfl, by omega, by omega, h1, by omega⟩
  refine ok_eql (ok_ite (fun _ => ?_) (fun _ => ?_))
  · refine ok_inb (by omega) (by omega) (ok_fun hf (by omega) hx (ok_pick hl (by omega) (by omega) (fun w a4 s4 h4 => ?_)))
    refine ok_sub (by omega) (ok_fun hf (by omega) hx (ok_cell rfl (ok_inb (by omega) (by omega) (ok_fun hf (by omega) hx (ok_cell rfl (ok_one rfl (ok_fun hf (by omega) hx (ok_cell rfl ?_))))))))
    refine ok_setOp hc (by omega) (by omega) (by omega) (fun cs' hc' hl' => ok_fun hf (by omega) hx (ok_cell rfl ?_))
    refine ok_setCell (by omega) hx rfl (by omega) rfl ?_
    exact ok_some ⟨a4, s4, ts, _, rfl, by omega, by omega, by omega, by omega, ht, by omega, hset cs' hc' (by omega), by rw [List.length_set]; omega⟩
  refine ok_eql (ok_ite (fun _ => ?_) (fun _ => ?_))
  · refine ok_inb (by omega) (by omega) (ok_fun hf (by omega) hx (ok_number hl (by omega) (fun w a4 s4 h4 => ?_)))
    refine ok_fun hf (by omega) hx (ok_cell rfl (ok_inb (by omega) (by omega) (ok_fun hf (by omega) hx (ok_cell rfl (ok_one rfl (ok_fun hf (by omega) hx (ok_cell rfl ?_)))))))
    refine ok_setCode hc (by omega) (by omega) (by omega) (fun cs' hc' hl' => ok_fun hf (by omega) hx (ok_cell rfl ?_))
    refine ok_setCell (by omega) hx rfl (by omega) rfl ?_
    exact ok_some ⟨a4, s4, ts, _, rfl, by omega, by omega, by omega, by omega, ht, by omega, hset cs' hc' (by omega), by rw [List.length_set]; omega⟩
  refine ok_eql (ok_ite (fun _ => ?_) (fun _ => ?_))
  · refine ok_pick hl (by omega) (by omega) (fun w a4 s4 h4 => ?_)
    refine ok_sub (by omega) (ok_inb (by omega) (by omega) (ok_one rfl ?_))
    refine ok_setCell (by omega) hx rfl (by omega) rfl ?_
    exact ok_some ⟨a4, s4, ts, _, rfl, by omega, by omega, by omega, by omega, ht, by omega, IsFun.set hf ⟨w - 1, lc, cs, rfl, by omega, by omega, hc, by omega⟩, by rw [List.length_set]; omega⟩
  refine ok_eql (ok_ite (fun _ => ?_) (fun _ => ?_))
  · refine ok_pick hl (by omega) (by omega) (fun w a4 s4 h4 => ?_)
    refine ok_inb (by omega) (by simp; omega) (ok_lits rfl (by omega) (by simp; omega) (fun y hy => ?_))
    refine ok_inb (by omega) (by omega) (ok_one rfl ?_)
    refine ok_setCell (by omega) hx rfl (by omega) rfl ?_
    exact ok_some ⟨a4, s4, ts, _, rfl, by omega, by omega, by omega, by omega, ht, by omega, IsFun.set hf ⟨p, y, cs, rfl, by omega, by omega, hc, by omega⟩, by rw [List.length_set]; omega⟩
  refine ok_eql (ok_ite (fun _ => ?_) (fun _ => ?_))
  · refine ok_pick hl (by omega) (by omega) (fun w a4 s4 h4 => ?_)
    refine ok_inb (by omega) (by simp; omega) (ok_at (by omega) (by simp; omega) (IsTxt.el txts_lit2) (fun y hy _ => ?_))
    have hone : ∀ z ∈ [y], IsTxt z := fun z hz => by simp only [List.mem_singleton] at hz; rw [hz]; exact txts_lit2 y hy
    refine ok_cat0 (by simp) (IsTxt.el hone) (ok_cat (by simp; omega) (IsTxt.el hone) ?_)
    exact ok_some ⟨a4, s4, _, fs, rfl, by omega, by omega, by omega, by omega, fun z hz => (List.mem_append.1 hz).elim (ht z) (hone z), by simp; omega, hf, by omega⟩
  refine ok_eql (ok_ite (fun _ => ?_) (fun _ => ?_))
  · refine ok_inb (by omega) (by omega) (ok_fun hf (by omega) hx (ok_fun hf (by omega) hx (ok_cell rfl (ok_cut_code hc (by omega) (by omega) (by omega) (fun c1 k1 e1 => ?_)))))
    refine ok_inb (by omega) (by omega) (ok_fun hf (by omega) hx (ok_add (by omega) (ok_fun hf (by omega) hx (ok_cell rfl (ok_len (ok_cut_code hc (by omega) (by omega) (by omega) (fun c2 k2 e2 => ?_)))))))
    refine ok_fun hf (by omega) hx (ok_cell rfl (ok_fun hf (by omega) hx (ok_cell rfl (ok_cut_code hc (by omega) (by omega) (by omega) (fun c3 k3 e3 => ?_)))))
    refine ok_cut_code hc (by omega) (by omega) (by omega) (fun c4 k4 e4 => ok_fun hf (by omega) hx (ok_cell rfl ?_))
    refine ok_setCell (by omega) hx rfl (by omega) rfl ?_
    refine ok_cat (by omega) k3.el ?_
    refine ok_inb (by omega) (by rw [List.length_set]; omega) ?_
    refine ok_setCell (cs := [.int .i64 p, .int .i64 lc, .hole]) (by omega) (List.getElem?_set_self hlt) rfl (by omega) rfl ?_
    rw [List.set_set]
    exact ok_some ⟨a3, s3, ts, _, rfl, by omega, by omega, by omega, by omega, ht, by omega, hset _ (k4.append k3) (by rw [List.length_append]; omega), by rw [List.length_set]; omega⟩
  refine ok_eql (ok_ite (fun _ => ?_) (fun _ => ?_))
  · refine (spoil_c21 hl ht (by omega) (.lst []) (.lst []) 13 a3 s3 fs (by omega) (by omega) hf (by omega)).mono ?_
    rintro r ⟨a', s', ts', fs', hr, h1, h2, h3⟩
    exact ⟨a', s', ts', fs', hr, h1, by omega, h3⟩
  · refine ok_inb (by omega) (by omega) (ok_fun hf (by omega) hx (ok_fun hf (by omega) hx (ok_cell rfl (ok_inb (by omega) (by omega) (ok_fun hf (by omega) hx (ok_cell rfl ?_))))))
    refine ok_at (by omega) (by omega) hc.el (fun y hy _ => ?_)
    obtain ⟨o, b, rfl, ho, hb⟩ := hc y hy
    refine ok_whole rfl (ok_cell rfl (ok_cell rfl ?_))
    refine (spoil_c6 hl ht (by omega) (.lst []) (.lst []) f o b (by omega) ho hb 121 a3 s3 fs p lc cs hx (by omega) (by omega) hf (by omega)).mono ?_
    rintro r ⟨a', s', ts', fs', hr, h1, h2, h3⟩
    exact ⟨a', s', ts', fs', hr, h1, by omega, h3⟩

theorem drawAny_ok {l : List Int} (hl : Bts l) {n a s : Int} (hn : 1 ≤ n ∧ n ≤ 1000) (h0 : 0 ≤ a ∧ a ≤ 800000000 ∧ 0 ≤ s ∧ s < 65521) : Ok (ModP l (a + 4000000)) (spec_l01DrawAny (.int .i64 n) (bytesOf l) (.int .i64 a) (.int .i64 s)) := by
  rw [spec_l01DrawAny_eq]
  refine ok_call (drawModule_ok hl h0) ?_
  rintro r ⟨a1, s1, ts, fs, rfl, h1, h2, h3, h4, ht, htn, hf, hn1, hn2⟩
  refine ok_whole rfl (ok_cell rfl (ok_cell rfl ?_))
  refine ok_once hl (by omega) (by omega) (fun b a2 s2 h5 => ok_ite_b (fun _ => ?_) (fun _ => ?_))
  · refine ok_call (spoil_ok hl ht htn hf hn1 hn2 (by omega)) ?_
    rintro r ⟨a3, s3, ts3, fs3, rfl, g1, g2, g3, g4, g5, g6, g7, g8⟩
    refine ok_whole rfl (ok_cell rfl (ok_cell rfl ?_))
    exact ok_some ⟨a3, s3, ts3, fs3, rfl, by omega, by omega, by omega, by omega, g5, g6, g7, g8⟩
  · exact ok_some ⟨a2, s2, ts, fs, rfl, by omega, by omega, by omega, by omega, ht, by omega, fun x hx => (hf x hx).toFun, by omega⟩

theorem ok_open {l : List Int} (hl : Bts l) {P : R → Prop} {k : R → Option R} (h : ∀ s : Int, 0 ≤ s ∧ s < 65521 → Ok P (k [bytesOf l, .int .i64 0, .int .i64 s])) : Ok P (bd (spec_l01Open (bytesOf l)) k) := by
  refine ok_call (Q := fun r => ∃ s : Int, r = [bytesOf l, .int .i64 0, .int .i64 s] ∧ 0 ≤ s ∧ s < 65521) ?_ (fun r ⟨s, hr, hs⟩ => by rw [hr]; exact h s hs)
  rw [spec_l01Open_eq]
  refine ok_bytes_len (ok_rem (by omega) (by omega) (ok_add (by omega) (ok_one rfl (ok_one rfl (ok_some ⟨_, rfl, by omega, by omega⟩)))))

/-- A module that is drawn. -/
def IsMod (x : PV) : Prop := ∃ ts fs : List PV, x = .agg [.lst ts, .lst fs] ∧ (∀ x ∈ ts, IsTxt x) ∧ ts.length ≤ 100 ∧ (∀ x ∈ fs, IsFun x) ∧ fs.length ≤ 100

theorem drawSave_ok {l : List Int} (hl : Bts l) : Ok (fun r => ∃ m, r = [m] ∧ IsMod m) (spec_DrawSave (bytesOf l)) := by
  rw [spec_DrawSave_eq]
  refine ok_open hl (fun s hs => ok_call (drawAny_ok hl (by omega) (by omega)) ?_)
  rintro r ⟨a1, s1, ts, fs, rfl, h1, h2, h3, h4, ht, htn, hf, hn⟩
  exact ok_whole rfl (ok_cell rfl (ok_cell rfl (ok_some ⟨_, rfl, ts, fs, rfl, ht, htn, hf, hn⟩)))

end Go.Proofs.Ytkcilikjhgkakaa

namespace Go.Proofs.Ytkcilikjhgkakaa
open Go
attribute [local irreducible] bd PV.ite PV.guardFlat PV.guardOwn PV.whole PV.one PV.cell PV.sub PV.at_ PV.len PV.slen PV.chr PV.beq PV.peq PV.ceq PV.bin PV.neg PV.not PV.conv PV.cut PV.scut PV.cat PV.setAt PV.setCell PV.ncopy PV.copyIn PV.zeros PV.toStr PV.toBytes PV.deref PV.isPtr PV.comp PV.inb PV.off PV.imin PV.imax PV.sel PV.apply

def Byt (l : List Int) : Prop := ∀ x ∈ l, 0 ≤ x ∧ x ≤ 255

theorem txts_of : ∀ {ts : List PV}, (∀ x ∈ ts, IsTxt x) → ∃ l : List ByteArray, ts = l.map PV.str ∧ ∀ t ∈ l, t.size ≤ 1000
  | [], _ => ⟨[], rfl, fun t ht => by cases ht⟩
  | x :: r, h => by
    obtain ⟨b, rfl, hb⟩ := h x List.mem_cons_self
    obtain ⟨l, rfl, hl⟩ := txts_of (fun y hy => h y (List.mem_cons_of_mem _ hy))
    refine ⟨b :: l, rfl, fun t ht => ?_⟩
    rcases List.mem_cons.1 ht with rfl | ht
    · exact hb
    · exact hl t ht

theorem code_of : ∀ {cs : List PV}, Cd cs → ∃ l : List InsT, cs = l.map InsT.pv
  | [], _ => ⟨[], rfl⟩
  | x :: r, h => by
    obtain ⟨o, a, rfl, _⟩ := h x List.mem_cons_self
    obtain ⟨l, rfl⟩ := code_of (fun y hy => h y (List.mem_cons_of_mem _ hy))
    exact ⟨⟨o, a⟩ :: l, rfl⟩

theorem funs_of : ∀ {fs : List PV}, (∀ x ∈ fs, IsFun x) → ∃ l : List FnT, fs = l.map FnT.pv ∧ ∀ f ∈ l, f.code.length ≤ 1000000000
  | [], _ => ⟨[], rfl, fun t ht => by cases ht⟩
  | x :: r, h => by
    obtain ⟨p, lc, cs, rfl, _, _, hc, hl⟩ := h x List.mem_cons_self
    obtain ⟨l, rfl, hl2⟩ := funs_of (fun y hy => h y (List.mem_cons_of_mem _ hy))
    obtain ⟨c, rfl⟩ := code_of hc
    refine ⟨⟨p, lc, c⟩ :: l, rfl, fun t ht => ?_⟩
    rcases List.mem_cons.1 ht with rfl | ht
    · rw [List.length_map] at hl
      show c.length ≤ _
      omega
    · exact hl2 t ht

theorem mod_of {ts fs : List PV} (h1 : ∀ x ∈ ts, IsTxt x) (h2 : ts.length ≤ 100) (h3 : ∀ x ∈ fs, IsFun x) (h4 : fs.length ≤ 100) : ∃ m : MdT, PV.agg [.lst ts, .lst fs] = m.pv ∧ m.sized := by
  obtain ⟨t, rfl, ht⟩ := txts_of h1
  obtain ⟨f, rfl, hf⟩ := funs_of h3
  rw [List.length_map] at h2 h4
  exact ⟨⟨t, f⟩, rfl, by show t.length ≤ _; omega, by show f.length ≤ _; omega, fun x hx => by have := ht x hx; omega, hf⟩

theorem big_ok {l : List Int} (hb : Byt l) {P : R → Prop} {k : R → Option R} (h1 : Bts l → Ok P (k [.bool false])) (h2 : Ok P (k [.bool true])) : Ok P (bd (laws_big (bytesOf l)) k) := by
  refine ok_call (Q := fun r => r = [.bool (decide ((1048576 : Int) < l.length))]) ?_ (fun r hr => ?_)
  · rw [laws_big_eq]
    exact ok_bytes_len (ok_gtr (ok_some rfl))
  · subst hr
    by_cases h : (1048576 : Int) < l.length
    · rw [decide_eq_true h]; exact h2
    · rw [decide_eq_false h]; exact h1 ⟨hb, by omega⟩

end Go.Proofs.Ytkcilikjhgkakaa

namespace Go.Proofs.Ytkcilikjhgkakaa
open Go
attribute [local irreducible] bd PV.ite PV.guardFlat PV.guardOwn PV.whole PV.one PV.cell PV.sub PV.at_ PV.len PV.slen PV.chr PV.beq PV.peq PV.ceq PV.bin PV.neg PV.not PV.conv PV.cut PV.scut PV.cat PV.setAt PV.setCell PV.ncopy PV.copyIn PV.zeros PV.toStr PV.toBytes PV.deref PV.isPtr PV.comp PV.inb PV.off PV.imin PV.imax PV.sel PV.apply

theorem ok_ins_at {cs : List PV} (hc : Cd cs) {P : R → Prop} {k : PV → Option R} {i : Int} (h0 : 0 ≤ i) (h1 : i < cs.length) (h : ∀ o a : Int, Ok P (k (.agg [.int .i64 o, .int .i64 a]))) : Ok P (bd (PV.at_ 2 true (.lst cs) (.int .i64 i)) k) :=
  ok_at h0 h1 hc.el (fun x hx _ => by obtain ⟨o, a, rfl, _⟩ := hc x hx; exact h o a)

section
variable {l : List Int} (hl : Bts l) {x8 x9 x10 : PV} {kf : Int}
include hl

set_option maxRecDepth 100000 in
theorem odd_fit {P : R → Prop} {p A : Int} {n : Nat} (hn : 1 ≤ n ∧ n ≤ 20) (hA : 0 ≤ A ∧ A ≤ 900000000) (hk : 0 ≤ kf ∧ kf ≤ 10) {fs : List PV} (hfl : fs.length ≤ 10)
    (h : ∀ (a s : Int) (cs : List PV), 0 ≤ a ∧ a ≤ A + 20 ∧ 0 ≤ s ∧ s < 65521 → Cd cs → cs.length = n → Ok P (spec_l03DrawOdd_c3 (.int .i64 (kf - 1)) (bytesOf l) (.int .i64 a) (.int .i64 s) x8 x9 x10 (.lst (fs ++ [.agg [.int .i64 p, .int .i64 2, .lst cs]])))) :
    ∀ (a s : Int) (cs : List PV), 0 ≤ a ∧ a ≤ A ∧ 0 ≤ s ∧ s < 65521 → Cd cs → cs.length = n → Ok P (spec_l03DrawOdd_c13 (.int .i64 kf) (.int .i64 0) (bytesOf l) (.int .i64 a) (.int .i64 s) (.int .i64 p) (.int .i64 2) x8 x9 x10 (.lst fs) (.lst cs)) := by
  intro a s cs h0 hc hcn
  refine ok_for (σ := Int × Int × List PV) (n := n) (F := fun i q => spec_l03DrawOdd_c13 (.int .i64 kf) (.int .i64 i) (bytesOf l) (.int .i64 q.1) (.int .i64 q.2.1) (.int .i64 p) (.int .i64 2) x8 x9 x10 (.lst fs) (.lst q.2.2))
    (fun i q => (0 ≤ q.1 ∧ q.1 ≤ A + i ∧ 0 ≤ q.2.1 ∧ q.2.1 < 65521) ∧ Cd q.2.2 ∧ q.2.2.length = n) ?_ ?_ 0 (a, s, cs) (by omega) ⟨by simp only; omega, hc, hcn⟩
  · rintro ⟨a, s, cs⟩ ⟨h1, h2, h3⟩
    simp only at h1 h2 h3 ⊢
    rw [spec_l03DrawOdd_c13_eq]
    refine ok_len (ok_lss (ok_ite (fun h => by omega) (fun _ => ?_)))
    refine ok_cat (by simp; omega) (fun x hx => by simp only [List.mem_singleton] at hx; subst hx; rfl) (ok_sub (by omega) (h a s cs (by omega) h2 h3))
  · rintro i ⟨a, s, cs⟩ hi ⟨h1, h2, h3⟩ ih
    simp only at h1 h2 h3 ih ⊢
    have ih' : ∀ (a' s' : Int) (cs' : List PV), 0 ≤ a' ∧ a' ≤ A + i + 1 ∧ 0 ≤ s' ∧ s' < 65521 → Cd cs' → cs'.length = n → Ok P (spec_l03DrawOdd_c13 (.int .i64 kf) (.int .i64 ((i : Int) + 1)) (bytesOf l) (.int .i64 a') (.int .i64 s') (.int .i64 p) (.int .i64 2) x8 x9 x10 (.lst fs) (.lst cs')) :=
      fun a' s' cs' g1 g2 g3 => ih (a', s', cs') ⟨by simp only; omega, g2, g3⟩
    have c17 : Ok P (spec_l03DrawOdd_c17 (.int .i64 kf) (.int .i64 i) (bytesOf l) (.int .i64 a) (.int .i64 s) (.int .i64 p) (.int .i64 2) x8 x9 x10 (.lst fs) (.lst cs)) := by
      rw [spec_l03DrawOdd_c17_eq]
      refine ok_len (ok_pick hl (by omega) (by omega) (fun v a' s' g => ?_))
      refine ok_inb (by omega) (by omega) (ok_one rfl (ok_setCode h2 (by omega) (by omega) (by omega) (fun cs' g1 g2 => ok_add (by omega) (ih' a' s' cs' (by omega) g1 (by omega)))))
    have c19 : ∀ a' s' : Int, 0 ≤ a' ∧ a' ≤ A + i + 1 ∧ 0 ≤ s' ∧ s' < 65521 → Ok P (spec_l03DrawOdd_c19 (.int .i64 kf) (.int .i64 i) (bytesOf l) (.int .i64 a') (.int .i64 s') (.int .i64 p) (.int .i64 2) x8 x9 x10 (.lst fs) (.lst cs)) := by
      intro a' s' g
      rw [spec_l03DrawOdd_c19_eq]
      exact ok_inb (by omega) (by omega) (ok_setCode h2 (by omega) (by omega) (by omega) (fun cs' g1 g2 => ok_add (by omega) (ih' a' s' cs' (by omega) g1 (by omega))))
    have c18 : ∀ o : Int, Ok P (spec_l03DrawOdd_c18 (.int .i64 kf) (.int .i64 i) (.int .i64 o) (bytesOf l) (.int .i64 a) (.int .i64 s) (.int .i64 p) (.int .i64 2) x8 x9 x10 (.lst fs) (.lst cs)) := by
      intro o
      rw [spec_l03DrawOdd_c18_eq]
      refine ok_once hl (by omega) (by omega) (fun b a' s' g => ?_)
      repeat' (first
        | exact c19 a' s' (by omega)
        | refine ok_eql (ok_ite (fun _ => ?_) (fun _ => ?_))
        | exact ok_add (by omega) (ih' a' s' cs (by omega) h2 h3)
        | refine ok_ite_b (fun _ => ?_) (fun _ => ?_))
    rw [spec_l03DrawOdd_c13_eq]
    refine ok_len (ok_lss (ok_ite (fun _ => ?_) (fun h => by omega)))
    refine ok_inb (by omega) (by omega) (ok_ins_at h2 (by omega) (by omega) (fun o b => ok_cell rfl ?_))
    repeat' (first
      | exact c17
      | exact c18 o
      | refine ok_eql (ok_ite (fun _ => ?_) (fun _ => ?_)))

theorem Cd.one0 (o : Int) (h : -9223372036854775808 ≤ o ∧ o ≤ 9223372036854775807) : Cd [.agg [.int .i64 o, .int .i64 0]] := Cd.one h (by omega)

theorem odd_code {P : R → Prop} {p A : Int} (hA : 0 ≤ A ∧ A ≤ 800000000) (hk : 0 ≤ kf ∧ kf ≤ 10) {fs : List PV} (hfl : fs.length ≤ 10)
    (h : ∀ (a s : Int) (cs : List PV), 0 ≤ a ∧ a ≤ A + 40 ∧ 0 ≤ s ∧ s < 65521 → Cd cs → cs.length ≤ 20 → Ok P (spec_l03DrawOdd_c3 (.int .i64 (kf - 1)) (bytesOf l) (.int .i64 a) (.int .i64 s) x8 x9 x10 (.lst (fs ++ [.agg [.int .i64 p, .int .i64 2, .lst cs]])))) :
    ∀ (j : Nat) (n a s : Int) (cs : List PV), n ≤ j → j + cs.length ≤ 12 → 1 ≤ n + cs.length → 0 ≤ n → (0 ≤ a ∧ a + n ≤ A + 12 ∧ 0 ≤ s ∧ s < 65521) → Cd cs →
    Ok P (spec_l03DrawOdd_c7 (.int .i64 kf) (.int .i64 n) (bytesOf l) (.int .i64 a) (.int .i64 s) (.int .i64 p) (.int .i64 2) x8 x9 x10 (.lst fs) (.lst cs)) := by
  have tail : ∀ (a s : Int) (cs : List PV), (0 ≤ a ∧ a ≤ A + 12 ∧ 0 ≤ s ∧ s < 65521) → Cd cs → cs.length ≤ 12 → 1 ≤ cs.length → Ok P (spec_l03DrawOdd_c7 (.int .i64 kf) (.int .i64 0) (bytesOf l) (.int .i64 a) (.int .i64 s) (.int .i64 p) (.int .i64 2) x8 x9 x10 (.lst fs) (.lst cs)) := by
    intro a s cs h0 hc hn hn1
    rw [spec_l03DrawOdd_c7_eq]
    refine ok_gtr (ok_ite (fun h => by omega) (fun _ => ?_))
    refine ok_pick hl (by omega) (by omega) (fun v a' s' g => ?_)
    have go : ∀ cs' : List PV, Cd cs' → 1 ≤ cs'.length → cs'.length ≤ 20 → Ok P (spec_l03DrawOdd_c12 (.int .i64 kf) (bytesOf l) (.int .i64 a') (.int .i64 s') (.int .i64 p) (.int .i64 2) x8 x9 x10 (.lst fs) (.lst cs')) := by
      intro cs' g1 g2 g3
      rw [spec_l03DrawOdd_c12_eq]
      exact odd_fit hl (n := cs'.length) (A := A + 13) ⟨g2, g3⟩ (by omega) hk hfl (fun a s cs q1 q2 q3 => h a s cs (by omega) q2 (by omega)) a' s' cs' (by omega) g1 rfl
    refine ok_gtr (ok_ite (fun _ => ?_) (fun _ => go cs hc hn1 (by omega)))
    have h25 := Cd.one0 hl 25 (by omega)
    exact ok_cat (by simp; omega) h25.el (go _ (hc.append h25) (by simp) (by simp; omega))
  intro j
  induction j with
  | zero =>
    intro n a s cs h1 h2 h3 h4 h0 hc
    have : n = 0 := by omega
    subst this
    exact tail a s cs (by omega) hc (by omega) (by omega)
  | succ j ih =>
    intro n a s cs h1 h2 h3 h4 h0 hc
    by_cases hn : n = 0
    · subst hn
      exact tail a s cs (by omega) hc (by omega) (by omega)
    rw [spec_l03DrawOdd_c7_eq]
    refine ok_gtr (ok_ite (fun _ => ?_) (fun h => by omega))
    refine ok_pick hl (by omega) (by omega) (fun v a' s' g => ok_add (by omega) (ok_one rfl ?_))
    have ho := Cd.one0 hl (1 + v) (by omega)
    refine ok_cat (by simp; omega) ho.el (ok_sub (by omega) (ih _ _ _ _ (by omega) (by simp; omega) (by simp; omega) (by omega) (by omega) (hc.append ho)))

theorem odd_funs {ts : List PV} (ht : ∀ x ∈ ts, IsTxt x) (htn : ts.length ≤ 100) : ∀ (j : Nat) (k a s : Int) (fs : List PV), k ≤ j → 0 ≤ k → j + fs.length ≤ 3 → (0 ≤ a ∧ a + 100 * k ≤ 800000000 ∧ 0 ≤ s ∧ s < 65521) → (∀ x ∈ fs, IsFun x) →
    Ok (ModP l (a + 100 * k)) (spec_l03DrawOdd_c3 (.int .i64 k) (bytesOf l) (.int .i64 a) (.int .i64 s) x8 x9 (.lst ts) (.lst fs)) := by
  intro j
  induction j with
  | zero =>
    intro k a s fs h1 h2 h3 h0 hf
    rw [spec_l03DrawOdd_c3_eq]
    refine ok_gtr (ok_ite (fun h => by omega) (fun _ => ok_some ⟨a, s, ts, fs, rfl, by omega, by omega, by omega, by omega, ht, htn, hf, by omega⟩))
  | succ j ih =>
    intro k a s fs h1 h2 h3 h0 hf
    rw [spec_l03DrawOdd_c3_eq]
    refine ok_gtr (ok_ite (fun hk => ?_) (fun _ => ok_some ⟨a, s, ts, fs, rfl, by omega, by omega, by omega, by omega, ht, htn, hf, by omega⟩))
    refine ok_pick hl (by omega) (by omega) (fun p a1 s1 g1 => ok_one rfl (ok_pick hl (by omega) (by omega) (fun n a2 s2 g2 => ok_add (by omega) ?_)))
    refine odd_code hl (A := a2) (by omega) (by omega) (by omega) (fun a3 s3 cs g3 hc hcl => ?_) 12 (2 + n) a2 s2 [] (by omega) (by simp) (by simp; omega) (by omega) (by omega) Cd.nil
    have hone : ∀ x ∈ [PV.agg [.int .i64 p, .int .i64 2, .lst cs]], IsFun x := by
      intro x hx
      simp only [List.mem_singleton] at hx
      exact ⟨p, 2, cs, hx, by omega, by omega, hc, by omega⟩
    refine (ih (k - 1) a3 s3 _ (by omega) (by omega) (by simp; omega) (by omega) (fun x hx => (List.mem_append.1 hx).elim (hf x) (hone x))).mono ?_
    rintro r ⟨a', s', ts', fs', hr, q1, q2, q3⟩
    exact ⟨a', s', ts', fs', hr, q1, by omega, q3⟩

theorem txts_a : ∀ x ∈ [PV.str (bs [97])], IsTxt x := by
  clear hl
  intro x hx
  simp only [List.mem_singleton] at hx
  subst hx
  exact ⟨_, rfl, Nat.le_of_ble_eq_true rfl⟩

theorem drawAny3_ok {a s : Int} (h0 : 0 ≤ a ∧ a ≤ 700000000 ∧ 0 ≤ s ∧ s < 65521) : Ok (ModP l (a + 5000000)) (spec_l03DrawAny (bytesOf l) (.int .i64 a) (.int .i64 s)) := by
  rw [spec_l03DrawAny_eq]
  refine ok_once hl (by omega) (by omega) (fun b a1 s1 g1 => ok_ite_b (fun _ => ?_) (fun _ => ?_))
  · refine ok_call (Q := ModP l (a + 1000000)) ?_ ?_
    · rw [spec_l03DrawOdd_eq]
      refine ok_pick hl (by omega) (by omega) (fun v a2 s2 g2 => ok_add (by omega) ?_)
      refine (odd_funs hl (txts_a hl) (by simp) 2 (1 + v) a2 s2 [] (by omega) (by omega) (by simp) (by omega) (fun x hx => by cases hx)).mono ?_
      rintro r ⟨a', s', ts', fs', hr, q1, q2, q3⟩
      exact ⟨a', s', ts', fs', hr, q1, by omega, q3⟩
    · rintro r ⟨a', s', ts', fs', rfl, q1, q2, q3⟩
      exact ok_whole rfl (ok_cell rfl (ok_cell rfl (ok_some ⟨a', s', ts', fs', rfl, q1, by omega, q3⟩)))
  · refine ok_call (drawAny_ok hl (by omega) (by omega)) ?_
    rintro r ⟨a', s', ts', fs', rfl, q1, q2, q3⟩
    exact ok_whole rfl (ok_cell rfl (ok_cell rfl (ok_some ⟨a', s', ts', fs', rfl, q1, by omega, q3⟩)))

theorem drawVerify_ok : Ok (fun r => ∃ m : MdT, r = [m.pv] ∧ m.sized) (spec_DrawVerify (bytesOf l)) := by
  rw [spec_DrawVerify_eq]
  refine ok_open hl (fun s hs => ok_call (drawAny3_ok hl (by omega)) ?_)
  rintro r ⟨a1, s1, ts, fs, rfl, h1, h2, h3, h4, ht, htn, hf, hn⟩
  obtain ⟨m, hm, hsz⟩ := mod_of ht htn hf hn
  exact ok_whole rfl (ok_cell rfl (ok_cell rfl (ok_some ⟨m, by rw [← hm], hsz⟩)))

end

/-! The law. -/

theorem impl_depthsOf {m : MdT} (h : m.sized) (hb : m.okB = true) {f : Nat} (hf : f < m.funcs.length) : Ok (fun r => r = [ints (depths m.funcs m.funcs[f].code)]) (impl_DepthsOf m.pv (.int .i64 f)) := by
  obtain ⟨h1, h2, h3⟩ := MdT.okB_fit hb
  rw [impl_DepthsOf_eq]
  refine ok_whole rfl (ok_cell rfl (ok_cell rfl (ok_call (impl_moduleOk h) (fun r hr => ?_))))
  subst hr
  rw [hb]
  refine ok_not (ok_ite_f (ok_len_map (ok_place (by omega) ?_)))
  rw [show bet (f : Int) 0 (m.funcs.length - 1) = true from bet_iff.2 (by omega)]
  refine ok_not (ok_ite_f (ok_call (impl_depths_ok (h3 _ (List.getElem_mem _)).1 hf rfl) (fun r hr => ?_)))
  subst hr
  exact ok_some rfl

theorem ok_ceq3 {P : R → Prop} {k : PV → Option R} {o : Option (Int × Nat × Nat)} {b : Bool} (hb : (match o with | some (c, f, pc) => ([c, (f : Int), pc] : List Int) | none => [0, 0, 0]) = (match o with | some (c, f, pc) => [c, (f : Int), pc] | none => [0, 0, 0])) (h : Ok P (k (.bool false))) : Ok P (bd (PV.ceq [1, 1, 1] .neq (encB o) (encB o)) k) := by
  cases o with
  | none => exact ok_bd _ (by simp [PV.ceq, encB, PV.eqCells, PV.eqScalar, PV.eqOr]) h
  | some p => exact ok_bd _ (by simp [PV.ceq, encB, PV.eqCells, PV.eqScalar, PV.eqOr]) h

theorem ceq3_same {P : R → Prop} {k : PV → Option R} {a b c : Int} (h : Ok P (k (.bool false))) : Ok P (bd (PV.ceq [1, 1, 1] .neq (.agg [.int .i64 a, .int .i64 b, .int .i64 c]) (.agg [.int .i64 a, .int .i64 b, .int .i64 c])) k) :=
  ok_bd _ (by simp [PV.ceq, PV.eqCells, PV.eqScalar, PV.eqOr]) h

theorem chkV_none {fs : List FnT} {code : List InsT} {d : List Int} {pc : Nat} (hpc : pc < code.length) (h : chkV fs code d pc = none) (h0 : ¬ d[pc]?.getD 0 < 0) :
    can fs code[pc] (d[pc]?.getD 0) = true ∧ ∀ t ∈ nexts code[pc] pc, t < code.length ∧ d[t.toNat]?.getD 0 = lefts fs code[pc] (d[pc]?.getD 0) := by
  unfold chkV at h
  rw [List.getElem?_eq_getElem hpc] at h
  simp only at h
  rw [if_neg h0] at h
  split at h
  · cases h
  rename_i h1
  split at h
  · cases h
  rename_i h2
  split at h
  · cases h
  rename_i h3
  refine ⟨by simpa using h1, fun t ht => ?_⟩
  rw [Bool.not_eq_true, List.any_eq_false] at h2 h3
  have g2 := h2 t ht
  have g3 := h3 t ht
  simp at g2 g3
  exact ⟨by omega, g3⟩

theorem law_code {fs : List FnT} {code : List InsT} (F : Fit fs code) {T : PV} {f : Nat} (hf : f < fs.length) {d : List Int} (hd : Hgt code.length d) (hc : ∀ pc, pc < code.length → chkV fs code d pc = none)
    (hnext : Ok (fun r => r = [.bool true]) (laws_FnVerified_c10 (.int .i64 ((f : Int) + 1)) T (.lst (fs.map FnT.pv)))) :
    Ok (fun r => r = [.bool true]) (laws_FnVerified_c17 (.int .i64 f) (ints d) (.lst (code.map InsT.pv)) (.int .i64 0) T (.lst (fs.map FnT.pv))) := by
  have hn2 := F.n2
  have hnf := F.nf
  refine ok_down (n := code.length) (P := fun _ r => r = [.bool true]) (F := fun pc => laws_FnVerified_c17 (.int .i64 f) (ints d) (.lst (code.map InsT.pv)) (.int .i64 pc) T (.lst (fs.map FnT.pv))) ?_ ?_ 0 (by omega)
  · rw [laws_FnVerified_c17_eq]
    exact ok_len_map (ok_lss (ok_ite (fun h => by omega) (fun _ => ok_add (by omega) hnext)))
  · intro pc hpc ih
    have hm : code[pc] ∈ code := List.getElem_mem _
    have hu := F.u code[pc] hm
    have hil : pc < d.length := by rw [hd.1]; exact hpc
    have hv := hd.at pc
    have e2 : d[pc] = d[pc]?.getD 0 := getD_is hil
    have hck := chkV_none hpc (hc pc hpc)
    have hnx := nexts_ok F hm hpc
    have hnq : nexts code[pc] pc = (if code[pc].o ≠ 17 ∧ code[pc].o ≠ 25 then [(pc : Int) + 1] else []) ++ (if code[pc].o = 17 ∨ code[pc].o = 18 ∨ code[pc].o = 19 then [code[pc].a] else []) := rfl
    rw [laws_FnVerified_c17_eq]
    refine ok_len_map (ok_lss (ok_ite (fun _ => ?_) (fun h => by omega)))
    refine ok_ints_at hil ?_
    rw [e2]
    refine ok_lss (ok_ite (fun h1 => ok_add (by omega) ih) (fun h1 => ?_))
    obtain ⟨hcan, hall⟩ := hck h1
    generalize hw : d[pc]?.getD 0 = w at *
    simp only [can, Bool.and_eq_true, decide_eq_true_eq] at hcan
    have hl : lefts fs code[pc] w = w - (uses fs code[pc]).1 + (uses fs code[pc]).2 := rfl
    refine ok_at_map hpc (fun _ => rfl) (ok_call (impl_uses (x := code[pc]) (T := T) (by omega)) (fun r hr => ?_))
    subst hr
    refine ok_comp rfl (ok_comp rfl (ok_ints_at hil ?_))
    rw [e2]
    refine ok_sub (by omega) (ok_add (by omega) (ok_ints_at hil ?_))
    rw [e2]
    refine ok_lss (ok_ite (fun h2 => by omega) (fun h2 => ok_gtr (ok_ite (fun h3 => by omega) (fun h3 => ?_))))
    have hdn : ∀ {P : R → Prop} {k : PV → Option R} {t : Int}, t ∈ nexts code[pc] pc → Ok P (k (.int .i64 (lefts fs code[pc] w))) → Ok P (bd (PV.at_ 1 false (ints d) (.int .i64 t)) k) := by
      intro P k t ht hk
      have g1 := hnx t ht
      have g2 := hall t ht
      refine ok_ints_atI g1.1 (by rw [hd.1]; exact g2.1) (fun v hv => ?_)
      rw [hv] at g2
      rw [show v = lefts fs code[pc] w from g2.2]
      exact hk
    have in1 : code[pc].o ≠ 17 → code[pc].o ≠ 25 → (pc : Int) + 1 ∈ nexts code[pc] pc := fun h1 h2 => by rw [hnq, if_pos ⟨h1, h2⟩]; simp
    have in2 : code[pc].o = 17 ∨ code[pc].o = 18 ∨ code[pc].o = 19 → code[pc].a ∈ nexts code[pc] pc := fun h => by rw [hnq, if_pos h]; simp
    repeat' (first
      | exact ok_add (by omega) ih
      | (refine ok_at_map hpc (fun _ => rfl) (ok_cell rfl ?_))
      | refine ok_neq (ok_ite_not (fun hne => ?_) (fun _ => ?_))
      | refine ok_eql (ok_ite (fun _ => ?_) (fun _ => ?_))
      | (exfalso; omega)
      | exact absurd hl hne
      | (refine hdn (in2 (by omega)) ?_)
      | (refine ok_add (by omega) (ok_len_map (ok_geq (ok_ite (fun h => absurd (hall _ (in1 (by omega) (by omega))).1 (by omega)) (fun _ => ?_)))))
      | (refine ok_add (by omega) (hdn (in1 (by omega) (by omega)) ?_)))

theorem bad_none {fs : List FnT} (h : bad fs = none) {f : Nat} (hf : f < fs.length) {pc : Nat} (hpc : pc < fs[f].code.length) : chkV fs fs[f].code (depths fs fs[f].code) pc = none := by
  unfold bad at h
  rw [List.findSome?_eq_none_iff] at h
  have h1 := h f (by rw [List.mem_range'_1]; omega)
  rw [badFn_eq hf, List.findSome?_eq_none_iff] at h1
  have h2 := h1 pc (by rw [List.mem_range'_1]; omega)
  simpa [badAt] using h2

theorem verified_ok {l : List Int} (h0 : ∀ x ∈ l, 0 ≤ x ∧ x ≤ 255) : pcallO 4 [bytesOf l] = some [.bool true] := by
  refine Ok.eq ?_
  show Ok _ (laws_FnVerified (bytesOf l))
  rw [laws_FnVerified_eq]
  refine big_ok h0 (fun hl0 => ok_ite_f ?_) (ok_ite_t (ok_some rfl))
  refine ok_call (drawVerify_ok hl0) ?_
  rintro r ⟨m, rfl, hsz⟩
  refine ok_whole rfl (ok_cell rfl (ok_cell rfl (ok_call (spec_verify hsz) (fun r hr => ?_))))
  subst hr
  have himp := impl_verify hsz
  have hv : (∃ a b c : Int, m.verify = .agg [.int .i64 a, .int .i64 b, .int .i64 c] ∧ a ≠ 0) ∨ (m.verify = .agg [.int .i64 0, .int .i64 0, .int .i64 0] ∧ m.okB = true ∧ bad m.funcs = none):= by
    unfold MdT.verify
    cases hb : m.okB with
    | false => exact .inl ⟨1, 0, 0, rfl, by omega⟩
    | true =>
      rw [if_pos rfl]
      cases hq : bad m.funcs with
      | none => exact .inr ⟨rfl, rfl, rfl⟩
      | some p =>
        obtain ⟨c, f, pc⟩ := p
        refine .inl ⟨c, f, pc, rfl, ?_⟩
        unfold bad at hq
        obtain ⟨f', hf', hq⟩ := List.exists_of_findSome?_eq_some hq
        unfold badFn at hq
        split at hq
        · rename_i x hx
          obtain ⟨pc', hpc', hq⟩ := List.exists_of_findSome?_eq_some hq
          unfold badAt at hq
          cases hc : chkV m.funcs x.code (depths m.funcs x.code) pc' with
          | none => rw [hc] at hq; cases hq
          | some c' =>
            rw [hc] at hq
            simp only [Option.map_some, Option.some.injEq, Prod.mk.injEq] at hq
            rw [← hq.1]
            unfold chkV at hc
            split at hc
            · cases hc
            · repeat' split at hc
              all_goals (first | (cases hc; done) | (cases hc; omega))
        · cases hq
  rcases hv with ⟨a, b, c, hm, ha⟩ | ⟨hm, hb, hbad⟩
  · rw [hm] at himp ⊢
    refine ok_whole rfl (ok_cell rfl (ok_cell rfl (ok_cell rfl (ok_call himp (fun r hr => ?_)))))
    subst hr
    refine ok_whole rfl (ok_cell rfl (ok_cell rfl (ok_cell rfl (ceq3_same (ok_ite_f ?_)))))
    exact ok_neq (ok_ite_not (fun _ => ok_some rfl) (fun h => absurd h ha))
  · rw [hm] at himp ⊢
    refine ok_whole rfl (ok_cell rfl (ok_cell rfl (ok_cell rfl (ok_call himp (fun r hr => ?_)))))
    subst hr
    refine ok_whole rfl (ok_cell rfl (ok_cell rfl (ok_cell rfl (ceq3_same (ok_ite_f ?_)))))
    refine ok_neq (ok_ite_not (fun h => absurd rfl h) (fun _ => ?_))
    obtain ⟨h1, h2, h3⟩ := MdT.okB_fit hb
    refine ok_down (n := m.funcs.length) (P := fun _ r => r = [.bool true]) (F := fun f => laws_FnVerified_c10 (.int .i64 f) (.lst (m.texts.map PV.str)) (.lst (m.funcs.map FnT.pv))) ?_ ?_ 0 (by omega)
    · rw [laws_FnVerified_c10_eq]
      exact ok_len_map (ok_lss (ok_ite (fun h => by omega) (fun _ => ok_some rfl)))
    · intro f hf ih
      have F := (h3 m.funcs[f] (List.getElem_mem _)).1
      have hg := depths_hgt F
      rw [laws_FnVerified_c10_eq]
      refine ok_len_map (ok_lss (ok_ite (fun _ => ?_) (fun h => by omega)))
      refine ok_call (impl_depthsOf hsz hb hf) (fun r hr => ?_)
      subst hr
      refine ok_at_map hf (fun _ => rfl) (ok_cell rfl (ok_ints_len (ok_len_map (ok_neq (ok_ite_not (fun h => absurd (by rw [hg.1]) h) (fun _ => ?_))))))
      refine ok_ints_atI (by omega) (by rw [hg.1]; have := F.n1; omega) (fun v hv => ?_)
      have h00 := depths_zero F
      have : v = 0 := by
        have e : (Int.toNat 0) = 0 := rfl
        rw [e, h00] at hv
        cases hv; rfl
      subst this
      refine ok_neq (ok_ite_not (fun h => absurd rfl h) (fun _ => ?_))
      exact law_code F hf hg (fun pc hpc => bad_none hbad hf hpc) ih

end Go.Proofs.Ytkcilikjhgkakaa

namespace Go.Proofs.Ytkcilikjhgkakaa
open Go Go.ChangeShapes Go.WideShapes Go.ChangeAt Go.RowKit

def IsBytes (w : World) (a : Option Addr) (len cap : Nat) (zs : List Int) : Prop :=
  (a = none ∧ len = 0 ∧ cap = 0 ∧ zs = []) ∨
  ∃ x, a = some x ∧ len ≤ cap ∧ cap ≤ maxLen ∧ zs.length = cap ∧ (∀ i, i < zs.length → w.cell? (x.add i) = some (.int .u8 (zs.getD i 0))) ∧ ∀ n ∈ zs, (Lit.int .u8 n).wf = true

theorem cell_inv {w : World} {a : Addr} {v : Value} (h : w.cell? a = some v) : a.spot = none ∧ ∃ c e fz, w.heap[a.block]? = some (.cells c e fz) ∧ c[a.off]? = some v := by
  unfold World.cell? at h
  split at h
  · rename_i c e fz hc
    split at h
    · cases h
    · rename_i hs
      exact ⟨by simpa using hs, c, e, fz, hc, h⟩
  · cases h

theorem IsBytes.rep {w : World} {a : Option Addr} {len cap : Nat} {zs : List Int} (h : IsBytes w a len cap zs) : Rep w (fun r => r < w.heap.size) (bytesOf (zs.take len)) (.slice a len cap) := by
  rcases h with ⟨rfl, rfl, rfl, rfl⟩ | ⟨x, rfl, hl, _, hz, hc, _⟩
  · exact .empty none 0
  · by_cases h0 : len = 0
    · subst h0; exact .empty _ cap
    · have hlen : ((zs.take len).map (PV.int .u8)).length = len := by simp; omega
      obtain ⟨hsp, c, e, fz, hh, hc0⟩ := cell_inv (hc 0 (by omega))
      have hx : x = ⟨x.block, x.off, none⟩ := by
        have : x.spot = none := by
          have h1 : (x.add 0).spot = none := hsp
          unfold Addr.add at h1
          split at h1 <;> simp_all
        cases x; simp_all
      rw [hx] at hc ⊢
      have hb : (x.add 0).block = x.block := by unfold Addr.add; split <;> rfl
      rw [hb] at hh
      have := Rep.lst (w := w) (Z := fun r => r < w.heap.size) ((zs.take len).map (PV.int .u8)) x.block x.off 1 cap false c e fz (fun i _ => .int .u8 (zs.getD i 0)) (Array.getElem?_eq_some_iff.1 hh).1 hh (by omega) (by omega)
        (fun i y hy => by
          rw [List.getElem?_map] at hy
          cases hi : (zs.take len)[i]? with
          | none => rw [hi] at hy; cases hy
          | some q => rw [hi] at hy; cases hy; rfl)
        (fun i j hi hj => by
          have hj0 : j = 0 := by omega
          subst hj0
          have h1 := hc i (by omega)
          rw [add_none] at h1
          obtain ⟨_, c', e', fz', hh', hc'⟩ := cell_inv h1
          have hh' : w.heap[x.block]? = some (.cells c' e' fz') := hh'
          rw [hh] at hh'
          cases hh'
          simpa using hc')
        (fun _ _ _ _ => trivial)
        (fun i j y hy hj => by
          rw [List.getElem?_map] at hy
          cases hi : (zs.take len)[i]? with
          | none => rw [hi] at hy; cases hy
          | some q =>
            rw [hi] at hy
            cases hy
            have hlt : i < (zs.take len).length := (List.getElem?_eq_some_iff.1 hi).1
            have : zs.getD i 0 = q := by
              rw [List.getElem?_take] at hi
              split at hi
              · rw [List.getD, hi]; rfl
              · cases hi
            rw [this]
            exact .int _ _)
      rw [hlen] at this
      exact this

theorem IsBytes.wf {w : World} {a : Option Addr} {len cap : Nat} {zs : List Int} (h : IsBytes w a len cap zs) : ∀ x ∈ zs.take len, (Lit.int .u8 x).wf = true := by
  intro x hx
  rcases h with ⟨_, _, _, rfl⟩ | ⟨_, _, _, _, _, _, hw⟩
  · simp at hx
  · exact hw x (List.mem_of_mem_take hx)

theorem bytes_walk (n : Nat) (args : List PV) (vals : Array Value) (h : pcallO n args = some [.bool true]) {w : World} (hl : args.length = vals.size) (hr : ∀ (i : Nat) x v, args[i]? = some x → vals[i]? = some v → Rep w (fun r => r < w.heap.size) x v) :
    Calls Try.prog n vals w fun e w' => e = .returned (.bool true) ∧ Below w.heap.size w w' := by
  refine (pcall_sound hyp h (Z := fun r => r < w.heap.size) (fun _ h => h) hl hr).mono ?_
  rintro e w' ⟨v, rfl, Z', pe, hrep⟩
  have hrep : Rep w' Z' (.bool true) v := hrep
  rw [hrep.bool_inv]
  exact ⟨rfl, pe.os, pe.tape, pe.output, pe.size, pe.old⟩

theorem byt_wf {l : List Int} (h : ∀ x ∈ l, (Lit.int .u8 x).wf = true) : ∀ x ∈ l, 0 ≤ x ∧ x ≤ 255 := by
  intro x hx
  have := h x hx
  have e1 : IntKind.min .u8 = 0 := rfl
  have e2 : IntKind.max .u8 = 255 := rfl
  simp only [Lit.wf, e1, e2, Bool.and_eq_true, decide_eq_true_eq] at this
  exact this

theorem own : ownKnob Try.prog.godebug = none := by kernel_rfl
theorem laidOut : laidOutB Try.prog = true := by kernel_rfl

end Go.Proofs.Ytkcilikjhgkakaa
