/-
  Texts of the proof, part 4: a value-level evaluator and its soundness, what the functions compute, laws about it.
  Conditions: none.
-/
import Derived.Test.YtjgleeamiclokaaGreatC
import Derived.Calls
import Derived.KernelRfl
import Derived.Orders
import Derived.IntWalk
import Derived.Test.YtjgleeamiclokaaGreatProg
import Derived.Laws.IdiomCopy
import Derived.Laws.Cells
import Derived.Below
import Derived.Laws.StructEq
import Derived.Laws.BytesString
import Derived.Laws.NewFold
import Derived.Laws.Tables
import Derived.Great.FillDense
set_option linter.all false
namespace Go.Proofs.YtjgleeamiclokaaGreat
open Go
def Callable (P : Program) (g : Nat) : Prop := ∃ fn c, P.funcs[g]? = some fn ∧ fn.body = some c ∧ fn.name ≠ "runtime.NumGoroutine"
theorem run_callFunc {P : Program} {g : Nat} (h : Callable P g) (vs : Array Value) (w : World) : (callFunc g vs).run P w = .ok (.enter g vs) w := by
  obtain ⟨fn, c, h1, h2, h3⟩ := h
  simp [callFunc, h1, h2, h3]
structure PureEnd (w w' : World) (Z Z' : Nat → Prop) : Prop where
  size : w.heap.size ≤ w'.heap.size
  os : w'.os = w.os
  tape : w'.tape = w.tape
  output : w'.output = w.output
  old : ∀ r, r < w.heap.size → w'.heap[r]? = w.heap[r]?
  zz : ∀ r, Z r → Z' r
  z : ∀ r, Z' r → Z r ∨ (w.heap.size ≤ r ∧ r < w'.heap.size)
def PureOk (P : Program) (C : Nat → List PV → Option R) : Prop := ∀ g args r, C g args = some r → Callable P g ∧ ∀ (w : World) (Z : Nat → Prop) (vals : Array Value), (∀ z, Z z → z < w.heap.size) → args.length = vals.size →
  (∀ (i : Nat) x v, args[i]? = some x → vals[i]? = some v → Rep w Z x v) → Calls P g vals w (fun e w' => ∃ v, e = .returned v ∧ ∃ Z', PureEnd w w' Z Z' ∧ Rep w' Z' (hd r) v)
section
variable {P : Program} {X : Cx} {O : Orc}
theorem mem_uniq {x : Nat} : ∀ {l : List Nat}, x ∈ uniq l ↔ x ∈ l
  | [] => by simp [uniq]
  | y :: r => by
    unfold uniq
    split
    · rename_i h
      rw [mem_uniq]
      have := mem_iff.1 h
      constructor
      · intro h; exact List.mem_cons_of_mem _ h
      · intro h
        rcases List.mem_cons.1 h with rfl | h
        · exact this
        · exact h
    · rw [List.mem_cons, List.mem_cons, mem_uniq]
theorem deepFoot_may {s : St} {ds : List DV} {wr : Bool} (hok : (deepFoot s ds wr).ok = true) {m : Mem} (hb : ∀ b ∈ (deepFoot s ds wr).rb, m.s.box b = s.box b) (hl : ∀ l ∈ (deepFoot s ds wr).rl, m.s.list l = s.list l) :
    May m s (fun b => b ∈ (deepFoot s ds wr).rb) (fun l => l ∈ (deepFoot s ds wr).rl) ∧ ∀ d ∈ ds, NamesIn (fun b => b ∈ (deepFoot s ds wr).rb) (fun l => l ∈ (deepFoot s ds wr).rl) deep d := by
  have hrb : (deepFoot s ds wr).rb = (reach s fuelR ds ⟨[], []⟩).bs := by unfold deepFoot; cases wr <;> rfl
  have hrl : (deepFoot s ds wr).rl = uniq ((reach s fuelR ds ⟨[], []⟩).ls ++ (reached s ds (reach s fuelR ds ⟨[], []⟩)).flatMap (lsOf deep)) := by unfold deepFoot; cases wr <;> rfl
  have hok : (reached s ds (reach s fuelR ds ⟨[], []⟩)).all (fun d => (bsOf deep d).all fun b => mem b (reach s fuelR ds ⟨[], []⟩).bs) = true := by
    rw [← hok]; unfold deepFoot; cases wr <;> rfl
  have names : ∀ d ∈ reached s ds (reach s fuelR ds ⟨[], []⟩), NamesIn (fun b => b ∈ (deepFoot s ds wr).rb) (fun l => l ∈ (deepFoot s ds wr).rl) deep d := by
    intro d hd
    refine ⟨fun b hb => ?_, fun l hl => ?_⟩
    · show b ∈ (deepFoot s ds wr).rb
      rw [hrb]
      rw [List.all_eq_true] at hok
      have := hok d hd
      rw [List.all_eq_true] at this
      exact mem_iff.1 (this b hb)
    · show l ∈ (deepFoot s ds wr).rl
      rw [hrl]
      exact mem_uniq.2 (List.mem_append_right _ (List.mem_flatMap.2 ⟨d, hd, hl⟩))
  refine ⟨⟨hb, hl, fun b cs hB hcs d hd => names d ?_⟩, fun d hd => names d (List.mem_append_left _ hd)⟩
  refine List.mem_append_right _ (List.mem_flatMap.2 ⟨b, by rw [← hrb]; exact hB, ?_⟩)
  rw [hcs]
  exact hd
def MayArgs (m : Mem) (s : St) (args : List DV) : Prop := ∃ B L, May m s B L ∧ ∀ d ∈ args, NamesIn B L deep d
theorem mayArgs {m : Mem} {s : St} {B L WB WL : Nat → Prop} {n : Nat} (sit : Sit m s B L n) {ds : List DV} {wr : Bool} (C : (deepFoot s ds wr).Cov B L WB WL) (hok : (deepFoot s ds wr).ok = true ∨ ∀ x, B x ∧ L x) : MayArgs m s ds := by
  rcases hok with hok | hall
  · exact ⟨_, _, deepFoot_may hok (fun b hb => sit.ab b (.inl (C.rb b hb))) (fun l hl => sit.al l (.inl (C.rl l hl)))⟩
  · exact ⟨fun _ => True, fun _ => True, ⟨fun b _ => sit.ab b (.inl (hall b).1), fun l _ => sit.al l (.inl (hall l).2), fun _ _ _ _ _ _ => ⟨fun _ _ => trivial, fun _ _ => trivial⟩⟩, fun _ _ => ⟨fun _ _ => trivial, fun _ _ => trivial⟩⟩
theorem lives_names : ∀ (n : Nat) {d : DV}, lives n d = false → bsOf n d = [] ∧ lsOf n d = []
  | 0, d, h => by cases d <;> simp [lives] at h <;> simp [bsOf, lsOf]
  | n + 1, d, h => by
    have sub : ∀ {cs : List DV}, cs.any (lives n) = false → cs.flatMap (bsOf n) = [] ∧ cs.flatMap (lsOf n) = [] := by
      intro cs hc
      rw [List.any_eq_false] at hc
      constructor <;> rw [List.flatMap_eq_nil_iff] <;> intro d hd
      · exact (lives_names n (by simpa using hc d hd)).1
      · exact (lives_names n (by simpa using hc d hd)).2
    cases d <;> simp only [lives] at h <;> first | (cases h; done) | skip
    all_goals first
      | exact ⟨rfl, rfl⟩
      | exact sub h
theorem snapL_sound {s : St} {args : List DV} {k : List PV → Option R} {r : R} (h : snapL s deep args k = some r) :
    ∃ ps, k ps = some r ∧ ps.length = args.length ∧ ∀ (m : Mem) (Z' : Nat → Prop), Inv m → MayArgs m s args → ((∀ r, m.owned r → Z' r) ∨ ∀ d ∈ args, bsOf deep d = [] ∧ lsOf deep d = []) → (∀ r, m.Z r → Z' r) →
      ∀ (vs : Array Value), args.length = vs.size → (∀ (i : Nat) d v, args[i]? = some d → vs[i]? = some v → m.rd d v) → ∀ (i : Nat) x v, ps[i]? = some x → vs[i]? = some v → Rep m.w Z' x v := by
  unfold snapL at h
  obtain ⟨ps, hk, hl, H⟩ := mapK_sound (T := fun d pv => ∀ (m : Mem) (Z' : Nat → Prop) (B L : Nat → Prop), Inv m → May m s B L → NamesIn B L deep d → Frozen m Z' deep d → (∀ r, m.Z r → Z' r) → ∀ v, m.rd d v → Rep m.w Z' pv v)
    (fun a k r h => snapK_sound deep (Nat.le_refl _) h) h
  refine ⟨ps, hk, by omega, fun m Z' inv ⟨B, L, hm, hn⟩ hF hz vs hvl hrd i x v hx hv => ?_⟩
  have hi : i < args.length := by have := (List.getElem?_eq_some_iff.1 hx).1; omega
  have hd : args[i]? = some args[i] := List.getElem?_eq_getElem hi
  refine H i args[i] x hd hx m Z' B L inv hm (hn _ (List.getElem_mem hi)) ?_ hz v (hrd i _ v hd hv)
  rcases hF with hF | hF
  · exact .inl hF
  · obtain ⟨h1, h2⟩ := hF _ (List.getElem_mem hi)
    exact .inr ⟨h1, fun l hl => by rw [h2] at hl; cases hl⟩
theorem Rep.flat {w w' : World} {Z Z' : Nat → Prop} {x : PV} {v : Value} (h : Rep w Z x v) (hf : x.flat = true) : Rep w' Z' x v := by
  have cells : ∀ {cs : List PV}, (cs.all fun | .bool _ | .int .. | .str _ | .nil | .nilf => true | _ => false) = true → ∀ (i : Nat) c, cs[i]? = some c → (∃ b, c = .bool b) ∨ (∃ k n, c = .int k n) ∨ (∃ s, c = .str s) ∨ c = .nil ∨ c = .nilf := by
    intro cs hc i c hi
    rw [List.all_eq_true] at hc
    have := hc c (List.mem_of_getElem? hi)
    cases c <;> simp at this <;> simp
  have leaf : ∀ {c : PV} {v : Value}, ((∃ b, c = .bool b) ∨ (∃ k n, c = .int k n) ∨ (∃ s, c = .str s) ∨ c = .nil ∨ c = .nilf) → Rep w Z c v → Rep w' Z' c v := by
    intro c v hc hr
    rcases hc with ⟨b, rfl⟩ | ⟨k, n, rfl⟩ | ⟨s, rfl⟩ | rfl | rfl
    · cases hr; exact .bool _
    · cases hr; exact .int _ _
    · cases hr; exact .str _
    · cases hr; exact .nil
    · cases hr; exact .nilf
  cases h with
  | bool b => exact .bool b
  | int k n => exact .int k n
  | str s => exact .str s
  | nil => exact .nil
  | nilf => exact .nilf
  | agg cs vs hl hc hr => exact .agg cs vs hl hc (fun i c v hci hv => leaf (cells hf i c hci) (hr i c v hci hv))
  | tup cs vs hl hr => exact .tup cs vs hl (fun i c v hci hv => leaf (cells hf i c hci) (hr i c v hci hv))
  | hole => simp [PV.flat] at hf
  | fn => simp [PV.flat] at hf
  | empty => simp [PV.flat] at hf
  | lst => simp [PV.flat] at hf
  | bx => simp [PV.flat] at hf
theorem guardFlat_some {β : Type} {r : PV} {k : Option β} {x : β} (h : PV.guardFlat r k = some x) : r.flat = true ∧ k = some x := by
  unfold PV.guardFlat at h
  split at h
  · rename_i hf; exact ⟨hf, h⟩
  · cases h
theorem pureCall {C : List PV → Option R} {f : Nat} {caps : List PV} (hP : ∀ ps r, C ps = some r → Callable P f ∧ ∀ (w : World) (Z : Nat → Prop) (vals us : Array Value), (∀ z, Z z → z < w.heap.size) → ps.length = vals.size →
      (∀ (i : Nat) x v, ps[i]? = some x → vals[i]? = some v → Rep w Z x v) → caps.length = us.size → (∀ (i : Nat) x v, caps[i]? = some x → us[i]? = some v → Rep w Z x v) →
      Calls P f (vals ++ us) w (fun e w' => ∃ v, e = .returned v ∧ ∃ Z', PureEnd w w' Z Z' ∧ Rep w' Z' (hd r) v))
    {args : List DV} {s : St} {k : DV → St → Option R} {r : R}
    (h : (if args.any (lives deep) then snapL s deep args fun vs => bd (C vs) fun r => PV.guardFlat (hd r) (k (.p (hd r)) s) else snapL s deep args fun vs => bd (C vs) fun r => k (.p (hd r)) s) = some r) :
    Callable P f ∧ ∃ d', k d' s = some r ∧ ∀ (n : Nat) (m : Mem) (B L WB WL : Nat → Prop), Sit m s B L n → MayArgs m s args → ∀ vs us : Array Value, args.length = vs.size → (∀ (i : Nat) d v, args[i]? = some d → vs[i]? = some v → m.rd d v) →
      caps.length = us.size → (∀ (i : Nat) x v, caps[i]? = some x → us[i]? = some v → Rep m.w m.Z x v) →
      Calls P f (vs ++ us) m.w (fun e w' => ∃ v, e = .returned v ∧ ∃ m', m'.w = w' ∧ Goes m m' s s B L WB WL n id ∧ m'.rd d' v) := by
  split at h
  · obtain ⟨ps, h1, hl, H⟩ := snapL_sound h
    obtain ⟨r0, hr0, h2⟩ := bd_some h1
    obtain ⟨hfl, hk⟩ := guardFlat_some h2
    obtain ⟨hcb, HC⟩ := hP ps r0 hr0
    refine ⟨hcb, _, hk, fun n m B L WB WL sit hM vs us hvl hrd hul hur => ?_⟩
    have hreps := H m (fun x => m.Z x ∨ m.owned x) sit.inv hM (.inl fun r hr => .inr hr) (fun r hr => .inl hr) vs hvl hrd
    refine (HC m.w (fun x => m.Z x ∨ m.owned x) vs us (fun z hz => hz.elim (sit.inv.zlt z) (fun h => sit.inv.owned_lt h)) (by omega) hreps hul (fun i x v hx hv => (hur i x v hx hv).mono (fun _ h => .inl h) (fun _ _ => rfl))).mono ?_
    rintro e w' ⟨v, rfl, Z', pe, hrep⟩
    refine ⟨v, rfl, m.grow w' m.Z, rfl, Goes.grow WB WL sit pe.old pe.size pe.os pe.tape pe.output (fun _ h => h) (fun r h => .inl h), ?_⟩
    exact .p _ _ (hrep.flat hfl)
  · rename_i hlv
    have hlv : args.any (lives deep) = false := by simpa using hlv
    obtain ⟨ps, h1, hl, H⟩ := snapL_sound h
    obtain ⟨r0, hr0, hk⟩ := bd_some h1
    obtain ⟨hcb, HC⟩ := hP ps r0 hr0
    refine ⟨hcb, _, hk, fun n m B L WB WL sit hM vs us hvl hrd hul hur => ?_⟩
    have hreps := H m m.Z sit.inv hM (.inr fun d hd => by
      rw [List.any_eq_false] at hlv
      exact lives_names deep (by simpa using hlv d hd)) (fun r hr => hr) vs hvl hrd
    refine (HC m.w m.Z vs us sit.inv.zlt (by omega) hreps hul hur).mono ?_
    rintro e w' ⟨v, rfl, Z', pe, hrep⟩
    exact ⟨v, rfl, m.grow w' Z', rfl, Goes.grow WB WL sit pe.old pe.size pe.os pe.tape pe.output pe.zz pe.z, .p _ _ hrep⟩
end
end Go.Proofs.YtjgleeamiclokaaGreat
namespace Go.Proofs.YtjgleeamiclokaaGreat
open Go
def Less (d d' : DV) : Prop := ∀ (m : Mem) (v : Value), m.rd d v → m.rd d' v
def Lesses (ds ds' : List DV) : Prop := ds'.length = ds.length ∧ ∀ (i : Nat) d d', ds[i]? = some d → ds'[i]? = some d' → Less d d'
theorem Lesses.cons {d d' : DV} {ds ds' : List DV} (h : Less d d') (k : Lesses ds ds') : Lesses (d :: ds) (d' :: ds') :=
  ⟨by simp [k.1], fun i x y hx hy => by
    cases i with
    | zero => simp at hx hy; subst hx; subst hy; exact h
    | succ i => exact k.2 i x y (by simpa using hx) (by simpa using hy)⟩
theorem Lesses.rd {m : Mem} {ds ds' : List DV} {vs : List Value} (k : Lesses ds ds') (hl : ds.length = vs.length) (h : ∀ (i : Nat) d v, ds[i]? = some d → vs[i]? = some v → m.rd d v) :
    ds'.length = vs.length ∧ ∀ (i : Nat) d v, ds'[i]? = some d → vs[i]? = some v → m.rd d v := by
  refine ⟨k.1.trans hl, fun i d v hd hv => ?_⟩
  have hi : i < ds.length := by have := (List.getElem?_eq_some_iff.1 hv).1; omega
  have hg : ds[i]? = some ds[i] := List.getElem?_eq_getElem hi
  exact k.2 i _ _ hg hd m v (h i _ v hg hv)
theorem gd_of {l : R} {n : Nat} {x : PV} (h : l[n]? = some x) : gd l n = x := by unfold gd; rw [List.getD, h]; rfl
theorem part_of {l vals : R} {n : Nat} {a b : R} (h : ∀ j, j < (a ++ b).length → l[n + j]? = (a ++ b)[j]?) : (∀ j, j < a.length → l[n + j]? = a[j]?) ∧ ∀ j, j < b.length → l[n + a.length + j]? = b[j]? := by
  refine ⟨fun j hj => ?_, fun j hj => ?_⟩
  · rw [h j (by rw [List.length_append]; omega), List.getElem?_append_left hj]
  · rw [Nat.add_assoc, h (a.length + j) (by rw [List.length_append]; omega), List.getElem?_append_right (by omega)]
    congr 1
    omega
mutual
theorem readD_sound : ∀ (t d : DV) (vals : R) (n n' : Nat), readD t d = some vals → numD t n = some n' → n' = n + vals.length ∧ ∀ L : R, (∀ j, j < vals.length → L[n + j]? = vals[j]?) → Less d (fillD L t)
  | .p (.int k i), d, vals, n, n', h, hn => by
    cases d with
    | p v =>
      simp only [readD] at h
      cases h
      simp only [numD] at hn
      split at hn
      · rename_i hi
        cases hn
        refine ⟨rfl, fun L hL => ?_⟩
        have h0 := hL 0 (by simp)
        simp only [Nat.add_zero, List.getElem?_cons_zero] at h0
        have : fillD L (.p (.int k i)) = .p v := by
          simp only [fillD, hi, Int.toNat_natCast, gd_of h0]
        rw [this]
        exact fun m v h => h
      · cases hn
    | _ => simp [readD] at h
  | .agg ts, d, vals, n, n', h, hn => by
    cases d with
    | agg cs =>
      simp only [readD] at h
      simp only [numD] at hn
      obtain ⟨h1, h2⟩ := readDs_sound ts cs vals n n' h hn
      refine ⟨h1, fun L hL m v hv => ?_⟩
      cases hv with
      | agg _ vs hl hc hr =>
        obtain ⟨g1, g2⟩ := (h2 L hL).rd hl hr
        simp only [fillD]
        exact .agg _ vs g1 hc g2
    | _ => simp [readD] at h
  | .tup ts, d, vals, n, n', h, hn => by
    cases d with
    | tup cs =>
      simp only [readD] at h
      simp only [numD] at hn
      obtain ⟨h1, h2⟩ := readDs_sound ts cs vals n n' h hn
      refine ⟨h1, fun L hL m v hv => ?_⟩
      cases hv with
      | tup _ vs hl hr =>
        obtain ⟨g1, g2⟩ := (h2 L hL).rd hl hr
        simp only [fillD]
        exact .tup _ vs g1 g2
    | _ => simp [readD] at h
  | .fn f ts, d, vals, n, n', h, hn => by
    cases d with
    | fn g cs =>
      simp only [readD] at h
      split at h
      · rename_i hfg
        have hfg := natBeq hfg
        subst hfg
        simp only [numD] at hn
        obtain ⟨h1, h2⟩ := readDs_sound ts cs vals n n' h hn
        refine ⟨h1, fun L hL m v hv => ?_⟩
        cases hv with
        | fn _ _ vs hl hr =>
          obtain ⟨g1, g2⟩ := (h2 L hL).rd hl hr
          simp only [fillD]
          exact .fn _ _ vs g1 g2
      · cases h
    | _ => simp [readD] at h
  | .ptr b off, d, vals, n, n', h, hn => by
    cases d with
    | ptr b' off' =>
      simp only [readD] at h
      split at h
      · rename_i hb
        simp only [Bool.and_eq_true] at hb
        have h1 := natBeq hb.1
        have h2 := natBeq hb.2
        subst h1; subst h2
        cases h
        simp only [numD] at hn
        cases hn
        exact ⟨rfl, fun L _ m v hv => by simpa only [fillD] using hv⟩
      · cases h
    | _ => simp [readD] at h
  | .ref l [], d, vals, n, n', h, hn => by
    cases d with
    | ref l' path =>
      cases path with
      | nil =>
        simp only [readD] at h
        split at h
        · rename_i hb
          have h1 := natBeq hb
          subst h1
          cases h
          simp only [numD] at hn
          cases hn
          exact ⟨rfl, fun L _ m v hv => by simpa only [fillD] using hv⟩
        · cases h
      | cons a r => simp [readD] at h
    | _ => simp [readD] at h
  | .nils, d, vals, n, n', h, hn => by
    cases d with
    | nils =>
      simp only [readD] at h
      cases h
      simp only [numD] at hn
      cases hn
      exact ⟨rfl, fun L _ m v hv => by simpa only [fillD] using hv⟩
    | _ => simp [readD] at h
  | .dead, d, vals, n, n', h, hn => by
    have h : some [] = some vals := by cases d <;> simpa [readD] using h
    cases h
    simp only [numD] at hn
    cases hn
    exact ⟨rfl, fun L _ m v _ => by simp only [fillD]; exact .dead v⟩
  | .ref l (a :: r), d, vals, n, n', h, hn => by simp [numD] at hn
  | .p (.bool _), _, _, _, _, _, hn => by simp [numD] at hn
  | .p (.str _), _, _, _, _, _, hn => by simp [numD] at hn
  | .p .nil, _, _, _, _, _, hn => by simp [numD] at hn
  | .p .nilf, _, _, _, _, _, hn => by simp [numD] at hn
  | .p (.agg _), _, _, _, _, _, hn => by simp [numD] at hn
  | .p (.lst _), _, _, _, _, _, hn => by simp [numD] at hn
  | .p (.bx _), _, _, _, _, _, hn => by simp [numD] at hn
  | .p (.fn _ _), _, _, _, _, _, hn => by simp [numD] at hn
  | .p (.tup _), _, _, _, _, _, hn => by simp [numD] at hn
  | .p .hole, _, _, _, _, _, hn => by simp [numD] at hn
  | .sref _ _ _ _, _, _, _, _, _, hn => by simp [numD] at hn
  | .eptr l path q off, d, vals, n, n', h, hn => by
    cases path with
    | cons a r => simp [numD] at hn
    | nil =>
      cases q with
      | int k i =>
        cases d with
        | eptr l' path' i' off' =>
          cases path' with
          | cons a r => simp [readD] at h
          | nil =>
            simp only [readD] at h
            split at h
            · rename_i hb
              simp only [Bool.and_eq_true] at hb
              have h1 := natBeq hb.1
              have h2 := natBeq hb.2
              subst h1; subst h2
              cases h
              simp only [numD] at hn
              split at hn
              · rename_i hi
                cases hn
                refine ⟨rfl, fun L hL m v hv => ?_⟩
                have h0 := hL 0 (by simp)
                simp only [Nat.add_zero, List.getElem?_cons_zero] at h0
                have : fillD L (.eptr l [] (.int k i) off) = .eptr l [] i' off := by
                  simp only [fillD, hi, Int.toNat_natCast, gd_of h0]
                rw [this]
                exact hv
              · cases hn
            · cases h
        | _ => simp [readD] at h
      | _ => simp [numD] at hn
  | .fptr _ _ _ _, _, _, _, _, _, hn => by simp [numD] at hn
  | .bptr _ _, _, _, _, _, _, hn => by simp [numD] at hn
theorem readDs_sound : ∀ (ts ds : List DV) (vals : R) (n n' : Nat), readDs ts ds = some vals → numDs ts n = some n' → n' = n + vals.length ∧ ∀ L : R, (∀ j, j < vals.length → L[n + j]? = vals[j]?) → Lesses ds (fillDs L ts)
  | [], ds, vals, n, n', h, hn => by
    cases ds with
    | nil =>
      simp only [readDs] at h
      cases h
      simp only [numDs] at hn
      cases hn
      exact ⟨rfl, fun L _ => ⟨rfl, fun i d d' hd => by simp at hd⟩⟩
    | cons d ds => simp [readDs] at h
  | t :: ts, ds, vals, n, n', h, hn => by
    cases ds with
    | nil => simp [readDs] at h
    | cons d ds =>
      simp only [readDs] at h
      split at h
      · rename_i a ha
        split at h
        · rename_i b hb
          cases h
          simp only [numDs] at hn
          split at hn
          · rename_i n1 hn1
            obtain ⟨h1, h2⟩ := readD_sound t d a n n1 ha hn1
            obtain ⟨h3, h4⟩ := readDs_sound ts ds b n1 n' hb hn
            refine ⟨by rw [List.length_append]; omega, fun L hL => ?_⟩
            obtain ⟨p1, p2⟩ := part_of (vals := []) hL
            rw [← h1] at p2
            simp only [fillDs]
            exact Lesses.cons (h2 L p1) (h4 L p2)
          · cases hn
        · cases h
      · cases h
end
theorem readB_sound : ∀ (ts : List (Option (List DV))) (bs : List (Nat × Option (List DV))) (vals : R) (n n' : Nat), readB ts bs = some vals → numB ts n = some n' → n' = n + vals.length ∧ ts.length = bs.length ∧
    ∀ L : R, (∀ j, j < vals.length → L[n + j]? = vals[j]?) → ∀ (i : Nat) t, ts[i]? = some (some t) → (fillB L ts)[i]? = some (some (fillDs L t)) ∧ ∃ x cs, bs[i]? = some (x, some cs) ∧ Lesses cs (fillDs L t)
  | [], bs, vals, n, n', h, hn => by
    cases bs with
    | nil =>
      simp only [readB] at h
      cases h
      simp only [numB] at hn
      cases hn
      exact ⟨rfl, rfl, fun L _ i t ht => by simp at ht⟩
    | cons b bs => simp [readB] at h
  | none :: ts, bs, vals, n, n', h, hn => by
    cases bs with
    | nil => simp [readB] at h
    | cons b bs =>
      simp only [readB] at h
      simp only [numB] at hn
      obtain ⟨h1, h2, h3⟩ := readB_sound ts bs vals n n' h hn
      refine ⟨h1, by simp [h2], fun L hL i t ht => ?_⟩
      cases i with
      | zero => simp at ht
      | succ i =>
        simp only [fillB]
        simpa using h3 L hL i t (by simpa using ht)
  | some t0 :: ts, bs, vals, n, n', h, hn => by
    cases bs with
    | nil => simp [readB] at h
    | cons b bs =>
      obtain ⟨x, o⟩ := b
      cases o with
      | none => simp [readB] at h
      | some cs =>
        simp only [readB] at h
        split at h
        · rename_i a ha
          split at h
          · rename_i b hb
            cases h
            simp only [numB] at hn
            split at hn
            · rename_i n1 hn1
              obtain ⟨h1, h2⟩ := readDs_sound t0 cs a n n1 ha hn1
              obtain ⟨h3, h4, h5⟩ := readB_sound ts bs b n1 n' hb hn
              refine ⟨by rw [List.length_append]; omega, by simp [h4], fun L hL i t ht => ?_⟩
              obtain ⟨p1, p2⟩ := part_of (vals := []) hL
              rw [← h1] at p2
              cases i with
              | zero =>
                simp at ht
                subst ht
                exact ⟨by simp [fillB], x, cs, rfl, h2 L p1⟩
              | succ i =>
                simp only [fillB]
                simpa using h5 L p2 i t (by simpa using ht)
            · cases hn
          · cases h
        · cases h
theorem readO_sound : ∀ (ts : List (Option Own)) (bs : List (Nat × Option Own)) (vals : R) (n n' : Nat), readO ts bs = some vals → numO ts n = some n' → n' = n + vals.length ∧ ts.length = bs.length ∧
    ∀ L : R, (∀ j, j < vals.length → L[n + j]? = vals[j]?) → ∀ (i : Nat) t, ts[i]? = some (some t) → ∃ x w, bs[i]? = some (x, some w) ∧ (fillO L ts)[i]? = some (some w) ∧ (∃ k j, t.c = .int k j ∧ gd L j.toNat = w.c) ∧ t.o = w.o
  | [], bs, vals, n, n', h, hn => by
    cases bs with
    | nil =>
      simp only [readO] at h
      cases h
      simp only [numO] at hn
      cases hn
      exact ⟨rfl, rfl, fun L _ i t ht => by simp at ht⟩
    | cons b bs => simp [readO] at h
  | none :: ts, bs, vals, n, n', h, hn => by
    cases bs with
    | nil => simp [readO] at h
    | cons b bs =>
      simp only [readO] at h
      simp only [numO] at hn
      obtain ⟨h1, h2, h3⟩ := readO_sound ts bs vals n n' h hn
      refine ⟨h1, by simp [h2], fun L hL i t ht => ?_⟩
      cases i with
      | zero => simp at ht
      | succ i =>
        simp only [fillO]
        simpa using h3 L hL i t (by simpa using ht)
  | some t0 :: ts, bs, vals, n, n', h, hn => by
    cases bs with
    | nil => simp [readO] at h
    | cons b bs =>
      obtain ⟨x, o⟩ := b
      cases o with
      | none => simp [readO] at h
      | some w =>
        simp only [readO] at h
        split at h
        · rename_i hsame
          have hs := OTy.same_eq _ _ hsame
          split at h
          · rename_i b hb
            cases h
            simp only [numO] at hn
            split at hn
            · rename_i k j hc
              split at hn
              · rename_i hj
                obtain ⟨h3, h4, h5⟩ := readO_sound ts bs b (n + 1) n' hb hn
                refine ⟨by simp; omega, by simp [h4], fun L hL i t ht => ?_⟩
                have h0 := hL 0 (by simp)
                simp only [Nat.add_zero, List.getElem?_cons_zero] at h0
                have hg : gd L j.toNat = w.c := by rw [hj, Int.toNat_natCast]; exact gd_of h0
                cases i with
                | zero =>
                  simp at ht
                  subst ht
                  refine ⟨x, w, rfl, ?_, ⟨k, j, hc, hg⟩, hs⟩
                  simp only [fillO, hc, hg, hs, List.getElem?_cons_zero]
                | succ i =>
                  simp only [fillO]
                  refine h5 L (fun q hq => ?_) i t (by simpa using ht) |>.imp fun _ h => by simpa using h
                  have := hL (q + 1) (by simp; omega)
                  rw [show n + 1 + q = n + (q + 1) by omega, this]
                  simp
              · cases hn
            · cases hn
          · cases h
        · cases h
theorem Tmpl.read_sound {t : Tmpl} {d : DV} {s : St} {l : R} (h : t.read d s = some l) (hw : t.wf = true) :
    Less d (fillD l t.res) ∧ t.boxes.length = s.boxes.length ∧ t.lists.length = s.lists.length ∧
    (∀ (i : Nat) ts, t.boxes[i]? = some (some ts) → (fillB l t.boxes)[i]? = some (some (fillDs l ts)) ∧ ∃ x cs, s.boxes[i]? = some (x, some cs) ∧ Lesses cs (fillDs l ts)) ∧
    (∀ (i : Nat) w0, t.lists[i]? = some (some w0) → ∃ x w, s.lists[i]? = some (x, some w) ∧ (fillO l t.lists)[i]? = some (some w) ∧ (∃ k j, w0.c = .int k j ∧ gd l j.toNat = w.c) ∧ w0.o = w.o) := by
  unfold Tmpl.read at h
  split at h
  rotate_left
  · cases h
  rename_i a ha
  split at h
  rotate_left
  · cases h
  rename_i b hb
  split at h
  rotate_left
  · cases h
  rename_i c hc
  cases h
  unfold Tmpl.wf at hw
  split at hw
  rotate_left
  · cases hw
  rename_i n1 hn1
  split at hw
  rotate_left
  · cases hw
  rename_i n2 hn2
  obtain ⟨n3, hn3⟩ := Option.isSome_iff_exists.1 hw
  obtain ⟨h1, h2⟩ := readD_sound t.res d a 0 n1 ha hn1
  obtain ⟨h3, h4, h5⟩ := readB_sound t.boxes s.boxes b n1 n2 hb hn2
  obtain ⟨h6, h7, h8⟩ := readO_sound t.lists s.lists c n2 n3 hc hn3
  have p0 : ∀ j, j < (a ++ b ++ c).length → (a ++ b ++ c)[0 + j]? = (a ++ b ++ c)[j]? := fun j _ => by rw [Nat.zero_add]
  obtain ⟨p1, p2⟩ := part_of (vals := []) p0
  obtain ⟨p3, p4⟩ := part_of (vals := []) p1
  refine ⟨h2 _ p3, h4, h7, h5 _ (by rw [h1]; exact p4), h8 _ (by rw [h3, h1]; rw [List.length_append] at p2; rw [Nat.add_assoc]; exact p2)⟩
end Go.Proofs.YtjgleeamiclokaaGreat
namespace Go.Proofs.YtjgleeamiclokaaGreat
open Go
theorem idx_of : ∀ {l : List Nat} {n b x : Nat}, l.Nodup → l[b]? = some x → idx x l n = some (n + b)
  | [], _, _, _, _, h => by simp at h
  | y :: r, n, b, x, hn, h => by
    unfold idx
    cases b with
    | zero => simp at h; subst h; simp
    | succ b =>
      have hm : x ∈ r := List.mem_of_getElem? (by simpa using h)
      have hne : x ≠ y := fun e => (List.nodup_cons.1 hn).1 (e ▸ hm)
      have hb : Nat.beq x y = false := by
        cases hb : Nat.beq x y with
        | false => rfl
        | true => exact absurd (natBeq hb) hne
      rw [hb]
      simp only [Bool.false_eq_true, if_false]
      rw [idx_of (List.nodup_cons.1 hn).2 (by simpa using h)]
      congr 1
      omega
theorem idx_none : ∀ {l : List Nat} {n x : Nat}, x ∉ l → idx x l n = none
  | [], _, _, _ => rfl
  | y :: r, n, x, h => by
    unfold idx
    have hne : x ≠ y := fun e => h (e ▸ List.mem_cons_self)
    have hb : Nat.beq x y = false := by
      cases hb : Nat.beq x y with
      | false => rfl
      | true => exact absurd (natBeq hb) hne
    rw [hb]
    simp only [Bool.false_eq_true, if_false]
    exact idx_none (fun h' => h (List.mem_cons_of_mem _ h'))
theorem idx_cases {l : List Nat} (x : Nat) : (∃ i, idx x l 0 = some i ∧ l[i]? = some x) ∨ (idx x l 0 = none ∧ x ∉ l) := by
  cases h : idx x l 0 with
  | some i => exact .inl ⟨i, rfl, idx0 h⟩
  | none =>
    refine .inr ⟨rfl, fun hm => ?_⟩
    have : ∀ (l : List Nat) (n : Nat), x ∈ l → idx x l n ≠ none := by
      intro l
      induction l with
      | nil => intro n h; cases h
      | cons y r ih =>
        intro n h
        unfold idx
        split
        · simp
        · rename_i hb
          rcases List.mem_cons.1 h with rfl | h
          · simp at hb
          · exact ih _ h
    exact this l 0 hm h
def cbOf (bs : List Nat) (n k x : Nat) : Option Nat := match idx x bs 0 with
  | some i => some i
  | none => if n ≤ x ∧ x < n + k then some (bs.length + (x - n)) else none
def clOf (n k x : Nat) : Option Nat := if n ≤ x ∧ x < n + k then some (x - n) else none
theorem backB_nil {α : Type} {x : Nat} : ∀ {cs : List (Option α)} {n : Nat} {old : List (Nat × Option α)}, look x (backB [] n cs old) = if n ≤ x ∧ x < n + cs.length then cs.getD (x - n) none else look x old
  | [], n, old => by simp [backB]; intro h1 h2; omega
  | c :: r, n, old => by
    rw [backB, backB_nil, look_cons]
    by_cases h : x = n
    · subst h
      rw [if_neg (by omega), if_pos rfl, if_pos (by simp), Nat.sub_self]; rfl
    · by_cases h2 : n ≤ x ∧ x < n + (c :: r).length
      · rw [if_pos h2, if_pos (by simp at h2; omega), show x - n = x - (n + 1) + 1 by omega]; rfl
      · rw [if_neg h2, if_neg (by simp at h2; omega), if_neg h]
theorem backB_look {α : Type} {x : Nat} : ∀ {cs : List (Option α)} {bs : List Nat} {n : Nat} {old : List (Nat × Option α)}, bs.Nodup → bs.length ≤ cs.length → (∀ b ∈ bs, ¬ (n ≤ b ∧ b < n + (cs.length - bs.length))) →
    look x (backB bs n cs old) = match cbOf bs n (cs.length - bs.length) x with | some i => cs.getD i none | none => look x old
  | cs, [], n, old, _, _, _ => by
    rw [backB_nil]
    unfold cbOf
    simp only [idx, List.length_nil, Nat.sub_zero, Nat.zero_add]
    split <;> rfl
  | [], b :: bs, n, old, _, hl, _ => by simp at hl
  | c :: r, b :: bs, n, old, hn, hl, hf => by
    simp only [List.length_cons, Nat.add_le_add_iff_right] at hl
    have hlen : (c :: r).length - (b :: bs).length = r.length - bs.length := by simp
    rw [hlen] at hf ⊢
    rw [backB, backB_look (List.nodup_cons.1 hn).2 hl (fun y hy => hf y (List.mem_cons_of_mem _ hy)), look_cons]
    have hb := hf b List.mem_cons_self
    unfold cbOf
    rcases idx_cases (l := bs) x with ⟨i, h1, h2⟩ | ⟨h1, h2⟩
    · have hne : x ≠ b := fun e => (List.nodup_cons.1 hn).1 (e ▸ List.mem_of_getElem? h2)
      have : idx x (b :: bs) 0 = some (i + 1) := by
        have := idx_of (n := 0) hn (show (b :: bs)[i + 1]? = some x by simpa using h2)
        simpa using this
      rw [h1, this]
      rfl
    · rw [h1]
      by_cases e : x = b
      · subst e
        have : idx x (x :: bs) 0 = some 0 := by simp [idx]
        rw [this, if_neg hb]
        simp
      · have : idx x (b :: bs) 0 = none := idx_none (fun hm => (List.mem_cons.1 hm).elim e h2)
        rw [this]
        by_cases hr : n ≤ x ∧ x < n + (r.length - bs.length)
        · rw [if_pos hr]
          simp only [List.length_cons, if_pos hr]
          rw [show bs.length + 1 + (x - n) = bs.length + (x - n) + 1 by omega]
          rfl
        · rw [if_neg hr]
          simp only [if_neg hr, if_neg e]
theorem backO_look {x : Nat} : ∀ {cs : List (Option Own)} {n : Nat} {old : List (Nat × Option Own)}, look x (backO n cs old) = match clOf n cs.length x with | some i => cs.getD i none | none => look x old
  | [], n, old => by
    have : clOf n ([] : List (Option Own)).length x = none := by
      unfold clOf
      rw [if_neg]
      simp
    rw [this]
    rfl
  | c :: r, n, old => by
    rw [backO, backO_look, look_cons]
    unfold clOf
    by_cases h : x = n
    · subst h
      rw [if_neg (by omega), if_pos (by simp)]
      simp
    · by_cases h2 : n ≤ x ∧ x < n + (c :: r).length
      · rw [if_pos h2, if_pos (by simp at h2; omega)]
        simp only
        rw [show x - n = x - (n + 1) + 1 by omega]; rfl
      · rw [if_neg h2, if_neg (by simp at h2; omega), if_neg h]
theorem RepD.renum {w : World} {Z : Nat → Prop} {ρ ρ' : Loc} {live live' : Nat → Prop} {fb fl : Nat → Option Nat} (hb : ∀ b b', ρ.ub b → fb b = some b' → ρ'.ub b' ∧ ρ'.box b' = ρ.box b)
    (hl : ∀ l l', ρ.ul l → fl l = some l' → ρ'.ul l' ∧ (live' l' → live l ∧ ρ'.hdr l' = ρ.hdr l ∧ ρ'.ty l' = ρ.ty l ∧ ρ'.fp l' = ρ.fp l)) : ∀ (n : Nat) {d : DV} {v : Value}, RepD w Z ρ live d v → RepD w Z ρ' live' (ren fb fl n d) v := by
  have key : ∀ (f : DV → DV), (∀ d v, RepD w Z ρ live d v → RepD w Z ρ' live' (f d) v) → ∀ {d : DV} {v : Value}, RepD w Z ρ live d v → RepD w Z ρ' live' (ren1 fb fl f d) v := by
    intro f hf d v h
    have hmap : ∀ {ds : List DV} {vs : List Value}, (∀ (i : Nat) d v, ds[i]? = some d → vs[i]? = some v → RepD w Z ρ live d v) → ∀ (i : Nat) d v, (ds.map f)[i]? = some d → vs[i]? = some v → RepD w Z ρ' live' d v := by
      intro ds vs h i d v hd hv
      rw [List.getElem?_map] at hd
      cases hdi : ds[i]? with
      | none => rw [hdi] at hd; cases hd
      | some d0 => rw [hdi] at hd; cases hd; exact hf _ _ (h i d0 v hdi hv)
    cases h with
    | p x v h => exact .p x v h
    | nils => exact .nils
    | agg ds vs hl hc h => exact .agg _ vs (by simp [hl]) hc (hmap h)
    | tup ds vs hl h => exact .tup _ vs (by simp [hl]) (hmap h)
    | fn g ds vs hl h => exact .fn g _ vs (by simp [hl]) (hmap h)
    | ptr b off hub =>
      unfold ren1
      dsimp only
      split
      · rename_i b' hb'
        obtain ⟨h1, h2⟩ := hb b b' hub hb'
        rw [← h2]
        exact .ptr b' off h1
      · exact .dead _
    | ref l path v hu hc h =>
      unfold ren1
      dsimp only
      split
      · rename_i l' hl'
        obtain ⟨h1, h2⟩ := hl l l' hu hl'
        refine .ref l' path v h1 hc (fun hv => ?_)
        obtain ⟨g1, g2, g3, g4⟩ := h2 hv
        rw [g2, g3, g4]
        exact h g1
      · exact .dead _
    | sref l path lo hi v hu hc h =>
      unfold ren1
      dsimp only
      split
      · rename_i l' hl'
        obtain ⟨h1, h2⟩ := hl l l' hu hl'
        refine .sref l' path lo hi v h1 hc (fun hv => ?_)
        obtain ⟨g1, g2, g3, g4⟩ := h2 hv
        rw [g2, g3, g4]
        exact h g1
      · exact .dead _
    | eptr l path i off v hu hc h =>
      unfold ren1
      dsimp only
      split
      · rename_i l' hl'
        obtain ⟨h1, h2⟩ := hl l l' hu hl'
        refine .eptr l' path i off v h1 hc (fun hv => ?_)
        obtain ⟨g1, g2, g3, g4⟩ := h2 hv
        rw [g2, g3, g4]
        exact h g1
      · exact .dead _
    | fptr x s' g off b o cells e fz cv h1 h2 h3 h4 h5 h6 => exact .fptr x s' g off b o cells e fz cv h1 h2 h3 h4 h5 h6
    | bptr c off b o h => exact .bptr c off b o h
    | dead v => exact .dead v
  intro n
  induction n with
  | zero => intro d v h; exact key _ (fun _ _ _ => .dead _) h
  | succ n ih => intro d v h; exact key _ (fun _ _ h => ih h) h
theorem reach_live {s : St} : ∀ (n : Nat) (ds : List DV) (a : Seen), (∀ b ∈ a.bs, s.box b ≠ none) → (∀ l ∈ a.ls, s.list l ≠ none) → (∀ b ∈ (reach s n ds a).bs, s.box b ≠ none) ∧ ∀ l ∈ (reach s n ds a).ls, s.list l ≠ none
  | 0, _, a, h1, h2 => ⟨by simpa [reach] using h1, by simpa [reach] using h2⟩
  | _ + 1, [], a, h1, h2 => ⟨by simpa [reach] using h1, by simpa [reach] using h2⟩
  | n + 1, d :: r, a, h1, h2 => by
    unfold reach
    have row : ∀ l, let b := (if mem l a.ls then reach s n r a else match s.list l with | some _ => reach s n r { a with ls := a.ls ++ [l] } | none => reach s n r a); (∀ x ∈ b.bs, s.box x ≠ none) ∧ ∀ x ∈ b.ls, s.list x ≠ none := by
      intro l
      dsimp only
      split
      · exact reach_live n r a h1 h2
      · split
        · rename_i w hw
          refine reach_live n r { a with ls := a.ls ++ [l] } h1 (fun x hx => ?_)
          rcases List.mem_append.1 hx with hx | hx
          · exact h2 x hx
          · simp at hx; subst hx; rw [hw]; simp
        · exact reach_live n r a h1 h2
    split
    · split
      · exact reach_live n r a h1 h2
      · rename_i b _ _
        split
        · rename_i cs hcs
          refine reach_live n _ { a with bs := a.bs ++ [b] } (fun x hx => ?_) h2
          rcases List.mem_append.1 hx with hx | hx
          · exact h1 x hx
          · simp at hx; subst hx; rw [hcs]; simp
        · exact reach_live n r a h1 h2
    · exact row _
    · exact row _
    · exact row _
    · exact reach_live n _ a h1 h2
    · exact reach_live n _ a h1 h2
    · exact reach_live n _ a h1 h2
    · exact reach_live n r a h1 h2
theorem pickBoxes_get {s : St} {fb fl : Nat → Option Nat} : ∀ {bs : List Nat} {n i x : Nat} {o : Option (List DV)}, (pickBoxes s fb fl n bs)[i]? = some (x, o) → look (n + i) (pickBoxes s fb fl n bs) = o
  | [], n, i, x, o, h => by simp [pickBoxes] at h
  | b :: r, n, i, x, o, h => by
    unfold pickBoxes at h ⊢
    rw [look_cons]
    cases i with
    | zero => simp at h; simp [h.2]
    | succ i =>
      have := pickBoxes_get (bs := r) (n := n + 1) (i := i) (x := x) (o := o) (by simpa using h)
      rw [if_neg (by omega), show n + (i + 1) = n + 1 + i by omega]
      exact this
theorem pickLists_get {s : St} : ∀ {ls : List Nat} {n i x : Nat} {o : Option Own}, (pickLists s n ls)[i]? = some (x, o) → look (n + i) (pickLists s n ls) = o
  | [], n, i, x, o, h => by simp [pickLists] at h
  | b :: r, n, i, x, o, h => by
    unfold pickLists at h ⊢
    rw [look_cons]
    cases i with
    | zero => simp at h; simp [h.2]
    | succ i =>
      have := pickLists_get (ls := r) (n := n + 1) (i := i) (x := x) (o := o) (by simpa using h)
      rw [if_neg (by omega), show n + (i + 1) = n + 1 + i by omega]
      exact this
theorem pickBoxes_len {s : St} {fb fl : Nat → Option Nat} : ∀ {bs : List Nat} {n : Nat}, (pickBoxes s fb fl n bs).length = bs.length
  | [], _ => rfl
  | _ :: r, n => by simp [pickBoxes, pickBoxes_len (bs := r)]
theorem pickLists_len {s : St} : ∀ {ls : List Nat} {n : Nat}, (pickLists s n ls).length = ls.length
  | [], _ => rfl
  | _ :: r, n => by simp [pickLists, pickLists_len (ls := r)]
end Go.Proofs.YtjgleeamiclokaaGreat
namespace Go.Proofs.YtjgleeamiclokaaGreat
open Go
def Mem.back (m c : Mem) (bs kl : List Nat) (n k n' k' : Nat) (s : Sx) : Mem :=
  { w := c.w, Z := c.Z, L := m.L, s := s,
    ρ := { box := fun x => match cbOf bs n k x with | some i => c.ρ.box i | none => m.ρ.box x
           hdr := fun x => match cbOf kl n' k' x with | some i => c.ρ.hdr i | none => m.ρ.hdr x
           fp := fun x => match cbOf kl n' k' x with | some i => c.ρ.fp i | none => m.ρ.fp x
           ty := fun x => match cbOf kl n' k' x with | some i => c.ρ.ty i | none => m.ρ.ty x
           ub := fun x => m.ρ.ub x ∨ (n ≤ x ∧ x < n + k)
           ul := fun x => m.ρ.ul x ∨ (n' ≤ x ∧ x < n' + k') } }
theorem cbOf_cases (bs : List Nat) (n k x : Nat) : (∃ i, cbOf bs n k x = some i ∧ bs[i]? = some x) ∨ (∃ i, cbOf bs n k x = some (bs.length + i) ∧ x = n + i ∧ i < k ∧ x ∉ bs) ∨ (cbOf bs n k x = none ∧ x ∉ bs ∧ ¬ (n ≤ x ∧ x < n + k)) := by
  rcases idx_cases (l := bs) x with ⟨i, h1, h2⟩ | ⟨h1, h2⟩
  · exact .inl ⟨i, by unfold cbOf; rw [h1], h2⟩
  · by_cases h : n ≤ x ∧ x < n + k
    · exact .inr (.inl ⟨x - n, by unfold cbOf; rw [h1]; simp only [if_pos h], by omega, by omega, h2⟩)
    · exact .inr (.inr ⟨by unfold cbOf; rw [h1]; simp only [if_neg h], h2, h⟩)
theorem cbOf_nil (n k x : Nat) : cbOf [] n k x = clOf n k x := by
  unfold cbOf clOf
  simp only [idx, List.length_nil, Nat.zero_add]
theorem clOf_cases (n k x : Nat) : (∃ i, clOf n k x = some i ∧ x = n + i ∧ i < k) ∨ (clOf n k x = none ∧ ¬ (n ≤ x ∧ x < n + k)) := by
  unfold clOf
  by_cases h : n ≤ x ∧ x < n + k
  · rw [if_pos h]; exact .inl ⟨x - n, rfl, by omega, by omega⟩
  · rw [if_neg h]; exact .inr ⟨rfl, h⟩
theorem Carry.mono {w w' : World} {Z Z' : Nat → Prop} {ρ ρ' : Loc} {live live' gone gone' : Nat → Prop} (C : Carry w w' Z Z' ρ ρ' live live' gone) (h : ∀ l, gone l → gone' l) : Carry w w' Z Z' ρ ρ' live live' gone' :=
  ⟨C.z, C.hw, C.b, C.u, fun l hu hl => ⟨(C.l l hu hl).1, (C.l l hu hl).2.1, (C.l l hu hl).2.2.1, (C.l l hu hl).2.2.2.imp (h l) _root_.id⟩⟩
theorem RepD.kept {w w' : World} {Z Z' : Nat → Prop} {ρ ρ' : Loc} {live live' : Nat → Prop} {kp : Bool} {kl : List Nat} (hk : kp = false → kl = []) (C : Carry w w' Z Z' ρ ρ' live live' (fun l => l ∈ kl)) {d : DV} {v : Value}
    (h : RepD w Z ρ live d v) : RepD w' Z' ρ' live' (scrubKeptD kp kl d) v := by
  unfold scrubKeptD
  cases kp with
  | true => exact RepD.scrub C deep h
  | false =>
    have := hk rfl
    subst this
    exact RepD.carry (C.mono (fun l hl => by cases hl)) h
section
variable {m c : Mem} {kp : Bool} {bs ls kl : List Nat} {n k n' k' : Nat} {s0 : St} {S : Sx}
structure Came (m c : Mem) (kp : Bool) (bs ls kl : List Nat) (n k n' k' : Nat) (S : Sx) : Prop where
  kk : kp = false → kl = []
  kn : kl.Nodup
  ks : ∀ l ∈ kl, l ∈ ls
  row : ∀ i l, kl[i]? = some l → c.s.live i → c.ρ.hdr i = m.ρ.hdr l ∧ c.ρ.ty i = m.ρ.ty l
  inv : Inv m
  cinv : Inv c
  nb : bs.Nodup
  ab : ∀ b ∈ bs, ∃ cs, m.s.box b = some cs
  al : ∀ l ∈ ls, ∃ o, m.s.list l = some o
  size : m.w.heap.size ≤ c.w.heap.size
  os : c.w.os = m.w.os
  tape : c.w.tape = m.w.tape
  output : c.w.output = m.w.output
  keep : ∀ r, r < m.w.heap.size → ¬ ((∃ b ∈ bs, r = m.ρ.box b) ∨ (∃ l ∈ ls, m.ρ.fp l r)) → c.w.heap[r]? = m.w.heap[r]?
  own : ∀ r, c.owned r → ((∃ b ∈ bs, r = m.ρ.box b) ∨ (∃ l ∈ ls, m.ρ.fp l r)) ∨ m.w.heap.size ≤ r
  z : ∀ r, c.Z r → m.Z r ∨ ((∃ b ∈ bs, r = m.ρ.box b) ∨ (∃ l ∈ ls, m.ρ.fp l r)) ∨ m.w.heap.size ≤ r
  zz : ∀ r, m.Z r → c.Z r
  box : ∀ i b, bs[i]? = some b → c.ρ.box i = m.ρ.box b
  freshB : ∀ x, n ≤ x → x < n + k → ¬ m.ρ.ub x
  freshL : ∀ x, n' ≤ x → x < n' + k' → ¬ m.ρ.ul x
  sb : ∀ x cs, S.box x = some cs → (∃ i cs0, cbOf bs n k x = some i ∧ c.s.box i = some cs0 ∧ cs.length = cs0.length ∧ ∀ (j : Nat) d0 d v, cs0[j]? = some d0 → cs[j]? = some d → c.rd d0 v → (m.back c bs kl n k n' k' S).rd d v) ∨ (cbOf bs n k x = none ∧ ∃ cs0, m.s.box x = some cs0 ∧ cs = cs0.map (scrubKeptD kp kl))
  sbx : ∀ x, (∃ cs, m.s.box x = some cs) → ∃ cs, S.box x = some cs
  sl : ∀ x o, S.list x = some o → (∃ i, cbOf kl n' k' x = some i ∧ c.s.list i = some o) ∨ (cbOf kl n' k' x = none ∧ x ∉ ls ∧ m.s.list x = some o)
def InCall (m : Mem) (bs ls : List Nat) (r : Nat) : Prop := (∃ b ∈ bs, r = m.ρ.box b) ∨ (∃ l ∈ ls, m.ρ.fp l r)
theorem Came.mine (C : Came m c kp bs ls kl n k n' k' S) {r : Nat} (ho : m.owned r) (hn : ¬ InCall m bs ls r) : c.w.heap[r]? = m.w.heap[r]? ∧ ¬ c.Z r ∧ ¬ c.owned r ∧ r < m.w.heap.size := by
  have hlt := C.inv.owned_lt ho
  refine ⟨C.keep r hlt hn, fun hz => ?_, fun h => ?_, hlt⟩
  · rcases C.z r hz with h | h | h
    · exact C.inv.owned_notZ ho h
    · exact hn h
    · omega
  · rcases C.own r h with h | h
    · exact hn h
    · omega
theorem Came.boxOut (C : Came m c kp bs ls kl n k n' k' S) {x : Nat} {cs : List DV} (hx : m.s.box x = some cs) (hn : x ∉ bs) : ¬ InCall m bs ls (m.ρ.box x) := by
  rintro (⟨b, hb, e⟩ | ⟨l, hl, h⟩)
  · obtain ⟨cs', hcs'⟩ := C.ab b hb
    exact hn (C.inv.bb x cs b cs' hx hcs' e ▸ hb)
  · obtain ⟨o, ho⟩ := C.al l hl
    exact C.inv.bl x cs l o hx ho h
theorem Came.rowOut (C : Came m c kp bs ls kl n k n' k' S) {l : Nat} {o : Own} (hl : m.s.list l = some o) (hn : l ∉ ls) {r : Nat} (hr : m.ρ.fp l r) : ¬ InCall m bs ls r := by
  rintro (⟨b, hb, rfl⟩ | ⟨l', hl', h⟩)
  · obtain ⟨cs', hcs'⟩ := C.ab b hb
    exact C.inv.bl b cs' l o hcs' hl hr
  · obtain ⟨o', ho'⟩ := C.al l' hl'
    exact hn (C.inv.ll l o l' o' r hl ho' hr h ▸ hl')
theorem Came.LOut (C : Came m c kp bs ls kl n k n' k' S) {r : Nat} (hr : m.L r) : ¬ InCall m bs ls r := by
  rintro (⟨b, hb, rfl⟩ | ⟨l, hl, h⟩)
  · obtain ⟨cs', hcs'⟩ := C.ab b hb
    exact C.inv.Lb b cs' hcs' hr
  · obtain ⟨o, ho⟩ := C.al l hl
    exact C.inv.Ll l o r ho h hr
theorem Came.rd (C : Came m c kp bs ls kl n k n' k' S) {d : DV} {v : Value} (h : m.rd d v) : (m.back c bs kl n k n' k' S).rd (scrubKeptD kp kl d) v := by
  have Cr : Carry m.w c.w m.Z c.Z m.ρ (m.back c bs kl n k n' k' S).ρ m.s.live S.live (fun l => l ∈ kl) := {
    z := C.zz
    hw := fun r hr => C.keep r (C.inv.zlt r hr) (by
      rintro (⟨b, hb, rfl⟩ | ⟨l, hl, h⟩)
      · obtain ⟨cs', hcs'⟩ := C.ab b hb
        exact C.inv.bz b cs' hcs' hr
      · obtain ⟨o, ho⟩ := C.al l hl
        exact (C.inv.row l o ho).2.2.notZ r h hr)
    b := fun b hb => by
      refine ⟨.inl hb, ?_⟩
      show (match cbOf bs n k b with | some i => c.ρ.box i | none => m.ρ.box b) = _
      rcases cbOf_cases bs n k b with ⟨i, h1, h2⟩ | ⟨i, h1, h2, h3, h4⟩ | ⟨h1, _⟩
      · rw [h1]; exact C.box i b h2
      · exact absurd hb (C.freshB b (by omega) (by omega))
      · rw [h1]
    u := fun l hl => .inl hl
    l := fun l hu hv => by
      show _ ∧ (match cbOf kl n' k' l with | some i => c.ρ.hdr i | none => m.ρ.hdr l) = _ ∧ (match cbOf kl n' k' l with | some i => c.ρ.ty i | none => m.ρ.ty l) = _ ∧
        (l ∈ kl ∨ _ ∨ ∀ r, m.ρ.fp l r → (match cbOf kl n' k' l with | some i => c.ρ.fp i | none => m.ρ.fp l) r ∧ _)
      rcases cbOf_cases kl n' k' l with ⟨i, h1, h2⟩ | ⟨i, h1, h2, h3, _⟩ | ⟨h1, _⟩
      · rw [h1]
        have hm := List.mem_of_getElem? h2
        obtain ⟨o, ho⟩ := C.al l (C.ks l hm)
        cases hs : S.list l with
        | none => exact absurd hs hv
        | some o' =>
          rcases C.sl l o' hs with ⟨i', g1, g2⟩ | ⟨g1, _⟩
          · rw [h1] at g1
            cases g1
            obtain ⟨q1, q2⟩ := C.row i l h2 (Mem.live_of g2)
            exact ⟨Mem.live_of ho, q1, q2, .inl hm⟩
          · rw [h1] at g1; cases g1
      · exact absurd hu (C.freshL l (by omega) (by omega))
      · rw [h1]
        cases hs : S.list l with
        | none => exact absurd hs hv
        | some o =>
          rcases C.sl l o hs with ⟨i, g1, _⟩ | ⟨_, g2, g3⟩
          · rw [h1] at g1; cases g1
          · exact ⟨Mem.live_of g3, rfl, rfl, .inr (.inr fun r hr => ⟨hr, (C.mine (.inr (.inl ⟨l, o, g3, hr⟩)) (C.rowOut g3 g2 hr)).1⟩)⟩ }
  exact RepD.kept C.kk Cr h
theorem Came.boxOf (C : Came m c kp bs ls kl n k n' k' S) {x : Nat} {cs : List DV} (h : S.box x = some cs) :
    (∃ i cs0, cbOf bs n k x = some i ∧ c.s.box i = some cs0 ∧ (m.back c bs kl n k n' k' S).ρ.box x = c.ρ.box i) ∨ (cbOf bs n k x = none ∧ (∃ cs0, m.s.box x = some cs0 ∧ cs = cs0.map (scrubKeptD kp kl)) ∧ x ∉ bs ∧ (m.back c bs kl n k n' k' S).ρ.box x = m.ρ.box x) := by
  rcases C.sb x cs h with ⟨i, cs0, h1, h2, _⟩ | ⟨h1, h2⟩
  · refine .inl ⟨i, cs0, h1, h2, ?_⟩
    show (match cbOf bs n k x with | some i => c.ρ.box i | none => m.ρ.box x) = _
    rw [h1]
  · refine .inr ⟨h1, h2, ?_, ?_⟩
    · rcases cbOf_cases bs n k x with ⟨i, g1, _⟩ | ⟨i, g1, _⟩ | ⟨_, g2, _⟩
      · rw [h1] at g1; cases g1
      · rw [h1] at g1; cases g1
      · exact g2
    · show (match cbOf bs n k x with | some i => c.ρ.box i | none => m.ρ.box x) = _
      rw [h1]
theorem Came.rowOf (C : Came m c kp bs ls kl n k n' k' S) {x : Nat} {o : Own} (h : S.list x = some o) :
    (∃ i, cbOf kl n' k' x = some i ∧ c.s.list i = some o ∧ (m.back c bs kl n k n' k' S).ρ.fp x = c.ρ.fp i ∧ (m.back c bs kl n k n' k' S).ρ.hdr x = c.ρ.hdr i ∧ (m.back c bs kl n k n' k' S).ρ.ty x = c.ρ.ty i) ∨
    (cbOf kl n' k' x = none ∧ m.s.list x = some o ∧ x ∉ ls ∧ (m.back c bs kl n k n' k' S).ρ.fp x = m.ρ.fp x ∧ (m.back c bs kl n k n' k' S).ρ.hdr x = m.ρ.hdr x ∧ (m.back c bs kl n k n' k' S).ρ.ty x = m.ρ.ty x) := by
  rcases C.sl x o h with ⟨i, h1, h2⟩ | ⟨h1, h2, h3⟩
  · refine .inl ⟨i, h1, h2, ?_, ?_, ?_⟩
    · show (match cbOf kl n' k' x with | some i => c.ρ.fp i | none => m.ρ.fp x) = _
      rw [h1]
    · show (match cbOf kl n' k' x with | some i => c.ρ.hdr i | none => m.ρ.hdr x) = _
      rw [h1]
    · show (match cbOf kl n' k' x with | some i => c.ρ.ty i | none => m.ρ.ty x) = _
      rw [h1]
  · refine .inr ⟨h1, h3, h2, ?_, ?_, ?_⟩
    · show (match cbOf kl n' k' x with | some i => c.ρ.fp i | none => m.ρ.fp x) = _
      rw [h1]
    · show (match cbOf kl n' k' x with | some i => c.ρ.hdr i | none => m.ρ.hdr x) = _
      rw [h1]
    · show (match cbOf kl n' k' x with | some i => c.ρ.ty i | none => m.ρ.ty x) = _
      rw [h1]
theorem cbOf_inj (hn : bs.Nodup) {x y i : Nat} (hx : cbOf bs n k x = some i) (hy : cbOf bs n k y = some i) : x = y := by
  have hlt : ∀ {z i}, bs[i]? = some z → i < bs.length := fun h => (List.getElem?_eq_some_iff.1 h).1
  rcases cbOf_cases bs n k x with ⟨i1, a1, a2⟩ | ⟨i1, a1, a2, _, _⟩ | ⟨a1, _⟩ <;> rw [hx] at a1 <;> first | (cases a1; done) | skip
  · cases a1
    rcases cbOf_cases bs n k y with ⟨i2, b1, b2⟩ | ⟨i2, b1, b2, _, _⟩ | ⟨b1, _⟩ <;> rw [hy] at b1 <;> first | (cases b1; done) | skip
    · cases b1; rw [a2] at b2; cases b2; rfl
    · have := hlt a2; simp at b1; omega
  · rcases cbOf_cases bs n k y with ⟨i2, b1, b2⟩ | ⟨i2, b1, b2, _, _⟩ | ⟨b1, _⟩ <;> rw [hy] at b1 <;> first | (cases b1; done) | skip
    · have := hlt b2; simp at a1 b1; omega
    · simp at a1 b1; omega
theorem Came.invB (C : Came m c kp bs ls kl n k n' k' S) : Inv (m.back c bs kl n k n' k' S) := by
  have oldB : ∀ {x cs}, m.s.box x = some cs → x ∉ bs → c.w.heap[m.ρ.box x]? = m.w.heap[m.ρ.box x]? ∧ ¬ c.Z (m.ρ.box x) ∧ ¬ c.owned (m.ρ.box x) ∧ m.ρ.box x < m.w.heap.size := fun hx hn => C.mine (.inl ⟨_, _, hx, rfl⟩) (C.boxOut hx hn)
  have oldL : ∀ {l o r}, m.s.list l = some o → l ∉ ls → m.ρ.fp l r → c.w.heap[r]? = m.w.heap[r]? ∧ ¬ c.Z r ∧ ¬ c.owned r ∧ r < m.w.heap.size := fun hl hn hr => C.mine (.inr (.inl ⟨_, _, hl, hr⟩)) (C.rowOut hl hn hr)
  have hZw : ∀ r, m.Z r → c.w.heap[r]? = m.w.heap[r]? := fun r hr => C.keep r (C.inv.zlt r hr) (by
    rintro (⟨b, hb, rfl⟩ | ⟨l, hl, h⟩)
    · obtain ⟨cs', hcs'⟩ := C.ab b hb
      exact C.inv.bz b cs' hcs' hr
    · obtain ⟨o, ho⟩ := C.al l hl
      exact (C.inv.row l o ho).2.2.notZ r h hr)
  refine ⟨?_, ?_, C.cinv.zlt, ?_, ?_, ?_, ?_, ?_, ?_, ?_, ?_, ?_⟩
  · intro x cs h
    have h : S.box x = some cs := h
    rcases C.sb x cs h with ⟨i, cs0, h1, _⟩ | ⟨h1, cs0, h2, _⟩
    · rcases cbOf_cases bs n k x with ⟨i1, a1, a2⟩ | ⟨i1, a1, a2, a3, _⟩ | ⟨a1, _⟩
      · obtain ⟨cs', hcs'⟩ := C.ab x (List.mem_of_getElem? a2)
        exact .inl (C.inv.ub x cs' hcs')
      · exact .inr (by omega)
      · rw [h1] at a1; cases a1
    · exact .inl (C.inv.ub x cs0 h2)
  · intro l o h
    have h : S.list l = some o := h
    rcases C.sl l o h with ⟨i, h1, _⟩ | ⟨h1, _, h2⟩
    · rcases cbOf_cases kl n' k' l with ⟨i1, a1, a2⟩ | ⟨i1, a1, a2, a3, _⟩ | ⟨a1, _⟩
      · obtain ⟨o', ho'⟩ := C.al l (C.ks l (List.mem_of_getElem? a2))
        exact .inl (C.inv.ul l o' ho')
      · exact .inr (by omega)
      · rw [h1] at a1; cases a1
    · exact .inl (C.inv.ul l o h2)
  · intro x cs h
    have h : S.box x = some cs := h
    rcases C.sb x cs h with ⟨i, cs0, h1, h2, h3, h4⟩ | ⟨h1, cs0, h2, he⟩
    · obtain ⟨vs, ety, g1, g2, g3, g4⟩ := C.cinv.box i cs0 h2
      refine ⟨vs, ety, ?_, by omega, g3, fun j d v hd hv => ?_⟩
      · show c.w.heap[(match cbOf bs n k x with | some i => c.ρ.box i | none => m.ρ.box x)]? = _
        rw [h1]; exact g1
      · have hj : j < cs0.length := by have := (List.getElem?_eq_some_iff.1 hd).1; omega
        have hd0 : cs0[j]? = some cs0[j] := List.getElem?_eq_getElem hj
        exact h4 j _ d v hd0 hd (g4 j _ v hd0 hv)
    · obtain ⟨vs, ety, g1, g2, g3, g4⟩ := C.inv.box x cs0 h2
      obtain ⟨_, _, q3, q4⟩ := (C.boxOf h).resolve_left (by rintro ⟨i, cs0, e, _⟩; rw [h1] at e; cases e)
      subst he
      refine ⟨vs, ety, by rw [q4]; exact (oldB h2 q3).1.trans g1, by rw [List.length_map]; exact g2, g3, fun j d v hd hv => ?_⟩
      rw [List.getElem?_map] at hd
      cases hj : cs0[j]? with
      | none => rw [hj] at hd; cases hd
      | some d0 => rw [hj] at hd; cases hd; exact C.rd (g4 j d0 v hj hv)
  · intro l o h
    have h : S.list l = some o := h
    rcases C.rowOf h with ⟨i, h1, h2, e1, e2, e3⟩ | ⟨h1, h2, h3, e1, e2, e3⟩
    · obtain ⟨g1, g2, g3⟩ := C.cinv.row i o h2
      rw [e1, e2, e3]
      exact ⟨g1, g2, g3⟩
    · obtain ⟨g1, g2, g3⟩ := C.inv.row l o h2
      rw [e1, e2, e3]
      exact ⟨g1, g2, g3.frame C.zz hZw (fun r hr => (oldL h2 h3 hr).1) (fun r hr => (oldL h2 h3 hr).2.1)⟩
  · intro x cs h
    have h : S.box x = some cs := h
    rcases C.boxOf h with ⟨i, cs0, h1, h2, e⟩ | ⟨h1, ⟨_, h2, _⟩, h3, e⟩
    · rw [e]; exact C.cinv.bz i cs0 h2
    · rw [e]; exact (oldB h2 h3).2.1
  · intro x cs x' cs' h h' he
    have h : S.box x = some cs := h
    have h' : S.box x' = some cs' := h'
    rcases C.boxOf h with ⟨i, cs0, h1, h2, e⟩ | ⟨h1, ⟨_, h2, _⟩, h3, e⟩ <;> rcases C.boxOf h' with ⟨i', cs0', h1', h2', e'⟩ | ⟨h1', ⟨_, h2', _⟩, h3', e'⟩ <;> rw [e, e'] at he
    · have := C.cinv.bb i cs0 i' cs0' h2 h2' he
      subst this
      exact cbOf_inj C.nb h1 h1'
    · exact ((oldB h2' h3').2.2.1 (by rw [← he]; exact .inl ⟨i, cs0, h2, rfl⟩)).elim
    · exact ((oldB h2 h3).2.2.1 (by rw [he]; exact .inl ⟨i', cs0', h2', rfl⟩)).elim
    · exact C.inv.bb x _ x' _ h2 h2' he
  · intro x cs l o h h'
    have h : S.box x = some cs := h
    have h' : S.list l = some o := h'
    rcases C.boxOf h with ⟨i, cs0, h1, h2, e⟩ | ⟨h1, ⟨_, h2, _⟩, h3, e⟩ <;> rcases C.rowOf h' with ⟨i', h1', h2', e1, _⟩ | ⟨h1', h2', h3', e1, _⟩ <;> rw [e, e1]
    · exact C.cinv.bl i cs0 i' o h2 h2'
    · exact fun hr => (oldL h2' h3' hr).2.2.1 (.inl ⟨i, cs0, h2, rfl⟩)
    · exact fun hr => (oldB h2 h3).2.2.1 (.inr (.inl ⟨i', o, h2', hr⟩))
    · exact C.inv.bl x _ l o h2 h2'
  · intro l o l' o' r h h' hr hr'
    have h : S.list l = some o := h
    have h' : S.list l' = some o' := h'
    rcases C.rowOf h with ⟨i, h1, h2, e1, _⟩ | ⟨h1, h2, h3, e1, _⟩ <;> rcases C.rowOf h' with ⟨i', h1', h2', e1', _⟩ | ⟨h1', h2', h3', e1', _⟩ <;> rw [e1] at hr <;> rw [e1'] at hr'
    · have := C.cinv.ll i o i' o' r h2 h2' hr hr'
      subst this
      exact cbOf_inj C.kn h1 h1'
    · exact ((oldL h2' h3' hr').2.2.1 (.inr (.inl ⟨i, o, h2, hr⟩))).elim
    · exact ((oldL h2 h3 hr).2.2.1 (.inr (.inl ⟨i', o', h2', hr'⟩))).elim
    · exact C.inv.ll l o l' o' r h2 h2' hr hr'
  · intro r hr
    obtain ⟨_, q2, _, q4⟩ := C.mine (.inr (.inr hr)) (C.LOut hr)
    exact ⟨q2, Nat.lt_of_lt_of_le q4 C.size⟩
  · intro x cs h hL
    have h : S.box x = some cs := h
    have hL : m.L _ := hL
    rcases C.boxOf h with ⟨i, cs0, h1, h2, e⟩ | ⟨h1, ⟨_, h2, _⟩, h3, e⟩ <;> rw [e] at hL
    · exact (C.mine (.inr (.inr hL)) (C.LOut hL)).2.2.1 (.inl ⟨i, cs0, h2, rfl⟩)
    · exact C.inv.Lb x _ h2 hL
  · intro l o r h hr hL
    have h : S.list l = some o := h
    have hL : m.L r := hL
    rcases C.rowOf h with ⟨i, h1, h2, e1, _⟩ | ⟨h1, h2, h3, e1, _⟩ <;> rw [e1] at hr
    · exact (C.mine (.inr (.inr hL)) (C.LOut hL)).2.2.1 (.inr (.inl ⟨i, o, h2, hr⟩))
    · exact C.inv.Ll l o r h2 hr hL
theorem Came.inCall (C : Came m c kp bs ls kl n k n' k' S) {r : Nat} (h : (∃ b ∈ bs, r = m.ρ.box b) ∨ (∃ l ∈ ls, m.ρ.fp l r)) : m.owned r := by
  rcases h with ⟨b, hb, rfl⟩ | ⟨l, hl, h⟩
  · obtain ⟨cs', hcs'⟩ := C.ab b hb
    exact .inl ⟨b, cs', hcs', rfl⟩
  · obtain ⟨o, ho⟩ := C.al l hl
    exact .inr (.inl ⟨l, o, ho, h⟩)
theorem Came.step (C : Came m c kp bs ls kl n k n' k' S) {N : Nat} (h1 : N ≤ n) (h2 : n + k ≤ N + 16) (h3 : N ≤ n') (h4 : n' + k' ≤ N + 16) : Step m (m.back c bs kl n k n' k' S) (scrubKeptD kp kl) N where
  inv := C.invB
  rd := fun d v h => C.rd h
  size := C.size
  os := C.os
  tape := C.tape
  output := C.output
  keep := fun r hr ho => C.keep r hr (fun h => ho (C.inCall h))
  own := fun r hr => by
    rcases hr with ⟨x, cs, hx, rfl⟩ | ⟨l, o, hl, hf⟩ | hL
    · rcases C.boxOf hx with ⟨i, cs0, g1, g2, e⟩ | ⟨g1, ⟨_, g2, _⟩, g3, e⟩ <;> rw [e]
      · rcases C.own _ (.inl ⟨i, cs0, g2, rfl⟩) with h | h
        · exact .inl (C.inCall h)
        · exact .inr h
      · exact .inl (.inl ⟨x, _, g2, rfl⟩)
    · rcases C.rowOf hl with ⟨i, g1, g2, e, _⟩ | ⟨g1, g2, g3, e, _⟩ <;> rw [e] at hf
      · rcases C.own _ (.inr (.inl ⟨i, o, g2, hf⟩)) with h | h
        · exact .inl (C.inCall h)
        · exact .inr h
      · exact .inl (.inr (.inl ⟨l, o, g2, hf⟩))
    · exact .inl (.inr (.inr hL))
  z := fun r hr => by
    rcases C.z r hr with h | h | h
    · exact .inl h
    · exact .inr (.inl (C.inCall h))
    · exact .inr (.inr h)
  zz := C.zz
  ub := fun b hb => hb.imp id (fun h => by omega)
  ul := fun l hl => hl.imp id (fun h => by omega)
  mub := fun b hb => by
    refine ⟨.inl hb, ?_⟩
    show (match cbOf bs n k b with | some i => c.ρ.box i | none => m.ρ.box b) = _
    rcases cbOf_cases bs n k b with ⟨i, h1, h2⟩ | ⟨i, h1, h2, h3, h4⟩ | ⟨h1, _⟩
    · rw [h1]; exact C.box i b h2
    · exact absurd hb (C.freshB b (by omega) (by omega))
    · rw [h1]
  mul := fun l hl => .inl hl
  bx := fun b cs hb => C.sbx b ⟨cs, hb⟩
  hd := fun l hu hv => by
    cases hs : S.list l with
    | none => exact absurd hs hv
    | some o =>
      rcases C.rowOf hs with ⟨i, g1, g2, _⟩ | ⟨g1, g2, g3, e1, e2, e3⟩
      · rcases cbOf_cases kl n' k' l with ⟨i1, a1, a2⟩ | ⟨i1, a1, a2, a3, _⟩ | ⟨a1, _⟩
        · rw [g1] at a1
          cases a1
          rename_i e1
          obtain ⟨o', ho'⟩ := C.al l (C.ks l (List.mem_of_getElem? a2))
          obtain ⟨q1, q2⟩ := C.row i l a2 (Mem.live_of g2)
          exact ⟨Mem.live_of ho', e1.2.1.trans q1, e1.2.2.trans q2⟩
        · exact absurd hu (C.freshL l (by omega) (by omega))
        · rw [g1] at a1; cases a1
      · exact ⟨Mem.live_of g2, e2, e3⟩
end
end Go.Proofs.YtjgleeamiclokaaGreat
namespace Go.Proofs.YtjgleeamiclokaaGreat
open Go
def LiveOk (P : Program) (mode : Nat → Option Tmpl) (S : Nat → List DV → St → Option R) : Prop := ∀ g t args s l, mode g = some t → S g args s = some l → Callable P g ∧ ∀ (m : Mem) (vals : Array Value), Full m s s.base → args.length = vals.size →
  (∀ (i : Nat) d v, args[i]? = some d → vals[i]? = some v → m.rd d v) → Calls P g vals m.w (fun e w' => ∃ v, e = .returned v ∧ EndsAs m s.boxes.length (if t.keep then s.lists.length else 0) (some t) l v w')
theorem fillB_len (l : R) : ∀ (bs : List (Option (List DV))), (fillB l bs).length = bs.length
  | [] => rfl
  | some _ :: r => by simp [fillB, fillB_len l r]
  | none :: r => by simp [fillB, fillB_len l r]
theorem fillO_len (l : R) : ∀ (bs : List (Option Own)), (fillO l bs).length = bs.length
  | [] => rfl
  | some _ :: r => by simp [fillO, fillO_len l r]
  | none :: r => by simp [fillO, fillO_len l r]
theorem fillB_some (l : R) : ∀ {bs : List (Option (List DV))} {i : Nat} {fs : List DV}, (fillB l bs)[i]? = some (some fs) → ∃ ts, bs[i]? = some (some ts)
  | [], i, fs, h => by simp [fillB] at h
  | some t :: r, i, fs, h => by
    cases i with
    | zero => exact ⟨t, rfl⟩
    | succ i => simpa using fillB_some l (bs := r) (i := i) (by simpa [fillB] using h)
  | none :: r, i, fs, h => by
    cases i with
    | zero => simp [fillB] at h
    | succ i => simpa using fillB_some l (bs := r) (i := i) (by simpa [fillB] using h)
theorem fillO_some (l : R) : ∀ {bs : List (Option Own)} {i : Nat} {w : Own}, (fillO l bs)[i]? = some (some w) → ∃ ts, bs[i]? = some (some ts)
  | [], i, fs, h => by simp [fillO] at h
  | some t :: r, i, fs, h => by
    cases i with
    | zero => exact ⟨t, rfl⟩
    | succ i => simpa using fillO_some l (bs := r) (i := i) (by simpa [fillO] using h)
  | none :: r, i, fs, h => by
    cases i with
    | zero => simp [fillO] at h
    | succ i => simpa using fillO_some l (bs := r) (i := i) (by simpa [fillO] using h)
theorem allSome_inv {α : Type} : ∀ {l : List (Option α)}, allSome l = true → ∀ (i : Nat) o, l[i]? = some o → ∃ a, o = some a
  | [], _, i, o, h => by simp at h
  | some a :: r, h, i, o, hi => by
    cases i with
    | zero => simp at hi; exact ⟨a, hi.symm⟩
    | succ i => exact allSome_inv (l := r) h i o (by simpa using hi)
  | none :: r, h, _, _, _ => by simp [allSome] at h
theorem getD_some {α : Type} {l : List (Option α)} {i : Nat} {x : α} (h : l.getD i none = some x) : l[i]? = some (some x) := by
  rw [List.getD] at h
  cases hi : l[i]? with
  | none => rw [hi] at h; cases h
  | some o => rw [hi] at h; simp at h; rw [h]
theorem pick_owned' {m : Mem} {s : St} {a : Seen} {r : Nat} (h : (m.pick a.bs a.ls (s.pick a)).owned r) : InCall m a.bs a.ls r := by
  rcases h with ⟨i, cs, h, rfl⟩ | ⟨l, o, h, hr⟩ | h
  · have h : (s.pick a).box i = some cs := h
    rw [pick_box] at h
    cases hbi : a.bs[i]? with
    | none => rw [hbi] at h; cases h
    | some b =>
      refine .inl ⟨b, List.mem_of_getElem? hbi, ?_⟩
      show m.ρ.box (a.bs.getD i 0) = _
      rw [getD_of hbi]
  · have h : (s.pick a).list l = some o := h
    rw [pick_list] at h
    cases hbi : a.ls[l]? with
    | none => rw [hbi] at h; cases h
    | some l0 =>
      refine .inr ⟨l0, List.mem_of_getElem? hbi, ?_⟩
      have hr : m.ρ.fp (a.ls.getD l 0) r := hr
      rw [getD_of hbi] at hr
      exact hr
  · exact h.elim
section
variable {P : Program} {X : Cx} {O : Orc}
theorem liveK_sound (hS : LiveOk P X.mode O.S) {ft : Foot} {n0 : Nat} {t : Tmpl} {f : Nat} (hm : X.mode f = some t) (hwf : t.wf = true) {args : List DV} {s : St} {k : DV → St → List Nat → Option R} {r : R} (h : liveK O ft n0 t f args s k = some r) :
    Callable P f ∧ ∃ d' s' kl, k d' s' kl = some r ∧ s.nl ≤ s'.nl ∧ ∀ (n : Nat) (m : Mem) (B L WB WL : Nat → Prop), Sit m s B L n → s'.nb ≤ n + 16 → s'.nl ≤ n + 16 → n ≤ n0 → (∀ b ∈ ft.rb, B b ∧ WB b) → (∀ l ∈ ft.rl, L l ∧ WL l) → (t.keep = true → ∀ x, (B x ∧ WB x) ∧ (L x ∧ WL x)) →
      ∀ vs : Array Value, args.length = vs.size → (∀ (i : Nat) d v, args[i]? = some d → vs[i]? = some v → m.rd d v) →
        Calls P f vs m.w (fun e w' => ∃ v, e = .returned v ∧ ∃ m', m'.w = w' ∧ Goes m m' s s' B L WB WL n (scrubKeptD t.keep kl) ∧ m'.rd d' v) := by
  unfold liveK at h
  generalize ha : reach s fuelR args ⟨[], []⟩ = a at h
  simp only at h
  generalize hkd : (if t.keep = true then a.ls else []) = kl at h
  split at h
  rotate_left
  · cases h
  rename_i hc
  simp only [Bool.and_eq_true, List.all_eq_true, Bool.or_eq_true, Nat.blt_eq] at hc
  obtain ⟨⟨⟨⟨hlen, hsome⟩, hbs⟩, hls⟩, hkl⟩ := hc
  have hkl := natBle hkl
  have hlen := natBle hlen
  obtain ⟨l, hl, hk⟩ := bd_some h
  obtain ⟨hcb, HS⟩ := hS f t _ _ l hm hl
  have nod := reach_ok (s := s) fuelR args ⟨[], []⟩ List.nodup_nil List.nodup_nil
  have liv := reach_live (s := s) fuelR args ⟨[], []⟩ (by simp) (by simp)
  rw [ha] at nod liv
  refine ⟨hcb, _, _, _, hk, Nat.le_add_right _ _, fun n m B L WB WL sit hnb hnl hn0 hB hL hall vs hvl hrd => ?_⟩
  have hnl : s.nl + (t.lists.length - kl.length) ≤ n + 16 := hnl
  have hks : ∀ l ∈ kl, l ∈ a.ls := fun l hl => by rw [← hkd] at hl; split at hl; exact hl; cases hl
  have hkn : kl.Nodup := by rw [← hkd]; split; exact nod.2.1; exact List.nodup_nil
  have hkk : t.keep = false → kl = [] := fun hf => by rw [← hkd, hf]; rfl
  have hlists : (s.pick a).lists.length = a.ls.length := pickLists_len
  have hnb : s.nb + (t.boxes.length - a.bs.length) ≤ n + 16 := hnb
  have sn1 := sit.nb
  have sn2 := sit.nl
  have lin : ∀ l ∈ a.ls, l ∈ ft.rl ∨ (n ≤ l ∧ l < n + 16) := fun l hl => by
    rcases hls l hl with h | ⟨h1, h2⟩
    · exact .inl (mem_iff.1 h)
    · have := natBle h1; exact .inr (by omega)
  have hb : ∀ b ∈ a.bs, m.s.box b = s.box b := fun b hb => sit.ab b (.inl (hB b (mem_iff.1 (hbs b hb))).1)
  have hl' : ∀ l ∈ a.ls, m.s.list l = s.list l := fun l hl => sit.al l ((lin l hl).imp (fun h => (hL l h).1) id)
  have pf := pick_full (a := a) sit.inv hb hl' nod.1 nod.2.1
  have hboxes : (s.pick a).boxes.length = a.bs.length := pickBoxes_len
  refine (HS (m.pick a.bs a.ls (s.pick a)) vs pf (by simpa using hvl) (fun i d v hd hv => ?_)).mono ?_
  · rw [List.getElem?_map] at hd
    cases hdi : args[i]? with
    | none => rw [hdi] at hd; cases hd
    | some d0 => rw [hdi] at hd; cases hd; exact ren_rd hl' deep (hrd i d0 v hdi hv)
  · rintro e w' ⟨v, rfl, c, hw, cinv, fw, d, s0, a0, hread, hdv, hfull, hub, hul⟩
    rw [hboxes, hlists] at fw
    obtain ⟨hless, lenB, lenL, HB, HO⟩ := Tmpl.read_sound hread hwf
    have lenB : t.boxes.length = a0.bs.length := lenB.trans pickBoxes_len
    have lenL : t.lists.length = a0.ls.length := lenL.trans pickLists_len
    refine ⟨v, rfl, ?_⟩
    generalize hcsB : ((fillB l t.boxes).map fun o => o.map fun cs => cs.map (ren (backFb a.bs s.nb) (backFb kl s.nl) deep)) = csB
    have hcsBl : csB.length = t.boxes.length := by rw [← hcsB, List.length_map, fillB_len]
    have hab : ∀ b ∈ a.bs, ∃ cs, m.s.box b = some cs := fun b hbm => by
      rw [hb b hbm]
      exact Option.ne_none_iff_exists'.1 (liv.1 b hbm)
    have hal : ∀ l ∈ a.ls, ∃ o, m.s.list l = some o := fun l hlm => by
      rw [hl' l hlm]
      exact Option.ne_none_iff_exists'.1 (liv.2 l hlm)
    have freshB : ∀ x, s.nb ≤ x → x < s.nb + (t.boxes.length - a.bs.length) → ¬ m.ρ.ub x := fun x h1 h2 => sit.fb x h1 (by omega)
    have freshL : ∀ x, s.nl ≤ x → x < s.nl + (t.lists.length - kl.length) → ¬ m.ρ.ul x := fun x h1 h2 => sit.fl x h1 (by omega)
    have hout : ∀ b ∈ a.bs, ¬ (s.nb ≤ b ∧ b < s.nb + (csB.length - a.bs.length)) := fun b hbm hr => by
      obtain ⟨cs, hcs⟩ := hab b hbm
      rw [hcsBl] at hr
      exact freshB b hr.1 hr.2 (sit.inv.ub b cs hcs)
    have scrL : ∀ x, look x (scrubKept t.keep kl s.boxes) = (s.box x).map (·.map (scrubKeptD t.keep kl)) := fun x => by
      unfold scrubKept scrubKeptD
      cases t.keep with
      | true => exact box_scrub kl x s.boxes
      | false =>
        rw [if_neg (by simp), if_neg (by simp)]
        exact map_id_opt _
    have boxL : ∀ x, look x (backB a.bs s.nb csB (scrubKept t.keep kl s.boxes)) = match cbOf a.bs s.nb (t.boxes.length - a.bs.length) x with | some i => csB.getD i none | none => (s.box x).map (·.map (scrubKeptD t.keep kl)) := fun x => by
      have := backB_look (x := x) (cs := csB) (bs := a.bs) (n := s.nb) (old := scrubKept t.keep kl s.boxes) nod.1 (by rw [hcsBl]; exact hlen) hout
      rw [hcsBl, scrL] at this
      exact this
    have houtL : ∀ l0 ∈ kl, ¬ (s.nl ≤ l0 ∧ l0 < s.nl + ((fillO l t.lists).length - kl.length)) := fun l0 hlm hr => by
      obtain ⟨o, ho⟩ := hal l0 (hks l0 hlm)
      rw [fillO_len] at hr
      exact freshL l0 hr.1 hr.2 (sit.inv.ul l0 o ho)
    have listL : ∀ x, look x (backB kl s.nl (fillO l t.lists) (s.killL a.ls).lists) = match cbOf kl s.nl (t.lists.length - kl.length) x with | some i => (fillO l t.lists).getD i none | none => (s.killL a.ls).list x := fun x => by
      have := backB_look (x := x) (cs := fillO l t.lists) (bs := kl) (n := s.nl) (old := (s.killL a.ls).lists) hkn (by rw [fillO_len]; exact hkl) houtL
      rw [fillO_len] at this
      exact this
    let S : Sx := { box := fun x => match cbOf a.bs s.nb (t.boxes.length - a.bs.length) x with | some i => csB.getD i none | none => (m.s.box x).map (·.map (scrubKeptD t.keep kl))
                    list := fun x => match cbOf kl s.nl (t.lists.length - kl.length) x with | some i => (fillO l t.lists).getD i none | none => if x ∈ a.ls then none else m.s.list x }
    have hbn : ∀ x, (∃ cs, m.s.box x = some cs) → ¬ (s.nb ≤ x ∧ x < s.nb + (t.boxes.length - a.bs.length)) := fun x ⟨cs, hcs⟩ hr => freshB x hr.1 hr.2 (sit.inv.ub x cs hcs)
    have cb_fb : ∀ b b', b < t.boxes.length → backFb a.bs s.nb b = some b' → cbOf a.bs s.nb (t.boxes.length - a.bs.length) b' = some b ∧ (m.ρ.ub b' ∨ (s.nb ≤ b' ∧ b' < s.nb + (t.boxes.length - a.bs.length))) := by
      intro b b' hlt hbb
      unfold backFb at hbb
      split at hbb
      · rename_i x hx
        cases hbb
        obtain ⟨cs, hcs⟩ := hab b' (List.mem_of_getElem? hx)
        refine ⟨?_, .inl (sit.inv.ub b' cs hcs)⟩
        unfold cbOf
        rw [idx_of (n := 0) nod.1 hx, Nat.zero_add]
      · rename_i hx
        cases hbb
        have hge : a.bs.length ≤ b := by
          rcases Nat.lt_or_ge b a.bs.length with h | h
          · rw [List.getElem?_eq_getElem h] at hx; cases hx
          · exact h
        have hnot : s.nb + (b - a.bs.length) ∉ a.bs := fun hm' => hbn _ (hab _ hm') ⟨by omega, by omega⟩
        refine ⟨?_, .inr ⟨by omega, by omega⟩⟩
        unfold cbOf
        rw [idx_none hnot]
        simp only
        rw [if_pos ⟨by omega, by omega⟩]
        congr 1
        omega
    have cl_fl : ∀ b b', b < t.lists.length → backFb kl s.nl b = some b' → cbOf kl s.nl (t.lists.length - kl.length) b' = some b ∧ (m.ρ.ul b' ∨ (s.nl ≤ b' ∧ b' < s.nl + (t.lists.length - kl.length))) := by
      intro b b' hlt hbb
      unfold backFb at hbb
      split at hbb
      · rename_i x hx
        cases hbb
        obtain ⟨o, ho⟩ := hal b' (hks b' (List.mem_of_getElem? hx))
        refine ⟨?_, .inl (sit.inv.ul b' o ho)⟩
        unfold cbOf
        rw [idx_of (n := 0) hkn hx, Nat.zero_add]
      · rename_i hx
        cases hbb
        have hge : kl.length ≤ b := by
          rcases Nat.lt_or_ge b kl.length with h | h
          · rw [List.getElem?_eq_getElem h] at hx; cases hx
          · exact h
        have hnot : s.nl + (b - kl.length) ∉ kl := fun hm' => by
          obtain ⟨o, ho⟩ := hal _ (hks _ hm')
          exact freshL _ (by omega) (by omega) (sit.inv.ul _ o ho)
        refine ⟨?_, .inr ⟨by omega, by omega⟩⟩
        unfold cbOf
        rw [idx_none hnot]
        simp only
        rw [if_pos ⟨by omega, by omega⟩]
        congr 1
        omega
    have ren_ok : ∀ {d : DV} {v : Value}, c.rd d v → (m.back c a.bs kl s.nb (t.boxes.length - a.bs.length) s.nl (t.lists.length - kl.length) S).rd (ren (backFb a.bs s.nb) (backFb kl s.nl) deep d) v := by
      intro d v hd
      refine RepD.renum (fun b b' hu hbb => ?_) (fun l0 l' hu hll => ?_) deep hd
      · obtain ⟨h1, h2⟩ := cb_fb b b' (by rw [lenB]; exact hub b hu) hbb
        refine ⟨h2, ?_⟩
        show (match cbOf a.bs s.nb (t.boxes.length - a.bs.length) b' with | some i => c.ρ.box i | none => m.ρ.box b') = _
        rw [h1]
      · have hlt := hul l0 hu
        rw [← lenL] at hlt
        obtain ⟨hcl, hcu⟩ := cl_fl l0 l' hlt hll
        refine ⟨hcu, fun hv => ⟨?_, ?_, ?_, ?_⟩⟩
        · have hv : (match cbOf kl s.nl (t.lists.length - kl.length) l' with | some i => (fillO l t.lists).getD i none | none => if l' ∈ a.ls then none else m.s.list l') ≠ none := hv
          rw [hcl] at hv
          obtain ⟨w1, hw1⟩ := Option.ne_none_iff_exists'.1 hv
          have hg := getD_some hw1
          obtain ⟨ts, hts⟩ := fillO_some l hg
          obtain ⟨x, w2, g1, _⟩ := HO l0 ts hts
          have g1 : (s0.pick a0).list l0 = some w2 := by
            have := pickLists_get (n := 0) g1
            rw [Nat.zero_add] at this
            exact this
          rw [← hfull.list l0] at g1
          exact Mem.live_of g1
        · show (match cbOf kl s.nl (t.lists.length - kl.length) l' with | some i => c.ρ.hdr i | none => _) = _
          rw [hcl]
        · show (match cbOf kl s.nl (t.lists.length - kl.length) l' with | some i => c.ρ.ty i | none => _) = _
          rw [hcl]
        · show (match cbOf kl s.nl (t.lists.length - kl.length) l' with | some i => c.ρ.fp i | none => _) = _
          rw [hcl]
    have came : Came m c t.keep a.bs a.ls kl s.nb (t.boxes.length - a.bs.length) s.nl (t.lists.length - kl.length) S := {
      kk := hkk
      kn := hkn
      ks := hks
      row := fun i l0 hi hlv => by
        have hkt : t.keep = true := by
          cases hk2 : t.keep with
          | true => rfl
          | false => rw [hkk hk2] at hi; simp at hi
        have hkl2 : kl = a.ls := by rw [← hkd, hkt]; rfl
        rw [hkl2] at hi
        obtain ⟨o, ho⟩ := hal l0 (List.mem_of_getElem? hi)
        have hlt : i < a.ls.length := (List.getElem?_eq_some_iff.1 hi).1
        rw [hkt] at fw
        have hu : (m.pick a.bs a.ls (s.pick a)).ρ.ul i := ⟨hlt, by rw [getD_of hi]; exact sit.inv.ul l0 o ho⟩
        obtain ⟨_, q⟩ := fw.row i (by simpa using hlt) hu
        obtain ⟨_, q1, q2⟩ := q hlv
        rw [q1, q2]
        show m.ρ.hdr (a.ls.getD i 0) = _ ∧ m.ρ.ty (a.ls.getD i 0) = _
        rw [getD_of hi]
        exact ⟨rfl, rfl⟩
      inv := sit.inv
      cinv := cinv
      nb := nod.1
      ab := hab
      al := hal
      size := fw.size
      os := fw.os
      tape := fw.tape
      output := fw.output
      keep := fun r hr hn => fw.keep r hr (fun ho => hn (pick_owned' ho))
      own := fun r hr => (fw.own r hr).imp (fun h => pick_owned' h) id
      z := fun r hr => (fw.z r hr).imp id (fun h => h.imp (fun h => pick_owned' h) id)
      zz := fw.zz
      box := fun i b hbi => by
        obtain ⟨cs, hcs⟩ := hab b (List.mem_of_getElem? hbi)
        have := fw.box i (List.getElem?_eq_some_iff.1 hbi).1 (cs.map (ren (idx · a.bs 0) (idx · a.ls 0) deep)) (by
          show (s.pick a).box i = _
          rw [pick_box, hbi, Option.bind_some, ← hb b (List.mem_of_getElem? hbi), hcs]; rfl)
        rw [this.1]
        show m.ρ.box (a.bs.getD i 0) = _
        rw [getD_of hbi]
      freshB := freshB
      freshL := freshL
      sb := fun x cs hx => by
        have hx : (match cbOf a.bs s.nb (t.boxes.length - a.bs.length) x with | some i => csB.getD i none | none => (m.s.box x).map (·.map (scrubKeptD t.keep kl))) = some cs := hx
        cases hcb : cbOf a.bs s.nb (t.boxes.length - a.bs.length) x with
        | none =>
          rw [hcb] at hx
          simp only at hx
          cases hmx : m.s.box x with
          | none => rw [hmx] at hx; cases hx
          | some cs0 => rw [hmx] at hx; cases hx; exact .inr ⟨rfl, cs0, rfl, rfl⟩
        | some i =>
          rw [hcb] at hx
          have hg := getD_some hx
          rw [← hcsB, List.getElem?_map] at hg
          cases hfi : (fillB l t.boxes)[i]? with
          | none => rw [hfi] at hg; cases hg
          | some o =>
            rw [hfi] at hg
            simp only [Option.map_some, Option.some.injEq] at hg
            cases o with
            | none => cases hg
            | some fs =>
              simp only [Option.map_some, Option.some.injEq] at hg
              obtain ⟨ts, hts⟩ := fillB_some l hfi
              obtain ⟨g1, x', cs0, g2, g3⟩ := HB i ts hts
              rw [hfi] at g1
              cases g1
              have g2 : (s0.pick a0).box i = some cs0 := by
                have := pickBoxes_get (n := 0) g2
                rw [Nat.zero_add] at this
                exact this
              rw [← hfull.box i] at g2
              refine .inl ⟨i, cs0, rfl, g2, by rw [← hg, List.length_map]; exact g3.1, fun j d0 d1 v0 h1 h2 h3 => ?_⟩
              rw [← hg, List.getElem?_map] at h2
              cases hj : (fillDs l ts)[j]? with
              | none => rw [hj] at h2; cases h2
              | some d2 =>
                rw [hj] at h2
                cases h2
                exact ren_ok (g3.2 j d0 d2 h1 hj c v0 h3)
      sbx := fun x hx => by
        show ∃ cs, (match cbOf a.bs s.nb (t.boxes.length - a.bs.length) x with | some i => csB.getD i none | none => (m.s.box x).map (·.map (scrubKeptD t.keep kl))) = some cs
        rcases cbOf_cases a.bs s.nb (t.boxes.length - a.bs.length) x with ⟨i, h1, h2⟩ | ⟨i, h1, h2, h3, h4⟩ | ⟨h1, _⟩
        · rw [h1]
          have hlt : i < a.bs.length := (List.getElem?_eq_some_iff.1 h2).1
          have hti : (t.boxes.take a.bs.length)[i]? = some (t.boxes[i]'(by omega)) := by rw [List.getElem?_take, if_pos hlt, List.getElem?_eq_getElem]
          obtain ⟨ts, hts⟩ := allSome_inv hsome i _ hti
          obtain ⟨g1, _⟩ := HB i ts (by rw [List.getElem?_eq_getElem (by omega), hts])
          refine ⟨(fillDs l ts).map (ren (backFb a.bs s.nb) (backFb kl s.nl) deep), ?_⟩
          simp only
          rw [List.getD, ← hcsB, List.getElem?_map, g1]
          rfl
        · exact absurd ⟨by omega, by omega⟩ (hbn x hx)
        · rw [h1]
          obtain ⟨cs, hcs⟩ := hx
          exact ⟨_, by simp only [hcs, Option.map_some]; rfl⟩
      sl := fun x o hx => by
        have hx : (match cbOf kl s.nl (t.lists.length - kl.length) x with | some i => (fillO l t.lists).getD i none | none => if x ∈ a.ls then none else m.s.list x) = some o := hx
        cases hcl : cbOf kl s.nl (t.lists.length - kl.length) x with
        | none =>
          rw [hcl] at hx
          simp only at hx
          split at hx
          · cases hx
          · rename_i hn; exact .inr ⟨rfl, hn, hx⟩
        | some i =>
          rw [hcl] at hx
          have hg := getD_some hx
          obtain ⟨ts, hts⟩ := fillO_some l hg
          obtain ⟨x', w2, g1, g2, _⟩ := HO i ts hts
          rw [hg] at g2
          cases g2
          have g1 : (s0.pick a0).list i = some o := by
            have := pickLists_get (n := 0) g1
            rw [Nat.zero_add] at this
            exact this
          rw [← hfull.list i] at g1
          exact .inl ⟨i, rfl, g1⟩ }
    have wbs : ∀ b ∈ a.bs, B b ∧ WB b := fun b hbm => hB b (mem_iff.1 (hbs b hbm))
    refine ⟨m.back c a.bs kl s.nb (t.boxes.length - a.bs.length) s.nl (t.lists.length - kl.length) S, hw, ?_, ren_ok (hless c v hdv)⟩
    refine {
      step := came.step sn1 hnb sn2 hnl
      after := ⟨fun x hx => ?_, fun x hx => ?_, fun x h1 h2 => ?_, fun x h1 h2 => ?_, fun x h1 h2 => ?_, fun x h1 h2 => ?_⟩
      nb := Nat.le_add_right _ _
      nl := Nat.le_add_right _ _
      ub := fun x hx hu => hu.elim id (fun h => by have hx : s.nb + (t.boxes.length - a.bs.length) ≤ x := hx; omega)
      ul := fun x hx hu => hu.elim id (fun h => by have hx : s.nl + (t.lists.length - kl.length) ≤ x := hx; omega) }
    · show (match cbOf a.bs s.nb (t.boxes.length - a.bs.length) x with | some i => csB.getD i none | none => (m.s.box x).map (·.map (scrubKeptD t.keep kl))) = look x (backB a.bs s.nb _ (scrubKept t.keep kl s.boxes))
      rw [boxL x]
      cases cbOf a.bs s.nb (t.boxes.length - a.bs.length) x with
      | some i => rfl
      | none => simp only; rw [sit.ab x hx]
    · show (match cbOf kl s.nl (t.lists.length - kl.length) x with | some i => (fillO l t.lists).getD i none | none => if x ∈ a.ls then none else m.s.list x) = look x (backB kl s.nl (fillO l t.lists) (s.killL a.ls).lists)
      rw [listL x]
      cases cbOf kl s.nl (t.lists.length - kl.length) x with
      | some i => rfl
      | none =>
        simp only
        rw [list_killL, sit.al x hx]
    · by_cases hkt : t.keep = true
      · exact absurd ((hall hkt x).1.1) h1
      · have hkt : t.keep = false := by simpa using hkt
        show (match cbOf a.bs s.nb (t.boxes.length - a.bs.length) x with | some i => csB.getD i none | none => (m.s.box x).map (fun cs : List DV => cs.map (scrubKeptD t.keep kl))) = _
        rcases cbOf_cases a.bs s.nb (t.boxes.length - a.bs.length) x with ⟨i, g1, g2⟩ | ⟨i, g1, g2, g3, g4⟩ | ⟨g1, _⟩
        · exact absurd (wbs x (List.mem_of_getElem? g2)).1 h1
        · exact absurd ⟨by omega, by omega⟩ h2
        · rw [g1, hkt]
          exact (map_id_opt _).symm
    · by_cases hkt : t.keep = true
      · exact absurd ((hall hkt x).2.1) h1
      · have hkt : t.keep = false := by simpa using hkt
        show (match cbOf kl s.nl (t.lists.length - kl.length) x with | some i => (fillO l t.lists).getD i none | none => if x ∈ a.ls then none else m.s.list x) = _
        rw [hkk hkt]
        rcases cbOf_cases [] s.nl (t.lists.length - ([] : List Nat).length) x with ⟨i, g1, g2⟩ | ⟨i, g1, g2, g3, _⟩ | ⟨g1, _⟩
        · simp at g2
        · exact absurd ⟨by omega, by rw [hkk hkt] at hnl; omega⟩ h2
        · rw [g1]
          simp only
          rw [if_neg]
          intro hxm
          rcases lin x hxm with h | h
          · exact h1 (hL x h).1
          · exact h2 h
    · by_cases hkt : t.keep = true
      · exact absurd ((hall hkt x).1.2) h1
      · have hkt : t.keep = false := by simpa using hkt
        show look x (backB a.bs s.nb _ (scrubKept t.keep kl s.boxes)) = _
        rw [boxL x]
        rcases cbOf_cases a.bs s.nb (t.boxes.length - a.bs.length) x with ⟨i, g1, g2⟩ | ⟨i, g1, g2, g3, g4⟩ | ⟨g1, _⟩
        · exact absurd (wbs x (List.mem_of_getElem? g2)).2 h1
        · exact absurd ⟨by omega, by omega⟩ h2
        · rw [g1, hkt]
          exact (map_id_opt _).symm
    · by_cases hkt : t.keep = true
      · exact absurd ((hall hkt x).2.2) h1
      · have hkt : t.keep = false := by simpa using hkt
        show look x (backB kl s.nl (fillO l t.lists) (s.killL a.ls).lists) = _
        rw [listL x, hkk hkt]
        rcases cbOf_cases [] s.nl (t.lists.length - ([] : List Nat).length) x with ⟨i, g1, g2⟩ | ⟨i, g1, g2, g3, _⟩ | ⟨g1, _⟩
        · simp at g2
        · exact absurd ⟨by omega, by rw [hkk hkt] at hnl; omega⟩ h2
        · rw [g1]
          simp only
          rw [list_killL, if_neg]
          intro hxm
          rcases lin x hxm with h | h
          · exact h1 (hL x h).2
          · exact h2 h
end
end Go.Proofs.YtjgleeamiclokaaGreat
namespace Go.Proofs.YtjgleeamiclokaaGreat
open Go
theorem flatCs_get : ∀ {cs : List PV} {cts : List OTy}, PV.flatCs cts cs = true → ∀ (j : Nat) c, cs[j]? = some c → PV.flatO (cts.getD j .leaf) c = true ∨ c.flat = true
  | [], _, _, j, c, h => by simp at h
  | x :: r, cts, h, j, c, hj => by
    have tail : ∀ {b : Bool}, (b && PV.flatCs cts.tail r) = true → j ≠ 0 → PV.flatO (cts.getD j .leaf) c = true ∨ c.flat = true := by
      intro b hb hj0
      simp only [Bool.and_eq_true] at hb
      obtain ⟨q, rfl⟩ : ∃ q, j = q + 1 := ⟨j - 1, by omega⟩
      have := flatCs_get hb.2 q c (by simpa using hj)
      cases cts with
      | nil => simpa [List.getD] using this
      | cons o os => simpa [List.getD] using this
    by_cases hj0 : j = 0
    · subst hj0
      simp at hj
      subst hj
      cases x with
      | lst xs =>
        unfold PV.flatCs at h
        simp only [Bool.and_eq_true] at h
        cases cts with
        | nil => simp at h
        | cons o os =>
          cases o with
          | leaf => simp at h
          | own s e g cts' => exact .inl (by simpa [List.getD, PV.flatO] using h.1)
      | _ => unfold PV.flatCs at h; simp only [Bool.and_eq_true] at h; exact .inr h.1
    · cases x <;> (unfold PV.flatCs at h; exact tail h hj0)
theorem flatEs_get : ∀ {xs : List PV} {g : Bool} {cts : List OTy}, PV.flatEs g cts xs = true → ∀ (i : Nat) x, xs[i]? = some x → PV.flatE g cts x = true
  | [], _, _, _, i, x, h => by simp at h
  | y :: r, g, cts, h, i, x, hi => by
    unfold PV.flatEs at h
    simp only [Bool.and_eq_true] at h
    cases i with
    | zero => simp at hi; subst hi; exact h.1
    | succ i => exact flatEs_get h.2 i x (by simpa using hi)
theorem RepO.flat {w : World} {Z Z' : Nat → Prop} {o : OTy} {x : PV} {v : Value} {F : Nat → Prop} (h : RepO w Z o x v F) (hf : PV.flatO o x = true ∨ x.flat = true) (hn : ∀ r, F r → ¬ Z' r) : RepO w Z' o x v F := by
  induction h with
  | leaf x v F h hF =>
    rcases hf with hf | hf
    · simp [PV.flatO] at hf
    · exact .leaf x v F (h.flat hf) hF
  | hole s e g cts v F h hF => exact .hole s e g cts v F h hF
  | nil s e g cts F hF => exact .nil s e g cts F hF
  | own s e g cts xs b o cap cells ety cv fp F hh hs ho hl hz he hc hv hr hF hb hd ih =>
    have hf : PV.flatEs g cts xs = true := by
      rcases hf with hf | hf
      · simpa [PV.flatO] using hf
      · simp [PV.flat] at hf
    refine .own s e g cts xs b o cap cells ety cv fp F hh hs ho hl (hn b ((hF b).2 (.inl rfl))) he hc hv (fun i j x hx hj => ?_) hF hb hd
    have hi : i < xs.length := (List.getElem?_eq_some_iff.1 hx).1
    refine ih i j x hx hj ?_ (fun r hr => hn r ((hF r).2 (.inr ⟨i, j, hi, hj, hr⟩)))
    have hfe := flatEs_get hf i x hx
    have hel := he i x hx
    cases g with
    | true =>
      obtain ⟨cs, rfl, hlen⟩ := isEl_agg hel
      rw [elCell_agg]
      unfold PV.flatE at hfe
      simp only [Bool.true_and] at hfe
      have hj' : cs[j]? = some (cs[j]'(by omega)) := List.getElem?_eq_getElem (by omega)
      have hg : cs.getD j .hole = cs[j]'(by omega) := by rw [List.getD, hj']; rfl
      rw [hg]
      exact flatCs_get hfe j _ hj'
    | false =>
      have hs1 := isEl_one hel
      have hj0 : j = 0 := by omega
      subst hj0
      show PV.flatO (cts.getD 0 .leaf) x = true ∨ x.flat = true
      cases x with
      | lst ys =>
        unfold PV.flatE at hfe
        cases cts with
        | nil => simp at hfe
        | cons o os =>
          cases o with
          | leaf => simp at hfe
          | own s' e' g' cts' => exact .inl (by simpa [List.getD, PV.flatO] using hfe)
      | agg cs => unfold PV.flatE at hfe; simp at hfe
      | _ => unfold PV.flatE at hfe; simp only [Bool.not_false, Bool.true_and] at hfe; exact .inr hfe
inductive FlatD (l : R) : DV → Prop
  | p (k : IntKind) (i : Int) : (gd l i.toNat).flat = true → FlatD l (.p (.int k i))
  | ref (n : Nat) (path : Path) : FlatD l (.ref n path)
  | agg (cs : List DV) : (∀ c ∈ cs, FlatD l c) → FlatD l (.agg cs)
  | tup (cs : List DV) : (∀ c ∈ cs, FlatD l c) → FlatD l (.tup cs)
theorem guardCells_inv {l : R} : ∀ {cs : List DV} {k : Option R} {r : R}, guardCells l cs k = some r → (∀ c ∈ cs, FlatD l c) ∧ k = some r
  | [], k, r, h => ⟨by simp, h⟩
  | .p (.int kk i) :: cs, k, r, h => by
    unfold guardCells at h
    obtain ⟨hf, h'⟩ := guardFlat_some h
    obtain ⟨h1, h2⟩ := guardCells_inv h'
    refine ⟨fun c hc => ?_, h2⟩
    rcases List.mem_cons.1 hc with rfl | hc
    · exact .p _ _ hf
    · exact h1 c hc
  | .ref n path :: cs, k, r, h => by
    unfold guardCells at h
    obtain ⟨h1, h2⟩ := guardCells_inv h
    refine ⟨fun c hc => ?_, h2⟩
    rcases List.mem_cons.1 hc with rfl | hc
    · exact .ref _ _
    · exact h1 c hc
  | .p (.bool _) :: _, _, _, h => by simp [guardCells] at h
  | .p (.str _) :: _, _, _, h => by simp [guardCells] at h
  | .p .nil :: _, _, _, h => by simp [guardCells] at h
  | .p .nilf :: _, _, _, h => by simp [guardCells] at h
  | .p (.agg _) :: _, _, _, h => by simp [guardCells] at h
  | .p (.lst _) :: _, _, _, h => by simp [guardCells] at h
  | .p (.bx _) :: _, _, _, h => by simp [guardCells] at h
  | .p (.fn _ _) :: _, _, _, h => by simp [guardCells] at h
  | .p (.tup _) :: _, _, _, h => by simp [guardCells] at h
  | .p .hole :: _, _, _, h => by simp [guardCells] at h
  | .nils :: _, _, _, h => by simp [guardCells] at h
  | .agg _ :: _, _, _, h => by simp [guardCells] at h
  | .tup _ :: _, _, _, h => by simp [guardCells] at h
  | .fn _ _ :: _, _, _, h => by simp [guardCells] at h
  | .ptr _ _ :: _, _, _, h => by simp [guardCells] at h
  | .sref _ _ _ _ :: _, _, _, h => by simp [guardCells] at h
  | .eptr _ _ _ _ :: _, _, _, h => by simp [guardCells] at h
  | .fptr _ _ _ _ :: _, _, _, h => by simp [guardCells] at h
  | .bptr _ _ :: _, _, _, h => by simp [guardCells] at h
  | .dead :: _, _, _, h => by simp [guardCells] at h
theorem guardAggs_inv {l : R} : ∀ {cs : List DV} {k : Option R} {r : R}, guardAggs l cs k = some r → (∀ c ∈ cs, FlatD l c) ∧ k = some r
  | [], k, r, h => ⟨by simp, h⟩
  | d :: cs, k, r, h => by
    have one : ∀ {d : DV}, guardCells l [d] (guardAggs l cs k) = some r → (∀ c ∈ d :: cs, FlatD l c) ∧ k = some r := by
      intro d h
      obtain ⟨h1, h2⟩ := guardCells_inv h
      obtain ⟨h3, h4⟩ := guardAggs_inv h2
      refine ⟨fun c hc => ?_, h4⟩
      rcases List.mem_cons.1 hc with rfl | hc
      · exact h1 _ List.mem_cons_self
      · exact h3 c hc
    cases d with
    | agg ds =>
      unfold guardAggs at h
      obtain ⟨h1, h2⟩ := guardCells_inv h
      obtain ⟨h3, h4⟩ := guardAggs_inv h2
      refine ⟨fun c hc => ?_, h4⟩
      rcases List.mem_cons.1 hc with rfl | hc
      · exact .agg _ h1
      · exact h3 c hc
    | _ => exact one (by simpa only [guardAggs] using h)
theorem guardRes_inv {l : R} {d : DV} {k : Option R} {r : R} (h : guardRes l d k = some r) : FlatD l d ∧ k = some r := by
  unfold guardRes at h
  split at h
  · obtain ⟨h1, h2⟩ := guardAggs_inv h
    exact ⟨.tup _ h1, h2⟩
  · obtain ⟨h1, h2⟩ := guardAggs_inv h
    exact ⟨h1 _ List.mem_cons_self, h2⟩
theorem guardRows_inv {l : R} : ∀ {cs : List (Option Own)} {k : Option R} {r : R}, guardRows l cs k = some r → (∀ (i : Nat) w kk j, cs[i]? = some (some w) → w.c = .int kk j → PV.flatO w.o (gd l j.toNat) = true) ∧ k = some r
  | [], k, r, h => ⟨fun i w kk j hi => by simp at hi, h⟩
  | none :: _, _, _, h => by simp [guardRows] at h
  | some w :: cs, k, r, h => by
    unfold guardRows at h
    split at h
    · rename_i kk j hc
      unfold PV.guardOwn at h
      split at h
      · rename_i hf
        obtain ⟨h1, h2⟩ := guardRows_inv h
        refine ⟨fun i w' kk' j' hi hc' => ?_, h2⟩
        cases i with
        | zero =>
          simp at hi
          subst hi
          rw [hc] at hc'
          cases hc'
          exact hf
        | succ i => exact h1 i w' kk' j' (by simpa using hi) hc'
      · cases h
    · cases h
mutual
theorem fillDs_map (l : R) : ∀ (ds : List DV), fillDs l ds = ds.map (fillD l)
  | [] => rfl
  | d :: r => by simp only [fillDs, List.map_cons, fillDs_map l r]
end
theorem FlatD.rd {l : R} {w : World} {Z Z' : Nat → Prop} {ρ : Loc} {live live' : Nat → Prop} (hl : ∀ x, live' x → live x) {d : DV} (hf : FlatD l d) : ∀ {v : Value}, RepD w Z ρ live (fillD l d) v → RepD w Z' ρ live' (fillD l d) v := by
  induction hf with
  | p k i hfl =>
    intro v h
    simp only [fillD] at h ⊢
    cases h with
    | p _ _ h => exact .p _ _ (h.flat hfl)
  | ref n path =>
    intro v h
    simp only [fillD] at h ⊢
    cases h with
    | ref _ _ _ h1 h2 h3 => exact .ref _ _ _ h1 h2 (fun hv => h3 (hl _ hv))
  | agg cs _ ih =>
    intro v h
    simp only [fillD, fillDs_map] at h ⊢
    cases h with
    | agg _ vs h1 h2 h3 =>
      refine .agg _ vs h1 h2 (fun i d v hd hv => ?_)
      rw [List.getElem?_map] at hd
      cases hc : cs[i]? with
      | none => rw [hc] at hd; cases hd
      | some c =>
        rw [hc] at hd
        cases hd
        exact ih c (List.mem_of_getElem? hc) (h3 i _ v (by rw [List.getElem?_map, hc]; rfl) hv)
  | tup cs _ ih =>
    intro v h
    simp only [fillD, fillDs_map] at h ⊢
    cases h with
    | tup _ vs h1 h3 =>
      refine .tup _ vs h1 (fun i d v hd hv => ?_)
      rw [List.getElem?_map] at hd
      cases hc : cs[i]? with
      | none => rw [hc] at hd; cases hd
      | some c =>
        rw [hc] at hd
        cases hd
        exact ih c (List.mem_of_getElem? hc) (h3 i _ v (by rw [List.getElem?_map, hc]; rfl) hv)
section
variable {P : Program} {X : Cx} {O : Orc}
theorem lentK_sound (hS : LiveOk P X.mode O.S) {t : Tmpl} {f : Nat} (hm : X.mode f = some t) (hwf : t.wf = true) {args : List DV} {s : St} {k : DV → St → Option R} {r : R} (h : lentK O t f args s k = some r) :
    Callable P f ∧ ∃ d' s', k d' s' = some r ∧ ∀ (n : Nat) (m : Mem) (B L WB WL : Nat → Prop), Sit m s B L n → s'.nb ≤ n + 16 → s'.nl ≤ n + 16 → MayArgs m s args →
      ∀ vs : Array Value, args.length = vs.size → (∀ (i : Nat) d v, args[i]? = some d → vs[i]? = some v → m.rd d v) →
        Calls P f vs m.w (fun e w' => ∃ v, e = .returned v ∧ ∃ m', m'.w = w' ∧ Goes m m' s s' B L WB WL n id ∧ m'.rd d' v) := by
  unfold lentK at h
  obtain ⟨ps, h1, hpl, H⟩ := snapL_sound h
  obtain ⟨l, hl, h2⟩ := bd_some h1
  obtain ⟨hflat, h3⟩ := guardRes_inv h2
  obtain ⟨hrows, hk⟩ := guardRows_inv h3
  obtain ⟨hcb, HS⟩ := hS f t _ _ l hm hl
  refine ⟨hcb, _, _, hk, fun n m B L WB WL sit hnb hnl hM vs hvl hrd => ?_⟩
  have hnl : s.nl + t.lists.length ≤ n + 16 := hnl
  have sn1 := sit.nb
  have sn2 := sit.nl
  let m0 : Mem := { w := m.w, Z := fun x => m.Z x ∨ m.owned x, s := { box := fun _ => none, list := fun _ => none }, L := fun _ => False,
                    ρ := { box := fun _ => 0, hdr := fun _ => .nilFunc, fp := fun _ _ => False, ty := fun _ => .leaf, ub := fun _ => False, ul := fun _ => False } }
  have full0 : Full m0 ⟨[], [], 0, 0, 0⟩ 0 := {
    inv := {
      ub := fun _ _ h => by cases h
      ul := fun _ _ h => by cases h
      zlt := fun r hr => hr.elim (sit.inv.zlt r) (fun h => sit.inv.owned_lt h)
      box := fun _ _ h => by cases h
      row := fun _ _ h => by cases h
      bz := fun _ _ h => by cases h
      bb := fun _ _ _ _ h => by cases h
      bl := fun _ _ _ _ h => by cases h
      ll := fun _ _ _ _ _ h => by cases h
      Lz := fun _ h => h.elim
      Lb := fun _ _ _ h => h
      Ll := fun _ _ _ _ _ h => h }
    box := fun _ => rfl
    list := fun _ => rfl
    ub := fun _ h => h.elim
    ul := fun _ h => h.elim }
  have own0 : ∀ r, ¬ m0.owned r := by
    rintro r (⟨_, _, h, _⟩ | ⟨_, _, h, _⟩ | h)
    · cases h
    · cases h
    · exact h
  have hreps := H m (fun x => m.Z x ∨ m.owned x) sit.inv hM (.inl fun r hr => .inr hr) (fun r hr => .inl hr) vs hvl hrd
  refine (HS m0 vs full0 (by rw [List.length_map]; omega) (fun i d v hd hv => ?_)).mono ?_
  · rw [List.getElem?_map] at hd
    cases hp : ps[i]? with
    | none => rw [hp] at hd; cases hd
    | some p => rw [hp] at hd; cases hd; exact .p _ _ (hreps i p v hp hv)
  · rintro e w' ⟨v, rfl, c, hw, cinv, fw, d, s0, a0, hread, hdv, hfull, hub, hul⟩
    obtain ⟨hless, lenB, lenL, HB, HO⟩ := Tmpl.read_sound hread hwf
    have lenL : t.lists.length = a0.ls.length := lenL.trans pickLists_len
    refine ⟨v, rfl, ?_⟩
    have rowC : ∀ i w, c.s.list i = some w → ∃ w0, t.lists[i]? = some (some w0) ∧ (fillO l t.lists)[i]? = some (some w) ∧ PV.flatO w.o w.c = true := by
      intro i w hi
      have hlt : i < t.lists.length := by rw [lenL]; exact hul i (cinv.ul i w hi)
      have hi' := hi
      rw [hfull.list i] at hi'
      cases hti : t.lists[i]'hlt with
      | none =>
        exfalso
        have : ∀ {cs : List (Option Own)} {k : Option R} {r : R}, guardRows l cs k = some r → ∀ (j : Nat), cs[j]? ≠ some none := by
          intro cs
          induction cs with
          | nil => intro k r _ j; simp
          | cons x xs ih =>
            intro k r h j
            cases x with
            | none => simp [guardRows] at h
            | some w =>
              unfold guardRows at h
              split at h
              · unfold PV.guardOwn at h
                split at h
                · cases j with
                  | zero => simp
                  | succ j => simpa using ih h j
                · cases h
              · cases h
        exact this h3 i (by rw [List.getElem?_eq_getElem hlt, hti])
      | some w0 =>
        have ht : t.lists[i]? = some (some w0) := by rw [List.getElem?_eq_getElem hlt, hti]
        obtain ⟨x, w1, g1, g2, ⟨kk, j, g3, g4⟩, g5⟩ := HO i w0 ht
        have g1 : (s0.pick a0).list i = some w1 := by
          have := pickLists_get (n := 0) g1
          rw [Nat.zero_add] at this
          exact this
        rw [g1] at hi'
        cases hi'
        refine ⟨w0, ht, g2, ?_⟩
        have := hrows i w0 kk j ht g3
        rw [g4, g5] at this
        exact this
    let c1 : Mem := { w := c.w, Z := fun x => c.Z x ∧ (m.Z x ∨ m.w.heap.size ≤ x), s := { box := fun _ => none, list := c.s.list }, L := fun _ => False, ρ := c.ρ }
    have c1inv : Inv c1 := {
      ub := fun _ _ h => by cases h
      ul := fun l o h => cinv.ul l o h
      zlt := fun r hr => cinv.zlt r hr.1
      box := fun _ _ h => by cases h
      row := fun i o hi => by
        have hi : c.s.list i = some o := hi
        obtain ⟨g1, g2, g3⟩ := cinv.row i o hi
        obtain ⟨w0, _, _, hf⟩ := rowC i o hi
        exact ⟨g1, g2, g3.flat (.inl hf) (fun r hr hz => g3.notZ r hr hz.1)⟩
      bz := fun _ _ h => by cases h
      bb := fun _ _ _ _ h => by cases h
      bl := fun _ _ _ _ h => by cases h
      ll := fun l o l' o' r h h' => cinv.ll l o l' o' r h h'
      Lz := fun _ h => h.elim
      Lb := fun _ _ _ h => h
      Ll := fun _ _ _ _ _ h => h }
    have c1own : ∀ r, c1.owned r → c.owned r := by
      rintro r (⟨_, _, h, _⟩ | ⟨l, o, h, hr⟩ | h)
      · cases h
      · exact .inr (.inl ⟨l, o, h, hr⟩)
      · exact h.elim
    let S : Sx := { box := m.s.box
                    list := fun x => match clOf s.nl t.lists.length x with | some i => (fillO l t.lists).getD i none | none => m.s.list x }
    have freshL : ∀ x, s.nl ≤ x → x < s.nl + t.lists.length → ¬ m.ρ.ul x := fun x h1 h2 => sit.fl x h1 (by omega)
    have cb0 : ∀ x, cbOf [] s.nb 0 x = none := fun x => by
      unfold cbOf
      simp only [idx]
      rw [if_neg (by omega)]
    have listC : ∀ i w, (fillO l t.lists)[i]? = some (some w) → c.s.list i = some w := by
      intro i w hi
      obtain ⟨ts, hts⟩ := fillO_some l hi
      obtain ⟨x', w2, g1, g2, _⟩ := HO i ts hts
      rw [hi] at g2
      cases g2
      have g1 : (s0.pick a0).list i = some w := by
        have := pickLists_get (n := 0) g1
        rw [Nat.zero_add] at this
        exact this
      rw [← hfull.list i] at g1
      exact g1
    have came : Came m c1 false [] [] [] s.nb 0 s.nl t.lists.length S := {
      kk := fun _ => rfl
      kn := List.nodup_nil
      ks := by simp
      row := fun i l0 h => by simp at h
      inv := sit.inv
      cinv := c1inv
      nb := List.nodup_nil
      ab := by simp
      al := by simp
      size := fw.size
      os := fw.os
      tape := fw.tape
      output := fw.output
      keep := fun r hr _ => fw.keep r hr (own0 r)
      own := fun r hr => .inr ((fw.own r (c1own r hr)).resolve_left (own0 r))
      z := fun r hr => hr.2.imp id (fun h => .inr h)
      zz := fun r hr => ⟨fw.zz r (.inl hr), .inl hr⟩
      box := fun i b h => by simp at h
      freshB := fun x h1 h2 => by omega
      freshL := freshL
      sb := fun x cs hx => .inr ⟨cb0 x, cs, hx, (List.map_id _).symm⟩
      sbx := fun x hx => hx
      sl := fun x o hx => by
        have hx : (match clOf s.nl t.lists.length x with | some i => (fillO l t.lists).getD i none | none => m.s.list x) = some o := hx
        rw [cbOf_nil]
        cases hcl : clOf s.nl t.lists.length x with
        | none => rw [hcl] at hx; exact .inr ⟨rfl, by simp, hx⟩
        | some i =>
          rw [hcl] at hx
          exact .inl ⟨i, rfl, listC i o (getD_some hx)⟩ }
    have listL : ∀ x, look x (backO s.nl (fillO l t.lists) s.lists) = match clOf s.nl t.lists.length x with | some i => (fillO l t.lists).getD i none | none => s.list x := fun x => by
      have := backO_look (x := x) (cs := fillO l t.lists) (n := s.nl) (old := s.lists)
      rw [fillO_len] at this
      exact this
    have hres : c1.rd (fillD l t.res) v := hflat.rd (fun _ h => h) (hless c v hdv)
    refine ⟨m.back c1 [] [] s.nb 0 s.nl t.lists.length S, hw, ?_, ?_⟩
    · refine {
        step := by have := came.step sn1 (by omega) sn2 hnl; exact this
        after := ⟨fun x hx => sit.ab x hx, fun x hx => ?_, fun _ _ _ => rfl, fun x h1 h2 => ?_, fun _ _ _ => rfl, fun x h1 h2 => ?_⟩
        nb := Nat.le_refl _
        nl := Nat.le_add_right _ _
        ub := fun x hx hu => hu.elim id (fun h => by omega)
        ul := fun x hx hu => hu.elim id (fun h => by have hx : s.nl + t.lists.length ≤ x := hx; omega) }
      · show (match clOf s.nl t.lists.length x with | some i => (fillO l t.lists).getD i none | none => m.s.list x) = look x (backO s.nl (fillO l t.lists) s.lists)
        rw [listL x]
        cases clOf s.nl t.lists.length x with
        | some i => rfl
        | none => exact sit.al x hx
      · show (match clOf s.nl t.lists.length x with | some i => (fillO l t.lists).getD i none | none => m.s.list x) = _
        rcases clOf_cases s.nl t.lists.length x with ⟨i, g1, g2, g3⟩ | ⟨g1, _⟩
        · exact absurd ⟨by omega, by omega⟩ h2
        · rw [g1]
      · show look x (backO s.nl (fillO l t.lists) s.lists) = _
        rw [listL x]
        rcases clOf_cases s.nl t.lists.length x with ⟨i, g1, g2, g3⟩ | ⟨g1, _⟩
        · exact absurd ⟨by omega, by omega⟩ h2
        · rw [g1]
    · refine RepD.renum (ρ := c1.ρ) (live := c1.s.live) (fun b b' hu hbb => by cases hbb) (fun l0 l' hu hll => ?_) deep hres
      unfold backFl at hll
      cases hll
      have hlt := hul l0 hu
      rw [← lenL] at hlt
      have hcl : clOf s.nl t.lists.length (s.nl + l0) = some l0 := by
        unfold clOf
        rw [if_pos ⟨by omega, by omega⟩]
        congr 1
        omega
      refine ⟨.inr ⟨by omega, by omega⟩, fun hv => ⟨?_, ?_, ?_, ?_⟩⟩
      · have hv : (match clOf s.nl t.lists.length (s.nl + l0) with | some i => (fillO l t.lists).getD i none | none => m.s.list (s.nl + l0)) ≠ none := hv
        rw [hcl] at hv
        obtain ⟨w1, hw1⟩ := Option.ne_none_iff_exists'.1 hv
        have := listC l0 w1 (getD_some hw1)
        show c.s.list l0 ≠ none
        rw [this]; simp
      · show (match cbOf [] s.nl t.lists.length (s.nl + l0) with | some i => c.ρ.hdr i | none => _) = _
        rw [cbOf_nil, hcl]
      · show (match cbOf [] s.nl t.lists.length (s.nl + l0) with | some i => c.ρ.ty i | none => _) = _
        rw [cbOf_nil, hcl]
      · show (match cbOf [] s.nl t.lists.length (s.nl + l0) with | some i => c.ρ.fp i | none => _) = _
        rw [cbOf_nil, hcl]
end
end Go.Proofs.YtjgleeamiclokaaGreat
namespace Go.Proofs.YtjgleeamiclokaaGreat
open Go
section
variable {P : Program} {X : Cx} {O : Orc}
theorem ownArgs_eq : ∀ (ds : List DV) (ts : List Nat) (s : St) (k : List DV → St → Option R), ownArgs X ds ts s k = ownCells X ds (ts.map (elemOf X)) s k
  | [], ts, s, k => by cases ts <;> rfl
  | d :: ds, [], s, k => rfl
  | d :: ds, t :: ts, s, k => by
    unfold ownArgs ownCells
    simp only [List.map_cons]
    cases d <;> cases elemOf X t <;> simp only [ownArgs_eq ds ts]
theorem calls_of_pure {f : Nat} (hP : PureOk P O.C) : ∀ ps r, O.C f ps = some r → Callable P f ∧ ∀ (w : World) (Z : Nat → Prop) (vals us : Array Value), (∀ z, Z z → z < w.heap.size) → ps.length = vals.size →
      (∀ (i : Nat) x v, ps[i]? = some x → vals[i]? = some v → Rep w Z x v) → ([] : List PV).length = us.size → (∀ (i : Nat) x v, ([] : List PV)[i]? = some x → us[i]? = some v → Rep w Z x v) →
      Calls P f (vals ++ us) w (fun e w' => ∃ v, e = .returned v ∧ ∃ Z', PureEnd w w' Z Z' ∧ Rep w' Z' (hd r) v) := by
  intro ps r h
  obtain ⟨h1, h2⟩ := hP f ps r h
  refine ⟨h1, fun w Z vals us hz hl hr hu _ => ?_⟩
  have : us = #[] := Array.eq_empty_of_size_eq_zero hu.symm
  subst this
  rw [Array.append_empty]
  exact h2 w Z vals hz hl hr
theorem scrubKeptE_get (kp : Bool) (kl : List Nat) (t : Nat) (e : Env) : (scrubKeptE kp kl e).get t = scrubKeptD kp kl (e.get t) := by
  unfold scrubKeptE scrubKeptD
  cases kp with
  | true => exact scrubEnv_get kl t e
  | false => rfl
theorem callK_sound (hP : PureOk P O.C) (hS : LiveOk P X.mode O.S) (hwf : ∀ g t, X.mode g = some t → t.wf = true) {f : Nat} {args : List DV} {ts : List Nat} {e : Env} {s : St} {k : DV → Env → St → Option R} {r : R} (h : callK X O f args ts e s k = some r) :
    Callable P f ∧ ∃ d' e' s' scr, k d' e' s' = some r ∧ (∀ t, e'.get t = scr (e.get t)) ∧ ((match X.mode f with | some t => { deepFoot s args (!t.lent) with last := !t.lent && t.keep } | none => deepFoot s args false).last = false → scr = _root_.id) ∧ ∀ (n : Nat) (m : Mem) (B L WB WL : Nat → Prop), Sit m s B L n → s'.nb ≤ n + 16 → s'.nl ≤ n + 16 →
      (∀ ft, ft = (match X.mode f with | some t => { deepFoot s args (!t.lent) with last := !t.lent && t.keep } | none => deepFoot s args false) → ft.Cov B L WB WL ∧ (ft.ok = true ∨ ∀ x, B x ∧ L x)) →
      ∀ vs : Array Value, args.length = vs.size → (∀ (i : Nat) d v, args[i]? = some d → vs[i]? = some v → m.rd d v) →
        Calls P f vs m.w (fun e w' => ∃ v, e = .returned v ∧ ∃ m', m'.w = w' ∧ Goes m m' s s' B L WB WL n scr ∧ m'.rd d' v) := by
  unfold callK at h
  split at h
  · rename_i hmode
    unfold pureK at h
    obtain ⟨hcb, d', hk, H⟩ := pureCall (caps := []) (k := fun d s => k d e s) (calls_of_pure hP) h
    refine ⟨hcb, d', e, s, _root_.id, hk, fun _ => rfl, fun _ => rfl, fun n m B L WB WL sit _ _ hft vs hl hr => ?_⟩
    obtain ⟨C, hok⟩ := hft _ rfl
    rw [hmode] at C hok
    have := H n m B L WB WL sit (mayArgs sit C hok) vs #[] hl hr rfl (fun i x v h => by simp at h)
    rwa [Array.append_empty] at this
  · rename_i t hmode
    split at h
    · rename_i hlent
      obtain ⟨hcb, d', s', hk, H⟩ := lentK_sound hS hmode (hwf f t hmode) h
      refine ⟨hcb, d', e, s', _root_.id, hk, fun _ => rfl, fun _ => rfl, fun n m B L WB WL sit hnb hnl hft vs hl hr => ?_⟩
      obtain ⟨C, hok⟩ := hft _ rfl
      rw [hmode] at C hok
      simp only [hlent, Bool.not_true, Bool.false_and] at C hok
      exact H n m B L WB WL sit hnb hnl (mayArgs sit C hok) vs hl hr
    · rename_i hlent
      have hlent : t.lent = false := by simpa using hlent
      rw [ownArgs_eq] at h
      obtain ⟨ds', s1, h1, hlen, hms, HM⟩ := ownCells_sound h
      obtain ⟨hcb, d', s', kl, hk, hs1, H⟩ := liveK_sound hS hmode (hwf f t hmode) h1
      refine ⟨hcb, d', scrubKeptE t.keep kl e, s', scrubKeptD t.keep kl, hk, fun t' => scrubKeptE_get t.keep kl t' e, fun hla => ?_, fun n m B L WB WL sit hnb hnl hft vs hl hr => ?_⟩
      · rw [hmode] at hla
        simp only [hlent, Bool.not_false, Bool.true_and] at hla
        unfold scrubKeptD
        rw [hla]; rfl
      obtain ⟨C, hok⟩ := hft _ rfl
      rw [hmode] at C hok
      simp only [hlent, Bool.not_false, Bool.true_and] at C hok
      obtain ⟨m1, M1, hr1⟩ := HM n m sit.inv sit.nl (by omega) sit.fl vs.toList (fun i d u h1 h2 => hr i d u h1 (by simpa using h2))
      have G1 := M1.goes WB WL sit hms (by omega)
      have sit1 := G1.sit sit
      have hwb : (deepFoot s args true).wb = (deepFoot s args true).rb := rfl
      have hwl : (deepFoot s args true).wl = (deepFoot s args true).rl := rfl
      have := H n m1 B L WB WL sit1 hnb hnl sit.nl (fun b hb => ⟨C.rb b hb, C.wb b (by show b ∈ (deepFoot s args true).wb; rw [hwb]; exact hb)⟩) (fun l hl => ⟨C.rl l hl, C.wl l (by show l ∈ (deepFoot s args true).wl; rw [hwl]; exact hl)⟩) (fun hkp x => ⟨⟨(C.all hkp x).1, (C.all hkp x).2.2.1⟩, ⟨(C.all hkp x).2.1, (C.all hkp x).2.2.2⟩⟩) vs (by omega) (fun i d v h1 h2 => hr1 i d v h1 (by simpa using h2))
      rw [M1.w] at this
      refine this.mono ?_
      rintro e w' ⟨v, rfl, m', hw, G, hd⟩
      exact ⟨v, rfl, m', hw, G1.trans G, hd⟩
theorem callLaw_of (hP : PureOk P O.C) (hS : LiveOk P X.mode O.S) (hwf : ∀ g t, X.mode g = some t → t.wf = true) : CallLaw P X O := by
  intro d args ts e s k r h
  unfold applyK at h
  split at h
  · rename_i f caps
    obtain ⟨hcb, d', e', s', scr, hk, he, hid, H⟩ := callK_sound hP hS hwf h
    have hfeq : callFoot X (.fn f caps) args s = (match X.mode f with | some t => { deepFoot s (args ++ caps) (!t.lent) with last := !t.lent && t.keep } | none => deepFoot s (args ++ caps) false) := by
      unfold callFoot
      simp only
      cases X.mode f <;> rfl
    refine ⟨d', e', s', scr, hk, he, fun hla => hid (by rw [← hfeq]; exact hla), fun n m B L WB WL sit hnb hnl C hok vf vs hvf hl hr => ?_⟩
    cases hvf with
    | fn _ _ us hul hur =>
      have e1 : (do let df ← Deferred.ofValue (.func (.func f) #[] us.toArray) vs; invoke df.target df.args : Sem Next).run P m.w = .ok (.enter f (vs ++ us.toArray)) m.w := by
        simp [Deferred.ofValue, invoke, run_callFunc hcb]
      rw [e1]
      refine (H n m B L WB WL sit hnb hnl (fun ft hft => ?_) (vs ++ us.toArray) (by simp; omega) (fun i d v hd hv => ?_))
      · rw [hfeq, ← hft] at C hok
        exact ⟨C, hok⟩
      · rw [Array.getElem?_append] at hv
        split at hv
        · rename_i hi
          rw [List.getElem?_append_left (by omega)] at hd
          exact hr i d v hd hv
        · rename_i hi
          rw [List.getElem?_append_right (by omega)] at hd
          refine hur (i - args.length) d v hd ?_
          rw [hl]
          simpa using hv
  · rename_i v
    cases v with
    | fn f caps =>
      obtain ⟨hcb, d', hk, H⟩ := pureCall (P := P) (f := f) (C := fun vs => PV.apply O.C (.fn f caps) vs) (caps := caps) (k := fun d s => k d e s) (fun ps r0 h0 => by
        have h0 : O.C f (ps ++ caps) = some r0 := h0
        obtain ⟨h1, h2⟩ := hP f _ _ h0
        refine ⟨h1, fun w Z vals us hz hl hr hul hur => h2 w Z (vals ++ us) hz (by simp; omega) (fun i x v hx hv => ?_)⟩
        rw [Array.getElem?_append] at hv
        split at hv
        · rw [List.getElem?_append_left (by omega)] at hx
          exact hr i x v hx hv
        · rw [List.getElem?_append_right (by omega)] at hx
          exact hur (i - ps.length) x v hx (by rw [hl]; exact hv)) h
      refine ⟨d', e, s, id, hk, fun _ => rfl, fun _ => rfl, fun n m B L WB WL sit hnb hnl C hok vf vs hvf hl hr => ?_⟩
      cases hvf with
      | p _ _ hvf => cases hvf with
        | fn _ _ us hul hur =>
          have e1 : (do let df ← Deferred.ofValue (.func (.func f) #[] us.toArray) vs; invoke df.target df.args : Sem Next).run P m.w = .ok (.enter f (vs ++ us.toArray)) m.w := by
            simp [Deferred.ofValue, invoke, run_callFunc hcb]
          rw [e1]
          exact H n m B L WB WL sit (mayArgs (ds := args) (wr := false) sit C hok) vs us.toArray hl hr (by simpa using hul) (fun i x v hx hv => hur i x v hx (by simpa using hv))
    | _ =>
      exfalso
      split at h <;>
      · obtain ⟨ps, h1, _⟩ := snapL_sound (s := s) h
        obtain ⟨r0, hr0, _⟩ := bd_some h1
        simp [PV.apply] at hr0
  · cases h
end
structure Hyp (P : Program) (T : Tab) (H : Hints) : Prop where
  tab : T = tabOf P
  zero : ZeroOk P H.zok
  mixed : P.follows .mixedOrders = true
  code : ∀ (f : Nat) (fn : Func) (c : Code), P.funcs[f]? = some fn → fn.body = some c → codeOk fn.ntmps c = true ∧ fn.name ≠ "runtime.NumGoroutine"
  prim : ∀ g, H.prim g = none
  glob : ∀ g, H.glob g = none
  wf : ∀ g t, H.mode g = some t → t.wf = true
section
variable {P : Program} {T : Tab} {H : Hints}
theorem argEnv_get : ∀ (ds : List DV) (n t : Nat), (argEnv n ds).get t = if n ≤ t then ds.getD (t - n) .dead else .dead
  | [], n, t => by simp [argEnv, Env.get]
  | d :: r, n, t => by
    unfold argEnv
    simp only [Env.get]
    by_cases h : t = n
    · subst h; simp
    · have hb : Nat.beq t n = false := by
        cases hb : Nat.beq t n with
        | false => rfl
        | true => exact absurd (natBeq hb) h
      rw [hb]
      simp only [Bool.false_eq_true, if_false]
      rw [argEnv_get]
      by_cases h2 : n ≤ t
      · rw [if_pos h2, if_pos (by omega), show t - n = t - (n + 1) + 1 by omega]
        simp [List.getD]
      · rw [if_neg h2, if_neg (by omega)]
theorem temps_start {m : Mem} {args : List DV} {vs : Array Value} {n : Nat} (hl : args.length = vs.size) (hr : ∀ (i : Nat) d v, args[i]? = some d → vs[i]? = some v → m.rd d v) :
    Temps m (argEnv 0 args).get ⟨vs ++ Array.replicate n undef, []⟩ := by
  intro t
  rw [argEnv_get, if_pos (Nat.zero_le _), Nat.sub_zero]
  by_cases h : t < args.length
  · have hd : args[t]? = some args[t] := List.getElem?_eq_getElem h
    have hv : vs[t]? = some (vs[t]'(by omega)) := Array.getElem?_eq_getElem (by omega)
    have e1 : args.getD t .dead = args[t] := by rw [List.getD, hd]; rfl
    have e2 : Act.eval ⟨vs ++ Array.replicate n undef, []⟩ (.tmp t) = vs[t]'(by omega) := by
      show (vs ++ Array.replicate n undef).getD t undef = _
      rw [Array.getD_eq_getD_getElem?, Array.getElem?_append_left (by omega), hv]; rfl
    rw [e1, e2]
    exact hr t _ _ hd hv
  · have e1 : args.getD t .dead = .dead := by rw [List.getD, List.getElem?_eq_none (by omega)]; rfl
    rw [e1]
    exact .dead _
theorem calls_of_good {f : Nat} {fn : Func} {c : Code} (hfn : P.funcs[f]? = some fn) (hc : fn.body = some c) {nb nl : Nat} {out : Option Tmpl} {args : List DV} {s : St} {r : R} (hg : Good P f nb nl out [.code c] (argEnv 0 args) s r)
    {m : Mem} {vs : Array Value} (hf : Full m s s.base) (hl : args.length = vs.size) (hr : ∀ (i : Nat) d v, args[i]? = some d → vs[i]? = some v → m.rd d v) :
    Calls P f vs m.w (fun e w' => ∃ v, e = .returned v ∧ EndsAs m nb nl out r v w') := by
  intro cs
  let b : Frame := { (default : Frame) with fn := f, kind := .normal }
  have henter : Frame.enter P f vs .normal = b.at ⟨vs ++ Array.replicate (fn.ntmps - vs.size) undef, []⟩ [.code c] := by
    simp [Frame.enter, Frame.at, hfn, hc, b]
  obtain ⟨v, w', fr, h1, h2, h3, h4⟩ := hg m ⟨vs ++ Array.replicate (fn.ntmps - vs.size) undef, []⟩ fn hfn hf (temps_start hl hr) (by simp; omega) rfl b cs rfl rfl
  rw [← henter] at h2
  exact ⟨.returned v, w', fr, ⟨v, rfl, h1⟩, h2, h3, h4⟩
theorem start_body {f : Nat} {n nb nl : Nat} {out : Option Tmpl} {e : Env} {s : St} {r : R} (h : runN P T H n f nb nl out (startOf P f) e s = some r) : ∃ fn c, P.funcs[f]? = some fn ∧ fn.body = some c ∧ startOf P f = [.code c] := by
  cases hb : bodyOf P f with
  | none =>
    exfalso
    cases n with
    | zero => simp [runN] at h
    | succ n =>
      unfold runN at h
      have hs : startOf P f = [.code (.refuse "")] := by unfold startOf; rw [hb]
      rw [hs] at h
      unfold evalFuel eval at h
      simp at h
  | some c =>
    have hs : startOf P f = [.code c] := by unfold startOf; rw [hb]
    unfold bodyOf at hb
    cases hf : P.funcs[f]? with
    | none => rw [hf] at hb; cases hb
    | some fn => rw [hf] at hb; exact ⟨fn, c, rfl, hb, hs⟩
theorem todo1 (hy : Hyp P T H) {g : Nat} {fn : Func} {c : Code} (hg : P.funcs[g]? = some fn) (hc : fn.body = some c) : TodoOk fn.ntmps [.code c] := fun x hx => by
  simp at hx; subst hx; exact (hy.code _ _ _ hg hc).1
def RunOk (P : Program) (run : Nat → Nat → Nat → Option Tmpl → List Item → Env → St → Option R) : Prop := ∀ (f nb nl : Nat) (out : Option Tmpl) (todo : List Item) (e : Env) (s : St) (r : R) (fn : Func), run f nb nl out todo e s = some r → P.funcs[f]? = some fn → TodoOk fn.ntmps todo → Good P f nb nl out todo e s r
def RunSt (P : Program) (run : Nat → Nat → Nat → Option Tmpl → List Item → Env → St → Option R) : Prop := ∀ {f nb nl : Nat} {out : Option Tmpl} {e : Env} {s : St} {r : R}, run f nb nl out (startOf P f) e s = some r → ∃ fn c, P.funcs[f]? = some fn ∧ fn.body = some c ∧ startOf P f = [.code c]
variable {run : Nat → Nat → Nat → Option Tmpl → List Item → Env → St → Option R}
theorem orc_pure (hy : Hyp P T H) (hrun : RunOk P run) (hst : RunSt P run) (f nb nl : Nat) (out : Option Tmpl) : PureOk P (orcOf P H run f nb nl out).C := by
  intro g args r h
  have h : (match H.prim g with | some h => h args | none => run g 0 0 none (startOf P g) (argEnv 0 (args.map .p)) ⟨[], [], 0, 0, 0⟩) = some r := h
  rw [hy.prim g] at h
  simp only at h
  obtain ⟨fg, c, hfg, hc, hst'⟩ := hst h
  rw [hst'] at h
  have good := hrun g 0 0 none _ _ _ r fg h hfg (todo1 hy hfg hc)
  refine ⟨⟨fg, c, hfg, hc, (hy.code _ _ _ hfg hc).2⟩, fun w Z vals hz hl hr => ?_⟩
  let m0 : Mem := { w := w, Z := Z, s := { box := fun _ => none, list := fun _ => none }, L := fun _ => False,
                    ρ := { box := fun _ => 0, hdr := fun _ => .nilFunc, fp := fun _ _ => False, ty := fun _ => .leaf, ub := fun _ => False, ul := fun _ => False } }
  have full0 : Full m0 ⟨[], [], 0, 0, 0⟩ 0 := {
    inv := {
      ub := fun _ _ h => by cases h
      ul := fun _ _ h => by cases h
      zlt := hz
      box := fun _ _ h => by cases h
      row := fun _ _ h => by cases h
      bz := fun _ _ h => by cases h
      bb := fun _ _ _ _ h => by cases h
      bl := fun _ _ _ _ h => by cases h
      ll := fun _ _ _ _ _ h => by cases h
      Lz := fun _ h => h.elim
      Lb := fun _ _ _ h => h
      Ll := fun _ _ _ _ _ h => h }
    box := fun _ => rfl
    list := fun _ => rfl
    ub := fun _ h => h.elim
    ul := fun _ h => h.elim }
  have own0 : ∀ r, ¬ m0.owned r := by
    rintro r (⟨_, _, h, _⟩ | ⟨_, _, h, _⟩ | h)
    · cases h
    · cases h
    · exact h
  refine (calls_of_good hfg hc good (m := m0) (vs := vals) full0 (by simpa using hl) (fun i d v hd hv => ?_)).mono ?_
  · rw [List.getElem?_map] at hd
    cases hp : args[i]? with
    | none => rw [hp] at hd; cases hd
    | some p => rw [hp] at hd; cases hd; exact .p _ _ (hr i p v hp hv)
  · rintro e w' ⟨v, rfl, m', rfl, inv', fw, pv, rfl, hrep⟩
    refine ⟨v, rfl, fun x => m'.Z x ∨ m'.owned x, ⟨fw.size, fw.os, fw.tape, fw.output, fun r hr => fw.keep r hr (own0 r), fun r hr => .inl (fw.zz r hr), fun r hr => ?_⟩, hrep⟩
    rcases hr with hr | hr
    · rcases fw.z r hr with h | h | h
      · exact .inl h
      · exact (own0 r h).elim
      · exact .inr ⟨h, inv'.zlt r hr⟩
    · exact .inr ⟨(fw.own r hr).resolve_left (own0 r), inv'.owned_lt hr⟩
theorem orc_live (hy : Hyp P T H) (hrun : RunOk P run) (hst : RunSt P run) (f nb nl : Nat) (out : Option Tmpl) : LiveOk P H.mode (orcOf P H run f nb nl out).S := by
  intro g t args s l hmode h
  have h : (match H.mode g with | some t => run g s.boxes.length (if t.keep then s.lists.length else 0) (some t) (startOf P g) (argEnv 0 args) s | none => none) = some l := h
  rw [hmode] at h
  simp only at h
  obtain ⟨fg, c, hfg, hc, hst'⟩ := hst h
  rw [hst'] at h
  have good := hrun g s.boxes.length (if t.keep then s.lists.length else 0) (some t) _ _ _ l fg h hfg (todo1 hy hfg hc)
  exact ⟨⟨fg, c, hfg, hc, (hy.code _ _ _ hfg hc).2⟩, fun m vals hf hl hr => calls_of_good hfg hc good hf hl hr⟩
theorem run_sound (hy : Hyp P T H) : ∀ (n : Nat), RunOk P (runN P T H n)
  | 0, _, _, _, _, _, _, _, _, _, h, _, _ => by simp [runN] at h
  | n + 1, f, nb, nl, out, todo, e, s, r, fn, h, hfn, hok => by
    unfold runN at h
    have ih := run_sound hy n
    have hP := orc_pure hy ih start_body f nb nl out
    have hS := orc_live hy ih start_body f nb nl out
    refine eval_sound (X := cxOf P T H f nb nl out) (O := orcOf P H (runN P T H n) f nb nl out) hy.tab hy.zero hy.glob (callLaw_of hP hS hy.wf) hy.mixed hfn ?_ (fun todo e s r h hk => ih f nb nl out todo e s r fn h hfn hk) evalFuel true todo e s r h hok
    show ((P.funcs[f]?).map (·.results.toList)).getD [] = _
    rw [hfn]; rfl
end
end Go.Proofs.YtjgleeamiclokaaGreat
namespace Go.Proofs.YtjgleeamiclokaaGreat
open Go
def EvC {β : Type} (a : Option β) (b : Nat → Option β) : Prop := ∀ r, a = some r → ∃ N, ∀ n, N ≤ n → b n = some r
section
variable {α β : Type}
theorem EvC.none {b : Nat → Option β} : EvC (Option.none : Option β) b := fun r h => by cases h
theorem EvC.rfl (a : Option β) : EvC a (fun _ => a) := fun r h => ⟨0, fun _ _ => h⟩
theorem EvC.bd {o : Option α} {k : α → Option β} {k' : Nat → α → Option β} (h : ∀ a, EvC (k a) (fun n => k' n a)) : EvC (bd o k) (fun n => bd o (k' n)) := by
  cases o with
  | none => exact EvC.none
  | some a => exact h a
theorem EvC.bd2 {o : Option α} {o' : Nat → Option α} {k : α → Option β} {k' : Nat → α → Option β} (ho : EvC o o') (h : ∀ a, EvC (k a) (fun n => k' n a)) : EvC (Go.Proofs.YtjgleeamiclokaaGreat.bd o k) (fun n => Go.Proofs.YtjgleeamiclokaaGreat.bd (o' n) (k' n)) := by
  intro r hr
  obtain ⟨a, ha, hk⟩ := bd_some hr
  obtain ⟨N, hN⟩ := ho a ha
  obtain ⟨M, hM⟩ := h a r hk
  refine ⟨max N M, fun n hn => ?_⟩
  show Go.Proofs.YtjgleeamiclokaaGreat.bd (o' n) (k' n) = some r
  rw [hN n (by omega)]
  exact hM n (by omega)
theorem EvC.pvite {c : PV} {a b : Option β} {a' b' : Nat → Option β} (ha : EvC a a') (hb : EvC b b') : EvC (PV.ite c a b) (fun n => PV.ite c (a' n) (b' n)) := by
  intro r hr
  rcases ite_some hr with ⟨rfl, h⟩ | ⟨rfl, h⟩
  · obtain ⟨N, hN⟩ := ha r h
    exact ⟨N, fun n hn => hN n hn⟩
  · obtain ⟨N, hN⟩ := hb r h
    exact ⟨N, fun n hn => hN n hn⟩
theorem EvC.ite {c : Prop} [Decidable c] {a b : Option β} {a' b' : Nat → Option β} (ha : EvC a a') (hb : EvC b b') : EvC (if c then a else b) (fun n => if c then a' n else b' n) := by
  by_cases h : c
  · simp only [h, if_true]; exact ha
  · simp only [h, if_false]; exact hb
theorem EvC.flat {r : PV} {a : Option β} {a' : Nat → Option β} (ha : EvC a a') : EvC (PV.guardFlat r a) (fun n => PV.guardFlat r (a' n)) := by
  unfold PV.guardFlat; exact EvC.ite ha EvC.none
theorem EvC.own {o : OTy} {r : PV} {a : Option β} {a' : Nat → Option β} (ha : EvC a a') : EvC (PV.guardOwn o r a) (fun n => PV.guardOwn o r (a' n)) := by
  unfold PV.guardOwn; exact EvC.ite ha EvC.none
end
section
variable {X : Cx}
theorem cellsGo_cont {v : PV} : ∀ {m : Nat} {k : List PV → Option R} {k' : Nat → List PV → Option R}, (∀ l, EvC (k l) (fun n => k' n l)) → EvC (cellsK.go v m k) (fun n => cellsK.go v m (k' n))
  | 0, _, _, h => h []
  | _ + 1, _, _, h => by
    unfold cellsK.go
    exact cellsGo_cont fun l => EvC.bd fun c => h _
theorem cellsK_cont {m : Nat} {d : DV} {k : List DV → Option R} {k' : Nat → List DV → Option R} (h : ∀ l, EvC (k l) (fun n => k' n l)) : EvC (cellsK m d k) (fun n => cellsK m d (k' n)) := by
  cases d <;> simp only [cellsK] <;> first
    | exact EvC.none
    | exact EvC.ite (h _) EvC.none
    | exact EvC.bd fun v => cellsGo_cont fun l => h _
theorem getK_cont : ∀ {path : Path} {o : OTy} {c : PV} {k : OTy → PV → Option R} {k' : Nat → OTy → PV → Option R}, (∀ o c, EvC (k o c) (fun n => k' n o c)) → EvC (getK o c path k) (fun n => getK o c path (k' n))
  | [], _, _, _, _, h => h _ _
  | (i, j) :: r, o, c, k, k', h => by
    unfold getK
    exact EvC.bd fun x => EvC.ite (EvC.bd fun y => getK_cont h) (EvC.ite (getK_cont h) EvC.none)
theorem setK_cont : ∀ {path : Path} {o : OTy} {c y : PV} {k : PV → Option R} {k' : Nat → PV → Option R}, (∀ c, EvC (k c) (fun n => k' n c)) → EvC (setK o c path y k) (fun n => setK o c path y (k' n))
  | [], _, _, _, _, _, h => h _
  | (i, j) :: r, o, c, y, k, k', h => by
    unfold setK
    exact EvC.bd fun x => EvC.ite (EvC.bd fun z => setK_cont fun z' => EvC.bd h) (EvC.ite (setK_cont fun z' => EvC.bd h) EvC.none)
theorem rowK_cont {s : St} {d : DV} {k : OTy → PV → Option R} {k' : Nat → OTy → PV → Option R} (h : ∀ o c, EvC (k o c) (fun n => k' n o c)) : EvC (rowK s d k) (fun n => rowK s d (k' n)) := by
  cases d <;> simp only [rowK] <;> try exact EvC.none
  · rename_i l path
    cases s.list l with
    | none => exact EvC.none
    | some w => exact getK_cont h
  · rename_i l path lo hi
    cases s.list l with
    | none => exact EvC.none
    | some w => exact getK_cont fun o c => EvC.bd fun c => h _ _
theorem mapK_cont {α β : Type} {f : α → (β → Option R) → Option R} (hf : ∀ a k (k' : Nat → β → Option R), (∀ b, EvC (k b) (fun n => k' n b)) → EvC (f a k) (fun n => f a (k' n))) :
    ∀ {l : List α} {k : List β → Option R} {k' : Nat → List β → Option R}, (∀ b, EvC (k b) (fun n => k' n b)) → EvC (mapK f l k) (fun n => mapK f l (k' n))
  | [], _, _, h => h _
  | d :: r, k, k', h => by
    unfold mapK
    exact hf _ _ _ fun v => mapK_cont hf fun vs => h _
theorem snapK_cont {s : St} : ∀ {m : Nat} {d : DV} {k : PV → Option R} {k' : Nat → PV → Option R}, (∀ v, EvC (k v) (fun n => k' n v)) → EvC (snapK s m d k) (fun n => snapK s m d (k' n))
  | 0, _, _, _, _ => by simp only [snapK]; exact EvC.none
  | m + 1, d, k, k', h => by
    have mp := fun {ds : List DV} {k : List PV → Option R} {k' : Nat → List PV → Option R} (h : ∀ v, EvC (k v) (fun n => k' n v)) => mapK_cont (f := snapK s m) (fun a k k' h => snapK_cont h) (l := ds) h
    cases d <;> simp only [snapK] <;> first
      | exact EvC.none
      | exact h _
      | exact mp fun vs => h _
      | exact rowK_cont fun _ c => h _
      | skip
    rename_i b off
    cases off with
    | zero =>
      cases s.box b with
      | none => exact EvC.none
      | some cs => exact mp fun vs => h _
    | succ n => exact EvC.none
theorem snapL_cont {s : St} {m : Nat} {ds : List DV} {k : List PV → Option R} {k' : Nat → List PV → Option R} (h : ∀ v, EvC (k v) (fun n => k' n v)) : EvC (snapL s m ds k) (fun n => snapL s m ds (k' n)) := by
  unfold snapL
  exact mapK_cont (f := snapK s m) (fun a k k' h => snapK_cont h) h
theorem sinkK_cont {s : St} {d : DV} {k : PV → St → Option R} {k' : Nat → PV → St → Option R} (h : ∀ v s, EvC (k v s) (fun n => k' n v s)) : EvC (sinkK s d k) (fun n => sinkK s d (k' n)) := by
  unfold sinkK
  cases bsOf deep d with
  | nil => exact snapK_cont fun v => h _ _
  | cons => exact EvC.none
theorem sinkAs_cont {ct : OTy} {s : St} {d : DV} {k : PV → St → Option R} {k' : Nat → PV → St → Option R} (h : ∀ v s, EvC (k v s) (fun n => k' n v s)) : EvC (sinkAs ct s d k) (fun n => sinkAs ct s d (k' n)) := by
  cases ct with
  | leaf => exact sinkK_cont h
  | own a b c e =>
    cases d <;> simp only [sinkAs] <;> first
      | exact EvC.none
      | exact h _ _
      | skip
    · rename_i l path
      cases path with
      | nil =>
        dsimp only
        cases s.list l with
        | none => exact EvC.none
        | some w => exact EvC.ite (h _ _) EvC.none
      | cons => exact EvC.none
    · rename_i l path lo hi
      cases path with
      | nil =>
        dsimp only
        cases s.list l with
        | none => exact EvC.none
        | some w => exact EvC.ite (EvC.bd fun c => h _ _) EvC.none
      | cons => exact EvC.none
theorem sinkCells_cont {o : OTy} : ∀ {ds : List DV} {s : St} {j : Nat} {k : List PV → St → Option R} {k' : Nat → List PV → St → Option R}, (∀ v s, EvC (k v s) (fun n => k' n v s)) → EvC (sinkCells o s j ds k) (fun n => sinkCells o s j ds (k' n))
  | [], _, _, _, _, h => h _ _
  | d :: r, s, j, k, k', h => by
    unfold sinkCells
    exact sinkAs_cont fun v s => sinkCells_cont fun vs s => h _ _
theorem elemK_cont {o : OTy} {s : St} {d : DV} {k : PV → St → Option R} {k' : Nat → PV → St → Option R} (h : ∀ v s, EvC (k v s) (fun n => k' n v s)) : EvC (elemK o s d k) (fun n => elemK o s d (k' n)) := by
  unfold elemK
  cases o.g with
  | true =>
    cases d <;> simp only [if_true] <;> first
      | exact EvC.none
      | exact EvC.ite (h _ _) EvC.none
      | exact EvC.ite (sinkCells_cont fun vs s => h _ _) EvC.none
  | false =>
    cases d <;> simp only [Bool.false_eq_true, if_false] <;> first
      | exact EvC.none
      | exact sinkAs_cont h
theorem ownCells_cont : ∀ {ds : List DV} {ts : List (Option Nat)} {s : St} {k : List DV → St → Option R} {k' : Nat → List DV → St → Option R}, (∀ v s, EvC (k v s) (fun n => k' n v s)) → EvC (ownCells X ds ts s k) (fun n => ownCells X ds ts s (k' n))
  | [], ts, s, k, k', h => by cases ts <;> exact h _ _
  | d :: ds, [], s, k, k', h => h _ _
  | d :: ds, t :: ts, s, k, k', h => by
    unfold ownCells
    cases d <;> cases t <;> exact ownCells_cont fun vs s => h _ _
theorem cellsE_cont {l : Nat} {path : Path} {i : PV} {o : OTy} {x : PV} : ∀ {m off : Nat} {k : List DV → Option R} {k' : Nat → List DV → Option R}, (∀ v, EvC (k v) (fun n => k' n v)) → EvC (cellsE l path i o x m off k) (fun n => cellsE l path i o x m off (k' n))
  | 0, _, _, _, h => h _
  | m + 1, off, k, k', h => by
    unfold cellsE
    exact EvC.ite (EvC.bd fun y => cellsE_cont fun ds => h _) (cellsE_cont fun ds => h _)
theorem partK_cont {x : PV} {s : Nat} {g : Bool} {off : Nat} {r : TyR} {k : DV → Option R} {k' : Nat → DV → Option R} (h : ∀ v, EvC (k v) (fun n => k' n v)) : EvC (partK x s g off r k) (fun n => partK x s g off r (k' n)) := by
  unfold partK
  exact EvC.ite (EvC.ite (h _) (EvC.bd fun y => h _)) (EvC.ite (EvC.bd fun y => h _) (EvC.ite (h _) EvC.none))
theorem cellsB_cont {c : PV} : ∀ {m off : Nat} {k : List PV → Option R} {k' : Nat → List PV → Option R}, (∀ v, EvC (k v) (fun n => k' n v)) → EvC (loadK.cellsB c m off k) (fun n => loadK.cellsB c m off (k' n))
  | 0, _, _, _, h => h _
  | m + 1, off, k, k', h => by
    unfold loadK.cellsB
    exact EvC.bd fun v => cellsB_cont fun l => h _
theorem loadK_cont {t : Nat} {a : DV} {s : St} {k : DV → Option R} {k' : Nat → DV → Option R} (h : ∀ v, EvC (k v) (fun n => k' n v)) : EvC (loadK X t a s k) (fun n => loadK X t a s (k' n)) := by
  unfold loadK
  refine EvC.ite EvC.none ?_
  cases a <;> (try simp only) <;> first
    | exact EvC.none
    | exact EvC.ite (cellsB_cont fun l => h _) (EvC.bd fun y => h _)
    | exact partK_cont h
    | skip
  · rename_i b off
    cases s.box b with
    | none => exact EvC.none
    | some cs =>
      refine EvC.ite (EvC.ite (h _) EvC.none) ?_
      cases cs[off]? with
      | none => exact EvC.none
      | some d => exact h _
  · rename_i l path i off
    cases s.list l with
    | none => exact EvC.none
    | some w =>
      exact getK_cont fun o c => EvC.bd fun x => EvC.ite (partK_cont h) (EvC.ite (EvC.ite (cellsE_cont fun ds => h _) EvC.none)
        (EvC.ite (EvC.ite (EvC.bd fun y => h _) (EvC.ite (h _) EvC.none)) (EvC.ite (h _) EvC.none)))
theorem oneK_cont {d : DV} {k : DV → Option R} {k' : Nat → DV → Option R} (h : ∀ v, EvC (k v) (fun n => k' n v)) : EvC (oneK d k) (fun n => oneK d (k' n)) := by
  cases d <;> simp only [oneK] <;> first
    | exact EvC.none
    | exact h _
    | exact EvC.bd fun x => h _
theorem storeB_cont {t b off : Nat} {v : DV} {s : St} {k : St → Option R} {k' : Nat → St → Option R} (h : ∀ v, EvC (k v) (fun n => k' n v)) : EvC (storeB X t b off v s k) (fun n => storeB X t b off v s (k' n)) := by
  unfold storeB
  simp only
  cases s.box b with
  | none => exact EvC.none
  | some cs =>
    refine EvC.ite (EvC.ite (cellsK_cont fun vs => ownCells_cont fun vs s => h _) (EvC.ite (oneK_cont fun v => ?_) EvC.none)) EvC.none
    cases v <;> (try simp only) <;> first
      | exact h _
      | skip
    · cases elemOf X t with
      | none => exact EvC.none
      | some u => exact h _
    · rename_i l path lo hi
      cases path with
      | cons => exact h _
      | nil =>
        cases cs[off]? with
        | none => exact h _
        | some d =>
          cases d <;> (try simp only) <;> first
            | exact h _
            | skip
          rename_i l' path'
          cases path' with
          | cons => exact h _
          | nil =>
            refine EvC.ite ?_ (h _)
            cases s.list l with
            | none => exact EvC.none
            | some w => exact EvC.bd fun c => h _
theorem setAll_cont {m : Nat} {c i : PV} : ∀ {ys : List PV} {c : PV} {off : Nat} {k : PV → Option R} {k' : Nat → PV → Option R}, (∀ v, EvC (k v) (fun n => k' n v)) → EvC (storeK.setAll m c i off ys k) (fun n => storeK.setAll m c i off ys (k' n))
  | [], _, _, _, _, h => h _
  | y :: ys, c, off, k, k', h => by
    unfold storeK.setAll
    exact EvC.bd fun c => setAll_cont (c := c) h
theorem fin_cont {e : Env} {l : Nat} {path : Path} {w : Own} {c : PV} {s : St} {k : Env → St → Option R} {k' : Nat → Env → St → Option R} (h : ∀ e s, EvC (k e s) (fun n => k' n e s)) : EvC (storeK.fin e k l path w c s) (fun n => storeK.fin e (k' n) l path w c s) := by
  unfold storeK.fin
  refine setK_cont fun c' => ?_
  unfold touchK
  exact EvC.ite (h _ _) (h _ _)
theorem setIn_cont {e : Env} {o : OTy} {ds : List DV} {off l : Nat} {path : Path} {i : PV} {s : St} {k : Env → St → Option R} {k' : Nat → Env → St → Option R} (h : ∀ e s, EvC (k e s) (fun n => k' n e s)) : EvC (storeK.setIn e k o ds off l path i s) (fun n => storeK.setIn e (k' n) o ds off l path i s) := by
  unfold storeK.setIn
  refine sinkCells_cont fun ys s => ?_
  cases s.list l with
  | none => exact EvC.none
  | some w => exact getK_cont fun o c => setAll_cont (c := c) fun c => fin_cont h
theorem storeK_cont {t : Nat} {a v : DV} {e : Env} {s : St} {k : Env → St → Option R} {k' : Nat → Env → St → Option R} (h : ∀ e s, EvC (k e s) (fun n => k' n e s)) : EvC (storeK X t a v e s k) (fun n => storeK X t a v e s (k' n)) := by
  unfold storeK
  refine EvC.ite EvC.none ?_
  cases a <;> (try simp only) <;> first
    | exact EvC.none
    | exact storeB_cont fun s => h _ _
    | skip
  rename_i l path i off
  cases s.list l with
  | none => exact EvC.none
  | some w =>
    refine getK_cont fun o c => EvC.ite (elemK_cont fun x s => ?_) (EvC.ite (cellsK_cont fun ds => setIn_cont h) (EvC.ite (oneK_cont fun v => setIn_cont h) EvC.none))
    cases s.list l with
    | none => exact EvC.none
    | some w => exact getK_cont fun o c => EvC.bd fun c => fin_cont h
theorem buildK_cont {fs : List (Nat × Nat)} : ∀ {ps : List (Nat × DV)} {cs : List DV} {k : List DV → Option R} {k' : Nat → List DV → Option R}, (∀ v, EvC (k v) (fun n => k' n v)) → EvC (buildK X fs ps cs k) (fun n => buildK X fs ps cs (k' n))
  | [], _, _, _, h => h _
  | (i, v) :: r, cs, k, k', h => by
    unfold buildK
    cases fs[i]? with
    | none => exact EvC.none
    | some p => exact EvC.ite (EvC.ite (cellsK_cont fun vs => buildK_cont h) (EvC.ite (oneK_cont fun v => buildK_cont h) EvC.none)) EvC.none
theorem elemsK_cont {o : OTy} : ∀ {ds : List DV} {s : St} {k : List PV → St → Option R} {k' : Nat → List PV → St → Option R}, (∀ v s, EvC (k v s) (fun n => k' n v s)) → EvC (elemsK o s ds k) (fun n => elemsK o s ds (k' n))
  | [], _, _, _, h => h _ _
  | d :: r, s, k, k', h => by
    unfold elemsK
    exact elemK_cont fun v s => elemsK_cont fun vs s => h _ _
theorem moveK_cont {dst : Option Nat} {t : Nat} {d : DV} {e : Env} {s : St} {k : DV → St → Option R} {k' : Nat → DV → St → Option R} (h : ∀ v s, EvC (k v s) (fun n => k' n v s)) : EvC (moveK X dst t d e s k) (fun n => moveK X dst t d e s (k' n)) := by
  cases d <;> simp only [moveK] <;> first
    | exact EvC.none
    | exact h _ _
    | skip
  · cases elemOf X t with
    | none => exact h _ _
    | some u => exact h _ _
  · rename_i l path lo hi
    cases path with
    | cons => exact h _ _
    | nil =>
      cases dst with
      | none => exact h _ _
      | some t =>
        dsimp only
        generalize e.get t = d0
        cases d0 <;> (try simp only) <;> first
          | exact h _ _
          | skip
        rename_i l' path'
        cases path' with
        | cons => exact h _ _
        | nil =>
          refine EvC.ite ?_ (h _ _)
          cases s.list l with
          | none => exact EvC.none
          | some w => exact EvC.bd fun c => h _ _
theorem pickK_cont {c a b : DV} {e : Env} {s : St} {k : DV → St → Option R} {k' : Nat → DV → St → Option R} (h : ∀ v s, EvC (k v s) (fun n => k' n v s)) : EvC (pickK X c a b e s k) (fun n => pickK X c a b e s (k' n)) := by
  cases c <;> simp only [pickK] <;> first
    | exact EvC.none
    | exact EvC.pvite (moveK_cont h) (moveK_cont h)
theorem allocK_cont {t : Nat} {s : St} {k : DV → St → Option R} {k' : Nat → DV → St → Option R} (h : ∀ v s, EvC (k v s) (fun n => k' n v s)) : EvC (allocK X t s k) (fun n => allocK X t s (k' n)) := by
  unfold allocK
  exact EvC.ite (ownCells_cont fun cs s => h _ _) EvC.none
theorem boxK_cont {t : Nat} {x : DV} {s : St} {k : DV → St → Option R} {k' : Nat → DV → St → Option R} (h : ∀ v s, EvC (k v s) (fun n => k' n v s)) : EvC (boxK X t x s k) (fun n => boxK X t x s (k' n)) := by
  unfold boxK
  exact EvC.ite (cellsK_cont fun cs => ownCells_cont fun cs s => h _ _) (oneK_cont fun d => ownCells_cont fun cs s => h _ _)
theorem buildTK_cont {t : Nat} {ps : List (Nat × DV)} {k : DV → Option R} {k' : Nat → DV → Option R} (h : ∀ v, EvC (k v) (fun n => k' n v)) : EvC (buildTK X t ps k) (fun n => buildTK X t ps (k' n)) := by
  unfold buildTK
  cases (X.T.at t).d <;> (try simp only) <;> first
    | exact EvC.none
    | exact EvC.ite (buildK_cont fun cs => h _) EvC.none
theorem buildSliceK_cont {t m : Nat} {ps : List (Nat × DV)} {s : St} {k : DV → St → Option R} {k' : Nat → DV → St → Option R} (h : ∀ v s, EvC (k v s) (fun n => k' n v s)) : EvC (buildSliceK X t m ps s k) (fun n => buildSliceK X t m ps s (k' n)) := by
  unfold buildSliceK
  cases elemOf X t with
  | none => exact EvC.none
  | some u => exact EvC.ite (elemsK_cont fun vs s => EvC.bd fun c => h _ _) EvC.none
theorem makeSliceK_cont {t : Nat} {l c : DV} {s : St} {k : DV → St → Option R} {k' : Nat → DV → St → Option R} (h : ∀ v s, EvC (k v s) (fun n => k' n v s)) : EvC (makeSliceK X t l c s k) (fun n => makeSliceK X t l c s (k' n)) := by
  unfold makeSliceK
  cases elemOf X t with
  | none => exact EvC.none
  | some u =>
    cases l <;> cases c <;> (try simp only) <;> first
      | exact EvC.none
      | exact EvC.ite (EvC.bd fun _ => EvC.bd fun y => EvC.pvite (EvC.bd fun c => h _ _) EvC.none) EvC.none
theorem nilCheckK_cont {x : DV} {s : St} {k : DV → Option R} {k' : Nat → DV → Option R} (h : ∀ v, EvC (k v) (fun n => k' n v)) : EvC (nilCheckK x s k) (fun n => nilCheckK x s (k' n)) := by
  cases x <;> simp only [nilCheckK] <;> first
    | exact EvC.none
    | exact h _
    | exact EvC.bd fun v => h _
    | skip
  rename_i l path i off
  cases s.list l with
  | none => exact EvC.none
  | some w => exact h _
theorem unOpK_cont {op : UnOp} {x : DV} {k : DV → Option R} {k' : Nat → DV → Option R} (h : ∀ v, EvC (k v) (fun n => k' n v)) : EvC (unOpK op x k) (fun n => unOpK op x (k' n)) := by
  cases op <;> cases x <;> simp only [unOpK] <;> first
    | exact EvC.none
    | exact EvC.bd fun v => h _
theorem indexK_cont {t : Nat} {x i : DV} {k : DV → Option R} {k' : Nat → DV → Option R} (h : ∀ v, EvC (k v) (fun n => k' n v)) : EvC (indexK X t x i k) (fun n => indexK X t x i (k' n)) := by
  unfold indexK
  cases (X.T.at t).d <;> cases x <;> cases i <;> (try simp only) <;> first
    | exact EvC.none
    | exact EvC.bd fun v => h _
theorem extractK_cont {x : DV} {i : Nat} {k : DV → Option R} {k' : Nat → DV → Option R} (h : ∀ v, EvC (k v) (fun n => k' n v)) : EvC (extractK x i k) (fun n => extractK x i (k' n)) := by
  cases x <;> simp only [extractK] <;> first
    | exact EvC.none
    | exact EvC.bd fun v => h _
    | skip
  rename_i cs
  cases cs[i]? with
  | none => exact EvC.none
  | some d => exact h _
theorem fieldK_cont {t f : Nat} {x : DV} {k : DV → Option R} {k' : Nat → DV → Option R} (h : ∀ v, EvC (k v) (fun n => k' n v)) : EvC (fieldK X t x f k) (fun n => fieldK X t x f (k' n)) := by
  unfold fieldK
  cases (X.T.at t).d <;> (try simp only) <;> first
    | exact EvC.none
    | skip
  rename_i fs
  cases fs[f]? with
  | none => exact EvC.none
  | some p =>
    refine EvC.ite EvC.none ?_
    cases x <;> (try simp only) <;> first
      | exact EvC.none
      | exact EvC.ite (EvC.bd fun y => h _) (EvC.bd fun y => h _)
      | skip
    rename_i cs
    refine EvC.ite (EvC.ite (h _) EvC.none) ?_
    cases cs[p.1]? with
    | none => exact EvC.none
    | some d => exact h _
theorem fieldAddrK_cont {t f : Nat} {x : DV} {s : St} {k : DV → Option R} {k' : Nat → DV → Option R} (h : ∀ v, EvC (k v) (fun n => k' n v)) : EvC (fieldAddrK X t x f s k) (fun n => fieldAddrK X t x f s (k' n)) := by
  unfold fieldAddrK
  cases (X.T.at t).d <;> (try simp only) <;> first
    | exact EvC.none
    | skip
  rename_i fs
  cases fs[f]? with
  | none => exact EvC.none
  | some p =>
    refine EvC.ite EvC.none ?_
    cases x <;> (try simp only) <;> first
      | exact EvC.none
      | exact h _
      | exact EvC.bd fun y => h _
      | skip
    rename_i l path i off
    cases s.list l with
    | none => exact EvC.none
    | some w => exact h _
theorem indexAddrK_cont {t : Nat} {x i : DV} {s : St} {k : DV → Option R} {k' : Nat → DV → Option R} (h : ∀ v, EvC (k v) (fun n => k' n v)) : EvC (indexAddrK X t x i s k) (fun n => indexAddrK X t x i s (k' n)) := by
  unfold indexAddrK
  cases (X.T.at t).d <;> cases i <;> (try simp only) <;> first
    | exact EvC.none
    | skip
  · refine EvC.ite EvC.none ?_
    cases x <;> (try simp only) <;> first
      | exact EvC.none
      | exact EvC.bd fun y => h _
      | exact rowK_cont fun o c => EvC.ite (EvC.bd fun _ => h _) EvC.none
      | exact rowK_cont fun o c => EvC.ite (EvC.bd fun _ => EvC.bd fun j => h _) EvC.none
  · rename_i i
    refine EvC.ite EvC.none ?_
    cases x <;> cases i <;> (try simp only) <;> first
      | exact EvC.none
      | exact EvC.ite (h _) EvC.none
      | exact EvC.ite (EvC.bd fun v => h _) EvC.none
theorem sliceK_cont {t : Nat} {x : DV} {lo hi : Option DV} {s : St} {k : DV → Option R} {k' : Nat → DV → Option R} (h : ∀ v, EvC (k v) (fun n => k' n v)) : EvC (sliceK X t x lo hi s k) (fun n => sliceK X t x lo hi s (k' n)) := by
  unfold sliceK
  cases sliceK.lowOf lo with
  | none => exact EvC.none
  | some l =>
    cases (X.T.at t).d <;> (try simp only) <;> first
      | exact EvC.none
      | skip
    · cases x <;> (try simp only) <;> first
        | exact EvC.none
        | skip
      cases hi with
      | none => exact EvC.bd fun _ => EvC.bd fun y => h _
      | some d =>
        cases d <;> (try simp only) <;> first
          | exact EvC.none
          | exact EvC.bd fun y => h _
    · refine EvC.ite EvC.none ?_
      cases x <;> (try simp only) <;> first
        | exact EvC.none
        | skip
      · cases hi with
        | none => exact EvC.bd fun _ => EvC.bd fun y => h _
        | some d =>
          cases d <;> (try simp only) <;> first
            | exact EvC.none
            | exact EvC.bd fun y => h _
      · refine rowK_cont fun o c => EvC.ite ?_ EvC.none
        cases hi with
        | none => exact EvC.bd fun _ => EvC.bd fun y => h _
        | some d =>
          cases d <;> (try simp only) <;> first
            | exact EvC.none
            | exact EvC.bd fun y => h _
theorem lenK_cont {t : Nat} {d : DV} {s : St} {k : DV → Option R} {k' : Nat → DV → Option R} (h : ∀ v, EvC (k v) (fun n => k' n v)) : EvC (lenK X t d s k) (fun n => lenK X t d s (k' n)) := by
  unfold lenK
  cases (X.T.at t).d <;> cases d <;> (try simp only) <;> first
    | exact EvC.none
    | exact h _
    | exact EvC.bd fun y => h _
    | exact rowK_cont fun _ c => EvC.bd fun y => h _
theorem trees_cont : ∀ {ds : List DV} {k : List PV → Option R} {k' : Nat → List PV → Option R}, (∀ v, EvC (k v) (fun n => k' n v)) → EvC (eqK.trees ds k) (fun n => eqK.trees ds (k' n))
  | [], _, _, h => h _
  | d :: ds, k, k', h => by
    cases d <;> simp only [eqK.trees] <;> first
      | exact EvC.none
      | exact trees_cont fun vs => h _
theorem binK_cont {op : BinOp} {t : Nat} {x y : DV} {k : DV → Option R} {k' : Nat → DV → Option R} (h : ∀ v, EvC (k v) (fun n => k' n v)) : EvC (binK X op t x y k) (fun n => binK X op t x y (k' n)) := by
  unfold binK
  cases (X.T.at t).d <;> (try simp only) <;> first
    | exact EvC.none
    | skip
  · cases x <;> cases y <;> (try simp only) <;> first
      | exact EvC.none
      | exact EvC.bd fun v => h _
  · cases x <;> cases y <;> (try simp only) <;> first
      | exact EvC.none
      | exact EvC.bd fun v => h _
  · cases x <;> cases y <;> (try simp only) <;> first
      | exact EvC.none
      | exact EvC.bd fun v => h _
  · cases x <;> cases y <;> (try simp only) <;> first
      | exact EvC.none
      | exact EvC.bd fun v => h _
      | skip
    rename_i v
    cases v <;> cases op <;> (try simp only) <;> first
      | exact EvC.none
      | exact h _
  · unfold eqK
    cases eqKinds X 10 t with
    | none => exact EvC.none
    | some qs => exact cellsK_cont fun as_ => cellsK_cont fun bs => trees_cont fun as_ => trees_cont fun bs => EvC.bd fun v => h _
theorem srcK_cont {d : DV} {s : St} {k : PV → Option R} {k' : Nat → PV → Option R} (h : ∀ v, EvC (k v) (fun n => k' n v)) : EvC (srcK d s k) (fun n => srcK d s (k' n)) := by
  cases d <;> simp only [srcK] <;> first
    | exact EvC.none
    | exact h _
    | exact rowK_cont fun o c => EvC.ite (h _) EvC.none
theorem convK_cont {a b : Nat} {x : DV} {s : St} {k : DV → Option R} {k' : Nat → DV → Option R} (h : ∀ v, EvC (k v) (fun n => k' n v)) : EvC (convK X a b x s k) (fun n => convK X a b x s (k' n)) := by
  unfold convK
  cases (X.T.at a).d <;> cases (X.T.at b).d <;> (try simp only) <;> first
    | exact EvC.none
    | skip
  · cases x <;> (try simp only) <;> first
      | exact EvC.none
      | exact EvC.bd fun v => h _
  · cases x <;> (try simp only) <;> first
      | exact EvC.none
      | exact EvC.bd fun v => h _
  · rename_i e
    cases x <;> (try simp only) <;> first
      | exact EvC.none
      | skip
    cases (X.T.at e).d <;> (try simp only) <;> first
      | exact EvC.none
      | skip
    rename_i kk
    cases kk <;> (try simp only) <;> first
      | exact EvC.none
      | exact EvC.bd fun v => h _
  · rename_i e
    cases (X.T.at e).d <;> (try simp only) <;> first
      | exact EvC.none
      | skip
    rename_i kk
    cases kk <;> (try simp only) <;> first
      | exact EvC.none
      | exact srcK_cont fun c => EvC.bd fun y => h _
theorem appendedK_cont {o : OTy} {d : DV} {s : St} {k : PV → St → Option R} {k' : Nat → PV → St → Option R} (h : ∀ v s, EvC (k v s) (fun n => k' n v s)) : EvC (appendedK o d s k) (fun n => appendedK o d s (k' n)) := by
  unfold appendedK
  exact EvC.ite (srcK_cont fun y => h _ _) (sinkAs_cont h)
theorem pieceK_cont {o : OTy} {c : PV} {q : Option (PV × PV)} {k : PV → Option R} {k' : Nat → PV → Option R} (h : ∀ v, EvC (k v) (fun n => k' n v)) : EvC (pieceK o c q k) (fun n => pieceK o c q (k' n)) := by
  cases q with
  | none => exact h _
  | some p => exact EvC.bd h
theorem leaveK_cont {l : Nat} {path : Path} {q : Option (PV × PV)} {s : St} {k : DV → St → Option R} {k' : Nat → DV → St → Option R} (h : ∀ d s, EvC (k d s) (fun n => k' n d s)) : EvC (leaveK l path q s k) (fun n => leaveK l path q s (k' n)) := by
  unfold leaveK
  cases s.list l with
  | none => exact EvC.none
  | some w => exact getK_cont fun o c => EvC.ite (pieceK_cont fun c1 => setK_cont fun c' => h _ _) EvC.none
theorem storeLK_cont {t : Nat} {a v : DV} {e : Env} {s : St} {k : Env → St → Option R} {k' : Nat → Env → St → Option R} (h : ∀ e s, EvC (k e s) (fun n => k' n e s)) : EvC (storeLK X t a v e s k) (fun n => storeLK X t a v e s (k' n)) := by
  unfold storeLK
  split
  · exact leaveK_cont fun _ _ => storeK_cont fun _ _ => EvC.ite (h _ _) EvC.none
  · exact storeK_cont h
theorem nest_cont {d : DV} {te : Nat} {e : Env} {s : St} {l : Nat} {path : Path} {q : Option (PV × PV)} {k : DV → Env → St → Option R} {k' : Nat → DV → Env → St → Option R} (h : ∀ v e s, EvC (k v e s) (fun n => k' n v e s)) : EvC (appendK.nest X d te e s k l path q) (fun n => appendK.nest X d te e s (k' n) l path q) := by
  unfold appendK.nest
  cases s.list l with
  | none => exact EvC.none
  | some w =>
    exact getK_cont fun o c => EvC.ite (srcK_cont fun y => pieceK_cont fun c => setK_cont fun c' => EvC.bd fun c2 => h _ _ _) EvC.none
theorem appendK_cont {base d : DV} {te : Nat} {e : Env} {s : St} {k : DV → Env → St → Option R} {k' : Nat → DV → Env → St → Option R} (h : ∀ v e s, EvC (k v e s) (fun n => k' n v e s)) : EvC (appendK X base d te e s k) (fun n => appendK X base d te e s (k' n)) := by
  have plain : ∀ (q : Option OTy) (base : DV), EvC (match q with
      | some o => if fits X o te then appendedK o d s fun y s => sinkAs o s base fun c s => bd (PV.cat o.s o.e o.g c y) fun c' => k (.ref s.nl []) e (s.addList ⟨o, c'⟩) else none
      | none => none) (fun n => match q with
      | some o => if fits X o te then appendedK o d s fun y s => sinkAs o s base fun c s => bd (PV.cat o.s o.e o.g c y) fun c' => k' n (.ref s.nl []) e (s.addList ⟨o, c'⟩) else none
      | none => none) := by
    intro q base
    cases q with
    | none => exact EvC.none
    | some o => exact EvC.ite (appendedK_cont fun y s => sinkAs_cont fun c s => EvC.bd fun c' => h _ _ _) EvC.none
  cases base with
  | ref l path =>
    cases path with
    | nil => exact plain (baseTy X te s (.ref l [])) (.ref l [])
    | cons p r => exact nest_cont h
  | sref l path lo hi =>
    cases path with
    | nil => exact plain (baseTy X te s (.sref l [] lo hi)) (.sref l [] lo hi)
    | cons p r => exact nest_cont h
  | p v => exact plain (baseTy X te s (.p v)) (.p v)
  | nils => exact plain (baseTy X te s .nils) .nils
  | agg cs => exact plain (baseTy X te s (.agg cs)) (.agg cs)
  | tup cs => exact plain (baseTy X te s (.tup cs)) (.tup cs)
  | fn f cs => exact plain (baseTy X te s (.fn f cs)) (.fn f cs)
  | ptr b off => exact plain (baseTy X te s (.ptr b off)) (.ptr b off)
  | eptr l path i off => exact plain (baseTy X te s (.eptr l path i off)) (.eptr l path i off)
  | fptr x s' g off => exact plain (baseTy X te s (.fptr x s' g off)) (.fptr x s' g off)
  | bptr c off => exact plain (baseTy X te s (.bptr c off)) (.bptr c off)
  | dead => exact plain (baseTy X te s .dead) .dead
theorem frz1_cont {d : DV} {e : Env} {s : St} {k : Env → St → Option R} {k' : Nat → Env → St → Option R} (h : ∀ e s, EvC (k e s) (fun n => k' n e s)) : EvC (frz1 d e s k) (fun n => frz1 d e s (k' n)) := by
  unfold frz1
  split
  · split
    · exact h _ _
    · exact h _ _
  · exact h _ _
theorem frzK_cont : ∀ {fs : List (Nat × Option Nat)} {e : Env} {s : St} {k : Env → St → Option R} {k' : Nat → Env → St → Option R}, (∀ e s, EvC (k e s) (fun n => k' n e s)) → EvC (frzK fs e s k) (fun n => frzK fs e s (k' n))
  | [], _, _, _, _, h => h _ _
  | (t, none) :: r, e, s, k, k', h => frz1_cont fun e s => frzK_cont h
  | (t, some j) :: r, e, s, k, k', h => by
    unfold frzK
    generalize e.get t = d0
    cases d0 <;> (try simp only) <;> first
      | exact frzK_cont h
      | skip
    rename_i b off
    cases s.box b with
    | none => exact frzK_cont h
    | some cs => exact frz1_cont fun e s => frzK_cont h
theorem copyGo_cont {te : Nat} {src : DV} {s : St} {l : Nat} {w : Own} {lo hi : PV} {k : DV → St → Option R} {k' : Nat → DV → St → Option R} (h : ∀ v s, EvC (k v s) (fun n => k' n v s)) : EvC (copyK.go X te src s k l w lo hi) (fun n => copyK.go X te src s (k' n) l w lo hi) := by
  unfold copyK.go
  exact EvC.ite (srcK_cont fun y => EvC.bd fun n => EvC.bd fun c => h _ _) EvC.none
theorem copyK_cont {te : Nat} {dst src : DV} {s : St} {k : DV → St → Option R} {k' : Nat → DV → St → Option R} (h : ∀ v s, EvC (k v s) (fun n => k' n v s)) : EvC (copyK X te dst src s k) (fun n => copyK X te dst src s (k' n)) := by
  unfold copyK
  cases dst <;> (try simp only) <;> first
    | exact EvC.none
    | skip
  · rename_i l path
    cases path with
    | cons => exact EvC.none
    | nil =>
      dsimp only
      cases s.list l with
      | none => exact EvC.none
      | some w => exact EvC.bd fun n => copyGo_cont h
  · rename_i l path lo hi
    cases path with
    | cons => exact EvC.none
    | nil =>
      dsimp only
      cases s.list l with
      | none => exact EvC.none
      | some w => exact copyGo_cont h
end
end Go.Proofs.YtjgleeamiclokaaGreat
namespace Go.Proofs.YtjgleeamiclokaaGreat
open Go
structure EvO (O : Orc) (O' : Nat → Orc) : Prop where
  L : ∀ todo e s, EvC (O.L todo e s) (fun n => (O' n).L todo e s)
  C : ∀ g args, EvC (O.C g args) (fun n => (O' n).C g args)
  S : ∀ g args s, EvC (O.S g args s) (fun n => (O' n).S g args s)
section
variable {X : Cx} {O : Orc} {O' : Nat → Orc}
theorem guardCells_cont {l : R} : ∀ {cs : List DV} {a : Option R} {a' : Nat → Option R}, EvC a a' → EvC (guardCells l cs a) (fun n => guardCells l cs (a' n))
  | [], _, _, h => h
  | d :: cs, a, a', h => by
    have ih := guardCells_cont (l := l) (cs := cs) h
    cases d with
    | ref => simp only [guardCells]; exact ih
    | p v =>
      cases v with
      | int => simp only [guardCells]; exact EvC.flat ih
      | _ => simp only [guardCells]; exact EvC.none
    | _ => simp only [guardCells]; exact EvC.none
theorem guardAggs_cont {l : R} : ∀ {cs : List DV} {a : Option R} {a' : Nat → Option R}, EvC a a' → EvC (guardAggs l cs a) (fun n => guardAggs l cs (a' n))
  | [], _, _, h => h
  | d :: cs, a, a', h => by
    have ih := guardAggs_cont (l := l) (cs := cs) h
    cases d <;> (try simp only [guardAggs]) <;> exact guardCells_cont ih
theorem guardRes_cont {l : R} {d : DV} {a : Option R} {a' : Nat → Option R} (h : EvC a a') : EvC (guardRes l d a) (fun n => guardRes l d (a' n)) := by
  cases d <;> (try simp only [guardRes]) <;> exact guardAggs_cont h
theorem guardRows_cont {l : R} : ∀ {cs : List (Option Own)} {a : Option R} {a' : Nat → Option R}, EvC a a' → EvC (guardRows l cs a) (fun n => guardRows l cs (a' n))
  | [], _, _, h => h
  | none :: _, _, _, _ => by simp only [guardRows]; exact EvC.none
  | some w :: cs, a, a', h => by
    simp only [guardRows]
    cases w.c <;> (try simp only) <;> first
      | exact EvC.none
      | exact EvC.own (guardRows_cont h)
theorem pureK_cont (hO : EvO O O') {f : Nat} {args : List DV} {s : St} {k : DV → St → Option R} {k' : Nat → DV → St → Option R} (h : ∀ v s, EvC (k v s) (fun n => k' n v s)) : EvC (pureK O f args s k) (fun n => pureK (O' n) f args s (k' n)) := by
  unfold pureK
  exact EvC.ite (snapL_cont fun vs => EvC.bd2 (hO.C _ _) fun r => EvC.flat (h _ _)) (snapL_cont fun vs => EvC.bd2 (hO.C _ _) fun r => h _ _)
theorem lentK_cont (hO : EvO O O') {t : Tmpl} {f : Nat} {args : List DV} {s : St} {k : DV → St → Option R} {k' : Nat → DV → St → Option R} (h : ∀ v s, EvC (k v s) (fun n => k' n v s)) : EvC (lentK O t f args s k) (fun n => lentK (O' n) t f args s (k' n)) := by
  unfold lentK
  exact snapL_cont fun vs => EvC.bd2 (hO.S _ _ _) fun l => guardRes_cont (guardRows_cont (h _ _))
theorem liveK_cont (hO : EvO O O') {ft : Foot} {n0 : Nat} {t : Tmpl} {f : Nat} {args : List DV} {s : St} {k : DV → St → List Nat → Option R} {k' : Nat → DV → St → List Nat → Option R} (h : ∀ v s l, EvC (k v s l) (fun n => k' n v s l)) : EvC (liveK O ft n0 t f args s k) (fun n => liveK (O' n) ft n0 t f args s (k' n)) := by
  unfold liveK
  exact EvC.ite (EvC.bd2 (hO.S _ _ _) fun l => h _ _ _) EvC.none
theorem callK_cont (hO : EvO O O') {f : Nat} {args : List DV} {ts : List Nat} {e : Env} {s : St} {k : DV → Env → St → Option R} {k' : Nat → DV → Env → St → Option R} (h : ∀ v e s, EvC (k v e s) (fun n => k' n v e s)) : EvC (callK X O f args ts e s k) (fun n => callK X (O' n) f args ts e s (k' n)) := by
  unfold callK
  cases X.mode f with
  | none => exact pureK_cont hO fun _ _ => h _ _ _
  | some t =>
    refine EvC.ite (lentK_cont hO fun _ _ => h _ _ _) ?_
    simp only [ownArgs_eq]
    exact ownCells_cont fun args s => liveK_cont hO fun _ _ _ => h _ _ _
theorem apply_cont (hO : EvO O O') {v : PV} {vs : List PV} : EvC (PV.apply O.C v vs) (fun n => PV.apply (O' n).C v vs) := by
  unfold PV.apply
  cases v <;> (try simp only) <;> first
    | exact EvC.none
    | exact hO.C _ _
theorem applyK_cont (hO : EvO O O') {d : DV} {args : List DV} {ts : List Nat} {e : Env} {s : St} {k : DV → Env → St → Option R} {k' : Nat → DV → Env → St → Option R} (h : ∀ v e s, EvC (k v e s) (fun n => k' n v e s)) : EvC (applyK X O d args ts e s k) (fun n => applyK X (O' n) d args ts e s (k' n)) := by
  cases d <;> (try simp only [applyK]) <;> first
    | exact EvC.none
    | exact callK_cont hO h
    | exact EvC.ite (snapL_cont fun vs => EvC.bd2 (apply_cont hO) fun r => EvC.flat (h _ _ _)) (snapL_cont fun vs => EvC.bd2 (apply_cont hO) fun r => h _ _ _)
theorem builtinK_cont {b : Builtin} {ts : List Nat} {args : List DV} {e : Env} {s : St} {k : DV → Env → St → Option R} {k' : Nat → DV → Env → St → Option R} (h : ∀ v e s, EvC (k v e s) (fun n => k' n v e s)) : EvC (builtinK X b ts args e s k) (fun n => builtinK X b ts args e s (k' n)) := by
  unfold builtinK
  split
  · exact lenK_cont fun n => h _ _ _
  · rename_i t u a d
    cases elemOf X t with
    | none => exact EvC.none
    | some te => exact EvC.ite (appendK_cont h) EvC.none
  · rename_i t u a d
    cases elemOf X t with
    | none => exact EvC.none
    | some te => exact copyK_cont fun d s => h _ _ _
  · exact EvC.bd fun c => h _ _ _
  · exact EvC.bd fun c => h _ _ _
  · exact EvC.none
theorem exec_cont (hO : EvO O O') {o : Oper} {e : Env} {s : St} {k : Kont} {k' : Nat → Kont} (h : ∀ e s, EvC (k e s) (fun n => k' n e s)) : EvC (exec X O o e s k) (fun n => exec X (O' n) o e s (k' n)) := by
  obtain ⟨dst, op, type, pos, after, guard⟩ := o
  cases op <;> simp only [exec] <;> try exact EvC.none
  case move => exact moveK_cont fun _ _ => h _ _
  case assign => exact moveK_cont fun _ _ => h _ _
  case pick => exact pickK_cont fun _ _ => h _ _
  case alloc => exact allocK_cont fun _ _ => h _ _
  case box => exact boxK_cont fun _ _ => h _ _
  case build => exact buildTK_cont fun _ => h _ _
  case buildSlice => exact buildSliceK_cont fun _ _ => h _ _
  case makeSlice => exact makeSliceK_cont fun _ _ => h _ _
  case load => exact loadK_cont fun _ => h _ _
  case store => exact storeLK_cont fun _ _ => h _ _
  case nilCheck => exact nilCheckK_cont fun _ => h _ _
  case binOp => exact binK_cont fun _ => h _ _
  case unOp => exact unOpK_cont fun _ => h _ _
  case convert => exact convK_cont fun _ => h _ _
  case makeFunc fn first caps =>
    cases fn <;> (try simp only) <;> first
      | exact EvC.none
      | exact EvC.ite (h _ _) EvC.none
  case slice t x lo hi mx =>
    cases mx with
    | none => exact sliceK_cont fun _ => h _ _
    | some _ => exact EvC.none
  case fieldAddr => exact fieldAddrK_cont fun _ => h _ _
  case field => exact fieldK_cont fun _ => h _ _
  case indexAddr => exact indexAddrK_cont fun _ => h _ _
  case index => exact indexK_cont fun _ => h _ _
  case extract => exact extractK_cont fun _ => h _ _
  case call c =>
    cases c.callee with
    | value f => exact applyK_cont hO fun _ _ _ => h _ _
    | builtin b => exact builtinK_cont fun _ _ _ => h _ _
    | invoke _ _ => exact EvC.none
theorem execOps_cont (hO : EvO O O') {ops : Array Oper} {draw : Bool} : ∀ {r : List Oper} {i : Nat} {acc : List (Nat × Foot)} {e : Env} {s : St} {k : Kont} {k' : Nat → Kont}, (∀ e s, EvC (k e s) (fun n => k' n e s)) → EvC (execOps X O ops draw i acc r e s k) (fun n => execOps X (O' n) ops draw i acc r e s (k' n))
  | [], i, acc, e, s, k, k', h => by
    unfold execOps
    exact EvC.ite EvC.none (h _ _)
  | o :: r, i, acc, e, s, k, k', h => by
    unfold execOps
    simp only [stf, stp]
    cases o.guard with
    | none => exact exec_cont hO fun e s' => EvC.ite (execOps_cont hO h) EvC.none
    | some p =>
      obtain ⟨j, want⟩ := p
      simp only
      cases guardDst ops.toList j with
      | none => exact EvC.none
      | some t =>
        simp only
        generalize e.get t = d0
        have hskip := execOps_cont (ops := ops) (draw := draw) (r := r) (i := i + 1) (acc := if draw then (i, Foot.none) :: acc else []) (e := put o.dst (.tup []) e) (s := { s with nb := s.base + 16 * i, nl := s.base + 16 * i }) hO h
        cases d0 <;> (try simp only) <;> first
          | exact EvC.none
          | (rename_i cs; cases cs with
             | nil => exact hskip
             | cons => exact EvC.none)
          | exact EvC.pvite (EvC.ite (exec_cont hO fun e s' => EvC.ite (execOps_cont hO h) EvC.none) (execOps_cont hO h)) (EvC.ite (execOps_cont hO h) (exec_cont hO fun e s' => EvC.ite (execOps_cont hO h) EvC.none))
theorem eval_cont (hO : EvO O O') : ∀ (m : Nat) (first : Bool) (todo : List Item) (e : Env) (s : St), EvC (eval X O m first todo e s) (fun n => eval X (O' n) m first todo e s)
  | 0, _, _, _, _ => by simp only [eval]; exact EvC.none
  | m + 1, first, todo, e, s => by
    have ih := eval_cont hO m
    cases todo with
    | nil => simp only [eval]; exact EvC.rfl _
    | cons x k =>
    cases x with
    | inBlock id => simp only [eval]; exact ih _ _ _ _
    | inScope c => simp only [eval]; exact ih _ _ _ _
    | inLoop c => simp only [eval]; exact ih _ _ _ _
    | code c =>
      cases c <;> simp only [eval] <;> first
        | exact EvC.none
        | exact EvC.rfl _
        | exact ih _ _ _ _
        | skip
      case exit id =>
        cases exitTo id k with
        | none => exact EvC.none
        | some k' => exact ih _ _ _ _
      case goto l =>
        cases gotoIn l k with
        | none => exact EvC.none
        | some k' => exact ih _ _ _ _
      case cond c a b =>
        generalize ev X e c = d0
        cases d0 <;> (try simp only) <;> first
          | exact EvC.none
          | skip
        cases c <;> (try simp only) <;> exact EvC.pvite (ih _ _ _ _) (ih _ _ _ _)
      case region id ops draw =>
        refine frzK_cont fun e s => ?_
        cases first with
        | true => exact execOps_cont hO fun e s => ih _ _ _ _
        | false =>
          cases X.cut id with
          | none => exact execOps_cont hO fun e s => ih _ _ _ _
          | some keep => exact hO.L _ _ _
    | _ => simp only [eval]; exact EvC.none
end
section
variable (P : Program) (T : Tab) (H : Hints)
noncomputable def runO (f nb nl : Nat) (out : Option Tmpl) (todo : List Item) (e : Env) (s : St) : Option R :=
  open Classical in if h : ∃ r, ∃ n, runN P T H n f nb nl out todo e s = some r then some h.choose else none
end
section
variable {P : Program} {T : Tab} {H : Hints}
theorem EvC.le {β : Type} {a b : Option β} (h : ∀ r, a = some r → b = some r) : EvC a (fun _ => b) := fun r hr => ⟨0, fun _ _ => h r hr⟩
theorem EvC.of {β : Type} {a b : Option β} (h : EvC a (fun _ => b)) : ∀ r, a = some r → b = some r := fun r hr => let ⟨N, hN⟩ := h r hr; hN N (Nat.le_refl _)
theorem orc_cont {run : Nat → Nat → Nat → Option Tmpl → List Item → Env → St → Option R} {run' : Nat → Nat → Nat → Nat → Option Tmpl → List Item → Env → St → Option R}
    (h : ∀ f nb nl out todo e s, EvC (run f nb nl out todo e s) (fun n => run' n f nb nl out todo e s)) (f nb nl : Nat) (out : Option Tmpl) : EvO (orcOf P H run f nb nl out) (fun n => orcOf P H (run' n) f nb nl out) where
  L := fun todo e s => h _ _ _ _ _ _ _
  C := fun g args => by
    simp only [orcOf]
    cases H.prim g with
    | none => exact h _ _ _ _ _ _ _
    | some p => exact EvC.rfl _
  S := fun g args s => by
    simp only [orcOf]
    cases H.mode g with
    | none => exact EvC.none
    | some t => exact h _ _ _ _ _ _ _
theorem runN_succ : ∀ (n f nb nl : Nat) (out : Option Tmpl) (todo : List Item) (e : Env) (s : St) (r : R), runN P T H n f nb nl out todo e s = some r → runN P T H (n + 1) f nb nl out todo e s = some r
  | 0, _, _, _, _, _, _, _, _, h => by simp [runN] at h
  | n + 1, f, nb, nl, out, todo, e, s, r, h => by
    have ih := runN_succ n
    unfold runN at h ⊢
    exact (eval_cont (orc_cont (run' := fun _ => runN P T H (n + 1)) (fun f nb nl out todo e s => EvC.le (ih f nb nl out todo e s)) f nb nl out) evalFuel true todo e s).of r h
theorem runN_le {n n' f nb nl : Nat} {out : Option Tmpl} {todo : List Item} {e : Env} {s : St} {r : R} (h : runN P T H n f nb nl out todo e s = some r) (hn : n ≤ n') : runN P T H n' f nb nl out todo e s = some r := by
  induction hn with
  | refl => exact h
  | step _ ih => exact runN_succ _ _ _ _ _ _ _ _ _ ih
theorem runO_of {n f nb nl : Nat} {out : Option Tmpl} {todo : List Item} {e : Env} {s : St} {r : R} (h : runN P T H n f nb nl out todo e s = some r) : runO P T H f nb nl out todo e s = some r := by
  unfold runO
  have hex : ∃ r, ∃ n, runN P T H n f nb nl out todo e s = some r := ⟨r, n, h⟩
  rw [dif_pos hex]
  obtain ⟨n', h'⟩ := hex.choose_spec
  have h1 := runN_le h (Nat.le_max_left n n')
  have h2 := runN_le h' (Nat.le_max_right n n')
  rw [h1] at h2
  exact h2.symm
theorem runO_some {f nb nl : Nat} {out : Option Tmpl} {todo : List Item} {e : Env} {s : St} {r : R} (h : runO P T H f nb nl out todo e s = some r) : ∃ n, runN P T H n f nb nl out todo e s = some r := by
  unfold runO at h
  split at h
  · rename_i hex
    cases h
    exact hex.choose_spec
  · cases h
theorem runO_cont (f nb nl : Nat) (out : Option Tmpl) (todo : List Item) (e : Env) (s : St) : EvC (runO P T H f nb nl out todo e s) (fun n => runN P T H n f nb nl out todo e s) := by
  intro r hr
  obtain ⟨n, hn⟩ := runO_some hr
  exact ⟨n, fun n' h' => runN_le hn h'⟩
theorem runO_eq (f nb nl : Nat) (out : Option Tmpl) (todo : List Item) (e : Env) (s : St) :
    runO P T H f nb nl out todo e s = eval (cxOf P T H f nb nl out) (orcOf P H (runO P T H) f nb nl out) evalFuel true todo e s := by
  cases h : eval (cxOf P T H f nb nl out) (orcOf P H (runO P T H) f nb nl out) evalFuel true todo e s with
  | some r =>
    obtain ⟨N, hN⟩ := eval_cont (orc_cont (run' := fun n => runN P T H n) runO_cont f nb nl out) evalFuel true todo e s r h
    refine runO_of (n := N + 1) ?_
    unfold runN
    exact hN N (Nat.le_refl _)
  | none =>
    cases h' : runO P T H f nb nl out todo e s with
    | none => rfl
    | some r =>
      exfalso
      obtain ⟨n, hn⟩ := runO_some h'
      cases n with
      | zero => simp [runN] at hn
      | succ n =>
        unfold runN at hn
        have := (eval_cont (orc_cont (run' := fun _ => runO P T H) (fun f nb nl out todo e s => EvC.le (fun r h => runO_of h)) f nb nl out) evalFuel true todo e s).of r hn
        rw [h] at this
        cases this
noncomputable def pcall (P : Program) (T : Tab) (H : Hints) (f : Nat) (args : List PV) : Option R := (orcOf P H (runO P T H) 0 0 0 none).C f args
noncomputable def scall (P : Program) (T : Tab) (H : Hints) (f : Nat) (args : List DV) (s : St) : Option R := (orcOf P H (runO P T H) 0 0 0 none).S f args s
theorem runO_ok (hy : Hyp P T H) : RunOk P (runO P T H) := by
  intro f nb nl out todo e s r fn h hfn hok
  obtain ⟨n, hn⟩ := runO_some h
  exact run_sound hy n f nb nl out todo e s r fn hn hfn hok
theorem runO_st : RunSt P (runO P T H) := by
  intro f nb nl out e s r h
  obtain ⟨n, hn⟩ := runO_some h
  exact start_body hn
theorem pcall_sound (hy : Hyp P T H) {f : Nat} {args : List PV} {r : R} (h : pcall P T H f args = some r) {w : World} {vals : Array Value} {Z : Nat → Prop} (hz : ∀ z, Z z → z < w.heap.size) (hl : args.length = vals.size)
    (hr : ∀ (i : Nat) x v, args[i]? = some x → vals[i]? = some v → Rep w Z x v) : Calls P f vals w (fun e w' => ∃ v, e = .returned v ∧ ∃ Z', PureEnd w w' Z Z' ∧ Rep w' Z' (hd r) v) :=
  (orc_pure hy (runO_ok hy) runO_st 0 0 0 none f args r h).2 w Z vals hz hl hr
theorem goOn_eq (f nb nl : Nat) (out : Option Tmpl) (todo : List Item) (e : Env) (s : St) (r : Option R) (h : eval (cxOf P T H f nb nl out) (orcOf P H (runO P T H) f nb nl out) evalFuel true todo e s = r) : runO P T H f nb nl out todo e s = r :=
  (runO_eq f nb nl out todo e s).trans h
theorem pcall_eq (hp : ∀ g, H.prim g = none) (f : Nat) (args : List PV) (r : Option R) (h : eval (cxOf P T H f 0 0 none) (orcOf P H (runO P T H) f 0 0 none) evalFuel true (startOf P f) (argEnv 0 (args.map .p)) ⟨[], [], 0, 0, 0⟩ = r) : pcall P T H f args = r := by
  show (match H.prim f with | some h => h args | none => runO P T H f 0 0 none (startOf P f) (argEnv 0 (args.map .p)) ⟨[], [], 0, 0, 0⟩) = r
  rw [hp f]
  exact goOn_eq _ _ _ _ _ _ _ _ h
theorem scall_eq (f : Nat) (args : List DV) (s : St) (r : Option R) (h : (match H.mode f with | some t => eval (cxOf P T H f s.boxes.length (if t.keep then s.lists.length else 0) (some t)) (orcOf P H (runO P T H) f s.boxes.length (if t.keep then s.lists.length else 0) (some t)) evalFuel true (startOf P f) (argEnv 0 args) s | none => none) = r) : scall P T H f args s = r := by
  show (match H.mode f with | some t => runO P T H f s.boxes.length (if t.keep then s.lists.length else 0) (some t) (startOf P f) (argEnv 0 args) s | none => none) = r
  rw [← h]
  cases H.mode f with
  | none => rfl
  | some t => exact runO_eq _ _ _ _ _ _ _
end
end Go.Proofs.YtjgleeamiclokaaGreat
namespace Go.Proofs.YtjgleeamiclokaaGreat
open Go
noncomputable def goOn (f nb nl : Nat) (out : Option Tmpl) (todo : List Item) (e : Env) (s : St) : Option R := runO Tryz.prog T hints f nb nl out todo e s
noncomputable def pcallO (f : Nat) (args : List PV) : Option R := pcall Tryz.prog T hints f args
noncomputable def scallO (f : Nat) (args : List DV) (s : St) : Option R := scall Tryz.prog T hints f args s
noncomputable def orc (f nb nl : Nat) (out : Option Tmpl) : Orc := orcOf Tryz.prog hints (runO Tryz.prog T hints) f nb nl out
theorem goOnEq (f nb nl : Nat) (out : Option Tmpl) (todo : List Item) (e : Env) (s : St) (r : Option R) (h : eval (cxOf Tryz.prog T hints f nb nl out) (orc f nb nl out) evalFuel true todo e s = r) : goOn f nb nl out todo e s = r := goOn_eq f nb nl out todo e s r h
theorem pcallEq (f : Nat) (args : List PV) (r : Option R) (h : eval (cxOf Tryz.prog T hints f 0 0 none) (orc f 0 0 none) evalFuel true (startOf Tryz.prog f) (argEnv 0 (args.map .p)) ⟨[], [], 0, 0, 0⟩ = r) : pcallO f args = r := pcall_eq (fun _ => rfl) f args r h
theorem scallEq (f : Nat) (args : List DV) (s : St) (r : Option R) (h : (match hints.mode f with | some t => eval (cxOf Tryz.prog T hints f s.boxes.length (if t.keep then s.lists.length else 0) (some t)) (orc f s.boxes.length (if t.keep then s.lists.length else 0) (some t)) evalFuel true (startOf Tryz.prog f) (argEnv 0 args) s | none => none) = r) : scallO f args s = r := scall_eq f args s r h
set_option maxRecDepth 100000 in
theorem codeAll : (Tryz.prog.funcs.toList.all fun f => match f.body with | some c => codeOk f.ntmps c && (f.name != "runtime.NumGoroutine") | none => true) = true := by kernel_rfl
theorem mixedOk : Tryz.prog.follows .mixedOrders = true := by kernel_rfl
theorem wfAll : (modeTab.all fun p => p.2.wf) = true := by kernel_rfl
end Go.Proofs.YtjgleeamiclokaaGreat
namespace Go.Proofs.YtjgleeamiclokaaGreat
open Go
theorem zeroMem : ∀ (l : List Nat), (l.map fun t => (Tryz.prog.info? t).bind (·.zero)) = (l.map fun t => some (zeroVal T t)) → ∀ t, mem t l = true → (Tryz.prog.info? t).bind (·.zero) = some (zeroVal T t)
  | [], _, t, h => by simp [mem] at h
  | x :: r, h, t, hm => by
    simp only [List.map_cons, List.cons.injEq] at h
    unfold mem at hm
    split at hm
    · rename_i hx
      rw [natBeq hx]; exact h.1
    · exact zeroMem r h.2 t hm
theorem lk_mem {α : Type} {n : Nat} : ∀ {l : List (Nat × α)} {a : α}, lk n l = some a → ∃ p ∈ l, p.2 = a
  | [], a, h => by simp [lk] at h
  | (m, b) :: r, a, h => by
    unfold lk at h
    split at h
    · cases h; exact ⟨_, List.mem_cons_self, rfl⟩
    · obtain ⟨p, h1, h2⟩ := lk_mem h
      exact ⟨p, List.mem_cons_of_mem _ h1, h2⟩
theorem hyp : Hyp Tryz.prog T hints where
  tab := tabEq.symm
  zero := fun t h => by
    rw [tabEq]
    exact zeroMem zokL zeroL t h
  mixed := mixedOk
  code := fun f fn c hf hc => by
    have h := codeAll
    rw [List.all_eq_true] at h
    have := h fn (by rw [← Array.getElem?_toList] at hf; exact List.mem_of_getElem? hf)
    rw [hc] at this
    simp only [Bool.and_eq_true, bne_iff_ne, ne_eq] at this
    exact this
  prim := fun _ => rfl
  glob := fun _ => rfl
  wf := fun g t h => by
    obtain ⟨p, hp, rfl⟩ := lk_mem h
    have := wfAll
    rw [List.all_eq_true] at this
    exact this p hp
end Go.Proofs.YtjgleeamiclokaaGreat
namespace Go.Proofs.YtjgleeamiclokaaGreat
open Go
noncomputable def laws_FnPlanned (x0 : PV) : Option R := pcallO 4 [x0]
noncomputable def laws_FnPlanned_c11 (x0 x1 x2 x3 x4 x5 x6 x7 x8 x9 x10 : PV) : Option R := goOn 4 0 0 (hints.mode 4) (todoOf Tryz.prog 4 11) [(3, .ptr 0 0), (4, .p x0), (5, .p x1), (8, .ptr 1 0), (9, .ptr 2 0), (10, .p x2)] ⟨[(0, some [.p x3, .p x4]), (1, some [.p x5, .p x6, .p x7]), (2, some [.p x8, .p x9, .p x10])], [], 0, 0, 3⟩
noncomputable def laws_FnPlanned_c18 (x0 x1 x2 x3 x4 x5 x6 x7 x8 x9 x10 x11 x12 x13 x14 x15 : PV) : Option R := goOn 4 0 0 (hints.mode 4) (todoOf Tryz.prog 4 18) [(3, .ptr 0 0), (4, .p x0), (5, .p x1), (8, .ptr 1 0), (9, .ptr 2 0), (10, .p x2), (11, .ptr 3 0), (13, .p x3)] ⟨[(0, some [.p x4, .p x5]), (1, some [.p x6, .p x7, .p x8]), (2, some [.p x9, .p x10, .p x11]), (3, some [.p x12, .p x13, .p x14, .p x15])], [], 0, 0, 4⟩
noncomputable def laws_big (x0 : PV) : Option R := pcallO 6 [x0]
noncomputable def spec_DrawPlanOf (x0 : PV) : Option R := pcallO 19 [x0]
noncomputable def spec_DrawPlanOf_c6 (x0 x1 x2 x3 x4 x5 x6 x7 x8 x9 : PV) : Option R := goOn 19 0 0 (hints.mode 19) (todoOf Tryz.prog 19 6) [(2, .ptr 0 0), (7, .ptr 1 0), (8, .ptr 2 0), (9, .p x0), (10, .ref 2 []), (11, .p x1)] ⟨[(0, some [.ref 0 [], .ref 1 []]), (1, some [.p x2, .p x3, .p x4]), (2, some [.p x5, .p x6])], [(0, some ⟨(.own 1 16 false []), x7⟩), (1, some ⟨(.own 3 40 true []), x8⟩), (2, some ⟨(.own 4 32 true []), x9⟩)], 0, 0, 6⟩
noncomputable def impl_PlanOf (x0 x1 x2 x3 x4 : PV) : Option R := pcallO 20 [x0, x1, x2, x3, x4]
noncomputable def impl_PlanOf_c5 (x0 x1 x2 x3 x4 x5 x6 x7 x8 x9 x10 x11 : PV) : Option R := goOn 20 0 0 (hints.mode 20) (todoOf Tryz.prog 20 5) [(2, .p x0), (5, .ptr 0 0), (10, .ptr 1 0), (11, .ptr 2 0), (29, .p x1), (30, .p x2), (31, .p x3)] ⟨[(0, some [.p x4, .p x5]), (1, some [.ref 0 [], .p x6, .p x7]), (2, some [.ref 1 [], .p x8, .p x9])], [(0, some ⟨(.own 4 32 true []), x10⟩), (1, some ⟨(.own 4 32 true []), x11⟩)], 0, 0, 5⟩
noncomputable def impl_PlanOf_c10 (x0 x1 x2 x3 x4 x5 x6 x7 x8 x9 x10 x11 x12 x13 x14 x15 x16 x17 x18 x19 : PV) : Option R := goOn 20 0 0 (hints.mode 20) (todoOf Tryz.prog 20 10) [(2, .p x0), (5, .ptr 0 0), (10, .ptr 1 0), (11, .ptr 2 0), (13, .ptr 3 0), (14, .ptr 4 0), (29, .p x1), (30, .p x2), (31, .p x3)] ⟨[(0, some [.p x4, .p x5]), (1, some [.ref 0 [], .p x6, .p x7]), (2, some [.ref 1 [], .p x8, .p x9]), (3, some [.p x10, .p x11, .p x12, .p x13]), (4, some [.p x14, .p x15, .p x16, .p x17])], [(0, some ⟨(.own 4 32 true []), x18⟩), (1, some ⟨(.own 4 32 true []), x19⟩)], 0, 0, 7⟩
noncomputable def impl_PlanOf_c12 (x0 x1 x2 x3 x4 x5 x6 x7 x8 x9 x10 x11 x12 x13 x14 x15 : PV) : Option R := goOn 20 0 0 (hints.mode 20) (todoOf Tryz.prog 20 12) [(2, .p x0), (5, .ptr 0 0), (10, .ptr 1 0), (11, .ptr 2 0), (14, .ptr 3 0), (29, .p x1), (30, .p x2), (31, .p x3)] ⟨[(0, some [.p x4, .p x5]), (1, some [.ref 0 [], .p x6, .p x7]), (2, some [.ref 1 [], .p x8, .p x9]), (3, some [.p x10, .p x11, .p x12, .p x13])], [(0, some ⟨(.own 4 32 true []), x14⟩), (1, some ⟨(.own 4 32 true []), x15⟩)], 0, 0, 6⟩
noncomputable def spec_PlanOf (x0 x1 x2 x3 x4 : PV) : Option R := pcallO 21 [x0, x1, x2, x3, x4]
noncomputable def spec_ProfileOk (x0 x1 : PV) : Option R := pcallO 22 [x0, x1]
noncomputable def impl_SiteAt (x0 x1 x2 : PV) : Option R := pcallO 23 [x0, x1, x2]
noncomputable def impl_SiteAt_c2 (x0 x1 x2 x3 x4 x5 x6 x7 x8 : PV) : Option R := goOn 23 0 0 (hints.mode 23) (todoOf Tryz.prog 23 2) [(1, .p x0), (2, .p x1), (6, .ptr 0 0), (9, .p x2), (10, .p x3), (11, .p x4)] ⟨[(0, some [.p x5, .p x6, .p x7, .p x8])], [], 0, 0, 1⟩
noncomputable def impl_PlanOk (x0 x1 : PV) : Option R := pcallO 24 [x0, x1]
noncomputable def impl_ProfileOk (x0 x1 : PV) : Option R := pcallO 29 [x0, x1]
noncomputable def impl_inRange (x0 x1 x2 : PV) : Option R := pcallO 49 [x0, x1, x2]
noncomputable def slices_ContainsFunc_impl_Spec_impl_Spec (x0 x1 : PV) : Option R := pcallO 50 [x0, x1]
noncomputable def impl_PlanOf_1 (x0 x1 : PV) : Option R := pcallO 51 [x0, x1]
noncomputable def impl_specOk (x0 x1 : PV) : Option R := pcallO 52 [x0, x1]
noncomputable def spec_l01Between (x0 x1 x2 : PV) : Option R := pcallO 53 [x0, x1, x2]
noncomputable def spec_l09Plan (x0 x1 x2 x3 x4 : PV) : Option R := pcallO 54 [x0, x1, x2, x3, x4]
noncomputable def spec_l09Plan_c3 (x0 x1 x2 x3 x4 x5 x6 x7 x8 x9 x10 : PV) : Option R := goOn 54 0 0 (hints.mode 54) (todoOf Tryz.prog 54 3) [(1, .p x0), (2, .p x1), (5, .ptr 0 0), (10, .ptr 1 0), (11, .ptr 2 0), (12, .p x2)] ⟨[(0, some [.p x3, .p x4]), (1, some [.ref 0 [], .p x5, .p x6]), (2, some [.ref 1 [], .p x7, .p x8])], [(0, some ⟨(.own 4 32 true []), x9⟩), (1, some ⟨(.own 4 32 true []), x10⟩)], 0, 0, 5⟩
noncomputable def spec_l09Plan_c9 (x0 x1 x2 x3 x4 x5 x6 x7 x8 x9 x10 x11 x12 x13 x14 : PV) : Option R := goOn 54 0 0 (hints.mode 54) (todoOf Tryz.prog 54 9) [(1, .p x0), (2, .p x1), (5, .ptr 0 0), (10, .ptr 1 0), (11, .ptr 2 0), (12, .p x2), (13, .ptr 3 0)] ⟨[(0, some [.p x3, .p x4]), (1, some [.ref 0 [], .p x5, .p x6]), (2, some [.ref 1 [], .p x7, .p x8]), (3, some [.p x9, .p x10, .p x11, .p x12])], [(0, some ⟨(.own 4 32 true []), x13⟩), (1, some ⟨(.own 4 32 true []), x14⟩)], 0, 0, 6⟩
noncomputable def spec_l09Plan_c11 (x0 x1 x2 x3 x4 x5 x6 x7 x8 x9 x10 x11 x12 x13 x14 x15 x16 : PV) : Option R := goOn 54 0 0 (hints.mode 54) (todoOf Tryz.prog 54 11) [(1, .p x0), (2, .p x1), (5, .ptr 0 0), (10, .ptr 1 0), (11, .ptr 2 0), (12, .p x2), (13, .ptr 3 0), (14, .p x3), (15, .p x4)] ⟨[(0, some [.p x5, .p x6]), (1, some [.ref 0 [], .p x7, .p x8]), (2, some [.ref 1 [], .p x9, .p x10]), (3, some [.p x11, .p x12, .p x13, .p x14])], [(0, some ⟨(.own 4 32 true []), x15⟩), (1, some ⟨(.own 4 32 true []), x16⟩)], 0, 0, 6⟩
noncomputable def spec_l03Good (x0 : PV) : Option R := pcallO 55 [x0]
noncomputable def spec_l07Ok (x0 x1 : PV) : Option R := pcallO 56 [x0, x1]
noncomputable def spec_l07Ok_c4 (x0 x1 x2 x3 : PV) : Option R := goOn 56 0 0 (hints.mode 56) (todoOf Tryz.prog 56 4) [(1, .p x0), (2, .ptr 0 0), (5, .p x1)] ⟨[(0, some [.p x2, .p x3])], [], 0, 0, 1⟩
noncomputable def spec_l07Ok_c13 (x0 x1 x2 x3 x4 x5 x6 x7 : PV) : Option R := goOn 56 0 0 (hints.mode 56) (todoOf Tryz.prog 56 13) [(1, .p x0), (2, .ptr 0 0), (5, .p x1), (6, .ptr 1 0)] ⟨[(0, some [.p x2, .p x3]), (1, some [.p x4, .p x5, .p x6, .p x7])], [], 0, 0, 2⟩
noncomputable def spec_l07Ok_c15 (x0 x1 x2 x3 x4 x5 x6 x7 x8 : PV) : Option R := goOn 56 0 0 (hints.mode 56) (todoOf Tryz.prog 56 15) [(1, .p x0), (2, .ptr 0 0), (5, .p x1), (6, .ptr 1 0), (7, .p x2)] ⟨[(0, some [.p x3, .p x4]), (1, some [.p x5, .p x6, .p x7, .p x8])], [], 0, 0, 2⟩
noncomputable def impl_isGood (x0 : PV) : Option R := pcallO 57 [x0]
noncomputable def impl_planOk (x0 x1 : PV) : Option R := pcallO 58 [x0, x1]
noncomputable def impl_planOk_c2 (x0 x1 x2 x3 x4 x5 x6 x7 : PV) : Option R := goOn 58 0 0 (hints.mode 58) (todoOf Tryz.prog 58 2) [(2, .ptr 0 0), (3, .ptr 1 0), (8, .p x0), (9, .p x1), (10, .p x2)] ⟨[(0, some [.p x3, .p x4]), (1, some [.p x5, .p x6, .p x7])], [], 0, 0, 2⟩
noncomputable def impl_profileOk (x0 x1 : PV) : Option R := pcallO 59 [x0, x1]
noncomputable def impl_profileOk_c2 (x0 x1 x2 x3 x4 x5 : PV) : Option R := goOn 59 0 0 (hints.mode 59) (todoOf Tryz.prog 59 2) [(1, .p x0), (2, .ptr 0 0), (7, .p x1), (8, .p x2), (9, .p x3)] ⟨[(0, some [.p x4, .p x5])], [], 0, 0, 1⟩
noncomputable def impl_compareSites (x0 x1 : PV) : Option R := pcallO 62 [x0, x1]
noncomputable def slices_IndexFunc_impl_Spec_impl_Spec (x0 x1 : PV) : Option R := pcallO 84 [x0, x1]
noncomputable def slices_IndexFunc_impl_Spec_impl_Spec_c2 (x0 x1 x2 x3 : PV) : Option R := goOn 84 0 0 (hints.mode 84) (todoOf Tryz.prog 84 2) [(0, .p x0), (1, .p x1), (7, .p x2), (8, .p x3)] ⟨[], [], 0, 0, 0⟩
noncomputable def impl_insAt (x0 x1 x2 : PV) : Option R := pcallO 85 [x0, x1, x2]
noncomputable def impl_isArith (x0 : PV) : Option R := pcallO 86 [x0]
noncomputable def impl_isPlace (x0 x1 : PV) : Option R := pcallO 43 [x0, x1]
noncomputable def spec_l09SpecOk (x0 x1 : PV) : Option R := pcallO 87 [x0, x1]
noncomputable def spec_Verify (x0 : PV) : Option R := pcallO 88 [x0]
noncomputable def spec_Verify_c4 (x0 x1 x2 x3 x4 x5 : PV) : Option R := goOn 88 0 0 (hints.mode 88) (todoOf Tryz.prog 88 4) [(1, .ptr 0 0), (2, .ptr 1 0), (3, .p x0)] ⟨[(0, some [.p x1, .p x2]), (1, some [.p x3, .p x4, .p x5])], [], 0, 0, 2⟩
noncomputable def spec_Verify_c9 (x0 x1 x2 x3 x4 x5 x6 x7 x8 : PV) : Option R := goOn 88 0 0 (hints.mode 88) (todoOf Tryz.prog 88 9) [(1, .ptr 0 0), (2, .ptr 1 0), (3, .p x0), (4, .p x1), (5, .p x2), (6, .p x3)] ⟨[(0, some [.p x4, .p x5]), (1, some [.p x6, .p x7, .p x8])], [], 0, 0, 2⟩
noncomputable def spec_Verify_c18 (x0 x1 x2 x3 x4 x5 x6 x7 x8 x9 x10 x11 : PV) : Option R := goOn 88 0 0 (hints.mode 88) (todoOf Tryz.prog 88 18) [(1, .ptr 0 0), (2, .ptr 1 0), (3, .p x0), (4, .p x1), (5, .p x2), (6, .p x3), (9, .p x4), (10, .p x5), (11, .p x6)] ⟨[(0, some [.p x7, .p x8]), (1, some [.p x9, .p x10, .p x11])], [], 0, 0, 2⟩
noncomputable def spec_Verify_c23 (x0 x1 x2 x3 x4 x5 x6 x7 x8 x9 x10 x11 : PV) : Option R := goOn 88 0 0 (hints.mode 88) (todoOf Tryz.prog 88 23) [(1, .ptr 0 0), (2, .ptr 1 0), (3, .p x0), (4, .p x1), (5, .p x2), (6, .p x3), (9, .p x4), (10, .p x5), (12, .p x6)] ⟨[(0, some [.p x7, .p x8]), (1, some [.p x9, .p x10, .p x11])], [], 0, 0, 2⟩
noncomputable def spec_l07Less (x0 x1 : PV) : Option R := pcallO 89 [x0, x1]
noncomputable def spec_l07Is (x0 : PV) : Option R := pcallO 83 [x0]
noncomputable def impl_Verify (x0 : PV) : Option R := pcallO 90 [x0]
noncomputable def impl_Verify_c4 (x0 x1 x2 x3 x4 x5 x6 : PV) : Option R := goOn 90 0 0 (hints.mode 90) (todoOf Tryz.prog 90 4) [(1, .ptr 0 0), (2, .ptr 1 0), (16, .p x0), (17, .p x1)] ⟨[(0, some [.p x2, .p x3]), (1, some [.p x4, .p x5, .p x6])], [], 0, 0, 2⟩
noncomputable def impl_Verify_c8 (x0 x1 x2 x3 x4 x5 x6 x7 x8 x9 x10 x11 : PV) : Option R := goOn 90 0 0 (hints.mode 90) (todoOf Tryz.prog 90 8) [(1, .ptr 0 0), (2, .ptr 1 0), (3, .p x0), (4, .ptr 2 0), (16, .p x1), (17, .p x2), (28, .p x3), (29, .p x4), (30, .p x5)] ⟨[(0, some [.p x6, .p x7]), (1, some [.p x8, .p x9, .p x10]), (2, some [.p x11])], [], 0, 0, 3⟩
noncomputable def impl_comparePlaces (x0 x1 : PV) : Option R := pcallO 91 [x0, x1]
noncomputable def impl_siteOk (x0 x1 : PV) : Option R := pcallO 92 [x0, x1]
noncomputable def impl_siteOk_c5 (x0 x1 x2 x3 x4 x5 : PV) : Option R := goOn 92 0 0 (hints.mode 92) (todoOf Tryz.prog 92 5) [(2, .ptr 0 0), (3, .ptr 1 0)] ⟨[(0, some [.p x0, .p x1]), (1, some [.p x2, .p x3, .p x4, .p x5])], [], 0, 0, 2⟩
noncomputable def impl_siteOk_c6 (x0 x1 x2 x3 x4 x5 : PV) : Option R := goOn 92 0 0 (hints.mode 92) (todoOf Tryz.prog 92 6) [(3, .ptr 0 0), (5, .ptr 1 0)] ⟨[(0, some [.p x0, .p x1, .p x2, .p x3]), (1, some [.p x4, .p x5])], [], 0, 0, 2⟩
noncomputable def cmp_Compare_int (x0 x1 : PV) : Option R := pcallO 94 [x0, x1]
noncomputable def cmp_Or_int (x0 : PV) : Option R := pcallO 93 [x0]
noncomputable def cmp_Or_int_c3 (x0 x1 x2 x3 : PV) : Option R := goOn 93 0 0 (hints.mode 93) (todoOf Tryz.prog 93 3) [(3, .p x0), (6, .p x1), (7, .p x2), (8, .p x3)] ⟨[], [], 0, 0, 0⟩
noncomputable def spec_ModuleOk (x0 : PV) : Option R := pcallO 116 [x0]
noncomputable def spec_ModuleOk_c4 (x0 x1 x2 : PV) : Option R := goOn 116 0 0 (hints.mode 116) (todoOf Tryz.prog 116 4) [(1, .ptr 0 0), (3, .p x0)] ⟨[(0, some [.p x1, .p x2])], [], 0, 0, 1⟩
noncomputable def spec_ModuleOk_c9 (x0 x1 x2 : PV) : Option R := goOn 116 0 0 (hints.mode 116) (todoOf Tryz.prog 116 9) [(1, .ptr 0 0), (4, .p x0)] ⟨[(0, some [.p x1, .p x2])], [], 0, 0, 1⟩
noncomputable def spec_ModuleOk_c15 (x0 x1 x2 x3 x4 x5 x6 : PV) : Option R := goOn 116 0 0 (hints.mode 116) (todoOf Tryz.prog 116 15) [(1, .ptr 0 0), (4, .p x0), (5, .ptr 1 0), (6, .p x1)] ⟨[(0, some [.p x2, .p x3]), (1, some [.p x4, .p x5, .p x6])], [], 0, 0, 2⟩
noncomputable def spec_l03Depths (x0 x1 : PV) : Option R := pcallO 68 [x0, x1]
noncomputable def spec_l03Depths_c4 (x0 x1 x2 x3 x4 : PV) : Option R := goOn 68 0 0 (hints.mode 68) (todoOf Tryz.prog 68 4) [(2, .ptr 0 0), (5, .p x0), (6, .ref 0 []), (7, .p x1)] ⟨[(0, some [.p x2, .p x3])], [(0, some ⟨(.own 1 8 false []), x4⟩)], 0, 0, 2⟩
noncomputable def spec_l03Depths_c9 (x0 x1 x2 x3 x4 : PV) : Option R := goOn 68 0 0 (hints.mode 68) (todoOf Tryz.prog 68 9) [(2, .ptr 0 0), (5, .p x0), (6, .ref 0 []), (8, .p x1)] ⟨[(0, some [.p x2, .p x3])], [(0, some ⟨(.own 1 8 false []), x4⟩)], 0, 0, 2⟩
noncomputable def spec_l03Depths_c12 (x0 x1 x2 x3 x4 x5 : PV) : Option R := goOn 68 0 0 (hints.mode 68) (todoOf Tryz.prog 68 12) [(2, .ptr 0 0), (5, .p x0), (6, .ref 0 []), (8, .p x1), (9, .p x2)] ⟨[(0, some [.p x3, .p x4])], [(0, some ⟨(.own 1 8 false []), x5⟩)], 0, 0, 2⟩
noncomputable def spec_l03Depths_c19 (x0 x1 x2 x3 x4 x5 x6 x7 x8 : PV) : Option R := goOn 68 0 0 (hints.mode 68) (todoOf Tryz.prog 68 19) [(2, .ptr 0 0), (5, .p x0), (6, .ref 0 []), (8, .p x1), (9, .p x2), (12, .p x3), (13, .p x4), (14, .p x5)] ⟨[(0, some [.p x6, .p x7])], [(0, some ⟨(.own 1 8 false []), x8⟩)], 0, 0, 2⟩
noncomputable def spec_l03Depths_c22 (x0 x1 x2 x3 x4 x5 x6 x7 : PV) : Option R := goOn 68 0 0 (hints.mode 68) (todoOf Tryz.prog 68 22) [(2, .ptr 0 0), (5, .p x0), (6, .ref 0 []), (9, .p x1), (12, .p x2), (13, .p x3), (14, .p x4)] ⟨[(0, some [.p x5, .p x6])], [(0, some ⟨(.own 1 8 false []), x7⟩)], 0, 0, 2⟩
noncomputable def spec_UsesOf (x0 x1 : PV) : Option R := pcallO 101 [x0, x1]
noncomputable def spec_l03Next (x0 x1 : PV) : Option R := pcallO 102 [x0, x1]
noncomputable def spec_l03Next_c3 (x0 x1 x2 x3 : PV) : Option R := goOn 102 0 0 (hints.mode 102) (todoOf Tryz.prog 102 3) [(1, .p x0), (2, .ptr 0 0), (5, .ref 0 [])] ⟨[(0, some [.p x1, .p x2])], [(0, some ⟨(.own 1 8 false []), x3⟩)], 0, 0, 2⟩
noncomputable def spec_l03Next_c4 (x0 x1 x2 : PV) : Option R := goOn 102 0 0 (hints.mode 102) (todoOf Tryz.prog 102 4) [(2, .ptr 0 0), (5, .ref 0 [])] ⟨[(0, some [.p x0, .p x1])], [(0, some ⟨(.own 1 8 false []), x2⟩)], 0, 0, 2⟩
noncomputable def spec_l03Next_c5 (x0 x1 x2 : PV) : Option R := goOn 102 0 0 (hints.mode 102) (todoOf Tryz.prog 102 5) [(2, .ptr 0 0), (5, .ref 0 [])] ⟨[(0, some [.p x0, .p x1])], [(0, some ⟨(.own 1 8 false []), x2⟩)], 0, 0, 2⟩
noncomputable def impl_ModuleOk (x0 : PV) : Option R := pcallO 42 [x0]
noncomputable def impl_ModuleOk_c4 (x0 x1 x2 x3 x4 : PV) : Option R := goOn 42 0 0 (hints.mode 42) (todoOf Tryz.prog 42 4) [(1, .ptr 0 0), (22, .p x0), (23, .p x1), (24, .p x2)] ⟨[(0, some [.p x3, .p x4])], [], 0, 0, 1⟩
noncomputable def impl_depths (x0 x1 : PV) : Option R := pcallO 44 [x0, x1]
noncomputable def impl_depths_c5 (x0 x1 x2 x3 x4 : PV) : Option R := goOn 44 0 0 (hints.mode 44) (todoOf Tryz.prog 44 5) [(2, .ptr 0 0), (5, .p x0), (6, .ref 0 []), (7, .p x1)] ⟨[(0, some [.p x2, .p x3])], [(0, some ⟨(.own 1 8 false []), x4⟩)], 0, 0, 2⟩
noncomputable def impl_depths_c8 (x0 x1 x2 x3 x4 x5 x6 x7 : PV) : Option R := goOn 44 0 0 (hints.mode 44) (todoOf Tryz.prog 44 8) [(2, .ptr 0 0), (5, .p x0), (6, .ref 0 []), (7, .p x1), (27, .p x2), (28, .p x3), (29, .p x4)] ⟨[(0, some [.p x5, .p x6])], [(0, some ⟨(.own 1 8 false []), x7⟩)], 0, 0, 2⟩
noncomputable def impl_depths_c13 (x0 x1 x2 x3 x4 x5 x6 x7 x8 x9 x10 x11 x12 : PV) : Option R := goOn 44 0 0 (hints.mode 44) (todoOf Tryz.prog 44 13) [(2, .ptr 0 0), (5, .p x0), (6, .ref 0 []), (7, .p x1), (10, .p x2), (11, .p x3), (27, .p x4), (28, .p x5), (29, .p x6), (51, .p x7), (52, .p x8), (53, .p x9)] ⟨[(0, some [.p x10, .p x11])], [(0, some ⟨(.own 1 8 false []), x12⟩)], 0, 0, 2⟩
noncomputable def impl_depths_c16 (x0 x1 x2 x3 x4 x5 x6 x7 x8 x9 x10 x11 x12 : PV) : Option R := goOn 44 0 0 (hints.mode 44) (todoOf Tryz.prog 44 16) [(2, .ptr 0 0), (5, .p x0), (6, .ref 0 []), (10, .p x1), (11, .p x2), (13, .p x3), (27, .p x4), (28, .p x5), (29, .p x6), (51, .p x7), (52, .p x8), (53, .p x9)] ⟨[(0, some [.p x10, .p x11])], [(0, some ⟨(.own 1 8 false []), x12⟩)], 0, 0, 2⟩
noncomputable def impl_leaves (x0 x1 x2 : PV) : Option R := pcallO 77 [x0, x1, x2]
noncomputable def impl_follows (x0 x1 : PV) : Option R := pcallO 78 [x0, x1]
noncomputable def slices_Contains_int_int (x0 x1 : PV) : Option R := pcallO 117 [x0, x1]
noncomputable def slices_ContainsFunc_int_int (x0 x1 : PV) : Option R := pcallO 118 [x0, x1]
noncomputable def impl_Verify_1 (x0 x1 x2 : PV) : Option R := pcallO 119 [x0, x1, x2]
noncomputable def cmp_isNaN_int (x0 : PV) : Option R := pcallO 120 [x0]
noncomputable def spec_l01Text (x0 : PV) : Option R := pcallO 139 [x0]
noncomputable def spec_l01Text_c4 (x0 x1 : PV) : Option R := goOn 139 0 0 (hints.mode 139) (todoOf Tryz.prog 139 4) [(0, .p x0), (3, .p x1)] ⟨[], [], 0, 0, 0⟩
noncomputable def spec_InsOk (x0 x1 x2 : PV) : Option R := pcallO 140 [x0, x1, x2]
noncomputable def slices_ContainsFunc_string_string (x0 x1 : PV) : Option R := pcallO 70 [x0, x1]
noncomputable def impl_ModuleOk_1 (x0 : PV) : Option R := pcallO 71 [x0]
noncomputable def slices_ContainsFunc_impl_Ins_impl_Ins (x0 x1 : PV) : Option R := pcallO 73 [x0, x1]
noncomputable def impl_ModuleOk_2 (x0 x1 x2 : PV) : Option R := pcallO 74 [x0, x1, x2]
noncomputable def impl_UsesOf (x0 x1 : PV) : Option R := pcallO 107 [x0, x1]
noncomputable def impl_UsesOf_c24 (x0 x1 x2 x3 : PV) : Option R := goOn 107 0 0 (hints.mode 107) (todoOf Tryz.prog 107 24) [(2, .ptr 0 0), (3, .ptr 1 0)] ⟨[(0, some [.p x0, .p x1]), (1, some [.p x2, .p x3])], [], 0, 0, 2⟩
noncomputable def impl_UsesOf_c25 (x0 x1 x2 x3 : PV) : Option R := goOn 107 0 0 (hints.mode 107) (todoOf Tryz.prog 107 25) [(2, .ptr 0 0), (3, .ptr 1 0)] ⟨[(0, some [.p x0, .p x1]), (1, some [.p x2, .p x3])], [], 0, 0, 2⟩
noncomputable def slices_Index_int_int (x0 x1 : PV) : Option R := pcallO 141 [x0, x1]
noncomputable def slices_Index_int_int_c2 (x0 x1 x2 x3 : PV) : Option R := goOn 141 0 0 (hints.mode 141) (todoOf Tryz.prog 141 2) [(0, .p x0), (1, .p x1), (7, .p x2), (8, .p x3)] ⟨[], [], 0, 0, 0⟩
noncomputable def slices_IndexFunc_int_int (x0 x1 : PV) : Option R := pcallO 142 [x0, x1]
noncomputable def slices_IndexFunc_int_int_c2 (x0 x1 x2 x3 : PV) : Option R := goOn 142 0 0 (hints.mode 142) (todoOf Tryz.prog 142 2) [(0, .p x0), (1, .p x1), (7, .p x2), (8, .p x3)] ⟨[], [], 0, 0, 0⟩
noncomputable def slices_IndexFunc_string_string (x0 x1 : PV) : Option R := pcallO 103 [x0, x1]
noncomputable def slices_IndexFunc_string_string_c2 (x0 x1 x2 x3 : PV) : Option R := goOn 103 0 0 (hints.mode 103) (todoOf Tryz.prog 103 2) [(0, .p x0), (1, .p x1), (7, .p x2), (8, .p x3)] ⟨[], [], 0, 0, 0⟩
noncomputable def impl_textOk (x0 : PV) : Option R := pcallO 72 [x0]
noncomputable def impl_textOk_c2 (x0 x1 x2 : PV) : Option R := goOn 72 0 0 (hints.mode 72) (todoOf Tryz.prog 72 2) [(0, .p x0), (5, .p x1), (6, .p x2)] ⟨[], [], 0, 0, 0⟩
noncomputable def slices_IndexFunc_impl_Ins_impl_Ins (x0 x1 : PV) : Option R := pcallO 104 [x0, x1]
noncomputable def slices_IndexFunc_impl_Ins_impl_Ins_c2 (x0 x1 x2 x3 : PV) : Option R := goOn 104 0 0 (hints.mode 104) (todoOf Tryz.prog 104 2) [(0, .p x0), (1, .p x1), (7, .p x2), (8, .p x3)] ⟨[], [], 0, 0, 0⟩
noncomputable def impl_insOk (x0 x1 x2 : PV) : Option R := pcallO 75 [x0, x1, x2]
noncomputable def impl_isNum (x0 : PV) : Option R := pcallO 105 [x0]
noncomputable def spec_l01Open (x0 : PV) : Option R := scallO 30 [.p x0] ⟨[], [], 0, 0, 0⟩
noncomputable def spec_l05DrawMany (x0 x1 x2 : PV) : Option R := scallO 45 [.ptr 0 0] ⟨[(0, some [.p x0, .p x1, .p x2])], [], 0, 0, 1⟩
noncomputable def spec_l07DrawProfile (x0 x1 x2 x3 x4 x5 : PV) : Option R := scallO 46 [.ptr 0 0, .agg [.p x0, .p x1], .p x2] ⟨[(0, some [.p x3, .p x4, .p x5])], [], 0, 0, 1⟩
noncomputable def spec_l07DrawProfile_c4 (x0 x1 x2 x3 x4 x5 x6 : PV) : Option R := goOn 46 1 0 (hints.mode 46) (todoOf Tryz.prog 46 4) [(0, .ptr 0 0), (2, .p x0), (4, .ptr 1 0), (7, .ref 0 [])] ⟨[(0, some [.p x1, .p x2, .p x3]), (1, some [.p x4, .p x5])], [(0, some ⟨(.own 4 32 true []), x6⟩)], 0, 0, 3⟩
noncomputable def spec_l07DrawProfile_c6 (x0 x1 x2 x3 x4 x5 x6 x7 : PV) : Option R := goOn 46 1 0 (hints.mode 46) (todoOf Tryz.prog 46 6) [(0, .ptr 0 0), (2, .p x0), (4, .ptr 1 0), (7, .ref 0 []), (8, .p x1)] ⟨[(0, some [.p x2, .p x3, .p x4]), (1, some [.p x5, .p x6])], [(0, some ⟨(.own 4 32 true []), x7⟩)], 0, 0, 3⟩
noncomputable def spec_l07DrawProfile_c19 (x0 x1 x2 x3 x4 : PV) : Option R := goOn 46 1 0 (hints.mode 46) (todoOf Tryz.prog 46 19) [(0, .ptr 0 0), (2, .p x0), (7, .ref 0 [])] ⟨[(0, some [.p x1, .p x2, .p x3])], [(0, some ⟨(.own 4 32 true []), x4⟩)], 0, 0, 2⟩
noncomputable def spec_l07DrawProfile_c9 (x0 x1 x2 x3 x4 x5 x6 x7 x8 : PV) : Option R := goOn 46 1 0 (hints.mode 46) (todoOf Tryz.prog 46 9) [(0, .ptr 0 0), (2, .p x0), (4, .ptr 1 0), (7, .ref 0 []), (8, .p x1), (9, .p x2)] ⟨[(0, some [.p x3, .p x4, .p x5]), (1, some [.p x6, .p x7])], [(0, some ⟨(.own 4 32 true []), x8⟩)], 0, 0, 3⟩
noncomputable def spec_l01Cur_pick (x0 x1 x2 x3 : PV) : Option R := scallO 47 [.ptr 0 0, .p x0] ⟨[(0, some [.p x1, .p x2, .p x3])], [], 0, 0, 1⟩
noncomputable def spec_l01Cur_pick_c9 (x0 x1 x2 x3 x4 : PV) : Option R := goOn 47 1 0 (hints.mode 47) (todoOf Tryz.prog 47 9) [(0, .ptr 0 0), (1, .p x0), (5, .p x1)] ⟨[(0, some [.p x2, .p x3, .p x4])], [], 0, 0, 1⟩
noncomputable def spec_l01Cur_once (x0 x1 x2 x3 : PV) : Option R := scallO 48 [.ptr 0 0, .p x0] ⟨[(0, some [.p x1, .p x2, .p x3])], [], 0, 0, 1⟩
noncomputable def spec_l07Lay (x0 x1 x2 : PV) : Option R := scallO 65 [.p x0, .p x1, .p x2] ⟨[], [], 0, 0, 0⟩
noncomputable def spec_l07Lay_c4 (x0 x1 x2 x3 x4 x5 x6 x7 x8 x9 : PV) : Option R := goOn 65 0 0 (hints.mode 65) (todoOf Tryz.prog 65 4) [(1, .p x0), (3, .ptr 0 0), (5, .ptr 1 0), (7, .ref 0 []), (8, .p x1), (9, .p x2)] ⟨[(0, some [.p x3, .p x4]), (1, some [.p x5, .p x6, .p x7, .p x8])], [(0, some ⟨(.own 4 32 true []), x9⟩)], 0, 0, 3⟩
noncomputable def spec_l07Lay_c7 (x0 x1 x2 x3 x4 x5 x6 x7 x8 : PV) : Option R := goOn 65 0 0 (hints.mode 65) (todoOf Tryz.prog 65 7) [(1, .p x0), (3, .ptr 0 0), (5, .ptr 1 0), (7, .ref 0 []), (9, .p x1)] ⟨[(0, some [.p x2, .p x3]), (1, some [.p x4, .p x5, .p x6, .p x7])], [(0, some ⟨(.own 4 32 true []), x8⟩)], 0, 0, 3⟩
noncomputable def spec_l07Lay_c9 (x0 x1 x2 x3 x4 x5 x6 x7 x8 x9 : PV) : Option R := goOn 65 0 0 (hints.mode 65) (todoOf Tryz.prog 65 9) [(1, .p x0), (3, .ptr 0 0), (5, .ptr 1 0), (7, .ref 0 []), (8, .p x1), (9, .p x2)] ⟨[(0, some [.p x3, .p x4]), (1, some [.p x5, .p x6, .p x7, .p x8])], [(0, some ⟨(.own 4 32 true []), x9⟩)], 0, 0, 3⟩
noncomputable def spec_l07Lay_c10 (x0 x1 x2 x3 x4 x5 x6 x7 x8 : PV) : Option R := goOn 65 0 0 (hints.mode 65) (todoOf Tryz.prog 65 10) [(1, .p x0), (3, .ptr 0 0), (5, .ptr 1 0), (7, .ref 0 []), (9, .p x1)] ⟨[(0, some [.p x2, .p x3]), (1, some [.p x4, .p x5, .p x6, .p x7])], [(0, some ⟨(.own 4 32 true []), x8⟩)], 0, 0, 3⟩
noncomputable def spec_l07Both (x0 x1 x2 : PV) : Option R := pcallO 97 [x0, x1, x2]
noncomputable def slices_Repeat_int_int (x0 x1 : PV) : Option R := scallO 76 [.p x0, .p x1] ⟨[], [], 0, 0, 0⟩
noncomputable def slices_Repeat_int_int_c3 (x0 x1 : PV) : Option R := goOn 76 0 0 (hints.mode 76) (todoOf Tryz.prog 76 3) [(0, .p x0), (1, .p x1)] ⟨[], [], 0, 0, 0⟩
noncomputable def slices_Repeat_int_int_c6 (x0 x1 : PV) : Option R := goOn 76 0 0 (hints.mode 76) (todoOf Tryz.prog 76 6) [(0, .p x0), (6, .p x1)] ⟨[], [], 0, 0, 0⟩
noncomputable def slices_Repeat_int_int_c8 (x0 x1 : PV) : Option R := goOn 76 0 0 (hints.mode 76) (todoOf Tryz.prog 76 8) [(7, .ref 0 []), (8, .p x0)] ⟨[], [(0, some ⟨(.own 1 8 false []), x1⟩)], 0, 0, 1⟩
noncomputable def math_bits_Mul (x0 x1 : PV) : Option R := pcallO 106 [x0, x1]
noncomputable def math_bits_Mul64 (x0 x1 : PV) : Option R := pcallO 126 [x0, x1]
noncomputable def spec_l01DrawAny (x0 x1 x2 x3 : PV) : Option R := scallO 79 [.ptr 0 0, .p x0] ⟨[(0, some [.p x1, .p x2, .p x3])], [], 0, 0, 1⟩
noncomputable def spec_l05DrawGood (x0 x1 x2 : PV) : Option R := scallO 80 [.ptr 0 0] ⟨[(0, some [.p x0, .p x1, .p x2])], [], 0, 0, 1⟩
noncomputable def spec_l05DrawArgs (x0 x1 x2 x3 x4 : PV) : Option R := scallO 82 [.ptr 0 0, .agg [.p x0, .p x1]] ⟨[(0, some [.p x2, .p x3, .p x4])], [], 0, 0, 1⟩
noncomputable def spec_l05DrawArgs_c3 (x0 x1 x2 x3 x4 x5 x6 : PV) : Option R := goOn 82 1 0 (hints.mode 82) (todoOf Tryz.prog 82 3) [(0, .ptr 0 0), (3, .ptr 1 0), (5, .ref 0 []), (6, .p x0)] ⟨[(0, some [.p x1, .p x2, .p x3]), (1, some [.p x4, .p x5])], [(0, some ⟨(.own 3 32 true []), x6⟩)], 0, 0, 3⟩
noncomputable def spec_l04Int (x0 : PV) : Option R := pcallO 113 [x0]
noncomputable def spec_l04Bool (x0 : PV) : Option R := pcallO 114 [x0]
noncomputable def spec_ProfileOf (x0 x1 x2 : PV) : Option R := scallO 81 [.p x0, .p x1, .p x2] ⟨[], [], 0, 0, 0⟩
noncomputable def spec_ProfileOf_c6 (x0 x1 x2 x3 x4 x5 x6 x7 x8 x9 x10 x11 x12 x13 x14 : PV) : Option R := goOn 81 0 0 (hints.mode 81) (todoOf Tryz.prog 81 6) [(2, .p x0), (3, .ptr 0 0), (7, .ref 0 []), (8, .ptr 1 0), (10, .p x1)] ⟨[(0, some [.p x2, .p x3]), (1, some [.p x4, .p x5, .p x6, .p x7, .p x8, .p x9, .p x10, .p x11, .p x12, .p x13])], [(0, some ⟨(.own 4 32 true []), x14⟩)], 0, 0, 3⟩
noncomputable def spec_Start (x0 x1 : PV) : Option R := pcallO 110 [x0, x1]
noncomputable def spec_Start_c4 (x0 x1 x2 x3 x4 x5 x6 x7 x8 x9 x10 x11 x12 x13 : PV) : Option R := goOn 110 0 0 (hints.mode 110) (todoOf Tryz.prog 110 4) [(1, .p x0), (2, .ptr 0 0), (4, .ptr 1 0), (6, .p x1)] ⟨[(0, some [.p x2, .p x3]), (1, some [.ref 0 [], .ref 1 [], .p x4, .ref 2 [], .p x5, .p x6, .p x7, .p x8, .p x9, .p x10])], [(0, some ⟨(.own 4 64 true []), x11⟩), (1, some ⟨(.own 1 24 true []), x12⟩), (2, some ⟨(.own 1 16 false []), x13⟩)], 0, 0, 5⟩
noncomputable def spec_Start_c10 (x0 x1 x2 x3 x4 x5 x6 x7 x8 x9 x10 x11 x12 x13 x14 x15 : PV) : Option R := goOn 110 0 0 (hints.mode 110) (todoOf Tryz.prog 110 10) [(1, .p x0), (4, .ptr 0 0), (7, .ptr 1 0), (8, .p x1)] ⟨[(0, some [.ref 0 [], .ref 1 [], .p x2, .ref 2 [], .p x3, .p x4, .p x5, .p x6, .p x7, .p x8]), (1, some [.p x9, .p x10, .ref 3 [], .ref 4 []])], [(0, some ⟨(.own 4 64 true []), x11⟩), (1, some ⟨(.own 1 24 true []), x12⟩), (2, some ⟨(.own 1 16 false []), x13⟩), (3, some ⟨(.own 3 32 true []), x14⟩), (4, some ⟨(.own 3 32 true []), x15⟩)], 0, 0, 7⟩
noncomputable def spec_l05Step (x0 x1 : PV) : Option R := pcallO 112 [x0, x1]
noncomputable def spec_l04Ok (x0 x1 x2 : PV) : Option R := pcallO 133 [x0, x1, x2]
noncomputable def spec_l04Num (x0 : PV) : Option R := pcallO 150 [x0]
noncomputable def spec_l01DrawModule (x0 x1 x2 : PV) : Option R := scallO 108 [.ptr 0 0] ⟨[(0, some [.p x0, .p x1, .p x2])], [], 0, 0, 1⟩
noncomputable def spec_l01DrawModule_c3 (x0 x1 x2 x3 x4 x5 x6 x7 : PV) : Option R := goOn 108 1 0 (hints.mode 108) (todoOf Tryz.prog 108 3) [(0, .ptr 0 0), (2, .ptr 1 0), (3, .ptr 2 0), (4, .p x0)] ⟨[(0, some [.p x1, .p x2, .p x3]), (1, some [.ref 0 [], .ref 1 []]), (2, some [.ref 2 [], .ref 3 []])], [(0, some ⟨(.own 1 16 false []), x4⟩), (1, some ⟨(.own 3 40 true []), x5⟩), (2, some ⟨(.own 1 16 false []), x6⟩), (3, some ⟨(.own 3 40 true []), x7⟩)], 0, 0, 7⟩
noncomputable def spec_l01DrawModule_c8 (x0 x1 x2 x3 x4 x5 x6 x7 x8 : PV) : Option R := goOn 108 1 0 (hints.mode 108) (todoOf Tryz.prog 108 8) [(0, .ptr 0 0), (2, .ptr 1 0), (3, .ptr 2 0), (5, .ref 4 []), (6, .p x0)] ⟨[(0, some [.p x1, .p x2, .p x3]), (1, some [.ref 0 [], .ref 1 []]), (2, some [.ref 2 [], .ref 3 []])], [(0, some ⟨(.own 1 16 false []), x4⟩), (1, some ⟨(.own 3 40 true []), x5⟩), (2, some ⟨(.own 1 16 false []), x6⟩), (3, some ⟨(.own 3 40 true []), x7⟩), (4, some ⟨(.own 3 40 true []), x8⟩)], 0, 0, 8⟩
noncomputable def spec_l01DrawModule_c15 (x0 x1 x2 x3 x4 x5 x6 x7 x8 x9 x10 x11 x12 x13 x14 x15 x16 : PV) : Option R := goOn 108 1 0 (hints.mode 108) (todoOf Tryz.prog 108 15) [(0, .ptr 0 0), (2, .ptr 1 0), (3, .ptr 2 0), (5, .ref 4 []), (6, .p x0), (7, .ptr 3 0), (8, .ptr 4 0)] ⟨[(0, some [.p x1, .p x2, .p x3]), (1, some [.ref 0 [], .ref 1 []]), (2, some [.ref 2 [], .ref 3 []]), (3, some [.p x4, .p x5, .ref 5 []]), (4, some [.ptr 0 0, .ref 6 [], .p x6, .p x7, .p x8, .p x9])], [(0, some ⟨(.own 1 16 false []), x10⟩), (1, some ⟨(.own 3 40 true []), x11⟩), (2, some ⟨(.own 1 16 false []), x12⟩), (3, some ⟨(.own 3 40 true []), x13⟩), (4, some ⟨(.own 3 40 true []), x14⟩), (5, some ⟨(.own 2 16 true []), x15⟩), (6, some ⟨(.own 2 16 true []), x16⟩)], 0, 0, 12⟩
noncomputable def spec_l01Spoil (x0 x1 x2 x3 x4 : PV) : Option R := scallO 109 [.ptr 0 0, .agg [.p x0, .p x1]] ⟨[(0, some [.p x2, .p x3, .p x4])], [], 0, 0, 1⟩
noncomputable def spec_l01Spoil_c21 (x0 x1 x2 x3 x4 x5 x6 : PV) : Option R := goOn 109 1 0 (hints.mode 109) (todoOf Tryz.prog 109 21) [(0, .ptr 0 0), (4, .ptr 1 0), (5, .ptr 2 0)] ⟨[(0, some [.p x0, .p x1, .p x2]), (1, some [.ref 0 [], .ref 1 []]), (2, some [.ref 2 [], .ref 3 []])], [(0, some ⟨(.own 1 16 false []), x3⟩), (1, some ⟨(.own 3 40 true [.leaf, .leaf, (.own 2 16 true [])]), x4⟩), (2, some ⟨(.own 1 16 false []), x5⟩), (3, some ⟨(.own 3 40 true [.leaf, .leaf, (.own 2 16 true [])]), x6⟩)], 0, 0, 7⟩
noncomputable def spec_l01Spoil_c6 (x0 x1 x2 x3 x4 x5 x6 x7 x8 x9 : PV) : Option R := goOn 109 1 0 (hints.mode 109) (todoOf Tryz.prog 109 6) [(0, .ptr 0 0), (4, .ptr 1 0), (5, .ptr 2 0), (6, .p x0), (8, .ptr 3 0)] ⟨[(0, some [.p x1, .p x2, .p x3]), (1, some [.ref 0 [], .ref 1 []]), (2, some [.ref 2 [], .ref 3 []]), (3, some [.p x4, .p x5])], [(0, some ⟨(.own 1 16 false []), x6⟩), (1, some ⟨(.own 3 40 true [.leaf, .leaf, (.own 2 16 true [])]), x7⟩), (2, some ⟨(.own 1 16 false []), x8⟩), (3, some ⟨(.own 3 40 true [.leaf, .leaf, (.own 2 16 true [])]), x9⟩)], 0, 0, 8⟩
noncomputable def spec_l04DrawValue (x0 x1 x2 : PV) : Option R := scallO 115 [.ptr 0 0] ⟨[(0, some [.p x0, .p x1, .p x2])], [], 0, 0, 1⟩
noncomputable def spec_l07Observe (x0 x1 x2 : PV) : Option R := scallO 111 [.p x0, .p x1, .p x2] ⟨[], [], 0, 0, 0⟩
noncomputable def spec_l07See (x0 x1 : PV) : Option R := pcallO 134 [x0, x1]
noncomputable def spec_SiteAt (x0 x1 x2 : PV) : Option R := pcallO 135 [x0, x1, x2]
noncomputable def spec_SiteAt_c2 (x0 x1 x2 x3 x4 x5 x6 x7 : PV) : Option R := goOn 135 0 0 (hints.mode 135) (todoOf Tryz.prog 135 2) [(0, .p x0), (1, .p x1), (2, .p x2), (6, .ptr 0 0), (7, .p x3)] ⟨[(0, some [.p x4, .p x5, .p x6, .p x7])], [], 0, 0, 1⟩
noncomputable def spec_l05Copy (x0 : PV) : Option R := scallO 136 [.p x0] ⟨[], [], 0, 0, 0⟩
noncomputable def spec_l05Copy_c3 (x0 x1 x2 x3 x4 x5 x6 x7 x8 x9 x10 x11 x12 x13 x14 x15 x16 x17 x18 x19 x20 x21 : PV) : Option R := goOn 136 0 0 (hints.mode 136) (todoOf Tryz.prog 136 3) [(1, .ptr 0 0), (2, .ptr 1 0), (3, .ref 3 []), (4, .p x0)] ⟨[(0, some [.p x1, .p x2, .p x3, .p x4, .p x5, .p x6, .p x7, .p x8, .p x9, .p x10]), (1, some [.ref 0 [], .ref 1 [], .p x11, .ref 2 [], .p x12, .p x13, .p x14, .p x15, .p x16, .p x17])], [(0, some ⟨(.own 4 64 true [.leaf, .leaf, (.own 3 32 true []), (.own 3 32 true [])]), x18⟩), (1, some ⟨(.own 1 24 true [(.own 3 32 true [])]), x19⟩), (2, some ⟨(.own 1 16 false []), x20⟩), (3, some ⟨(.own 4 64 true [.leaf, .leaf, (.own 3 32 true []), (.own 3 32 true [])]), x21⟩)], 0, 0, 6⟩
noncomputable def spec_l05Top_frame (x0 x1 x2 x3 x4 x5 x6 x7 x8 x9 x10 x11 x12 : PV) : Option R := scallO 137 [.ptr 0 0] ⟨[(0, some [.p x0, .p x1, .ref 0 [], .ref 1 [], .p x2, .ref 2 [], .p x3, .p x4, .p x5, .p x6, .p x7, .p x8, .p x9])], [(0, some ⟨(.own 4 64 true [.leaf, .leaf, (.own 3 32 true []), (.own 3 32 true [])]), x10⟩), (1, some ⟨(.own 1 24 true [(.own 3 32 true [])]), x11⟩), (2, some ⟨(.own 1 16 false []), x12⟩)], 0, 0, 4⟩
noncomputable def spec_l05Top_do (x0 x1 x2 x3 x4 x5 x6 x7 x8 x9 x10 x11 x12 x13 x14 : PV) : Option R := scallO 138 [.ptr 0 0, .agg [.p x0, .p x1]] ⟨[(0, some [.p x2, .p x3, .ref 0 [], .ref 1 [], .p x4, .ref 2 [], .p x5, .p x6, .p x7, .p x8, .p x9, .p x10, .p x11])], [(0, some ⟨(.own 4 64 true [.leaf, .leaf, (.own 3 32 true []), (.own 3 32 true [])]), x12⟩), (1, some ⟨(.own 1 24 true [(.own 3 32 true [])]), x13⟩), (2, some ⟨(.own 1 16 false []), x14⟩)], 0, 0, 4⟩
noncomputable def spec_l05Op (x0 x1 x2 : PV) : Option R := pcallO 155 [x0, x1, x2]
noncomputable def spec_NotOf (x0 : PV) : Option R := pcallO 156 [x0]
noncomputable def spec_ValueText (x0 x1 : PV) : Option R := pcallO 158 [x0, x1]
noncomputable def spec_AddOf (x0 x1 : PV) : Option R := pcallO 171 [x0, x1]
noncomputable def spec_AddOf_c2 (x0 x1 x2 x3 x4 x5 x6 x7 x8 : PV) : Option R := goOn 171 0 0 (hints.mode 171) (todoOf Tryz.prog 171 2) [(2, .ptr 0 0), (3, .ptr 1 0), (4, .ptr 2 0)] ⟨[(0, some [.p x0, .p x1, .p x2]), (1, some [.p x3, .p x4, .p x5]), (2, some [.p x6, .p x7, .p x8])], [], 0, 0, 3⟩
noncomputable def spec_SubOf (x0 x1 : PV) : Option R := pcallO 172 [x0, x1]
noncomputable def spec_MulOf (x0 x1 : PV) : Option R := pcallO 173 [x0, x1]
noncomputable def spec_LessOf (x0 x1 : PV) : Option R := pcallO 174 [x0, x1]
noncomputable def spec_LessOf_c2 (x0 x1 x2 x3 x4 x5 x6 x7 x8 : PV) : Option R := goOn 174 0 0 (hints.mode 174) (todoOf Tryz.prog 174 2) [(2, .ptr 0 0), (3, .ptr 1 0), (4, .ptr 2 0)] ⟨[(0, some [.p x0, .p x1, .p x2]), (1, some [.p x3, .p x4, .p x5]), (2, some [.p x6, .p x7, .p x8])], [], 0, 0, 3⟩
noncomputable def spec_LessOf_c3 (x0 x1 x2 x3 x4 x5 x6 x7 x8 : PV) : Option R := goOn 174 0 0 (hints.mode 174) (todoOf Tryz.prog 174 3) [(2, .ptr 0 0), (3, .ptr 1 0), (4, .ptr 2 0)] ⟨[(0, some [.p x0, .p x1, .p x2]), (1, some [.p x3, .p x4, .p x5]), (2, some [.p x6, .p x7, .p x8])], [], 0, 0, 3⟩
noncomputable def spec_LessOf_c4 (x0 x1 x2 x3 x4 x5 x6 x7 x8 : PV) : Option R := goOn 174 0 0 (hints.mode 174) (todoOf Tryz.prog 174 4) [(2, .ptr 0 0), (3, .ptr 1 0), (4, .ptr 2 0)] ⟨[(0, some [.p x0, .p x1, .p x2]), (1, some [.p x3, .p x4, .p x5]), (2, some [.p x6, .p x7, .p x8])], [], 0, 0, 3⟩
noncomputable def spec_SameOf (x0 x1 : PV) : Option R := pcallO 175 [x0, x1]
noncomputable def spec_l02Digits (x0 : PV) : Option R := pcallO 176 [x0]
noncomputable def spec_l04Numbers (x0 x1 x2 : PV) : Option R := pcallO 182 [x0, x1, x2]
noncomputable def spec_l04Arith (x0 x1 x2 : PV) : Option R := pcallO 184 [x0, x1, x2]
noncomputable def spec_l01Asm_list (x0 x1 x2 x3 x4 x5 x6 x7 x8 x9 : PV) : Option R := scallO 127 [.ptr 0 0, .p x0, .p x1] ⟨[(0, some [.ptr 1 0, .ref 0 [], .p x2, .p x3, .p x4, .p x5]), (1, some [.p x6, .p x7, .p x8])], [(0, some ⟨(.own 2 16 true []), x9⟩)], 0, 0, 3⟩
noncomputable def spec_l01Asm_list_c1 (x0 x1 x2 x3 x4 x5 x6 x7 x8 x9 : PV) : Option R := goOn 127 2 0 (hints.mode 127) (todoOf Tryz.prog 127 1) [(0, .ptr 0 0), (1, .p x0), (6, .p x1)] ⟨[(0, some [.ptr 1 0, .ref 0 [], .p x2, .p x3, .p x4, .p x5]), (1, some [.p x6, .p x7, .p x8])], [(0, some ⟨(.own 2 16 true []), x9⟩)], 0, 0, 3⟩
noncomputable def spec_l01Cur_size (x0 x1 x2 x3 : PV) : Option R := scallO 130 [.ptr 0 0, .p x0] ⟨[(0, some [.p x1, .p x2, .p x3])], [], 0, 0, 1⟩
noncomputable def spec_l01Asm_value (x0 x1 x2 x3 x4 x5 x6 x7 x8 : PV) : Option R := scallO 128 [.ptr 0 0, .p x0] ⟨[(0, some [.ptr 1 0, .ref 0 [], .p x1, .p x2, .p x3, .p x4]), (1, some [.p x5, .p x6, .p x7])], [(0, some ⟨(.own 2 16 true []), x8⟩)], 0, 0, 3⟩
noncomputable def spec_l01Asm_value_c2 (x0 x1 x2 x3 x4 x5 x6 x7 : PV) : Option R := goOn 128 2 0 (hints.mode 128) (todoOf Tryz.prog 128 2) [(0, .ptr 0 0), (4, .ptr 1 0)] ⟨[(0, some [.ptr 1 0, .ref 0 [], .p x0, .p x1, .p x2, .p x3]), (1, some [.p x4, .p x5, .p x6])], [(0, some ⟨(.own 2 16 true []), x7⟩)], 0, 0, 3⟩
noncomputable def spec_l01Asm_value_c38 (x0 x1 x2 x3 x4 x5 x6 x7 x8 x9 x10 : PV) : Option R := goOn 128 2 0 (hints.mode 128) (todoOf Tryz.prog 128 38) [(0, .ptr 0 0), (1, .p x0), (5, .p x1), (6, .p x2)] ⟨[(0, some [.ptr 1 0, .ref 0 [], .p x3, .p x4, .p x5, .p x6]), (1, some [.p x7, .p x8, .p x9])], [(0, some ⟨(.own 2 16 true []), x10⟩)], 0, 0, 3⟩
noncomputable def spec_l01Asm_value_c50 (x0 x1 x2 x3 x4 x5 x6 x7 x8 x9 : PV) : Option R := goOn 128 2 0 (hints.mode 128) (todoOf Tryz.prog 128 50) [(0, .ptr 0 0), (1, .p x0), (7, .p x1)] ⟨[(0, some [.ptr 1 0, .ref 0 [], .p x2, .p x3, .p x4, .p x5]), (1, some [.p x6, .p x7, .p x8])], [(0, some ⟨(.own 2 16 true []), x9⟩)], 0, 0, 3⟩
noncomputable def spec_l01Asm_value_c51 (x0 x1 x2 x3 x4 x5 x6 x7 x8 x9 x10 : PV) : Option R := goOn 128 2 0 (hints.mode 128) (todoOf Tryz.prog 128 51) [(0, .ptr 0 0), (1, .p x0), (7, .p x1), (8, .p x2)] ⟨[(0, some [.ptr 1 0, .ref 0 [], .p x3, .p x4, .p x5, .p x6]), (1, some [.p x7, .p x8, .p x9])], [(0, some ⟨(.own 2 16 true []), x10⟩)], 0, 0, 3⟩
noncomputable def spec_l01Asm_put (x0 x1 x2 x3 x4 x5 x6 x7 x8 x9 : PV) : Option R := scallO 129 [.ptr 0 0, .p x0, .p x1] ⟨[(0, some [.ptr 1 0, .ref 0 [], .p x2, .p x3, .p x4, .p x5]), (1, some [.p x6, .p x7, .p x8])], [(0, some ⟨(.own 2 16 true []), x9⟩)], 0, 0, 3⟩
noncomputable def spec_l01CopyModule (x0 : PV) : Option R := scallO 131 [.p x0] ⟨[], [], 0, 0, 0⟩
noncomputable def spec_l01CopyModule_c3 (x0 x1 x2 x3 x4 x5 x6 : PV) : Option R := goOn 131 0 0 (hints.mode 131) (todoOf Tryz.prog 131 3) [(1, .ptr 0 0), (2, .ptr 1 0), (3, .ptr 2 0), (4, .p x0)] ⟨[(0, some [.p x1, .p x2]), (1, some [.ref 0 [], .ref 1 []]), (2, some [.ref 2 [], .ref 3 []])], [(0, some ⟨(.own 1 16 false []), x3⟩), (1, some ⟨(.own 3 40 true [.leaf, .leaf, (.own 2 16 true [])]), x4⟩), (2, some ⟨(.own 1 16 false []), x5⟩), (3, some ⟨(.own 3 40 true [.leaf, .leaf, (.own 2 16 true [])]), x6⟩)], 0, 0, 7⟩
noncomputable def spec_l01Cur_number (x0 x1 x2 : PV) : Option R := scallO 132 [.ptr 0 0] ⟨[(0, some [.p x0, .p x1, .p x2])], [], 0, 0, 1⟩
noncomputable def spec_l05CopyFrame (x0 : PV) : Option R := scallO 151 [.p x0] ⟨[], [], 0, 0, 0⟩
noncomputable def spec_l05CopyHeap (x0 : PV) : Option R := scallO 152 [.p x0] ⟨[], [], 0, 0, 0⟩
noncomputable def spec_l05CopyHeap_c3 (x0 x1 x2 : PV) : Option R := goOn 152 0 0 (hints.mode 152) (todoOf Tryz.prog 152 3) [(0, .p x0), (3, .ref 0 []), (4, .p x1)] ⟨[], [(0, some ⟨(.own 1 24 true [(.own 3 32 true [])]), x2⟩)], 0, 0, 1⟩
noncomputable def spec_l05Top_push (x0 x1 x2 x3 x4 x5 x6 x7 x8 x9 x10 x11 x12 x13 : PV) : Option R := scallO 153 [.ptr 0 0, .p x0] ⟨[(0, some [.p x1, .p x2, .ref 0 [], .ref 1 [], .p x3, .ref 2 [], .p x4, .p x5, .p x6, .p x7, .p x8, .p x9, .p x10])], [(0, some ⟨(.own 4 64 true [.leaf, .leaf, (.own 3 32 true []), (.own 3 32 true [])]), x11⟩), (1, some ⟨(.own 1 24 true [(.own 3 32 true [])]), x12⟩), (2, some ⟨(.own 1 16 false []), x13⟩)], 0, 0, 4⟩
noncomputable def spec_l05Top_push_v1 (x0 x1 x2 x3 x4 x5 x6 x7 x8 x9 x10 x11 x12 x13 x14 x15 : PV) : Option R := scallO 153 [.ptr 0 0, .agg [.p x0, .p x1, .p x2]] ⟨[(0, some [.p x3, .p x4, .ref 0 [], .ref 1 [], .p x5, .ref 2 [], .p x6, .p x7, .p x8, .p x9, .p x10, .p x11, .p x12])], [(0, some ⟨(.own 4 64 true [.leaf, .leaf, (.own 3 32 true []), (.own 3 32 true [])]), x13⟩), (1, some ⟨(.own 1 24 true [(.own 3 32 true [])]), x14⟩), (2, some ⟨(.own 1 16 false []), x15⟩)], 0, 0, 4⟩
noncomputable def spec_l05Top_pop (x0 x1 x2 x3 x4 x5 x6 x7 x8 x9 x10 x11 x12 : PV) : Option R := scallO 154 [.ptr 0 0] ⟨[(0, some [.p x0, .p x1, .ref 0 [], .ref 1 [], .p x2, .ref 2 [], .p x3, .p x4, .p x5, .p x6, .p x7, .p x8, .p x9])], [(0, some ⟨(.own 4 64 true [.leaf, .leaf, (.own 3 32 true []), (.own 3 32 true [])]), x10⟩), (1, some ⟨(.own 1 24 true [(.own 3 32 true [])]), x11⟩), (2, some ⟨(.own 1 16 false []), x12⟩)], 0, 0, 4⟩
noncomputable def spec_l05Top_call (x0 x1 x2 x3 x4 x5 x6 x7 x8 x9 x10 x11 x12 x13 x14 : PV) : Option R := scallO 157 [.ptr 0 0, .p x0, .p x1] ⟨[(0, some [.p x2, .p x3, .ref 0 [], .ref 1 [], .p x4, .ref 2 [], .p x5, .p x6, .p x7, .p x8, .p x9, .p x10, .p x11])], [(0, some ⟨(.own 4 64 true [.leaf, .leaf, (.own 3 32 true []), (.own 3 32 true [])]), x12⟩), (1, some ⟨(.own 1 24 true [(.own 3 32 true [])]), x13⟩), (2, some ⟨(.own 1 16 false []), x14⟩)], 0, 0, 4⟩
noncomputable def spec_l05Top_call_c5 (x0 x1 x2 x3 x4 x5 x6 x7 x8 x9 x10 x11 x12 x13 x14 x15 x16 : PV) : Option R := goOn 157 1 0 (hints.mode 157) (todoOf Tryz.prog 157 5) [(0, .ptr 0 0), (1, .p x0), (2, .p x1), (7, .ref 3 []), (8, .p x2)] ⟨[(0, some [.p x3, .p x4, .ref 0 [], .ref 1 [], .p x5, .ref 2 [], .p x6, .p x7, .p x8, .p x9, .p x10, .p x11, .p x12])], [(0, some ⟨(.own 4 64 true [.leaf, .leaf, (.own 3 32 true []), (.own 3 32 true [])]), x13⟩), (1, some ⟨(.own 1 24 true [(.own 3 32 true [])]), x14⟩), (2, some ⟨(.own 1 16 false []), x15⟩), (3, some ⟨(.own 3 32 true []), x16⟩)], 0, 0, 5⟩
noncomputable def spec_l05Top_call_c10 (x0 x1 x2 x3 x4 x5 x6 x7 x8 x9 x10 x11 x12 x13 x14 : PV) : Option R := goOn 157 1 0 (hints.mode 157) (todoOf Tryz.prog 157 10) [(0, .ptr 0 0), (1, .p x0), (7, .ref 3 [])] ⟨[(0, some [.p x1, .p x2, .ref 0 [], .ref 1 [], .p x3, .ref 2 [], .p x4, .p x5, .p x6, .p x7, .p x8, .p x9, .p x10])], [(0, some ⟨(.own 4 64 true [.leaf, .leaf, (.own 3 32 true []), (.own 3 32 true [])]), x11⟩), (1, some ⟨(.own 1 24 true [(.own 3 32 true [])]), x12⟩), (2, some ⟨(.own 1 16 false []), x13⟩), (3, some ⟨(.own 3 32 true []), x14⟩)], 0, 0, 5⟩
noncomputable def spec_l01Asm_stmt (x0 x1 x2 x3 x4 x5 x6 x7 x8 : PV) : Option R := scallO 147 [.ptr 0 0, .p x0] ⟨[(0, some [.ptr 1 0, .ref 0 [], .p x1, .p x2, .p x3, .p x4]), (1, some [.p x5, .p x6, .p x7])], [(0, some ⟨(.own 2 16 true []), x8⟩)], 0, 0, 3⟩
noncomputable def spec_l01Asm_stmt_c7 (x0 x1 x2 x3 x4 x5 x6 x7 x8 x9 : PV) : Option R := goOn 147 2 0 (hints.mode 147) (todoOf Tryz.prog 147 7) [(0, .ptr 0 0), (1, .p x0), (4, .ptr 1 0), (6, .p x1)] ⟨[(0, some [.ptr 1 0, .ref 0 [], .p x2, .p x3, .p x4, .p x5]), (1, some [.p x6, .p x7, .p x8])], [(0, some ⟨(.own 2 16 true []), x9⟩)], 0, 0, 3⟩
noncomputable def spec_l01Asm_record (x0 x1 x2 x3 x4 x5 x6 x7 x8 : PV) : Option R := scallO 148 [.ptr 0 0, .p x0] ⟨[(0, some [.ptr 1 0, .ref 0 [], .p x1, .p x2, .p x3, .p x4]), (1, some [.p x5, .p x6, .p x7])], [(0, some ⟨(.own 2 16 true []), x8⟩)], 0, 0, 3⟩
noncomputable def spec_l01Asm_record_c3 (x0 x1 x2 x3 x4 x5 x6 x7 x8 x9 x10 : PV) : Option R := goOn 148 2 0 (hints.mode 148) (todoOf Tryz.prog 148 3) [(0, .ptr 0 0), (1, .p x0), (4, .p x1), (5, .p x2)] ⟨[(0, some [.ptr 1 0, .ref 0 [], .p x3, .p x4, .p x5, .p x6]), (1, some [.p x7, .p x8, .p x9])], [(0, some ⟨(.own 2 16 true []), x10⟩)], 0, 0, 3⟩
noncomputable def spec_l01Asm_number (x0 x1 x2 x3 x4 x5 x6 x7 x8 : PV) : Option R := scallO 149 [.ptr 0 0, .p x0] ⟨[(0, some [.ptr 1 0, .ref 0 [], .p x1, .p x2, .p x3, .p x4]), (1, some [.p x5, .p x6, .p x7])], [(0, some ⟨(.own 2 16 true []), x8⟩)], 0, 0, 3⟩
noncomputable def spec_l01Asm_test (x0 x1 x2 x3 x4 x5 x6 x7 : PV) : Option R := scallO 170 [.ptr 0 0] ⟨[(0, some [.ptr 1 0, .ref 0 [], .p x0, .p x1, .p x2, .p x3]), (1, some [.p x4, .p x5, .p x6])], [(0, some ⟨(.own 2 16 true []), x7⟩)], 0, 0, 3⟩
end Go.Proofs.YtjgleeamiclokaaGreat
