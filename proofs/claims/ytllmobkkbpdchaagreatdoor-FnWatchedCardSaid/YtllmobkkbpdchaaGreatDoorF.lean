/-
  Texts of the proof, part 6: a value-level evaluator and its soundness, what the functions compute, laws about it.
  Conditions: none.
-/
import Derived.Test.YtllmobkkbpdchaaGreatDoorE
set_option linter.all false
namespace Go.Proofs.YtllmobkkbpdchaaGreatDoor
noncomputable section
open Go Go.IntWalk
attribute [local irreducible] bd aV aE aH bE aS PV.cell PV.sub aB aK bV dG dL dQ cQ aD dM dB bR bA cG aN aX aC bM bC bD bK aW PV.deref bG cA aT dJ cJ cK dO PV.apply bL bO fK cC
variable {a0 a1 a2 a3 a4 a5 a6 a7 a8 : PV}
variable {i : Int}
section
variable {P : R → Prop} {k : PV → OR} {hp : List (List eR)}
theorem fV (h0 : 0≤i) (h1 : i<hp.length) (h : Ok P (k (bQ (hp[i.toNat]?.getD [])))) : Ok P (bd (aB 1 true (.lst (hp.map bQ)) (.I i)) k):=by
 obtain ⟨n,rfl⟩:=Int.eq_ofNat_of_zero_le h0
 have hn : n<hp.length:=by omega
 rw [Int.toNat_natCast,List.getElem?_eq_getElem hn] at h
 exact aQ hn (λ_=>rfl) h
theorem wZ (h0 : 0≤i) (h1 : i<hp.length) (h : Ok P (k (.lst (hp.map bQ)))) : Ok P (bd (aT (.lst (hp.map bQ)) (.I i)) k):=eH h0 (by rw [List.length_map];exact h1) h
theorem aMt {r : List eR} (h0 : 0≤i) (h1 : i<hp.length) (h : Ok P (k (.lst ((hp.set i.toNat r).map bQ)))) : Ok P (bd (aC 1 (.lst (hp.map bQ)) (.I i) 0 (bI r)) k):=by
 obtain ⟨n,rfl⟩:=Int.eq_ofNat_of_zero_le h0
 have hn : n<hp.length:=by omega
 refine kM (cs:=[bI hp[n]]) (by omega) (by rw [Int.toNat_natCast,List.getElem?_map,List.getElem?_eq_getElem hn];rfl) rfl (by omega) rfl ?_
 rw [List.map_set] at h
 exact h
theorem aST {hp : List (List eR)} (h : ∀ r∈hp,r.length≤6) (i : Nat) : (hp[i]?.getD []).length≤6:=by
 cases hx : hp[i]? with
 | none=>simp
 | some r=>exact h r (List.mem_of_getElem? hx)
end
theorem vP {α : Type} {l : List α} (h : l.length=2) : ∃ a b,l = [a,b]:=by
 match l,h with
 | [a,b],_=>exact ⟨a,b,rfl⟩
theorem aN8 {l : List dC} : ∀ x∈l.map dC.pv,x.isEl 4 true=true:=by
 intro x hx
 obtain ⟨a,_,rfl⟩:=List.mem_map.1 hx
 rfl
set_option maxRecDepth 100000 in
set_option maxHeartbeats 4000000 in
theorem aWu {m : fO} {fs0 : List dC} {fr : dC} {took : List eR} {hp : List (List eR)} {made : Int} {out : List ByteArray} {x : eC} {nc : Int}
 (S : aVa m fs0 fr took hp made out) (hx : eI m.texts.length m.funcs.length fr.loc.length nc x.o x.a=true) (hu : (took.length : Int)=(bU m.funcs x).1) :
 Ok (DoR (.lst (m.texts.map PV.str)) (.lst (m.funcs.map eJ.pv)) (.I made) a3 a4 a5 a6 a7 a8 (.lst (hp.map bQ)) (.lst (out.map PV.str)) fs0 (fX m fr took (fs0.length+1) hp made out x))
  (aAA (.I x.o) (.I x.a) (.lst (m.texts.map PV.str)) (.lst (m.funcs.map eJ.pv)) (.I made) a3 a4 a5 a6 a7 a8 (.I 0)
   (.lst (fs0.map dC.pv++[dC.pv ⟨fr.f,fr.pc,fr.loc,fr.stk++took⟩])) (.lst (hp.map bQ)) (.lst (out.map PV.str))):=by
 obtain ⟨q26,q3,q67,q20,q2122,q23,q524,qj,q1⟩:=aAd hx
 obtain ⟨nf,nt,par,n0,stks,nl,ns,recs,nh,nm,no,vals0⟩:=S
 have nA : (fs0.map dC.pv).length≤23:=by rw [List.length_map];exact n0
 obtain ⟨ff,fpc,floc,fstk⟩:=fr
 simp only at *
 rw [aH7]
 refine aE3 (by omega) ?_
 refine aJ (λho=>?_) (λn1=>?_)
 ·have e0 : bU m.funcs x=(0,1):=by unfold bU;repeat (first | rfl | rw [gH] | rw [eV])
  rw [e0] at hu
  obtain rfl:=List.eq_nil_of_length_eq_zero (show took.length=0 by omega)
  simp only [List.length_nil,Nat.add_zero,List.append_nil] at ns ⊢
  have e : fX m ⟨ff,fpc,floc,fstk⟩ [] (fs0.length+1) hp made out x = .next ⟨ff,fpc,floc,fstk++[zR x.a]⟩ hp made out:=by simp only [fX];repeat (first | rfl | rw [gH] | rw [eV])
  exact aCn (aKY (by omega) (by omega) (aA (by rw [e];rfl)))
 refine aJ (λho=>?_) (λn2=>?_)
 ·have e0 : bU m.funcs x=(0,1):=by unfold bU;repeat (first | rfl | rw [gH] | rw [eV])
  rw [e0] at hu
  obtain rfl:=List.eq_nil_of_length_eq_zero (show took.length=0 by omega)
  simp only [List.length_nil,Nat.add_zero,List.append_nil] at ns ⊢
  have e : fX m ⟨ff,fpc,floc,fstk⟩ [] (fs0.length+1) hp made out x = .next ⟨ff,fpc,floc,fstk++[rJ (decide (x.a=1))]⟩ hp made out:=by simp only [fX];repeat (first | rfl | rw [gH] | rw [eV])
  exact cL (uO (aKY (by omega) (by omega) (aA (by rw [e];rfl))))
 refine aJ (λho=>?_) (λn3=>?_)
 ·have e0 : bU m.funcs x=(0,1):=by unfold bU;repeat (first | rfl | rw [gH] | rw [eV])
  rw [e0] at hu
  obtain rfl:=List.eq_nil_of_length_eq_zero (show took.length=0 by omega)
  simp only [List.length_nil,Nat.add_zero,List.append_nil] at ns ⊢
  have e : fX m ⟨ff,fpc,floc,fstk⟩ [] (fs0.length+1) hp made out x = .next ⟨ff,fpc,floc,fstk++[aDD (m.texts[x.a.toNat]?.getD (bs []))]⟩ hp made out:=by simp only [fX];repeat (first | rfl | rw [gH] | rw [eV])
  obtain ⟨i,hi⟩:=Int.eq_ofNat_of_zero_le (q3 ho).1
  have hil : i<m.texts.length:=by have:=q3 ho;omega
  rw [hi] at e ⊢
  rw [Int.toNat_natCast,List.getElem?_eq_getElem hil] at e
  exact aQ hil (λ_=>rfl) (bJ rfl (mB (by omega) (by omega) (aA (by rw [e];rfl))))
 refine aJ (λho=>?_) (λn4=>?_)
 ·have e0 : bU m.funcs x=(0,1):=by unfold bU;repeat (first | rfl | rw [gH] | rw [eV])
  rw [e0] at hu
  obtain rfl:=List.eq_nil_of_length_eq_zero (show took.length=0 by omega)
  simp only [List.length_nil,Nat.add_zero,List.append_nil] at ns ⊢
  have e : fX m ⟨ff,fpc,floc,fstk⟩ [] (fs0.length+1) hp made out x = .next ⟨ff,fpc,floc,fstk++[eQ]⟩ hp made out:=by simp only [fX];repeat (first | rfl | rw [gH] | rw [eV])
  exact mB (by omega) (by omega) (aA (by rw [e];rfl))
 refine aJ (λho=>?_) (λn5=>?_)
 ·have e0 : bU m.funcs x=(0,1):=by unfold bU;repeat (first | rfl | rw [gH] | rw [eV])
  rw [e0] at hu
  obtain rfl:=List.eq_nil_of_length_eq_zero (show took.length=0 by omega)
  simp only [List.length_nil,Nat.add_zero,List.append_nil] at ns ⊢
  have e : fX m ⟨ff,fpc,floc,fstk⟩ [] (fs0.length+1) hp made out x = .next ⟨ff,fpc,floc,fstk++[aPa x.a]⟩ hp made out:=by simp only [fX];repeat (first | rfl | rw [gH] | rw [eV])
  exact bJ rfl (mB (by omega) (by omega) (aA (by rw [e];rfl)))
 refine aJ (λho=>?_) (λn6=>?_)
 ·have e0 : bU m.funcs x=(0,1):=by unfold bU;repeat (first | rfl | rw [gH] | rw [eV])
  rw [e0] at hu
  obtain rfl:=List.eq_nil_of_length_eq_zero (show took.length=0 by omega)
  simp only [List.length_nil,Nat.add_zero,List.append_nil] at ns ⊢
  have e : fX m ⟨ff,fpc,floc,fstk⟩ [] (fs0.length+1) hp made out x = .next ⟨ff,fpc,floc,fstk++[floc[x.a.toNat]?.getD eQ]⟩ hp made out:=by simp only [fX];repeat (first | rfl | rw [gH] | rw [eV])
  have hq:=q67 (.inl ho)
  refine dV rfl rfl (dV rfl rfl (aL (y:=bI floc) rfl (gV (by omega) (by omega) (dV rfl rfl (aL (y:=bI floc) rfl (uA (by omega) (by omega) (λv hv=>?_)))))))
  rw [hv] at e
  exact aKY (by omega) (by omega) (aA (by rw [e];rfl))
 refine aJ (λho=>?_) (λn7=>?_)
 ·have e0 : bU m.funcs x=(1,0):=by unfold bU;repeat (first | rfl | rw [gH] | rw [eV])
  rw [e0] at hu
  obtain ⟨a,rfl⟩:=List.length_eq_one_iff.1 (show took.length=1 by omega)
  have va:=vals0 a (by simp)
  have sa:=dE va
  have ns : fstk.length+1≤16:=ns
  have e : fX m ⟨ff,fpc,floc,fstk⟩ [a] (fs0.length+1) hp made out x = .next ⟨ff,fpc,floc.set x.a.toNat a,fstk⟩ hp made out:=by simp only [fX];repeat (first | rfl | rw [gH] | rw [eV])
  have hq:=q67 (.inr ho)
  refine kO (by omega) (by first | omega | (simp;omega)) (cB (?_))
  refine dV rfl rfl (dV rfl rfl (aL (y:=bI floc) rfl (gV (by omega) (by omega) (dV rfl rfl (aL (y:=bI floc) rfl (dV rfl rfl (aL (y:=bI floc) rfl ?_)))))))
  refine uP (v:=a) (by omega) (by omega) (dV rfl rfl (aL (y:=bI floc) rfl (eW rfl rfl (by omega) rfl (aA (by rw [e];rfl)))))
 refine aJ (λho=>?_) (λn8=>?_)
 ·have e0 : bU m.funcs x=(1,2):=by unfold bU;repeat (first | rfl | rw [gH] | rw [eV])
  rw [e0] at hu
  obtain ⟨a,rfl⟩:=List.length_eq_one_iff.1 (show took.length=1 by omega)
  have va:=vals0 a (by simp)
  have sa:=dE va
  have ns : fstk.length+1≤16:=ns
  have e : fX m ⟨ff,fpc,floc,fstk⟩ [a] (fs0.length+1) hp made out x = .next ⟨ff,fpc,floc,fstk++[a,a]⟩ hp made out:=by simp only [fX];repeat (first | rfl | rw [gH] | rw [eV])
  refine kO (by omega) (by first | omega | (simp;omega)) (cB (?_))
  refine mB (by omega) (by omega) (mB (by omega) (by simp;omega) (aA ?_))
  rw [e]
  show _=_
  simp only [List.append_assoc]
  rfl
 refine aJ (λho=>?_) (λn9=>?_)
 ·have e0 : bU m.funcs x=(1,0):=by unfold bU;repeat (first | rfl | rw [gH] | rw [eV])
  rw [e0] at hu
  obtain ⟨a,rfl⟩:=List.length_eq_one_iff.1 (show took.length=1 by omega)
  have va:=vals0 a (by simp)
  have sa:=dE va
  have ns : fstk.length+1≤16:=ns
  have e : fX m ⟨ff,fpc,floc,fstk⟩ [a] (fs0.length+1) hp made out x = .next ⟨ff,fpc,floc,fstk++[]⟩ hp made out:=by simp only [fX];repeat (first | rfl | rw [gH] | rw [eV])
  refine kO (by omega) (by first | omega | (simp;omega)) (aA ?_)
  rw [e,List.append_nil]
  rfl
 refine aJ (λho=>?_) (λn10=>?_)
 ·have e0 : bU m.funcs x=(2,2):=by unfold bU;repeat (first | rfl | rw [gH] | rw [eV])
  rw [e0] at hu
  obtain ⟨a,b,rfl⟩:=vP (show took.length=2 by omega)
  have va:=vals0 a (by simp)
  have vb:=vals0 b (by simp)
  have sa:=dE va
  have sb:=dE vb
  rw [show fstk++[a,b]=fstk++[a]++[b] by simp]
  have ns : fstk.length+2≤16:=ns
  have e : fX m ⟨ff,fpc,floc,fstk⟩ [a,b] (fs0.length+1) hp made out x = .next ⟨ff,fpc,floc,fstk++[b,a]⟩ hp made out:=by simp only [fX];repeat (first | rfl | rw [gH] | rw [eV])
  refine kO (by omega) (by first | omega | (simp;omega)) (cB (?_))
  refine kO (by omega) (by first | omega | (simp;omega)) (cB (?_))
  refine mB (by omega) (by omega) (mB (by omega) (by simp;omega) (aA ?_))
  rw [e]
  show _=_
  simp only [List.append_assoc]
  rfl
 refine aJ (λho=>?_) (λn11=>?_)
 ·have e0 : bU m.funcs x=(2,1):=by unfold bU;repeat (first | rfl | rw [gH] | rw [eV])
  rw [e0] at hu
  obtain ⟨a,b,rfl⟩:=vP (show took.length=2 by omega)
  have va:=vals0 a (by simp)
  have vb:=vals0 b (by simp)
  have sa:=dE va
  have sb:=dE vb
  rw [show fstk++[a,b]=fstk++[a]++[b] by simp]
  have ns : fstk.length+2≤16:=ns
  have e : fX m ⟨ff,fpc,floc,fstk⟩ [a,b] (fs0.length+1) hp made out x=if (uT x.o a b).2≠0 then .trap (uT x.o a b).2 else .next ⟨ff,fpc,floc,fstk++[(uT x.o a b).1]⟩ hp made out:=by simp only [fX];repeat (first | rfl | rw [gH] | rw [eV])
  refine kO (by omega) (by first | omega | (simp;omega)) (cB (?_))
  refine kO (by omega) (by first | omega | (simp;omega)) (cB (?_))
  refine tZ (aIi (o:=x.o) (a:=a) (b:=b) (by omega) ⟨by omega,by omega⟩) (gZ (cB (bJ rfl (mB (by omega) (by omega) (aA ?_)))))
  by_cases ht : (uT x.o a b).2≠0
  ·rw [e,if_pos ht];exact ⟨ht,rfl⟩
  ·rw [e,if_neg ht]
   have ht : (uT x.o a b).2=0:=by simpa using ht
   rw [ht];rfl
 refine aJ (λho=>?_) (λn12=>?_)
 ·have e0 : bU m.funcs x=(2,1):=by unfold bU;repeat (first | rfl | rw [gH] | rw [eV])
  rw [e0] at hu
  obtain ⟨a,b,rfl⟩:=vP (show took.length=2 by omega)
  have va:=vals0 a (by simp)
  have vb:=vals0 b (by simp)
  have sa:=dE va
  have sb:=dE vb
  rw [show fstk++[a,b]=fstk++[a]++[b] by simp]
  have ns : fstk.length+2≤16:=ns
  have e : fX m ⟨ff,fpc,floc,fstk⟩ [a,b] (fs0.length+1) hp made out x=if (uT x.o a b).2≠0 then .trap (uT x.o a b).2 else .next ⟨ff,fpc,floc,fstk++[(uT x.o a b).1]⟩ hp made out:=by simp only [fX];repeat (first | rfl | rw [gH] | rw [eV])
  refine kO (by omega) (by first | omega | (simp;omega)) (cB (?_))
  refine kO (by omega) (by first | omega | (simp;omega)) (cB (?_))
  refine tZ (aIi (o:=x.o) (a:=a) (b:=b) (by omega) ⟨by omega,by omega⟩) (gZ (cB (bJ rfl (mB (by omega) (by omega) (aA ?_)))))
  by_cases ht : (uT x.o a b).2≠0
  ·rw [e,if_pos ht];exact ⟨ht,rfl⟩
  ·rw [e,if_neg ht]
   have ht : (uT x.o a b).2=0:=by simpa using ht
   rw [ht];rfl
 refine aJ (λho=>?_) (λn13=>?_)
 ·have e0 : bU m.funcs x=(2,1):=by unfold bU;repeat (first | rfl | rw [gH] | rw [eV])
  rw [e0] at hu
  obtain ⟨a,b,rfl⟩:=vP (show took.length=2 by omega)
  have va:=vals0 a (by simp)
  have vb:=vals0 b (by simp)
  have sa:=dE va
  have sb:=dE vb
  rw [show fstk++[a,b]=fstk++[a]++[b] by simp]
  have ns : fstk.length+2≤16:=ns
  have e : fX m ⟨ff,fpc,floc,fstk⟩ [a,b] (fs0.length+1) hp made out x=if (uT x.o a b).2≠0 then .trap (uT x.o a b).2 else .next ⟨ff,fpc,floc,fstk++[(uT x.o a b).1]⟩ hp made out:=by simp only [fX];repeat (first | rfl | rw [gH] | rw [eV])
  refine kO (by omega) (by first | omega | (simp;omega)) (cB (?_))
  refine kO (by omega) (by first | omega | (simp;omega)) (cB (?_))
  refine tZ (aIi (o:=x.o) (a:=a) (b:=b) (by omega) ⟨by omega,by omega⟩) (gZ (cB (bJ rfl (mB (by omega) (by omega) (aA ?_)))))
  by_cases ht : (uT x.o a b).2≠0
  ·rw [e,if_pos ht];exact ⟨ht,rfl⟩
  ·rw [e,if_neg ht]
   have ht : (uT x.o a b).2=0:=by simpa using ht
   rw [ht];rfl
 refine aJ (λho=>?_) (λn14=>?_)
 ·have e0 : bU m.funcs x=(2,1):=by unfold bU;repeat (first | rfl | rw [gH] | rw [eV])
  rw [e0] at hu
  obtain ⟨a,b,rfl⟩:=vP (show took.length=2 by omega)
  have va:=vals0 a (by simp)
  have vb:=vals0 b (by simp)
  have sa:=dE va
  have sb:=dE vb
  rw [show fstk++[a,b]=fstk++[a]++[b] by simp]
  have ns : fstk.length+2≤16:=ns
  have e : fX m ⟨ff,fpc,floc,fstk⟩ [a,b] (fs0.length+1) hp made out x=if (uT x.o a b).2≠0 then .trap (uT x.o a b).2 else .next ⟨ff,fpc,floc,fstk++[(uT x.o a b).1]⟩ hp made out:=by simp only [fX];repeat (first | rfl | rw [gH] | rw [eV])
  refine kO (by omega) (by first | omega | (simp;omega)) (cB (?_))
  refine kO (by omega) (by first | omega | (simp;omega)) (cB (?_))
  refine tZ (aIi (o:=x.o) (a:=a) (b:=b) (by omega) ⟨by omega,by omega⟩) (gZ (cB (bJ rfl (mB (by omega) (by omega) (aA ?_)))))
  by_cases ht : (uT x.o a b).2≠0
  ·rw [e,if_pos ht];exact ⟨ht,rfl⟩
  ·rw [e,if_neg ht]
   have ht : (uT x.o a b).2=0:=by simpa using ht
   rw [ht];rfl
 refine aJ (λho=>?_) (λn15=>?_)
 ·have e0 : bU m.funcs x=(2,1):=by unfold bU;repeat (first | rfl | rw [gH] | rw [eV])
  rw [e0] at hu
  obtain ⟨a,b,rfl⟩:=vP (show took.length=2 by omega)
  have va:=vals0 a (by simp)
  have vb:=vals0 b (by simp)
  have sa:=dE va
  have sb:=dE vb
  rw [show fstk++[a,b]=fstk++[a]++[b] by simp]
  have ns : fstk.length+2≤16:=ns
  have e : fX m ⟨ff,fpc,floc,fstk⟩ [a,b] (fs0.length+1) hp made out x=if (uT x.o a b).2≠0 then .trap (uT x.o a b).2 else .next ⟨ff,fpc,floc,fstk++[(uT x.o a b).1]⟩ hp made out:=by simp only [fX];repeat (first | rfl | rw [gH] | rw [eV])
  refine kO (by omega) (by first | omega | (simp;omega)) (cB (?_))
  refine kO (by omega) (by first | omega | (simp;omega)) (cB (?_))
  refine tZ (aIi (o:=x.o) (a:=a) (b:=b) (by omega) ⟨by omega,by omega⟩) (gZ (cB (bJ rfl (mB (by omega) (by omega) (aA ?_)))))
  by_cases ht : (uT x.o a b).2≠0
  ·rw [e,if_pos ht];exact ⟨ht,rfl⟩
  ·rw [e,if_neg ht]
   have ht : (uT x.o a b).2=0:=by simpa using ht
   rw [ht];rfl
 refine aJ (λho=>?_) (λn16=>?_)
 ·have e0 : bU m.funcs x=(1,1):=by unfold bU;repeat (first | rfl | rw [gH] | rw [eV])
  rw [e0] at hu
  obtain ⟨a,rfl⟩:=List.length_eq_one_iff.1 (show took.length=1 by omega)
  have va:=vals0 a (by simp)
  have sa:=dE va
  have ns : fstk.length+1≤16:=ns
  have e : fX m ⟨ff,fpc,floc,fstk⟩ [a] (fs0.length+1) hp made out x=if (aCo a).2≠0 then .trap (aCo a).2 else .next ⟨ff,fpc,floc,fstk++[(aCo a).1]⟩ hp made out:=by simp only [fX];repeat (first | rfl | rw [gH] | rw [eV])
  refine kO (by omega) (by first | omega | (simp;omega)) (?_)
  refine tZ (aU5 (v:=a)) (gZ (cB (bJ rfl (mB (by omega) (by omega) (aA ?_)))))
  by_cases ht : (aCo a).2≠0
  ·rw [e,if_pos ht];exact ⟨ht,rfl⟩
  ·rw [e,if_neg ht]
   have ht : (aCo a).2=0:=by simpa using ht
   rw [ht];rfl
 refine aJ (λho=>?_) (λn17=>?_)
 ·have e0 : bU m.funcs x=(0,0):=by unfold bU;repeat (first | rfl | rw [gH] | rw [eV])
  rw [e0] at hu
  obtain rfl:=List.eq_nil_of_length_eq_zero (show took.length=0 by omega)
  simp only [List.length_nil,Nat.add_zero,List.append_nil] at ns ⊢
  have e : fX m ⟨ff,fpc,floc,fstk⟩ [] (fs0.length+1) hp made out x = .next ⟨ff,x.a,floc,fstk⟩ hp made out:=by simp only [fX];repeat (first | rfl | rw [gH] | rw [eV])
  exact bJ rfl (eW rfl rfl (by omega) rfl (aA (by rw [e];rfl)))
 refine aJ (λho=>?_) (λn18=>?_)
 ·have e0 : bU m.funcs x=(1,0):=by unfold bU;repeat (first | rfl | rw [gH] | rw [eV])
  rw [e0] at hu
  obtain ⟨a,rfl⟩:=List.length_eq_one_iff.1 (show took.length=1 by omega)
  have va:=vals0 a (by simp)
  have sa:=dE va
  have ns : fstk.length+1≤16:=ns
  have e : fX m ⟨ff,fpc,floc,fstk⟩ [a] (fs0.length+1) hp made out x=if a.k≠2 then .trap 1 else if (decide (a.n=1)==decide (x.o=18))=true then .next ⟨ff,x.a,floc,fstk⟩ hp made out else .next ⟨ff,fpc,floc,fstk++[]⟩ hp made out:=by simp only [fX];repeat (first | rfl | rw [gH] | rw [eV])
  refine kO (by omega) (by first | omega | (simp;omega)) (cB (?_))
  refine dD (λh=>aA (by rw [e,if_pos h];exact ⟨by omega,rfl⟩)) (λh=>?_)
  rw [if_neg (by simpa using h)] at e
  refine cL (cL (aCy (aZ (λhb=>?_) (λhb=>?_))))
  ·rw [if_pos hb] at e
   exact bJ rfl (eW rfl rfl (by omega) rfl (aA (by rw [e];rfl)))
  ·rw [if_neg (by rw [hb];simp)] at e
   exact aA (by rw [e,List.append_nil];rfl)
 refine aJ (λho=>?_) (λn19=>?_)
 ·have e0 : bU m.funcs x=(1,0):=by unfold bU;repeat (first | rfl | rw [gH] | rw [eV])
  rw [e0] at hu
  obtain ⟨a,rfl⟩:=List.length_eq_one_iff.1 (show took.length=1 by omega)
  have va:=vals0 a (by simp)
  have sa:=dE va
  have ns : fstk.length+1≤16:=ns
  have e : fX m ⟨ff,fpc,floc,fstk⟩ [a] (fs0.length+1) hp made out x=if a.k≠2 then .trap 1 else if (decide (a.n=1)==decide (x.o=18))=true then .next ⟨ff,x.a,floc,fstk⟩ hp made out else .next ⟨ff,fpc,floc,fstk++[]⟩ hp made out:=by simp only [fX];repeat (first | rfl | rw [gH] | rw [eV])
  refine kO (by omega) (by first | omega | (simp;omega)) (cB (?_))
  refine dD (λh=>aA (by rw [e,if_pos h];exact ⟨by omega,rfl⟩)) (λh=>?_)
  rw [if_neg (by simpa using h)] at e
  refine cL (cL (aCy (aZ (λhb=>?_) (λhb=>?_))))
  ·rw [if_pos hb] at e
   exact bJ rfl (eW rfl rfl (by omega) rfl (aA (by rw [e];rfl)))
  ·rw [if_neg (by rw [hb];simp)] at e
   exact aA (by rw [e,List.append_nil];rfl)
 refine aJ (λho=>?_) (λn20=>?_)
 ·have e0 : bU m.funcs x=(0,1):=by unfold bU;repeat (first | rfl | rw [gH] | rw [eV])
  rw [e0] at hu
  obtain rfl:=List.eq_nil_of_length_eq_zero (show took.length=0 by omega)
  simp only [List.length_nil,Nat.add_zero,List.append_nil] at ns ⊢
  have e : fX m ⟨ff,fpc,floc,fstk⟩ [] (fs0.length+1) hp made out x=if made=120 then .trap 7 else .next ⟨ff,fpc,floc,fstk++[aTN hp.length]⟩ (hp++[List.replicate x.a.toNat eQ]) (made+1) out:=by simp only [fX];repeat (first | rfl | rw [gH] | rw [eV])
  have hq:=q20 ho
  refine aJ (λh=>aA (by rw [e,if_pos h];exact ⟨by omega,rfl⟩)) (λh=>?_)
  rw [if_neg h] at e
  refine aF (bJ rfl (mB (by omega) (by omega) (?_)))
  refine aBu (by omega) (by omega) (aD7 (λ_=>?_) (λh=>by omega))
  refine aBu (by omega) (by omega) (iT (by simp;omega) (λx hx=>by simp only [List.mem_singleton] at hx;subst hx;rfl) (bS (bJ rfl (aA ?_))))
  rw [e]
  show _=_
  rw [List.map_append]
  rfl
 refine aJ (λho=>?_) (λn21=>?_)
 ·have e0 : bU m.funcs x=(1,1):=by unfold bU;repeat (first | rfl | rw [gH] | rw [eV])
  rw [e0] at hu
  obtain ⟨a,rfl⟩:=List.length_eq_one_iff.1 (show took.length=1 by omega)
  have va:=vals0 a (by simp)
  have sa:=dE va
  have ns : fstk.length+1≤16:=ns
  have e : fX m ⟨ff,fpc,floc,fstk⟩ [a] (fs0.length+1) hp made out x=if a.k≠4 then .trap 1 else if (hp[a.n.toNat]?.getD []).length≤x.a then .trap 4 else .next ⟨ff,fpc,floc,fstk++[(hp[a.n.toNat]?.getD [])[x.a.toNat]?.getD eQ]⟩ hp made out:=by simp only [fX];repeat (first | rfl | rw [gH] | rw [eV])
  refine kO (by omega) (by first | omega | (simp;omega)) (cB (?_))
  have hq:=q2122 (.inl ho)
  refine dD (λh=>aA (by rw [e,if_pos h];exact ⟨by omega,rfl⟩)) (λh=>?_)
  rw [if_neg (by simpa using h)] at e
  have hr:=aAc va h
  have hlen:=aST recs a.n.toNat
  refine wZ (by omega) (by omega) (fV (by omega) (by omega) (fV (by omega) (by omega) (aL rfl (bX ?_))))
  refine aCA (λh=>aA (by rw [e,if_pos h];exact ⟨by omega,rfl⟩)) (λh=>?_)
  rw [if_neg h] at e
  refine wZ (by omega) (by omega) (fV (by omega) (by omega) (fV (by omega) (by omega) (aL rfl (gV (by omega) (by omega) (fV (by omega) (by omega) (aL rfl ?_))))))
  refine uA (by omega) (by omega) (λv hv=>?_)
  rw [hv] at e
  exact aKY (by omega) (by omega) (aA (by rw [e];rfl))
 refine aJ (λho=>?_) (λn22=>?_)
 ·have e0 : bU m.funcs x=(2,0):=by unfold bU;repeat (first | rfl | rw [gH] | rw [eV])
  rw [e0] at hu
  obtain ⟨a,b,rfl⟩:=vP (show took.length=2 by omega)
  have va:=vals0 a (by simp)
  have vb:=vals0 b (by simp)
  have sa:=dE va
  have sb:=dE vb
  rw [show fstk++[a,b]=fstk++[a]++[b] by simp]
  have ns : fstk.length+2≤16:=ns
  have e : fX m ⟨ff,fpc,floc,fstk⟩ [a,b] (fs0.length+1) hp made out x=if a.k≠4 then .trap 1 else if (hp[a.n.toNat]?.getD []).length≤x.a then .trap 4 else .next ⟨ff,fpc,floc,fstk⟩ (hp.set a.n.toNat ((hp[a.n.toNat]?.getD []).set x.a.toNat b)) made out:=by simp only [fX];repeat (first | rfl | rw [gH] | rw [eV])
  refine kO (by omega) (by first | omega | (simp;omega)) (cB (?_))
  refine kO (by omega) (by first | omega | (simp;omega)) (cB (?_))
  have hq:=q2122 (.inr ho)
  refine dD (λh=>aA (by rw [e,if_pos h];exact ⟨by omega,rfl⟩)) (λh=>?_)
  rw [if_neg (by simpa using h)] at e
  have hr:=aAc va h
  have hlen:=aST recs a.n.toNat
  refine wZ (by omega) (by omega) (fV (by omega) (by omega) (fV (by omega) (by omega) (aL rfl (bX ?_))))
  refine aCA (λh=>aA (by rw [e,if_pos h];exact ⟨by omega,rfl⟩)) (λh=>?_)
  rw [if_neg h] at e
  refine wZ (by omega) (by omega) (fV (by omega) (by omega) (fV (by omega) (by omega) (aL rfl (gV (by omega) (by omega) (fV (by omega) (by omega) (aL rfl ?_))))))
  refine fV (by omega) (by omega) (aL rfl (uP (v:=b) (by omega) (by omega) (fV (by omega) (by omega) (aL rfl (aMt (by omega) (by omega) (aA (by rw [e];rfl)))))))
 refine aJ (λho=>?_) (λn23=>?_)
 ·have hq:=q23 ho
  have e0 : bU m.funcs x=(x.a+1,1):=by unfold bU;repeat (first | rfl | rw [gH] | rw [eV])
  rw [e0] at hu
  obtain ⟨a,args,rfl⟩ : ∃ a l,took=a::l:=by
   cases took with
   | nil=>simp at hu;omega
   | cons a l=>exact ⟨a,l,rfl⟩
  have va:=vals0 a (by simp)
  have sa:=dE va
  have ns : fstk.length+(args.length+1)≤16:=ns
  have hu : ((args.length+1 : Nat) : Int)=x.a+1:=hu
  have e : fX m ⟨ff,fpc,floc,fstk⟩ (a::args) (fs0.length+1) hp made out x=if a.k≠5 then .trap 1 else if iL m.funcs a.n≠x.a then .trap 5 else if fs0.length+1=24 then .trap 6 else .call ⟨ff,fpc,floc,fstk⟩ (yP m.funcs a.n args):=by simp only [fX];repeat (first | rfl | rw [gH] | rw [eV])
  have hlen : (fstk++a::args).length=fstk.length+args.length+1:=by simp;omega
  refine dV rfl rfl (dV rfl rfl (dV rfl rfl (aL (y:=bI (fstk++a::args)) rfl (bX (dS (dS ?_))))))
  have ei : ((fstk++a::args).length : Int) - 1 - x.a=fstk.length:=by omega
  rw [ei]
  refine dV rfl rfl (aL (y:=bI (fstk++a::args)) rfl (gV (by omega) (by omega) (dV rfl rfl (aL (y:=bI (fstk++a::args)) rfl (uA (by omega) (by omega) (λv hv=>?_))))))
  rw [Int.toNat_natCast,List.getElem?_append_right (Nat.le_refl _),Nat.sub_self] at hv
  cases hv
  refine cB (?_)
  refine dD (λh=>aA (by rw [e,if_pos h];exact ⟨by omega,rfl⟩)) (λh=>?_)
  rw [if_neg (by simpa using h)] at e
  have hr:=aJs va h
  refine aR4 (by omega) (by omega) (by omega) (λ_ _=>aL rfl ?_)
  refine dD (λh=>aA (by rw [e,if_pos h];exact ⟨by omega,rfl⟩)) (λh=>?_)
  rw [if_neg (by simpa using h)] at e
  rw [show fstk++a::args=fstk++[a]++args by simp]
  refine aQF (under:=true) (s1:=fstk) (by omega) par nA (by simp;omega) (.inl ⟨rfl,a,rfl⟩) hr (by omega) (λhd=>aA ?_) (λhd=>aA ?_)
  ·rw [e,if_pos (by rw [List.length_map] at hd;omega)];exact ⟨by omega,rfl⟩
  ·rw [e,if_neg (by rw [List.length_map] at hd;omega)];rfl
 refine aJ (λho=>?_) (λn24=>?_)
 ·have hq:=q524 (.inr ho)
  have e0 : bU m.funcs x=(iL m.funcs x.a,1):=by unfold bU;repeat (first | rfl | rw [gH] | rw [eV])
  rw [e0] at hu
  have e : fX m ⟨ff,fpc,floc,fstk⟩ took (fs0.length+1) hp made out x=if fs0.length+1=24 then .trap 6 else .call ⟨ff,fpc,floc,fstk⟩ (yP m.funcs x.a took):=by simp only [fX];repeat (first | rfl | rw [gH] | rw [eV])
  refine aQF (under:=false) (s1:=fstk) (by omega) par nA (by omega) (.inr ⟨rfl,rfl⟩) hq (by omega) (λhd=>aA ?_) (λhd=>aA ?_)
  ·rw [e,if_pos (by rw [List.length_map] at hd;omega)];exact ⟨by omega,rfl⟩
  ·rw [e,if_neg (by rw [List.length_map] at hd;omega)];rfl
 refine aJ (λho=>?_) (λn25=>?_)
 ·have e0 : bU m.funcs x=(1,0):=by unfold bU;repeat (first | rfl | rw [gH] | rw [eV])
  rw [e0] at hu
  obtain ⟨a,rfl⟩:=List.length_eq_one_iff.1 (show took.length=1 by omega)
  have va:=vals0 a (by simp)
  have sa:=dE va
  have ns : fstk.length+1≤16:=ns
  have e : fX m ⟨ff,fpc,floc,fstk⟩ [a] (fs0.length+1) hp made out x = .ret a:=by simp only [fX];repeat (first | rfl | rw [gH] | rw [eV])
  refine kO (by omega) (by first | omega | (simp;omega)) (cB (?_))
  have e1 : ((fs0.map dC.pv++[dC.pv ⟨ff,fpc,floc,fstk⟩]).length : Int) - 1=fs0.length:=by simp
  have hel : ∀ y∈fs0.map dC.pv++[dC.pv ⟨ff,fpc,floc,fstk⟩],y.isEl 4 true=true:=λy hy=>(List.mem_append.1 hy).elim (aN8 y) (λh=>by simp only [List.mem_singleton] at h;subst h;rfl)
  refine eS (iS (by simp;omega) ?_)
  rw [e1]
  have e2 : ((fs0.map dC.pv++[dC.pv ⟨ff,fpc,floc,fstk⟩]).take (fs0.length : Int).toNat).drop (0 : Int).toNat=fs0.map dC.pv:=by
   rw [Int.toNat_natCast,Int.toNat_zero,List.drop_zero,List.take_left' (by simp)]
  refine aCz (by omega) (by omega) (by simp;omega) hel ?_
  refine aCz (by omega) (by omega) (by simp;omega) hel ?_
  rw [e2]
  refine aF (aJ (λh=>aA ?_) (λh=>?_))
  ·rw [e]
   have : fs0 = []:=List.eq_nil_of_length_eq_zero (by omega)
   subst this
   rfl
  ·obtain ⟨l,g,rfl⟩ : ∃ l g,fs0=l++[g]:=⟨fs0.dropLast,fs0.getLast (λe=>by rw [e] at h;simp at h),(List.dropLast_concat_getLast _).symm⟩
   have hg:=stks g (by simp)
   obtain ⟨gf,gpc,gloc,gstk⟩:=g
   simp only at hg
   rw [List.map_append]
   refine mB (by rw [List.length_map];simp at n0;omega) (by omega) (aA ?_)
   rw [e]
   show _=_
   rw [if_neg (by simp),aDc,List.map_append]
   rfl
 refine aJ (λho=>?_) (λn26=>?_)
 ·have e0 : bU m.funcs x=(1,0):=by unfold bU;repeat (first | rfl | rw [gH] | rw [eV])
  rw [e0] at hu
  obtain ⟨a,rfl⟩:=List.length_eq_one_iff.1 (show took.length=1 by omega)
  have va:=vals0 a (by simp)
  have sa:=dE va
  have ns : fstk.length+1≤16:=ns
  have e : fX m ⟨ff,fpc,floc,fstk⟩ [a] (fs0.length+1) hp made out x=if out.length=200 then .trap 8 else .next ⟨ff,fpc,floc,fstk⟩ hp made (out++[kW a hp]):=by simp only [fX];repeat (first | rfl | rw [gH] | rw [eV])
  refine kO (by omega) (by first | omega | (simp;omega)) (cB (?_))
  refine aF (aJ (λh=>aA (by rw [e,gH];exact ⟨by omega,rfl⟩)) (λh=>?_))
  rw [eV] at e
  refine aI (aPe (v:=a) (hp:=hp) (nf:=m.funcs.length) (by omega) (by omega) (λr hr=>by have:=recs r hr;omega) va) (λr hr=>?_)
  subst hr
  refine eF rfl (mD (by simp) (λx hx=>by simp only [List.mem_singleton] at hx;subst hx;rfl) (iT (by simp;omega) (λx hx=>by simp only [List.mem_singleton] at hx;subst hx;rfl) (aA ?_)))
  rw [e]
  show _=_
  rw [List.map_append]
  rfl
 omega
variable {f : dC} {P : R → Prop}
structure mL where
 fr : List dC
 hp : List (List eR)
 made : Int
 out : List ByteArray
 st : Int
 tr : Int
 val : eR
 steps : Int
def mL.pv (v : mL) : PV:=.agg [.lst (v.fr.map dC.pv),.lst (v.hp.map bQ),.I v.made,.lst (v.out.map PV.str),.I v.st,.I v.tr,.I v.val.k,.I v.val.n,.str v.val.s,.I v.steps]
def oC (v : mL) : R:=[.I v.made,.I v.st,.I v.tr,.I v.val.k,.I v.val.n,.str v.val.s,.I v.steps,.lst (v.fr.map dC.pv),.lst (v.hp.map bQ),.lst (v.out.map PV.str)]
structure Sz (v : mL) : Prop where
 f : v.fr.length≤1000
 h : v.hp.length≤1000
 o : v.out.length≤1000
 fl : ∀ f∈v.fr,f.loc.length≤1000∧f.stk.length≤1000
 hl : ∀ r∈v.hp,r.length≤1000
theorem aJt (l : List eR) : PV.flatEs true [] (l.map eR.pv)=true:=by
 induction l with
 | nil=>simp [PV.flatEs]
 | cons x r ih=>simp [PV.flatEs,PV.flatE,PV.flatCs,PV.flat,eR.pv,ih]
theorem iI (l : List eR) : PV.flatO o3 (bI l)=true:=aJt l
theorem aE4 (l : List dC) : PV.flatO oF (.lst (l.map dC.pv))=true:=by
 show PV.flatEs true _ (l.map dC.pv)=true
 induction l with
 | nil=>simp [PV.flatEs]
 | cons x r ih=>
   simp only [List.map_cons,PV.flatEs,Bool.and_eq_true]
   refine ⟨?_,ih⟩
   simp [dC.pv,PV.flatE,PV.flatCs,PV.flat,bI,aJt]
theorem aFC (l : List (List eR)) : PV.flatO oH (.lst (l.map bQ))=true:=by
 show PV.flatEs true _ (l.map bQ)=true
 induction l with
 | nil=>simp [PV.flatEs]
 | cons x r ih=>
   simp only [List.map_cons,PV.flatEs,Bool.and_eq_true]
   refine ⟨?_,ih⟩
   simp [bQ,PV.flatE,PV.flatCs,bI,aJt]
theorem aJu (l : List ByteArray) : PV.flatO oO (.lst (l.map PV.str))=true:=by
 show PV.flatEs false [] (l.map PV.str)=true
 induction l with
 | nil=>simp [PV.flatEs]
 | cons x r ih=>simp [PV.flatEs,PV.flatE,PV.flat,ih]
theorem aSU {l : List ByteArray} : ∀ x∈l.map PV.str,x.isEl 1 false=true:=by
 intro x hx
 obtain ⟨a,_,rfl⟩:=List.mem_map.1 hx
 rfl
theorem aNv {hp : List (List eR)} (h : hp.length≤1000) (hl : ∀ r∈hp,r.length≤1000) : Ok (λr=>r = [.lst (hp.map bQ)]) (wU (.lst (hp.map bQ))):=by
 rw [aFX]
 refine fQ (n:=hp.length) (P:=λ_ r=>r = [.lst (hp.map bQ)]) (F:=λi=>oJ (.lst (hp.map bQ)) (.I i) (.lst ((hp.take i).map bQ))) ?_ ?_ 0 (by omega)
 ·rw [vN]
  refine aF (aO (λh=>by omega) (λ_=>aA ?_))
  rw [List.take_length]
 ·intro i hi ih
  rw [vN]
  have:=hl _ (List.getElem_mem hi)
  refine aF (aO (λ_=>?_) (λh=>by omega))
  refine aQ hi (λ_=>rfl) (aL rfl (mD (by rw [List.length_map];omega) xM ?_))
  refine iT (by simp;omega) (λx hx=>by simp only [List.mem_singleton] at hx;subst hx;rfl) (bS ?_)
  have e : (hp.take i).map bQ++[PV.agg [.lst (hp[i].map eR.pv)]]=(hp.take (i+1)).map bQ:=by
   rw [List.take_add_one,List.getElem?_eq_getElem hi,List.map_append];rfl
  rw [e]
  exact ih
theorem aMu (h : f.loc.length≤1000∧f.stk.length≤1000) : Ok (λr=>r = [.I f.f,.I f.pc,bI f.loc,bI f.stk]) (vK f.pv):=by
 rw [aEV]
 refine jG ?_
 exact mD (by rw [List.length_map];omega) xM (mD (by rw [List.length_map];omega) xM (aA rfl))
theorem aTU {v : mL} (z : Sz v) : Ok (λr=>r=oC v) (pL v.pv):=by
 obtain ⟨zf,zh,zo,zfl,zhl⟩:=z
 rw [aKB]
 refine tS ?_
 refine fQ (n:=v.fr.length) (P:=λ_ r=>r=oC v) (F:=λi=>tJ (.I i) (.lst (v.fr.map dC.pv)) (.lst (v.hp.map bQ)) (.I v.made) (.lst (v.out.map PV.str)) (.I v.st) (.I v.tr) (.I v.val.k) (.I v.val.n) (.str v.val.s) (.I v.steps) (.I 0) (.I 0) (.I 0) (.I 0) (.I 0) (.str (bs [])) (.I 0) (.lst []) (.lst []) (.lst []) (.lst ((v.fr.take i).map dC.pv))) ?_ ?_ 0 (by omega)
 ·rw [aAL]
  refine aF (aO (λh=>by omega) (λ_=>?_))
  refine aI (aNv zh zhl) (λr hr=>?_)
  subst hr
  refine gD (aFC _) (mD (by rw [List.length_map];omega) aSU (aA ?_))
  rw [List.take_length]
  rfl
 ·intro i hi ih
  rw [aAL]
  refine aF (aO (λ_=>?_) (λh=>by omega))
  refine aQ hi (λ_=>rfl) (aI (aMu (zfl _ (List.getElem_mem hi))) (λr hr=>?_))
  subst hr
  refine eF rfl (eF rfl (gD (iI _) (gD (iI _) ?_)))
  refine iT (by simp;omega) (λx hx=>by simp only [List.mem_singleton] at hx;subst hx;rfl) (bS ?_)
  have e : (v.fr.take i).map dC.pv++[PV.agg [.I v.fr[i].f,.I v.fr[i].pc,bI v.fr[i].loc,bI v.fr[i].stk]]=(v.fr.take (i+1)).map dC.pv:=by
   rw [List.take_add_one,List.getElem?_eq_getElem hi,List.map_append];rfl
  exact e▸ih
theorem aKZ {k : R→OR} {v : mL} (z : Sz v) (h : Ok P (k (oC v))) : Ok P (bd (pL v.pv) k):=aI (aTU z) (λr hr=>by rw [hr];exact h)
theorem pF {v : mL} {o : OR} (h : Ok P o) :
 Ok P (aE (gd (oC v) 0) (aE (gd (oC v) 1) (aE (gd (oC v) 2) (aE (gd (oC v) 3) (aE (gd (oC v) 4) (aE (gd (oC v) 5) (aE (gd (oC v) 6)
  (aH oF (gd (oC v) 7) (aH oH (gd (oC v) 8) (aH oO (gd (oC v) 9) o)))))))))):=
 eF rfl (eF rfl (eF rfl (eF rfl (eF rfl (eF rfl (eF rfl (gD (aE4 _) (gD (aFC _) (gD (aJu _) h)))))))))
def dR (fs : List eJ) (i : Int) : List eC:=(fs[i.toNat]?.map eJ.code).getD []
def pG (fs : List eJ) (f : dC) : eC:=(dR fs f.f)[f.pc.toNat]?.getD ⟨0,0⟩
def aE5 (_m : fO) (v : mL) (fs0 : List dC) : aIn→mL
 | .trap c=>⟨v.fr,v.hp,v.made,v.out,2,c,v.val,v.steps+1⟩
 | .next fr hp made out=>⟨fs0++[fr],hp,made,out,v.st,v.tr,v.val,v.steps+1⟩
 | .call fr g=>⟨fs0++[fr,g],v.hp,v.made,v.out,v.st,v.tr,v.val,v.steps+1⟩
 | .ret a=>if fs0 = [] then ⟨[],v.hp,v.made,v.out,1,v.tr,a,v.steps+1⟩ else ⟨aGi a fs0,v.hp,v.made,v.out,v.st,v.tr,v.val,v.steps+1⟩
def aDE (m : fO) (v : mL) (fs0 : List dC) (f : dC) : aIn:=
 let x:=pG m.funcs f
 let b:=f.stk.length - (bU m.funcs x).1.toNat
 fX m ⟨f.f,f.pc+1,f.loc,f.stk.take b⟩ (f.stk.drop b) (fs0.length+1) v.hp v.made v.out x
def iZ (m : fO) (v : mL) : mL:=
 if v.st≠0 then v else if v.steps=50000 then v
 else match v.fr.getLast? with
 | none=>v
 | some f=>aE5 m v v.fr.dropLast (aDE m v v.fr.dropLast f)
theorem aFD {m : fO} {v : mL} {fs0 : List dC} (h1 : v.st=0) (h2 : v.steps≠50000) (h3 : v.fr=fs0++[f]) : iZ m v=aE5 m v fs0 (aDE m v fs0 f):=by
 unfold iZ
 rw [eV,if_neg h2,h3]
 simp
structure aVb (m : fO) (v : mL) (fs0 : List dC) (f : dC) : Prop where
 fr : v.fr=fs0++[f]
 fi : 0≤f.f∧f.f<m.funcs.length
 pc : 0≤f.pc∧f.pc<(dR m.funcs f.f).length
 nc : (dR m.funcs f.f).length≤120
 ins : eI m.texts.length m.funcs.length f.loc.length (dR m.funcs f.f).length (pG m.funcs f).o (pG m.funcs f).a=true
 us : 0≤(bU m.funcs (pG m.funcs f)).1∧(bU m.funcs (pG m.funcs f)).1≤f.stk.length
 small : ∀ b,aVa m fs0 ⟨f.f,f.pc+1,f.loc,f.stk.take b⟩ (f.stk.drop b) v.hp v.made v.out
end
noncomputable section
open Go
attribute [local irreducible] bd aV aE aH bE aS PV.cell PV.sub aB aK bV dG dL dQ cQ aD dM dB bR bA cG aN aX aC bM bC bD bK aW PV.deref bG cA aT dJ cJ cK dO PV.apply bL bO fK cC
variable {n left : Int} {pc : Nat} {d ts xs : List Int} {rest : Option (Int × Nat × Nat)} {m : fO}
def aIo (fs : List eJ) (code : List eC) (d : List Int) (pc : Nat) : Option Int:=
 match code[pc]? with
 | none=>none
 | some x=>
   if d[pc]?.getD 0<0 then none
   else if can fs x (d[pc]?.getD 0)=false then some 2
   else if (kI x pc).any (λt=>decide ((code.length : Int)≤t))=true then some 3
   else if (kI x pc).any (λt=>!decide (d[t.toNat]?.getD 0=mN fs x (d[pc]?.getD 0)))=true then some 4
   else none
def aGj (fs : List eJ) (code : List eC) (f pc : Nat) : Option (Int × Nat × Nat):=(aIo fs code (oA fs code) pc).map λc=>(c,f,pc)
def aN9 (fs : List eJ) (f : Nat) : Option (Int × Nat × Nat):=match fs[f]? with
 | some x=>(List.range' 0 x.code.length).findSome? (aGj fs x.code f)
 | none=>none
def bad (fs : List eJ) : Option (Int × Nat × Nat):=(List.range' 0 fs.length).findSome? (aN9 fs)
def aR6 : Option (Int × Nat × Nat)→PV
 | some (c,f,pc)=>.agg [.I c,.I f,.I pc]
 | none=>.agg [.I 0,.I 0,.I 0]
def fO.verify (m : fO) : PV:=if m.okB then aR6 (bad m.funcs) else .agg [.I 1,.I 0,.I 0]
theorem aK0 {n : Nat} {F : Nat→OR} {P : R→Prop} (I : NP) (he : I n→Ok P (F n)) (hs : ∀ i,i<n→I i→(I (i+1)→Ok P (F (i+1)))→Ok P (F i)) (h0 : I 0) : Ok P (F 0):=
 aHc (σ:=Unit) (F:=λi _=>F i) (λi _=>I i) (λ_ h=>he h) (λi _ hi hI ih=>hs i hi hI (λh=>ih () h)) 0 () (by omega) h0
theorem aIp {α : Type} {xs : List α} {i : Nat} (hi : i<xs.length) (p : α→Bool) : (xs.drop i).any p=(p xs[i]||(xs.drop (i+1)).any p):=by
 rw [List.drop_eq_getElem_cons hi,List.any_cons]
section
variable {fs : List eJ} {code : List eC} {T x3 x4 x5 : PV} (F : Fit fs code) {f : Nat} (hf : f < fs.length)
include F hf
theorem aR7 {P : R→Prop} (hpc : pc<code.length) (hd : d.length=code.length) (hts : ∀ t∈ts,0≤t∧t<code.length) (hn : ts.length≤10)
 (h4 : ts.any (λt=>!decide (d[t.toNat]?.getD 0=left))=true→P [.agg [.I 4,.I f,.I pc]])
 (hgo : ts.any (λt=>!decide (d[t.toNat]?.getD 0=left))=false→Ok P (oW (.I f) (.lst (code.map eC.pv)) (fW d) (.I ((pc : Int)+1)) T (.lst (fs.map eJ.pv)) x3 x4 x5)) :
 Ok P (mX (.I f) (.lst (code.map eC.pv)) (fW d) (.I pc) (.I left) (fW ts) (.I 0) T (.lst (fs.map eJ.pv)) x3 x4 x5):=by
 have hn2:=F.n2
 refine aK0 (n:=ts.length) (F:=λi=>mX (.I f) (.lst (code.map eC.pv)) (fW d) (.I pc) (.I left) (fW ts) (.I i) T (.lst (fs.map eJ.pv)) x3 x4 x5)
  (λi=>(ts.drop i).any (λt=>!decide (d[t.toNat]?.getD 0=left))=ts.any (λt=>!decide (d[t.toNat]?.getD 0=left))) ?_ ?_ (by rw [List.drop_zero])
 ·intro hI
  rw [List.drop_length] at hI
  rw [aAH]
  exact gU (aO (λh=>by omega) (λ_=>bS (hgo hI.symm)))
 ·intro i hi hI ih
  rw [aIp hi] at hI
  have ht:=hts ts[i] (List.getElem_mem _)
  rw [aAH]
  refine gU (aO (λ_=>?_) (λh=>by omega))
  refine fR hi (yE (by omega) (by omega) (λv hv=>?_))
  have hv' : d[ts[i].toNat]?.getD 0=v:=by rw [hv];rfl
  rw [hv'] at hI
  refine dD (λh=>?_) (λh=>?_)
  ·rw [decide_eq_false h] at hI
   exact bJ rfl (bJ rfl (aA (h4 hI.symm)))
  ·rw [decide_eq_true h] at hI
   exact bS (ih hI)
theorem aTV {P : R→Prop} (hpc : pc<code.length) (hd : d.length=code.length) (hts : ∀ t∈ts,0≤t∧t≤code.length) (hn : ts.length≤10)
 (h3 : ts.any (λt=>decide ((code.length : Int)≤t))=true→P [.agg [.I 3,.I f,.I pc]])
 (hgo : ts.any (λt=>decide ((code.length : Int)≤t))=false→Ok P (mX (.I f) (.lst (code.map eC.pv)) (fW d) (.I pc) (.I left) (fW ts) (.I 0) T (.lst (fs.map eJ.pv)) x3 x4 x5)) :
 Ok P (pX (.I f) (.lst (code.map eC.pv)) (fW d) (.I pc) (.I left) (fW ts) (.I 0) T (.lst (fs.map eJ.pv)) x3 x4 x5):=by
 have hn2:=F.n2
 refine aK0 (n:=ts.length) (F:=λi=>pX (.I f) (.lst (code.map eC.pv)) (fW d) (.I pc) (.I left) (fW ts) (.I i) T (.lst (fs.map eJ.pv)) x3 x4 x5)
  (λi=>(ts.drop i).any (λt=>decide ((code.length : Int)≤t))=ts.any (λt=>decide ((code.length : Int)≤t))) ?_ ?_ (by rw [List.drop_zero])
 ·intro hI
  rw [List.drop_length] at hI
  rw [aAG]
  exact gU (aO (λh=>by omega) (λ_=>hgo hI.symm))
 ·intro i hi hI ih
  rw [aIp hi] at hI
  rw [aAG]
  refine gU (aO (λ_=>?_) (λh=>by omega))
  refine fR hi (aF (aCA (λh=>?_) (λh=>?_)))
  ·rw [decide_eq_true h] at hI
   exact bJ rfl (bJ rfl (aA (h3 hI.symm)))
  ·rw [decide_eq_false h] at hI
   exact bS (ih hI)
theorem aSV (h : ts.any (λt=>decide (n≤t))=false) : ∀ t∈ts,t<n:=by
 clear F hf
 intro t ht
 rw [List.any_eq_false] at h
 have:=h t ht
 simp at this
 omega
theorem aR8 (hnext : Ok (λr=>r = [aR6 rest]) (rE (.I ((f : Int)+1)) T (.lst (fs.map eJ.pv)) x3 x4 x5)) : ∀ pc,pc≤code.length→
 Ok (λr=>r = [aR6 (((List.range' pc (code.length - pc)).findSome? (aGj fs code f)).or rest)]) (oW (.I f) (.lst (code.map eC.pv)) (fW (oA fs code)) (.I pc) T (.lst (fs.map eJ.pv)) x3 x4 x5):=by
 have hn2:=F.n2
 have hnf:=F.nf
 have hg:=aDb F
 generalize hd : oA fs code=d at hg
 refine fQ ?_ ?_
 ·rw [aBo,aIf]
  exact aF (aO (λh=>by omega) (λ_=>bS hnext))
 ·intro pc hpc ih
  have hx : code[pc]? = some code[pc]:=List.getElem?_eq_getElem hpc
  have hm : code[pc]∈code:=List.getElem_mem _
  have hu:=F.u code[pc] hm
  have hil : pc<d.length:=by rw [hg.1];exact hpc
  have hv:=hg.at pc
  have e2 : d[pc]=d[pc]?.getD 0:=aKX hil
  rw [aFz hpc]
  have eb : aGj fs code f pc=(aIo fs code d pc).map λc=>(c,f,pc):=by unfold aGj;rw [hd]
  rw [eb]
  have ec : aIo fs code d pc=if d[pc]?.getD 0<0 then none
   else if can fs code[pc] (d[pc]?.getD 0)=false then some 2
   else if (kI code[pc] pc).any (λt=>decide ((code.length : Int)≤t))=true then some 3
   else if (kI code[pc] pc).any (λt=>!decide (d[t.toNat]?.getD 0=mN fs code[pc] (d[pc]?.getD 0)))=true then some 4
   else none:=by
   conv=>lhs;unfold aIo
   rw [hx]
  generalize hw : d[pc]?.getD 0=w at *
  generalize aIo fs code d pc=ch at *
  rw [aBo]
  refine aF (aO (λ_=>?_) (λh=>by omega))
  refine fR hil ?_
  rw [e2]
  refine aO (λh1=>?_) (λh1=>?_)
  ·rw [if_pos h1] at ec
   subst ec
   exact bS ih
  rw [if_neg h1] at ec
  refine aQ hpc (λ_=>rfl) (aI (aN1 (T:=T) (by omega)) (λr hr=>?_))
  subst hr
  refine gZ (fR hil ?_)
  rw [e2]
  refine dS (bS (fR hil ?_))
  rw [e2]
  refine aO (λh2=>?_) (λh2=>?_)
  ·have hc : can fs code[pc] w=false:=by simp only [can];rw [decide_eq_false (by omega)];rfl
   rw [if_pos hc] at ec
   subst ec
   exact bJ rfl (bJ rfl (aA rfl))
  refine iU (λh3=>?_) (λh3=>?_)
  ·have hc : can fs code[pc] w=false:=by simp only [can];rw [decide_eq_false (p:=mN fs code[pc] w≤16) (by unfold mN;omega),Bool.and_false]
   rw [if_pos hc] at ec
   subst ec
   exact bJ rfl (bJ rfl (aA rfl))
  have hc : can fs code[pc] w=true:=by simp only [can];rw [decide_eq_true (by omega),decide_eq_true (p:=mN fs code[pc] w≤16) (by unfold mN;omega)];rfl
  rw [hc,if_neg (by simp)] at ec
  refine aQ hpc (λ_=>rfl) (aI (aN3 (by omega)) (λr hr=>?_))
  subst hr
  have hnx:=aEY F hm hpc
  have hl10 : (kI code[pc] pc).length≤10:=by unfold kI;repeat' split<;>simp
  refine aTV F hf hpc hg.1 (left:=mN fs code[pc] w) hnx hl10 (λh=>?_) (λh=>?_)
  ·rw [if_pos h] at ec
   subst ec
   rfl
  rw [if_neg (by rw [h];simp)] at ec
  refine aR7 F hf hpc hg.1 (left:=mN fs code[pc] w) (λt ht=>⟨(hnx t ht).1,aSV F hf h t ht⟩) hl10 (λh=>?_) (λh=>?_)
  ·rw [if_pos h] at ec
   subst ec
   rfl
  ·rw [if_neg (by rw [h];simp)] at ec
   subst ec
   exact ih
end
theorem aMv {fs : List eJ} {f : Nat} (hf : f<fs.length) : aN9 fs f=(List.range' 0 fs[f].code.length).findSome? (aGj fs fs[f].code f):=by
 unfold aN9
 rw [List.getElem?_eq_getElem hf]
theorem aQG (h : m.sized) : Ok (λr=>r = [m.verify]) (aED m.pv):=by
 rw [aMb]
 refine dY (aI (aNt h) (λr hr=>?_))
 subst hr
 unfold fO.verify
 refine cD (aZ (λhb=>aA ?_) (λhb=>?_))
 ·have : m.okB=false:=by simpa using hb
  rw [this];rfl
 have hb : m.okB=true:=by simpa using hb
 rw [hb,if_pos rfl]
 obtain ⟨h1,h2,h3⟩:=fO.okB_fit hb
 have key:=fQ (n:=m.funcs.length) (P:=λf r=>r = [aR6 ((List.range' f (m.funcs.length - f)).findSome? (aN9 m.funcs))])
  (F:=λf=>rE (.I f) (.lst (m.texts.map PV.str)) (.lst (m.funcs.map eJ.pv)) (.I 0) (.I 0) (.I 0)) ?_ ?_ 0 (by omega)
 ·exact key
 ·rw [aBn,aIf]
  exact aF (aO (λh=>by omega) (λ_=>aA rfl))
 ·intro f hf ih
  have F:=(h3 m.funcs[f] (List.getElem_mem _)).1
  rw [aBn,aFz hf,aMv hf]
  refine aF (aO (λ_=>?_) (λh=>by omega))
  refine aQ hf (λ_=>rfl) (aL rfl (aI (aEZ F hf rfl) (λr hr=>?_)))
  subst hr
  exact aR8 F hf ih 0 (by omega)
section
variable {P : R → Prop} {k : R → OR}
theorem aTW (hx : xs.length≤1000000000) (y : Int) : Ok (λr=>∃ n : Int,r = [.I n]∧(0≤n↔xs.any (λx=>decide (y=x))=true)) (rB (fW xs) (.I y)):=by
 rw [aCh]
 refine gU ?_
 refine aK0 (n:=xs.length) (F:=λi=>kF (fW xs) (.I y) (.I xs.length) (.I i)) (λi=>(xs.drop i).any (λx=>decide (y=x))=xs.any (λx=>decide (y=x))) ?_ ?_ (by rw [List.drop_zero])
 ·intro hI
  rw [List.drop_length] at hI
  rw [rH]
  refine aO (λh=>by omega) (λ_=>aA ⟨-1,rfl,?_⟩)
  rw [← hI];simp
 ·intro i hi hI ih
  rw [aIp hi] at hI
  rw [rH]
  refine aO (λ_=>?_) (λh=>by omega)
  refine fR hi (aJ (λh=>aA ⟨i,rfl,?_⟩) (λh=>?_))
  ·rw [← hI,decide_eq_true h];simp
  ·rw [decide_eq_false h] at hI
   exact bS (ih hI)
theorem aTX (hx : xs.length≤1000000000) {y : Int} (h : Ok P (k [.bool (xs.any (λx=>decide (y=x)))])) : Ok P (bd (oU (fW xs) (.I y)) k):=by
 refine aI (Q:=λr=>r = [.bool (xs.any (λx=>decide (y=x)))]) ?_ (λr hr=>by rw [hr];exact h)
 rw [aAF]
 refine aI (aTW hx y) ?_
 rintro r ⟨n,rfl,hn⟩
 refine jN (aA ?_)
 by_cases h0 : 0≤n
 ·rw [decide_eq_true h0,hn.1 h0]
 ·rw [decide_eq_false h0]
  cases h2 : xs.any (λx=>decide (y=x)) with
  | false=>rfl
  | true=>exact absurd (hn.2 h2) h0
theorem aTY {f : Nat} {caps : R} (hx : xs.length≤1000000000) (p : Int→Bool) (hp : ∀ x∈xs,Ok (λr=>r = [.bool (p x)]) (aU f ([.I x]++caps))) (h : Ok P (k [.bool (xs.any p)])) :
 Ok P (bd (lD (fW xs) (.fn f caps)) k):=by
 refine aI (Q:=λr=>r = [.bool (xs.any p)]) ?_ (λr hr=>by rw [hr];exact h)
 rw [wW]
 refine aI (Q:=λr=>∃ n : Int,r = [.I n]∧(0≤n↔xs.any p=true)) ?_ ?_
 ·rw [zO]
  refine gU ?_
  refine aK0 (n:=xs.length) (F:=λi=>iM (fW xs) (.fn f caps) (.I xs.length) (.I i)) (λi=>(xs.drop i).any p=xs.any p) ?_ ?_ (by rw [List.drop_zero])
  ·intro hI
   rw [List.drop_length] at hI
   rw [pC]
   refine aO (λh=>by omega) (λ_=>aA ⟨-1,rfl,?_⟩)
   rw [← hI];simp
  ·intro i hi hI ih
   rw [aIp hi] at hI
   rw [pC]
   refine aO (λ_=>?_) (λh=>by omega)
   refine fR hi (sL rfl (hp _ (List.getElem_mem _)) (λr hr=>?_))
   subst hr
   refine aZ (λh=>aA ⟨i,rfl,?_⟩) (λh=>?_)
   ·rw [← hI,h];simp
   ·rw [h,Bool.false_or] at hI
    exact bS (ih hI)
 ·rintro r ⟨n,rfl,hn⟩
  refine jN (aA ?_)
  by_cases h0 : 0≤n
  ·rw [decide_eq_true h0,hn.1 h0]
  ·rw [decide_eq_false h0]
   cases h2 : xs.any p with
   | false=>rfl
   | true=>exact absurd (hn.2 h2) h0
end
theorem aWv (h : ∀ t∈ts,t≤n) : ts.any (λx=>decide (n=x))=ts.any (λt=>decide (n≤t)):=by
 induction ts with
 | nil=>rfl
 | cons t r ih=>
   rw [List.any_cons,List.any_cons,ih (λx hx=>h x (List.mem_cons_of_mem _ hx))]
   have:=h t List.mem_cons_self
   congr 1
   by_cases h1 : n=t
   ·rw [decide_eq_true h1,decide_eq_true (by omega)]
   ·rw [decide_eq_false h1,decide_eq_false (by omega)]
section
variable {fs : List eJ} {code : List eC} {T x3 x4 x5 : PV} (F : Fit fs code) {f : Nat} (hf : f < fs.length)
include F hf
theorem aR9 (hnext : Ok (λr=>r = [aR6 rest]) (qY (.I fs.length) (.I ((f : Int)+1)) T (.lst (fs.map eJ.pv)) x3 x4 x5)) : ∀ pc,pc≤code.length→
 Ok (λr=>r = [aR6 (((List.range' pc (code.length - pc)).findSome? (aGj fs code f)).or rest)])
  (qZ (.I f) (.I fs.length) (.I f) (.lst (code.map eC.pv)) (.I code.length) (.I pc) T (.lst (fs.map eJ.pv)) x3 x4 x5 (fW (oA fs code))):=by
 have hn2:=F.n2
 have hnf:=F.nf
 have hg:=aDb F
 generalize hd : oA fs code=d at hg
 refine fQ ?_ ?_
 ·rw [aBj,aIf]
  exact aO (λh=>by omega) (λ_=>bS hnext)
 ·intro pc hpc ih
  have hx : code[pc]? = some code[pc]:=List.getElem?_eq_getElem hpc
  have hm : code[pc]∈code:=List.getElem_mem _
  have hu:=F.u code[pc] hm
  have hil : pc<d.length:=by rw [hg.1];exact hpc
  have hv:=hg.at pc
  have e2 : d[pc]=d[pc]?.getD 0:=aKX hil
  rw [aFz hpc]
  have eb : aGj fs code f pc=(aIo fs code d pc).map λc=>(c,f,pc):=by unfold aGj;rw [hd]
  rw [eb]
  have ec : aIo fs code d pc=if d[pc]?.getD 0<0 then none
   else if can fs code[pc] (d[pc]?.getD 0)=false then some 2
   else if (kI code[pc] pc).any (λt=>decide ((code.length : Int)≤t))=true then some 3
   else if (kI code[pc] pc).any (λt=>!decide (d[t.toNat]?.getD 0=mN fs code[pc] (d[pc]?.getD 0)))=true then some 4
   else none:=by
   conv=>lhs;unfold aIo
   rw [hx]
  generalize hw : d[pc]?.getD 0=w at *
  generalize aIo fs code d pc=ch at *
  rw [aBj]
  refine aO (λ_=>?_) (λh=>by omega)
  refine aQ hpc (λ_=>rfl) (dY (fR hil ?_))
  rw [e2]
  refine aO (λh1=>?_) (λh1=>?_)
  ·rw [if_pos h1] at ec
   subst ec
   exact bS ih
  rw [if_neg h1] at ec
  refine fR hil ?_
  rw [e2]
  refine aI (aN7 (T:=T) F hm hv) (λr hr=>?_)
  subst hr
  refine gZ (bJ rfl (cD (aZ (λhc=>?_) (λhc=>?_))))
  ·have hc : can fs code[pc] w=false:=by simpa using hc
   rw [if_pos hc] at ec
   subst ec
   exact bJ rfl (bJ rfl (aA rfl))
  have hc : can fs code[pc] w=true:=by simpa using hc
  rw [hc,if_neg (by simp)] at ec
  refine aI (aN4 (x:=code[pc]) (by omega)) (λr hr=>?_)
  subst hr
  have hnx:=aEY F hm hpc
  have hl10 : (kI code[pc] pc).length≤10:=by unfold kI;repeat' split<;>simp
  refine gU (aTX (by omega) ?_)
  rw [hg.1,aWv (λt ht=>(hnx t ht).2)]
  refine aZ (λh=>?_) (λh=>?_)
  ·rw [if_pos h] at ec
   subst ec
   exact bJ rfl (bJ rfl (aA rfl))
  rw [if_neg (by rw [h];simp)] at ec
  refine aTY (by omega) (λt=>!decide (d[t.toNat]?.getD 0=mN fs code[pc] w)) (λt ht=>?_) ?_
  ·have:=hnx t ht
   have:=aSV F hf h t ht
   show Ok _ (aGc _ _ _)
   rw [aJc]
   refine sM rfl (yE (by omega) (by rw [hg.1];omega) (λv hv=>sM rfl (kZ (aA ?_))))
   rw [hv];rfl
  ·refine eF rfl (aZ (λh=>?_) (λh=>?_))
   ·rw [if_pos h] at ec
    subst ec
    exact bJ rfl (bJ rfl (aA rfl))
   ·rw [if_neg (by rw [h];simp)] at ec
    subst ec
    exact bS ih
end
theorem aQH (h : m.sized) : Ok (λr=>r = [m.verify]) (aEA m.pv):=by
 rw [aL5]
 refine dY (aI (aNu h) (λr hr=>?_))
 subst hr
 unfold fO.verify
 refine cD (aZ (λhb=>aA ?_) (λhb=>?_))
 ·have : m.okB=false:=by simpa using hb
  rw [this];rfl
 have hb : m.okB=true:=by simpa using hb
 rw [hb,if_pos rfl]
 obtain ⟨h1,h2,h3⟩:=fO.okB_fit hb
 refine aF ?_
 have key:=fQ (n:=m.funcs.length) (P:=λf r=>r = [aR6 ((List.range' f (m.funcs.length - f)).findSome? (aN9 m.funcs))])
  (F:=λf=>qY (.I m.funcs.length) (.I f) (.lst (m.texts.map PV.str)) (.lst (m.funcs.map eJ.pv)) (.I 0) (.I 0) (.I 0)) ?_ ?_ 0 (by omega)
 ·exact key
 ·rw [aBi,aIf]
  exact aO (λh=>by omega) (λ_=>aA rfl)
 ·intro f hf ih
  have F:=(h3 m.funcs[f] (List.getElem_mem _)).1
  rw [aBi,aFz hf,aMv hf]
  refine aO (λ_=>?_) (λh=>by omega)
  refine aI (aE2 F hf rfl) (λr hr=>?_)
  subst hr
  refine bJ rfl (aQ hf (λ_=>rfl) (aL rfl (aF ?_)))
  exact aR9 F hf ih 0 (by omega)
variable {fs : List eJ} {pc : Nat}
theorem aTZ {code : List eC} {d : List Int} (hpc : pc<code.length) (h : aIo fs code d pc=none) (h0 : ¬ d[pc]?.getD 0<0) :
 can fs code[pc] (d[pc]?.getD 0)=true∧∀ t∈kI code[pc] pc,t<code.length∧d[t.toNat]?.getD 0=mN fs code[pc] (d[pc]?.getD 0):=by
 unfold aIo at h
 rw [List.getElem?_eq_getElem hpc] at h
 simp only at h
 rw [if_neg h0] at h
 split at h
 ·cases h
 rename_i h1
 split at h
 ·cases h
 rename_i h2
 split at h
 ·cases h
 rename_i h3
 refine ⟨by simpa using h1,λt ht=>?_⟩
 rw [Bool.not_eq_true,List.any_eq_false] at h2 h3
 have g2:=h2 t ht
 have g3:=h3 t ht
 simp at g2 g3
 exact ⟨by omega,g3⟩
theorem aVc (h : bad fs=none) {f : Nat} (hf : f<fs.length) (hpc : pc<fs[f].code.length) : aIo fs fs[f].code (oA fs fs[f].code) pc=none:=by
 unfold bad at h
 rw [List.findSome?_eq_none_iff] at h
 have h1:=h f (by rw [List.mem_range'_1];omega)
 rw [aMv hf,List.findSome?_eq_none_iff] at h1
 have h2:=h1 pc (by rw [List.mem_range'_1];omega)
 simpa [aGj] using h2
end
noncomputable section
open Go Go.IntWalk
attribute [local irreducible] bd aV aE aH bE aS PV.cell PV.sub aB aK bV dG dL dQ cQ aD dM dB bR bA cG aN aX aC bM bC bD bK aW PV.deref bG cA aT dJ cJ cK dO PV.apply bL bO fK cC
variable {nf n i n' o : Int} {b v a : eR} {m : fO} {f : dC}
structure fF (m : fO) : Prop where
 sz : m.sized
 ok : m.okB=true
 bad : bad m.funcs=none
def dAt (m : fO) (f pc : Int) : Int:=(oA m.funcs (dR m.funcs f))[pc.toNat]?.getD 0
def dU (m : fO) (f pc : Int) : eC:=(dR m.funcs f)[pc.toNat]?.getD ⟨0,0⟩
abbrev oD (m : fO) (n : Int) (v : eR) : Prop:=cW m.funcs.length n v=true
theorem aE6 : kV (bs []) (bs [])=true:=aMq _
theorem rZ : cW nf n eQ=true:=by simp [cW,eQ,aE6]
theorem aSW {x : Int} (h : eM x=true) : cW nf n (zR x)=true:=by simp [cW,zR,aE6,h]
theorem aIq {b : Bool} : cW nf n (rJ b)=true:=by cases b<;>simp [cW,rJ,aE6,mA]
theorem aQI {s : ByteArray} (h : fA s=true) : cW nf n (aDD s)=true:=by simp [cW,aDD,h]
theorem aWw (h : 0≤i∧i<n) : cW nf n (aTN i)=true:=by simp [cW,aTN,aE6,h]
theorem aWx (h : 0≤i∧i<nf) : cW nf n (aPa i)=true:=by
 have : i≤nf - 1:=by omega
 simp [cW,aPa,aE6,mA,h,this]
theorem xA (hn : n≤n') (h : cW nf n v=true) : cW nf n' v=true:=by
 unfold cW at *
 split at h
 ·cases h
 rename_i h0
 rw [if_neg h0]
 split at h
 ·rename_i h1;rw [if_pos h1];exact h
 rename_i h1
 rw [if_neg h1]
 split at h
 ·rename_i h1;rw [if_pos h1];exact h
 rename_i h2
 rw [if_neg h2]
 split at h
 ·rename_i h1;rw [if_pos h1];exact h
 rename_i h3
 rw [if_neg h3]
 split at h
 ·rename_i h1;rw [if_pos h1];exact h
 rename_i h4
 rw [if_neg h4]
 split at h
 ·rename_i h1
  rw [if_pos h1]
  simp only [Bool.and_eq_true,decide_eq_true_eq] at *
  omega
 rename_i h5
 rw [if_neg h5]
 exact h
theorem aWy {a b : ByteArray} (ha : fA a=true) (hb : fA b=true) (h : ¬ (60 : Int)<a.size+b.size) : fA (a++b)=true:=by
 simp only [fA,Bool.and_eq_true,decide_eq_true_eq,List.all_eq_true] at *
 refine ⟨by rw [ByteArray.size_append];omega,λx hx=>?_⟩
 rw [ByteArray.data_append,Array.toList_append,List.mem_append] at hx
 rcases hx with hx | hx
 ·exact ha.2 x hx
 ·exact hb.2 x hx
theorem aJv (h : cW nf n v=true) (hk : v.k=3) : fA v.s=true:=by
 unfold cW at h
 rw [if_neg (λe=>e.1 hk),eV,eV,eV,if_pos hk] at h
 simp only [Bool.and_eq_true] at h
 exact h.2
theorem aPf : cW nf n (aDT o a b).1=true:=by
 unfold aDT
 repeat' split
 all_goals first
  | exact rZ
  | (rename_i h;exact aSW (by simpa using h))
theorem aXx (ha : cW nf n a=true) (hb : cW nf n b=true) : cW nf n (uT o a b).1=true:=by
 unfold uT
 split
 ·split
  ·rename_i h
   split
   ·exact rZ
   ·rename_i h2
    exact aQI (aWy (aJv ha h.1) (aJv hb h.2) h2)
  ·exact aPf
 split
 ·exact aPf
 split
 ·exact aPf
 split
 ·repeat' split
  all_goals first
   | exact rZ
   | exact aIq
 ·exact aIq
theorem fF.fit (g : fF m) : 1≤m.funcs.length∧m.funcs.length≤12∧∀ f∈m.funcs,Fit m.funcs f.code∧0≤f.p∧f.p≤6∧f.p≤f.lc∧f.lc≤12:=fO.okB_fit g.ok
theorem fF.code {m : fO} (g : fF m) {f : Int} (h : 0≤f∧f<m.funcs.length) : ∃ i : Nat,∃ hi : i<m.funcs.length,f=i∧dR m.funcs f=m.funcs[i].code∧Fit m.funcs m.funcs[i].code∧0≤m.funcs[i].p∧m.funcs[i].p≤6∧m.funcs[i].p≤m.funcs[i].lc∧m.funcs[i].lc≤12∧aCp m.funcs f=m.funcs[i].lc∧iL m.funcs f=m.funcs[i].p∧
 ∀ x∈m.funcs[i].code,eI m.texts.length m.funcs.length m.funcs[i].lc m.funcs[i].code.length x.o x.a=true:=by
 obtain ⟨i,hi⟩:=Int.eq_ofNat_of_zero_le h.1
 have hl : i<m.funcs.length:=by omega
 have hm : m.funcs[i]∈m.funcs:=List.getElem_mem _
 obtain ⟨F,p1,p2,p3,p4⟩:=g.fit.2.2 _ hm
 refine ⟨i,hl,hi,by simp [dR,hi,List.getElem?_eq_getElem hl],F,p1,p2,p3,p4,by simp [aCp,hi,List.getElem?_eq_getElem hl],by simp [iL,hi,List.getElem?_eq_getElem hl],λx hx=>?_⟩
 have h:=g.ok
 simp only [fO.okB,Bool.and_eq_true,bT,decide_eq_true_eq,List.all_eq_true,aAM] at h
 exact (h.2.2.2 _ hm).2.2.2 x hx
theorem fF.at_ (g : fF m) {f pc : Int} (h : 0≤f∧f<m.funcs.length) (hp : 0≤pc∧pc<(dR m.funcs f).length) (hd : 0≤dAt m f pc) :
 eI m.texts.length m.funcs.length (aCp m.funcs f) (dR m.funcs f).length (dU m f pc).o (dU m f pc).a=true∧
 (0≤(bU m.funcs (dU m f pc)).1∧(bU m.funcs (dU m f pc)).1≤dAt m f pc∧0≤(bU m.funcs (dU m f pc)).2∧(bU m.funcs (dU m f pc)).2≤2)∧dAt m f pc≤16∧mN m.funcs (dU m f pc) (dAt m f pc)≤16∧
 ∀ t∈kI (dU m f pc) pc,(0≤t∧t<(dR m.funcs f).length)∧dAt m f t=mN m.funcs (dU m f pc) (dAt m f pc):=by
 obtain ⟨i,hi,rfl,hc,F,p1,p2,p3,p4,hlc,hpar,hins⟩:=g.code h
 obtain ⟨j,rfl⟩:=Int.eq_ofNat_of_zero_le hp.1
 have hj : j<m.funcs[i].code.length:=by rw [hc] at hp;omega
 have hx : dU m i j=m.funcs[i].code[j]:=by simp [dU,hc,List.getElem?_eq_getElem hj]
 have hm : m.funcs[i].code[j]∈m.funcs[i].code:=List.getElem_mem _
 have hu:=F.u _ hm
 have hdd : ∀ t : Int,dAt m i t=(oA m.funcs m.funcs[i].code)[t.toNat]?.getD 0:=λt=>by rw [dAt,hc]
 have hb:=(aDb F).at j
 have hck:=aTZ hj (aVc g.bad hi hj)
 have hnx:=aEY F hm hj
 rw [hx,hc,hlc]
 rw [hdd,Int.toNat_natCast] at hd ⊢
 obtain ⟨hcan,hall⟩:=hck (by omega)
 simp only [can,Bool.and_eq_true,decide_eq_true_eq] at hcan
 refine ⟨hins _ hm,⟨hu.1,hcan.1,hu.2.2⟩,hb.2,hcan.2,λt ht=>?_⟩
 obtain ⟨q1,q2⟩:=hall t ht
 exact ⟨⟨(hnx t ht).1,q1⟩,by rw [hdd];exact q2⟩
structure FrI (m : fO) (n : Int) (f : dC) : Prop where
 fi : 0≤f.f∧f.f<m.funcs.length
 pc : 0≤f.pc∧f.pc<(dR m.funcs f.f).length
 loc : (f.loc.length : Int)=aCp m.funcs f.f
 d : 0≤dAt m f.f f.pc
 vl : ∀ v∈f.loc,oD m n v
 vs : ∀ v∈f.stk,oD m n v
structure aHd (m : fO) (n : Int) (f : dC) : Prop extends FrI m n f where
 h : (f.stk.length : Int)=dAt m f.f f.pc
structure aKJ (m : fO) (n : Int) (f : dC) : Prop extends FrI m n f where
 low : 1≤f.pc∧0≤dAt m f.f (f.pc - 1)∧((dU m f.f (f.pc - 1)).o=23∨(dU m f.f (f.pc - 1)).o=24)
 h : (f.stk.length : Int)=dAt m f.f f.pc - 1
structure HpI (m : fO) (hp : List (List eR)) (made : Int) (out : List ByteArray) : Prop where
 made : hp.length≤made∧made≤120
 recs : ∀ r∈hp,r.length≤6∧∀ v∈r,oD m hp.length v
 out : out.length≤200
structure VmI (m : fO) (v : mL) : Prop where
 hp : HpI m v.hp v.made v.out
 steps : 0≤v.steps∧v.steps≤50000
 nfr : v.fr.length≤24
 run : v.st=0→v.fr≠[]
 top : ∀ fs0 f,v.fr=fs0++[f]→aHd m v.hp.length f∧∀ g∈fs0,aKJ m v.hp.length g
theorem FrI.mono (hn : n≤n') (h : FrI m n f) : FrI m n' f:=
 ⟨h.fi,h.pc,h.loc,h.d,λv hv=>xA hn (h.vl v hv),λv hv=>xA hn (h.vs v hv)⟩
theorem aKJ.mono {m : fO} {n n' : Int} (hn : n≤n') {f : dC} (h : aKJ m n f) : aKJ m n' f:=⟨h.toFrI.mono hn,h.low,h.h⟩
theorem FrI.small (g : fF m) (h : FrI m n f) : f.loc.length≤12:=by
 obtain ⟨i,hi,he,hc,F,p1,p2,p3,p4,hlc,hpar,hins⟩:=g.code h.fi
 have:=h.loc
 omega
theorem FrI.dle (g : fF m) (h : FrI m n f) : dAt m f.f f.pc≤16:=(g.at_ h.fi h.pc h.d).2.2.1
theorem VmI.sz (g : fF m) {v : mL} (h : VmI m v) : Sz v:=by
 have:=h.hp.made
 have:=h.hp.out
 have:=h.nfr
 refine ⟨by omega,by omega,by omega,λf hf=>?_,λr hr=>by have:=(h.hp.recs r hr).1;omega⟩
 rcases List.eq_nil_or_concat v.fr with h0 | ⟨fs0,f0,h0⟩
 ·rw [h0] at hf;cases hf
 ·obtain ⟨t,l⟩:=h.top fs0 f0 (by rw [h0];simp)
  rw [h0] at hf
  simp only [List.concat_eq_append,List.mem_append,List.mem_singleton] at hf
  rcases hf with hf | rfl
  ·have:=(l f hf).toFrI.small g
   have:=(l f hf).toFrI.dle g
   have:=(l f hf).h
   omega
  ·have:=t.toFrI.small g
   have:=t.toFrI.dle g
   have:=t.h
   omega
theorem VmI.goes (g : fF m) {v : mL} (h : VmI m v) (h0 : v.st=0) : ∃ fs0 f,aVb m v fs0 f:=by
 rcases List.eq_nil_or_concat v.fr with e | ⟨fs0,f,e⟩
 ·exact absurd e (h.run h0)
 rw [List.concat_eq_append] at e
 refine ⟨fs0,f,?_⟩
 obtain ⟨t,l⟩:=h.top fs0 f e
 obtain ⟨i,hi,he,hc,F,p1,p2,p3,p4,hlc,hpar,hins⟩:=g.code t.fi
 obtain ⟨a1,a2,a3,a4,a5⟩:=g.at_ t.fi t.pc t.d
 have hx : pG m.funcs f=dU m f.f f.pc:=rfl
 have hh:=t.h
 have hm:=h.hp.made
 have hn:=h.nfr
 rw [e,List.length_append,List.length_singleton] at hn
 refine ⟨e,t.fi,t.pc,by rw [hc];exact F.n2,by rw [hx,t.loc];exact a1,by rw [hx,hh];exact ⟨a2.1,a2.2.1⟩,λb=>?_⟩
 refine ⟨g.fit.2.1,?_,λf hf=>?_,by omega,λf hf=>?_,by have:=t.toFrI.small g;exact this,?_,λr hr=>(h.hp.recs r hr).1,by omega,by omega,h.hp.out,λv hv=>t.vs v (List.mem_of_mem_drop hv)⟩
 ·have h:=g.ok
  simp only [fO.okB,Bool.and_eq_true,bT,decide_eq_true_eq] at h
  omega
 ·have:=g.fit.2.2 f hf
  exact this.2
 ·have:=(l f hf).toFrI.dle g
  have:=(l f hf).h
  omega
 ·simp only [List.length_take,List.length_drop]
  omega
variable {n pc : Int} {l : List eR}
structure aQJ (m : fO) (v : mL) (f : dC) (x : eC) (fr : dC) (hp : List (List eR)) (made : Int) (out : List ByteArray) : Prop where
 ff : fr.f=f.f
 pc : fr.pc∈kI x f.pc
 loc : fr.loc.length=f.loc.length
 len : (fr.stk.length : Int)=mN m.funcs x f.stk.length
 vl : ∀ y∈fr.loc,oD m hp.length y
 vs : ∀ y∈fr.stk,oD m hp.length y
 n : v.hp.length≤hp.length
 hpI : HpI m hp made out
structure aXc (m : fO) (v : mL) (fs0 : List dC) (f : dC) (x : eC) (fr g : dC) : Prop where
 n : fs0.length+1<24
 o : x.o=23∨x.o=24
 frr : fr=⟨f.f,f.pc+1,f.loc,f.stk.take (f.stk.length - (bU m.funcs x).1.toNat)⟩
 gg : ∃ i args,g=yP m.funcs i args∧(0≤i∧i<m.funcs.length)∧(args.length : Int)=iL m.funcs i∧∀ y∈args,oD m v.hp.length y
def aX3 (m : fO) (v : mL) (fs0 : List dC) (f : dC) (x : eC) : aIn→Prop
 | .trap _=>True
 | .next fr hp made out=>aQJ m v f x fr hp made out
 | .call fr g=>aXc m v fs0 f x fr g
 | .ret a=>oD m v.hp.length a
theorem aSX {m : fO} (h : ∀ y∈l,oD m n y) (i : Nat) : oD m n (l[i]?.getD eQ):=by
 cases hx : l[i]? with
 | none=>exact rZ
 | some y=>exact h y (List.mem_of_getElem? hx)
theorem aPg {m : fO} {v : mL} (h : HpI m v.hp v.made v.out) (i : Nat) : (v.hp[i]?.getD []).length≤6∧∀ y∈v.hp[i]?.getD [],oD m v.hp.length y:=by
 cases hx : v.hp[i]? with
 | none=>simp
 | some y=>exact h.recs y (List.mem_of_getElem? hx)
theorem aVd {m : fO} (h : ∀ y∈l,oD m n y) {y : eR} (hy : oD m n y) (i : Nat) : ∀ z∈l.set i y,oD m n z:=by
 intro z hz
 rcases List.mem_or_eq_of_mem_set hz with h1 | rfl
 ·exact h z h1
 ·exact hy
theorem aPh {m : fO} {a b : List eR} (h : ∀ y∈a,oD m n y) (h' : ∀ y∈b,oD m n y) : ∀ y∈a++b,oD m n y:=by
 intro y hy
 rcases List.mem_append.1 hy with h1 | h1
 ·exact h y h1
 ·exact h' y h1
theorem aOa {x : eC} (h : x.o≠17∧x.o≠25) : pc+1∈kI x pc:=by simp [kI,h]
theorem aMw {x : eC} (h : x.o=17∨x.o=18∨x.o=19) : x.a∈kI x pc:=by unfold kI;rw [if_pos h];simp
section
variable {m : fO} {v : mL} {fs0 : List dC} {f : dC} {x : eC}
theorem aVe (g : fF m) (h : VmI m v) (t : aHd m v.hp.length f) (hx : pG m.funcs f=x) (hn : fs0.length+1≤24) : aX3 m v fs0 f x (aDE m v fs0 f):=by
 obtain ⟨a1,a2,a3,a4,a5⟩:=g.at_ t.fi t.pc t.d
 have hi : dU m f.f f.pc=x:=hx
 rw [hi] at a1 a2 a4 a5
 have hh:=t.h
 rw [← hh] at a2 a3 a4
 rw [← t.loc] at a1
 have ib:=aAd a1
 show aX3 m v fs0 f x (fX m ⟨f.f,f.pc+1,f.loc,f.stk.take (f.stk.length - (bU m.funcs (pG m.funcs f)).1.toNat)⟩ (f.stk.drop (f.stk.length - (bU m.funcs (pG m.funcs f)).1.toNat)) (fs0.length+1) v.hp v.made v.out (pG m.funcs f))
 rw [hx]
 generalize hb : f.stk.length - (bU m.funcs x).1.toNat=b
 have hlt : ((f.stk.take b).length : Int)=f.stk.length - (bU m.funcs x).1:=by rw [List.length_take];omega
 have hld : ((f.stk.drop b).length : Int)=(bU m.funcs x).1:=by rw [List.length_drop];omega
 have kt : ∀ y∈f.stk.take b,oD m v.hp.length y:=λy hy=>t.vs y (List.mem_of_mem_take hy)
 have kd : ∀ y∈f.stk.drop b,oD m v.hp.length y:=λy hy=>t.vs y (List.mem_of_mem_drop hy)
 have hlef : mN m.funcs x f.stk.length=f.stk.length - (bU m.funcs x).1+(bU m.funcs x).2:=rfl
 generalize htk : f.stk.take b=T at *
 generalize hdr : f.stk.drop b=D at *
 have ka : oD m v.hp.length (D.headD eQ):=by
  cases D with
  | nil=>exact rZ
  | cons y r=>exact kd y (by simp)
 have kb : oD m v.hp.length (D.tail.headD eQ):=by
  cases D with
  | nil=>exact rZ
  | cons y r=>cases r with
    | nil=>exact rZ
    | cons z r=>exact kd z (by simp)
 have ktl : ∀ y∈D.tail,oD m v.hp.length y:=λy hy=>kd y (List.mem_of_mem_tail hy)
 have go : ∀ (l : List eR) (pc : Int),pc∈kI x f.pc→(∀ y∈l,oD m v.hp.length y)→(l.length : Int)=(bU m.funcs x).2→aQJ m v f x ⟨f.f,pc,f.loc,T++l⟩ v.hp v.made v.out:=λl pc hpc hl hn=>
  ⟨rfl,hpc,rfl,by rw [hlef,List.length_append];omega,t.vl,aPh kt hl,Nat.le_refl _,h.hp⟩
 have go0 : ∀ pc : Int,pc∈kI x f.pc→(bU m.funcs x).2=0→aQJ m v f x ⟨f.f,pc,f.loc,T⟩ v.hp v.made v.out:=λpc hpc hn=>by
  have:=go [] pc hpc (by simp) (by simp [hn])
  simpa using this
 have one : ∀ y,oD m v.hp.length y→∀ z∈[y],oD m v.hp.length z:=λy hy z hz=>by rw [List.mem_singleton] at hz;rw [hz];exact hy
 have two : ∀ y y',oD m v.hp.length y→oD m v.hp.length y'→∀ z∈[y,y'],oD m v.hp.length z:=λy y' hy hy' z hz=>by
  simp only [List.mem_cons,List.not_mem_nil,or_false] at hz
  rcases hz with rfl | rfl
  ·exact hy
  ·exact hy'
 obtain ⟨⟨o1,o2⟩,i3,i67,i20,i21,i23,i5,ij,i1⟩:=ib
 have inc : x.o≠17→x.o≠25→f.pc+1∈kI x f.pc:=λh1 h2=>aOa ⟨h1,h2⟩
 unfold fX
 simp only
 by_cases h1 : x.o=1
 ·rw [if_pos h1]
  exact go _ _ (inc (by omega) (by omega)) (one _ (aSW (i1 h1))) (by simp [bU,h1])
 rw [if_neg h1]
 by_cases h2 : x.o=2
 ·rw [if_pos h2]
  exact go _ _ (inc (by omega) (by omega)) (one _ aIq) (by simp [bU,h2])
 rw [if_neg h2]
 by_cases h3 : x.o=3
 ·rw [if_pos h3]
  refine go _ _ (inc (by omega) (by omega)) (one _ (aQI ?_)) (by simp [bU,h3])
  have hok:=g.ok
  simp only [fO.okB,Bool.and_eq_true,bT,decide_eq_true_eq,List.all_eq_true] at hok
  have:=i3 h3
  rw [List.getElem?_eq_getElem (by omega)]
  exact hok.2.2.1 _ (List.getElem_mem _)
 rw [if_neg h3]
 by_cases h4 : x.o=4
 ·rw [if_pos h4]
  exact go _ _ (inc (by omega) (by omega)) (one _ rZ) (by simp [bU,h4])
 rw [if_neg h4]
 by_cases h5 : x.o=5
 ·rw [if_pos h5]
  exact go _ _ (inc (by omega) (by omega)) (one _ (aWx (i5 (.inl h5)))) (by simp [bU,h5])
 rw [if_neg h5]
 by_cases h6 : x.o=6
 ·rw [if_pos h6]
  exact go _ _ (inc (by omega) (by omega)) (one _ (aSX t.vl _)) (by simp [bU,h6])
 rw [if_neg h6]
 by_cases h7 : x.o=7
 ·rw [if_pos h7]
  exact ⟨rfl,inc (by omega) (by omega),by simp,by rw [hlef];simp only;rw [hlt];simp [bU,h7],aVd t.vl ka _,kt,Nat.le_refl _,h.hp⟩
 rw [if_neg h7]
 by_cases h8 : x.o=8
 ·rw [if_pos h8]
  exact go _ _ (inc (by omega) (by omega)) (two _ _ ka ka) (by simp [bU,h8])
 rw [if_neg h8]
 by_cases h9 : x.o=9
 ·rw [if_pos h9]
  exact go _ _ (inc (by omega) (by omega)) (by simp) (by simp [bU,h9])
 rw [if_neg h9]
 by_cases h10 : x.o=10
 ·rw [if_pos h10]
  exact go _ _ (inc (by omega) (by omega)) (two _ _ kb ka) (by simp [bU,h10])
 rw [if_neg h10]
 by_cases h15 : x.o≤15
 ·rw [if_pos h15]
  have hu : (bU m.funcs x).2=1:=by
   have : x.o=11∨x.o=12∨x.o=13∨x.o=14∨x.o=15:=by omega
   rcases this with h | h | h | h | h<;>simp [bU,h]
  split
  ·trivial
  ·exact go _ _ (inc (by omega) (by omega)) (one _ (aXx ka kb)) (by rw [hu];rfl)
 rw [if_neg h15]
 by_cases h16 : x.o=16
 ·rw [if_pos h16]
  split
  ·trivial
  ·refine go _ _ (inc (by omega) (by omega)) (one _ ?_) (by simp [bU,h16])
   unfold aCo
   split
   ·exact rZ
   ·exact aIq
 rw [if_neg h16]
 by_cases h17 : x.o=17
 ·rw [if_pos h17]
  exact go0 _ (aMw (.inl h17)) (by simp [bU,h17])
 rw [if_neg h17]
 by_cases h19 : x.o≤19
 ·rw [if_pos h19]
  have h89 : x.o=18∨x.o=19:=by omega
  have hu : (bU m.funcs x).2=0:=by rcases h89 with h | h<;>simp [bU,h]
  split
  ·trivial
  split
  ·exact go0 _ (aMw (.inr h89)) hu
  ·exact go _ _ (inc (by omega) (by omega)) (by simp) (by rw [hu];rfl)
 rw [if_neg h19]
 by_cases h20 : x.o=20
 ·rw [if_pos h20]
  split
  ·trivial
  rename_i hm
  have hm0:=h.hp.made
  have hl : (v.hp++[List.replicate x.a.toNat eQ]).length=v.hp.length+1:=by simp
  refine ⟨rfl,inc (by omega) (by omega),rfl,?_,λy hy=>xA (by rw [hl];omega) (t.vl y hy),aPh (λy hy=>xA (by rw [hl];omega) (kt y hy)) (λy hy=>?_),by rw [hl];omega,⟨by rw [hl];omega,λr hr=>?_,h.hp.out⟩⟩
  ·rw [hlef];simp only [List.length_append,List.length_singleton]
   have hu : (bU m.funcs x).2=1:=by simp [bU,h20]
   omega
  ·rw [List.mem_singleton] at hy
   rw [hy]
   exact aWw (by rw [hl];omega)
  ·rcases List.mem_append.1 hr with hr | hr
   ·exact ⟨(h.hp.recs r hr).1,λy hy=>xA (by rw [hl];omega) ((h.hp.recs r hr).2 y hy)⟩
   ·rw [List.mem_singleton] at hr
    rw [hr]
    have:=i20 h20
    refine ⟨by rw [List.length_replicate];omega,λy hy=>?_⟩
    rw [List.eq_of_mem_replicate hy]
    exact rZ
 rw [if_neg h20]
 by_cases h21 : x.o=21
 ·rw [if_pos h21]
  split
  ·trivial
  split
  ·trivial
  exact go _ _ (inc (by omega) (by omega)) (one _ (aSX (aPg h.hp _).2 _)) (by simp [bU,h21])
 rw [if_neg h21]
 by_cases h22 : x.o=22
 ·rw [if_pos h22]
  split
  ·trivial
  split
  ·trivial
  have hl : ∀ r,(v.hp.set (D.headD eQ).n.toNat r).length=v.hp.length:=λr=>List.length_set
  refine ⟨rfl,inc (by omega) (by omega),rfl,by rw [hlef];simp only;rw [hlt];simp [bU,h22],λy hy=>by rw [oD,hl];exact t.vl y hy,λy hy=>by rw [oD,hl];exact kt y hy,by rw [hl];omega,⟨by rw [hl];exact h.hp.made,λr hr=>?_,h.hp.out⟩⟩
  rw [hl]
  rcases List.mem_or_eq_of_mem_set hr with hr | hr
  ·exact h.hp.recs r hr
  ·rw [hr]
   exact ⟨by rw [List.length_set];exact (aPg h.hp _).1,aVd (aPg h.hp _).2 kb _⟩
 rw [if_neg h22]
 by_cases h23 : x.o=23
 ·rw [if_pos h23]
  have hxa:=i23 h23
  have hu : bU m.funcs x=(x.a+1,1):=by
   have : 0≤x.a∧x.a≤6:=hxa
   simp [bU,h23,this]
  rw [hu] at hld hb
  simp only at hld hb
  split
  ·trivial
  rename_i hk
  have hk : (D.headD eQ).k=5:=by omega
  split
  ·trivial
  rename_i hp
  have hp : iL m.funcs (D.headD eQ).n=x.a:=by omega
  split
  ·trivial
  rename_i hd
  refine ⟨?_,.inl h23,?_,_,_,rfl,aJs ka hk,by rw [List.length_tail,hp];omega,ktl⟩
  ·omega
  ·rw [← htk,← hb,hu]
 rw [if_neg h23]
 by_cases h24 : x.o=24
 ·rw [if_pos h24]
  have hxa:=i5 (.inr h24)
  have hu : bU m.funcs x=(iL m.funcs x.a,1):=by
   have : 0≤x.a∧x.a<m.funcs.length:=hxa
   simp [bU,h24,this]
  rw [hu] at hld hb
  simp only at hld hb
  split
  ·trivial
  rename_i hd
  refine ⟨?_,.inr h24,?_,_,_,rfl,hxa,hld,kd⟩
  ·omega
  ·rw [← htk,← hb,hu]
 rw [if_neg h24]
 by_cases h25 : x.o=25
 ·rw [if_pos h25]
  exact ka
 rw [if_neg h25]
 have h26 : x.o=26:=by omega
 split
 ·trivial
 rename_i ho
 have:=h.hp.out
 exact ⟨rfl,inc (by omega) (by omega),rfl,by rw [hlef];simp only;rw [hlt];simp [bU,h26],t.vl,kt,Nat.le_refl _,⟨h.hp.made,h.hp.recs,by simp;omega⟩⟩
end
theorem aIr {α : Type} {a b : List α} {x y : α} (h : a++[x]=b++[y]) : a=b∧x=y:=by
 have:=List.append_inj' h rfl
 exact ⟨this.1,by simpa using this.2⟩
theorem aKJ.top {m : fO} {f : dC} {a : eR} (h : aKJ m n f) (ha : oD m n a) : aHd m n ⟨f.f,f.pc,f.loc,f.stk++[a]⟩:=
 ⟨⟨h.fi,h.pc,h.loc,h.d,h.vl,aPh h.vs (λy hy=>by rw [List.mem_singleton] at hy;rw [hy];exact ha)⟩,by
   have:=h.h
   simp only [List.length_append,List.length_singleton]
   omega⟩
theorem aQK {m : fO} (g : fF m) {i : Int} {args : List eR} (hi : 0≤i∧i<m.funcs.length) (hn : (args.length : Int)=iL m.funcs i) (ha : ∀ y∈args,oD m n y) : aHd m n (yP m.funcs i args):=by
 obtain ⟨k,hk,he,hc,F,p1,p2,p3,p4,hlc,hpar,hins⟩:=g.code hi
 have h0 : dAt m i 0=0:=by
  rw [dAt,hc,Int.toNat_zero,aQA F];rfl
 refine ⟨⟨hi,?_,?_,?_,?_,λy hy=>by cases hy⟩,?_⟩
 ·show (0 : Int)≤0∧0<((dR m.funcs i).length : Int)
  have:=F.n1
  rw [hc];omega
 ·show ((args++List.replicate ((aCp m.funcs i).toNat - args.length) eQ).length : Int)=aCp m.funcs i
  rw [List.length_append,List.length_replicate]
  omega
 ·show 0≤dAt m i 0
  omega
 ·refine aPh ha (λy hy=>?_)
  rw [List.eq_of_mem_replicate hy]
  exact rZ
 ·show ((0 : Nat) : Int)=dAt m i 0
  omega
theorem VmI.step {m : fO} (g : fF m) {v : mL} (h : VmI m v) : VmI m (iZ m v):=by
 by_cases h0 : v.st≠0
 ·have : iZ m v=v:=by unfold iZ;rw [if_pos h0]
  rw [this];exact h
 have h0 : v.st=0:=by omega
 by_cases h5 : v.steps=50000
 ·have : iZ m v=v:=by unfold iZ;rw [eV,if_pos h5]
  rw [this];exact h
 obtain ⟨fs0,f,G⟩:=h.goes g h0
 obtain ⟨t,low⟩:=h.top fs0 f G.fr
 have hnf:=h.nfr
 rw [G.fr,List.length_append,List.length_singleton] at hnf
 have hst:=h.steps
 rw [aFD h0 h5 G.fr]
 have A:=aVe (fs0:=fs0) g h t rfl hnf
 obtain ⟨a1,a2,a3,a4,a5⟩:=g.at_ t.fi t.pc t.d
 have hh:=t.h
 have hx : dU m f.f f.pc=pG m.funcs f:=rfl
 rw [hx] at a1 a2 a4 a5
 cases ha : aDE m v fs0 f with
 | trap c=>
   exact ⟨h.hp,by show 0≤v.steps+1∧v.steps+1≤50000;omega,h.nfr,λh=>absurd h (by show (2 : Int)≠0;omega),h.top⟩
 | next fr hp made out=>
   rw [ha] at A
   have A : aQJ m v f (pG m.funcs f) fr hp made out:=A
   obtain ⟨b1,b2⟩:=a5 _ A.pc
   refine ⟨A.hpI,by show 0≤v.steps+1∧v.steps+1≤50000;omega,by show (fs0++[fr]).length≤24;rw [List.length_append,List.length_singleton];exact hnf,λ_=>by show fs0++[fr]≠[];simp,λfs1 f1 he=>?_⟩
   obtain ⟨rfl,rfl⟩:=aIr (show fs0++[fr]=fs1++[f1] from he)
   refine ⟨⟨⟨by rw [A.ff];exact t.fi,by rw [A.ff];exact b1,by rw [A.ff,A.loc];exact t.loc,by rw [A.ff,b2];have:=A.len;rw [hh] at this;omega,A.vl,A.vs⟩,by rw [A.len,A.ff,b2,hh]⟩,λf hf=>(low f hf).mono (n':=(hp.length : Int)) (by have:=A.n;omega)⟩
 | call fr gg=>
   rw [ha] at A
   have A : aXc m v fs0 f (pG m.funcs f) fr gg:=A
   obtain ⟨i,args,rfl,hi,hn,hv⟩:=A.gg
   have hnx : f.pc+1∈kI (pG m.funcs f) f.pc:=aOa (by have:=A.o;omega)
   obtain ⟨b1,b2⟩:=a5 _ hnx
   have hu2 : (bU m.funcs (pG m.funcs f)).2=1:=by
    have ib:=aAd a1
    rcases A.o with ho | ho
    ·have:=ib.2.2.2.2.2.1 ho
     simp [bU,ho,this]
    ·have:=ib.2.2.2.2.2.2.1 (.inr ho)
     simp [bU,ho,this]
   have hlef : mN m.funcs (pG m.funcs f) (dAt m f.f f.pc)=dAt m f.f f.pc - (bU m.funcs (pG m.funcs f)).1+(bU m.funcs (pG m.funcs f)).2:=rfl
   refine ⟨h.hp,by show 0≤v.steps+1∧v.steps+1≤50000;omega,by show (fs0++[fr,yP m.funcs i args]).length≤24;rw [List.length_append];have:=A.n;simp only [List.length_cons,List.length_nil];omega,λ_=>by show fs0++[fr,yP m.funcs i args]≠[];simp,λfs1 f1 he=>?_⟩
   have he : fs0++[fr,yP m.funcs i args]=fs1++[f1]:=he
   rw [show fs0++[fr,yP m.funcs i args]=(fs0++[fr])++[yP m.funcs i args] by simp] at he
   obtain ⟨rfl,rfl⟩:=aIr he
   refine ⟨aQK g hi hn hv,λy hy=>?_⟩
   rcases List.mem_append.1 hy with hy | hy
   ·exact low y hy
   ·rw [List.mem_singleton] at hy
    rw [hy,A.frr]
    refine ⟨⟨t.fi,b1,t.loc,by show 0≤dAt m f.f (f.pc+1);rw [b2];omega,t.vl,λy hy=>t.vs y (List.mem_of_mem_take hy)⟩,?_,?_⟩
    ·show 1≤f.pc+1∧0≤dAt m f.f (f.pc+1 - 1)∧((dU m f.f (f.pc+1 - 1)).o=23∨(dU m f.f (f.pc+1 - 1)).o=24)
     rw [show f.pc+1 - 1=f.pc by omega]
     exact ⟨by have:=t.pc;omega,t.d,A.o⟩
    ·show ((f.stk.take (f.stk.length - (bU m.funcs (pG m.funcs f)).1.toNat)).length : Int)=dAt m f.f (f.pc+1) - 1
     rw [b2,List.length_take]
     omega
 | ret a=>
   rw [ha] at A
   have A : oD m v.hp.length a:=A
   by_cases hf : fs0 = []
   ·have e : aE5 m v fs0 (.ret a)=⟨[],v.hp,v.made,v.out,1,v.tr,a,v.steps+1⟩:=if_pos hf
    rw [e]
    exact ⟨h.hp,by show 0≤v.steps+1∧v.steps+1≤50000;omega,by simp,λh=>absurd h (by show (1 : Int)≠0;omega),λfs1 f1 he=>by simp at he⟩
   ·have e : aE5 m v fs0 (.ret a)=⟨aGi a fs0,v.hp,v.made,v.out,v.st,v.tr,v.val,v.steps+1⟩:=if_neg hf
    rw [e]
    rcases List.eq_nil_or_concat fs0 with e0 | ⟨fs1,f1,e1⟩
    ·exact absurd e0 hf
    rw [List.concat_eq_append] at e1
    subst e1
    rw [aDc]
    simp only [List.length_append,List.length_singleton] at hnf
    refine ⟨h.hp,by show 0≤v.steps+1∧v.steps+1≤50000;omega,by simp only [List.length_append,List.length_singleton];omega,λ_=>by simp,λfs2 f2 he=>?_⟩
    obtain ⟨rfl,rfl⟩:=aIr he
    exact ⟨(low f1 (by simp)).top A,λy hy=>low y (by simp [hy])⟩
end
noncomputable section
open Go
attribute [local irreducible] bd aV aE aH bE aS PV.cell PV.sub aB aK bV dG dL dQ cQ aD dM dB bR bA cG aN aX aC bM bC bD bK aW PV.deref bG cA aT dJ cJ cK dO PV.apply bL bO fK cC
variable {cs : R} {a o x i s : Int} {T M C A : PV} {f : PV → PV → PV → PV → PV → PV → PV → PV → OR}
def aX4 (x : PV) : Prop:=∃ o a : Int,x = .agg [.I o,.I a]∧(-9223372036854775808≤o∧o≤9223372036854775807)∧(-9223372036854775808≤a∧a≤9223372036854775807)
def Cd (cs : R) : Prop:=∀ x∈cs,aX4 x
theorem Cd.el (h : Cd cs) : ∀ x∈cs,x.isEl 2 true=true:=by
 intro x hx
 obtain ⟨o,a,rfl,_⟩:=h x hx
 rfl
theorem Cd.nil : Cd []:=λx hx=>by cases hx
theorem Cd.append {a b : R} (h : Cd a) (k : Cd b) : Cd (a++b):=λx hx=>(List.mem_append.1 hx).elim (h x) (k x)
theorem Cd.one (h : -9223372036854775808≤o∧o≤9223372036854775807) (k : -9223372036854775808≤a∧a≤9223372036854775807) : Cd [.agg [.I o,.I a]]:=by
 intro x hx
 simp only [List.mem_singleton] at hx
 exact ⟨o,a,hx,h,k⟩
section
variable {P : R → Prop} {k : R → OR}
theorem sJ {F L S : PV} (ho : -9223372036854775808≤o∧o≤9223372036854775807) (hx : -9223372036854775808≤x∧x≤9223372036854775807) (hc : Cd cs) (hl : (cs.length : Int)≤1000000000)
 (h : ∀ cs' : R,Cd cs'→(cs'.length : Int)=cs.length+1→Ok P (k [F,T,L,M,C,A,S,.lst cs'])) : Ok P (bd (aP (.I o) (.I x) F T L M C A S (.lst cs)) k):=by
 refine aI (Q:=λr=>r = [F,T,L,M,C,A,S,.lst (cs++[.agg [.I o,.I x]])]) ?_ (λr hr=>?_)
 ·rw [aHb]
  refine bJ rfl (bJ rfl (iT ?_ (Cd.one ho hx).el (aA rfl)))
  simp only [List.length_cons,List.length_nil]
  omega
 ·rw [hr]
  exact h _ (hc.append (Cd.one ho hx)) (by simp)
theorem aAP {F L S D : PV} (hx : 0≤x∧x≤1000000000) (h : Ok P (k [.I (x+1),F,T,L,M,C,A,S,D])) : Ok P (bd (pO (.I x) F T L M C A S D) k):=by
 refine aI (Q:=λr=>r = [.I (x+1),F,T,L,M,C,A,S,D]) ?_ (λr hr=>by rw [hr];exact h)
 rw [aDS]
 refine bS (aA rfl)
end
def aSa : PV→Bool
 | .int .i64 n=>decide (-1000000000≤n)&&decide (n≤1000000000)
 | _=>false
theorem aMx {x : PV} (h : aSa x=true) : ∃ n : Int,x = .I n∧-1000000000≤n∧n≤1000000000:=by
 unfold aSa at h
 split at h
 ·rename_i n
  simp only [Bool.and_eq_true,decide_eq_true_eq] at h
  exact ⟨n,rfl,h⟩
 ·cases h
theorem tM {P : R→Prop} {k : PV→OR} {xs : R} (hx : xs.all aSa=true) (h0 : 0≤i) (h1 : i<xs.length) (h : ∀ x : Int,-1000000000≤x∧x≤1000000000→Ok P (k (.I x))) : Ok P (bd (aB 1 false (.lst xs) (.I i)) k):=by
 rw [List.all_eq_true] at hx
 refine aAk h0 h1 (λx hm=>?_) (λx hm _=>?_)
 ·obtain ⟨n,rfl,_⟩:=aMx (hx x hm);rfl
 ·obtain ⟨n,rfl,hn⟩:=aMx (hx x hm);exact h n hn
theorem gN {P : R→Prop} {k : PV→OR} {m n : Int} (hc : Cd cs) (h0 : 0≤m) (h1 : m≤n) (h2 : n≤cs.length) (h : ∀ cs' : R,Cd cs'→(cs'.length : Int)=n - m→Ok P (k (.lst cs'))) :
 Ok P (bd (bA 2 true (.lst cs) (.I m) (.I n)) k):=by
 refine aCz h0 h1 h2 hc.el (h _ (λx hx=>hc x (List.mem_of_mem_take (List.mem_of_mem_drop hx))) ?_)
 rw [List.length_drop,List.length_take]
 omega
theorem kP {P : R→Prop} {k : PV→OR} {n : Int} (hc : Cd cs) (h0 : 0≤i) (h1 : i<cs.length) (hn : -9223372036854775808≤n∧n≤9223372036854775807) (h : ∀ cs' : R,Cd cs'→(cs'.length : Int)=cs.length→Ok P (k (.lst cs'))) :
 Ok P (bd (aC 2 (.lst cs) (.I i) 1 (.I n)) k):=by
 have hlt : i.toNat<cs.length:=by omega
 have hx : cs[i.toNat]? = some cs[i.toNat]:=List.getElem?_eq_getElem hlt
 obtain ⟨o,a,he,ho,ha⟩:=hc _ (List.mem_of_getElem? hx)
 rw [he] at hx
 refine kM h0 hx rfl (by omega) rfl (h _ (λx hm=>?_) (by rw [List.length_set]))
 rcases List.mem_or_eq_of_mem_set hm with h | h
 ·exact hc x h
 ·exact ⟨o,n,h,ho,hn⟩
def pR (x : PV) : Prop:=∃ p lc : Int,∃ cs : R,x = .agg [.I p,.I lc,.lst cs]∧(0≤p∧p≤2)∧(0≤lc∧lc≤100)∧Cd cs∧1≤(cs.length : Int)∧(cs.length : Int)≤100000000
structure Asm (l : List Int) (fs : R) (t lc : Int) : Prop where
 hl : Bts l
 hf : ∀ x∈fs,pR x
 hn : fs.length≤1000
 ht : 0≤t∧t≤1000
 hlc : 1≤lc∧lc≤1000
theorem pR.el {fs : R} (h : ∀ x∈fs,pR x) : ∀ x∈fs,x.isEl 3 true=true:=by
 intro x hx
 obtain ⟨p,lc,cs,rfl,_⟩:=h x hx
 rfl
def aX5 (l : List Int) (fs : R) (t lc : Int) (mn : PV) (A B0 B : Int) (r : R) : Prop:=∃ a s : Int,∃ cs : R,r = [.lst fs,.I t,.I lc,mn,cX l,.I a,.I s,.lst cs]∧0≤a∧a≤A∧0≤s∧s<65521∧B0≤cs.length∧(cs.length : Int)≤B∧Cd cs
def sB (l : List Int) (fs : R) (t lc : Int) (mn : PV) (c : Int) (f : PV→PV→PV→PV→PV→PV→PV→PV→OR) : Prop:=
 ∀ (a s : Int) (cs : R),0≤a∧a+c≤1000000000∧0≤s∧s<65521→(cs.length : Int)+c≤1000000000→Cd cs→
   Ok (aX5 l fs t lc mn (a+c) cs.length (cs.length+c)) (f (.lst fs) (.I t) (.I lc) mn (cX l) (.I a) (.I s) (.lst cs))
section
variable {P : R → Prop} {k : R → OR} {l : List Int} {fs : R} {t lc : Int} {mn : PV}
theorem oB {c : Int} (H : sB l fs t lc mn c f) (h0 : 0≤a∧a+c≤1000000000∧0≤s∧s<65521) (hl : (cs.length : Int)+c≤1000000000) (hc : Cd cs)
 (h : ∀ (a' s' : Int) (cs' : R),0≤a'∧a'≤a+c∧0≤s'∧s'<65521∧(cs.length : Int)≤cs'.length∧(cs'.length : Int)≤cs.length+c→Cd cs'→
  Ok P (k [.lst fs,.I t,.I lc,mn,cX l,.I a',.I s',.lst cs'])) :
 Ok P (bd (f (.lst fs) (.I t) (.I lc) mn (cX l) (.I a) (.I s) (.lst cs)) k):=
 aI (H a s cs h0 hl hc) (λr ⟨a',s',cs',hr,h1,h2,h3,h4,h5,h6,h7⟩=>by rw [hr];exact h a' s' cs' ⟨h1,h2,h3,h4,h5,h6⟩ h7)
theorem sB.mono {c c' : Int} {f : PV→PV→PV→PV→PV→PV→PV→PV→OR} (H : sB l fs t lc mn c f) (hc : 0≤c∧c≤c') : sB l fs t lc mn c' f:=by
 intro a s cs h0 hl hcs
 refine (H a s cs (by omega) (by omega) hcs).mono ?_
 rintro r ⟨a',s',cs',hr,h1,h2,h3,h4,h5,h6,h7⟩
 exact ⟨a',s',cs',hr,h1,by omega,h3,h4,h5,by omega,h7⟩
theorem aQL (H : Asm l fs t lc) : sB l fs t lc mn 3 (λF T L M C A S D=>kA F T L M C A S D):=by
 intro a s cs h0 hl hc
 obtain ⟨hb,hfs,hfl,ht,hlc⟩:=H
 show Ok _ (kA _ _ _ _ _ _ _ _)
 rw [aCl]
 repeat' (first | refine sJ (by omega) (by omega) (by assumption) (by omega) (λ_ _ _=>?_) | refine dA hb (by omega) (by omega) (λ_ _ _ _=>?_) | refine pQ hb (by omega) (by omega) (λ_ _ _ _=>?_) | refine eH (by omega) (by first | omega | (simp;omega)) ?_ | refine tM rfl (by omega) (by first | omega | (simp;omega)) (λ_ _=>?_) | refine kP (by assumption) (by omega) (by omega) (by omega) (λ_ _ _=>?_) | refine aAP (by omega) ?_ | refine gN (by assumption) (by omega) (by omega) (by omega) (λ_ _ _=>?_) | refine fB ?_ | refine jM ?_ | refine lQ ?_ | refine jN ?_ | refine cL ?_ | refine kZ ?_ | (refine gC (λ_=>?_) (λ_=>?_)) | (refine eL (λ_=>?_) (λ_=>?_)) | refine aZ (λ_=>?_) (λ_=>?_) | refine oQ (by omega) ?_ | refine iS (by omega) ?_ | refine nX (by omega) (by omega) ?_ | refine oR (by omega) (by omega) (by omega) ?_ | refine nW (by omega) ?_ | refine mP (by omega) ?_ | refine dW ?_ | refine eS ?_ | refine gK ?_ | refine cD ?_ | refine mQ (by omega) ?_ | refine bJ rfl ?_ | refine aL rfl ?_ | refine lA rfl ?_ | refine gR rfl ?_ | exact aA ⟨_,_,_,rfl,by omega,by omega,by omega,by omega,by omega,by omega,by assumption⟩)
theorem sA {c : Int} (H : sB l fs t lc mn c f) {A B0 B : Int} (h0 : 0≤a∧a+c≤1000000000∧0≤s∧s<65521) (hl : (cs.length : Int)+c≤1000000000) (hc : Cd cs)
 (hA : a+c≤A) (hB0 : B0≤cs.length) (hB : cs.length+c≤B) :
 Ok (aX5 l fs t lc mn A B0 B) (f (.lst fs) (.I t) (.I lc) mn (cX l) (.I a) (.I s) (.lst cs)):=by
 refine (H a s cs h0 hl hc).mono ?_
 rintro r ⟨a',s',cs',hr,h1,h2,h3,h4,h5,h6,h7⟩
 exact ⟨a',s',cs',hr,h1,by omega,h3,h4,by omega,by omega,h7⟩
def aQM (l : List Int) (fs : R) (t lc : Int) (mn : PV) (n c : Int) : Prop:=∀ d : Int,-1000≤d→d≤n→sB l fs t lc mn c (λF T L M C A S D=>bB (.I d) F T L M C A S D)
theorem aSY (H : Asm l fs t lc) : aQM l fs t lc mn 0 3:=by
 intro d hd1 hd2 a s cs h0 hl hc
 show Ok _ (bB _ _ _ _ _ _ _ _ _)
 rw [yC]
 refine aD7 (λ_=>?_) (λh=>absurd hd2 h)
 exact aQL H a s cs h0 hl hc
section
variable {n c : Int} (V : aQM l fs t lc mn n c) (H : Asm l fs t lc) (hc0 : 0 ≤ c ∧ c ≤ 2097152 ∧ 0 ≤ n ∧ n ≤ 100)
include V H hc0
theorem aBv (m : Int) (hm : 1≤m∧m≤3) (K : Int) (hK : 4≤K∧K≤1000000000) (j : Int) (hj : 0≤j∧j≤10) (ih : ∀ d i : Int,-500≤d→d≤n+1→0≤i→i<j→sB l fs t lc mn K (λF T L M C A S D=>gY (.I d) (.I m) (.I i) F T L M C A S D)) :
 ∀ d i : Int,-500≤d→d≤n+1→0≤i→i≤j→sB l fs t lc mn (K+c+4) (λF T L M C A S D=>gY (.I d) (.I m) (.I i) F T L M C A S D):=by
 intro d i hd1 hd2 hi1 hi2 a s cs h0 hl hc
 obtain ⟨hb,hfs,hfl,ht,hlc⟩:=H
 show Ok _ (gY _ _ _ _ _ _ _ _ _ _ _)
 rw [aBT]
 refine iU (λ_=>?_) (λ_=>?_)
 ·refine sJ (by omega) (by omega) (by assumption) (by omega) (λ_ _ _=>?_)
  refine dS ?_
  refine oB (V _ (by omega) (by omega)) (by omega) (by omega) (by assumption) (λ_ _ _ _ _=>?_)
  refine dA hb (by omega) (by omega) (λ_ _ _ _=>?_)
  refine sJ (by omega) (by omega) (by assumption) (by omega) (λ_ _ _=>?_)
  refine dS ?_
  exact sA (ih d _ hd1 hd2 (by omega) (by omega)) (by omega) (by omega) (by assumption) (by omega) (by omega) (by omega)
 ·repeat' (first | refine sJ (by omega) (by omega) (by assumption) (by omega) (λ_ _ _=>?_) | refine dA hb (by omega) (by omega) (λ_ _ _ _=>?_) | refine pQ hb (by omega) (by omega) (λ_ _ _ _=>?_) | refine eH (by omega) (by first | omega | (simp;omega)) ?_ | refine tM rfl (by omega) (by first | omega | (simp;omega)) (λ_ _=>?_) | refine kP (by assumption) (by omega) (by omega) (by omega) (λ_ _ _=>?_) | refine aAP (by omega) ?_ | refine gN (by assumption) (by omega) (by omega) (by omega) (λ_ _ _=>?_) | refine fB ?_ | refine jM ?_ | refine lQ ?_ | refine jN ?_ | refine cL ?_ | refine kZ ?_ | (refine gC (λ_=>?_) (λ_=>?_)) | (refine eL (λ_=>?_) (λ_=>?_)) | refine aZ (λ_=>?_) (λ_=>?_) | refine oQ (by omega) ?_ | refine iS (by omega) ?_ | refine nX (by omega) (by omega) ?_ | refine oR (by omega) (by omega) (by omega) ?_ | refine nW (by omega) ?_ | refine mP (by omega) ?_ | refine dW ?_ | refine eS ?_ | refine gK ?_ | refine cD ?_ | refine mQ (by omega) ?_ | refine bJ rfl ?_ | refine aL rfl ?_ | refine lA rfl ?_ | refine gR rfl ?_ | exact aA ⟨_,_,_,rfl,by omega,by omega,by omega,by omega,by omega,by omega,by assumption⟩)
theorem aT0 : ∀ d : Int,-500≤d→d≤n+1→sB l fs t lc mn (4*c+40) (λF T L M C A S D=>lZ (.I d) F T L M C A S D):=by
 intro d hd1 hd2 a s cs h0 hl hc
 have H':=H
 obtain ⟨hb,hfs,hfl,ht,hlc⟩:=H
 show Ok _ (lZ _ _ _ _ _ _ _ _ _)
 rw [aDR]
 refine dA hb (by omega) (by omega) (λv _ _ _=>?_)
 refine bS ?_
 refine sJ (by omega) (by omega) (by assumption) (by omega) (λ_ _ _=>?_)
 refine bS ?_
 refine dA hb (by omega) (by omega) (λw _ _ _=>?_)
 have L0:=aBv V H' hc0 (1+v) (by omega) 4 (by omega) 0 (by omega) (λd i _ _ h1 h2=>by omega)
 have L1:=aBv V H' hc0 (1+v) (by omega) (4+c+4) (by omega) 1 (by omega) (λd i g1 g2 h1 h2=>L0 d i g1 g2 h1 (by omega))
 have L2:=aBv V H' hc0 (1+v) (by omega) (4+c+4+c+4) (by omega) 2 (by omega) (λd i g1 g2 h1 h2=>L1 d i g1 g2 h1 (by omega))
 have L3:=aBv V H' hc0 (1+v) (by omega) (4+c+4+c+4+c+4) (by omega) 3 (by omega) (λd i g1 g2 h1 h2=>L2 d i g1 g2 h1 (by omega))
 exact sA (L3 d w hd1 hd2 (by omega) (by omega)) (by omega) (by omega) (by assumption) (by omega) (by omega) (by omega)
def Par (fs : R) (i p : Int) : Prop:=0≤i∧i<fs.length∧(0≤p∧p≤2)∧∃ q r : PV,fs[i.toNat]? = some (.agg [.I p,q,r])
omit V H hc0 in
theorem aPi (H : Asm l fs t lc) {P : R→Prop} {k : PV→OR} {p : Int} (hp : Par fs i p) (h : ∀ q r : PV,Ok P (k (.agg [.I p,q,r]))) : Ok P (bd (aB 3 true (.lst fs) (.I i)) k):=by
 obtain ⟨h0,h1,_,q,r,hq⟩:=hp
 refine aAk h0 h1 (pR.el H.hf) (λx _ hx=>?_)
 rw [hq] at hx
 cases hx
 exact h q r
omit V H hc0 in
theorem aVf (H : Asm l fs t lc) (h0 : 0≤i) (h1 : i<fs.length) : ∃ p,Par fs i p:=by
 have hlt : i.toNat<fs.length:=by omega
 have hx : fs[i.toNat]? = some fs[i.toNat]:=List.getElem?_eq_getElem hlt
 obtain ⟨p,lc,cs,he,hp,_⟩:=H.hf _ (List.mem_of_getElem? hx)
 exact ⟨p,h0,h1,hp,.I lc,.lst cs,by rw [hx,he]⟩
theorem aE7 (f p : Int) (hp : Par fs f p) (K : Int) (hK : 1≤K∧K≤100000000) (j : Int) (ih : ∀ d i : Int,-500≤d→d≤n+1→0≤i→i≤p→p - i<j→sB l fs t lc mn K (λF T L M C A S D=>fD (.I d) (.I f) (.I i) F T L M C A S D)) :
 ∀ d i : Int,-500≤d→d≤n+1→0≤i→i≤p→p - i≤j→sB l fs t lc mn (K+c) (λF T L M C A S D=>fD (.I d) (.I f) (.I i) F T L M C A S D):=by
 intro d i hd1 hd2 hi1 hi2 hi3 a s cs h0 hl hc
 have H':=H
 obtain ⟨hb,hfs,hfl,ht,hlc⟩:=H
 have hp':=hp.2.2.1
 have hf1:=hp.1
 have hf2:=hp.2.1
 show Ok _ (fD _ _ _ _ _ _ _ _ _ _ _)
 rw [aBQ]
 refine aPi H' hp (λq r=>aL rfl (aO (λ_=>?_) (λ_=>?_)))
 ·refine dS ?_
  refine oB (V _ (by omega) (by omega)) (by omega) (by omega) (by assumption) (λ_ _ _ _ _=>?_)
  refine bS ?_
  exact sA (ih d _ hd1 hd2 (by omega) (by omega) (by omega)) (by omega) (by omega) (by assumption) (by omega) (by omega) (by omega)
 ·repeat' (first | refine sJ (by omega) (by omega) (by assumption) (by omega) (λ_ _ _=>?_) | refine dA hb (by omega) (by omega) (λ_ _ _ _=>?_) | refine pQ hb (by omega) (by omega) (λ_ _ _ _=>?_) | refine eH (by omega) (by first | omega | (simp;omega)) ?_ | refine tM rfl (by omega) (by first | omega | (simp;omega)) (λ_ _=>?_) | refine kP (by assumption) (by omega) (by omega) (by omega) (λ_ _ _=>?_) | refine aAP (by omega) ?_ | refine gN (by assumption) (by omega) (by omega) (by omega) (λ_ _ _=>?_) | refine fB ?_ | refine jM ?_ | refine lQ ?_ | refine jN ?_ | refine cL ?_ | refine kZ ?_ | (refine gC (λ_=>?_) (λ_=>?_)) | (refine eL (λ_=>?_) (λ_=>?_)) | refine aZ (λ_=>?_) (λ_=>?_) | refine oQ (by omega) ?_ | refine iS (by omega) ?_ | refine nX (by omega) (by omega) ?_ | refine oR (by omega) (by omega) (by omega) ?_ | refine nW (by omega) ?_ | refine mP (by omega) ?_ | refine dW ?_ | refine eS ?_ | refine gK ?_ | refine cD ?_ | refine mQ (by omega) ?_ | refine bJ rfl ?_ | refine aL rfl ?_ | refine lA rfl ?_ | refine gR rfl ?_ | exact aA ⟨_,_,_,rfl,by omega,by omega,by omega,by omega,by omega,by omega,by assumption⟩)
theorem aT1 (f : Int) (hf : 0≤f∧f<fs.length) : ∀ d : Int,-500≤d→d≤n+1→sB l fs t lc mn (3*c+10) (λF T L M C A S D=>fD (.I d) (.I f) (.I 0) F T L M C A S D):=by
 intro d hd1 hd2
 obtain ⟨p,hp⟩:=aVf H hf.1 hf.2
 have hp':=hp.2.2.1
 have L0:=aE7 V H hc0 f p hp 1 (by omega) 0 (λd i _ _ h1 h2 h3=>by omega)
 have L1:=aE7 V H hc0 f p hp (1+c) (by omega) 1 (λd i g1 g2 h1 h2 h3=>L0 d i g1 g2 h1 h2 (by omega))
 have L2:=aE7 V H hc0 f p hp (1+c+c) (by omega) 2 (λd i g1 g2 h1 h2 h3=>L1 d i g1 g2 h1 h2 (by omega))
 exact (L2 d 0 hd1 hd2 (by omega) (by omega) (by omega)).mono (by omega)
theorem aJw (f p : Int) (hp : Par fs f p) (K : Int) (hK : 1≤K∧K≤100000000) (j : Int) (ih : ∀ d i : Int,-500≤d→d≤n+1→0≤i→i≤p→p - i<j→sB l fs t lc mn K (λF T L M C A S D=>gW (.I d) (.I f) (.I i) F T L M C A S D)) :
 ∀ d i : Int,-500≤d→d≤n+1→0≤i→i≤p→p - i≤j→sB l fs t lc mn (K+c) (λF T L M C A S D=>gW (.I d) (.I f) (.I i) F T L M C A S D):=by
 intro d i hd1 hd2 hi1 hi2 hi3 a s cs h0 hl hc
 have H':=H
 obtain ⟨hb,hfs,hfl,ht,hlc⟩:=H
 have hp':=hp.2.2.1
 have hf1:=hp.1
 have hf2:=hp.2.1
 show Ok _ (gW _ _ _ _ _ _ _ _ _ _ _)
 rw [aBS]
 refine aPi H' hp (λq r=>aL rfl (aO (λ_=>?_) (λ_=>?_)))
 ·refine dS ?_
  refine oB (V _ (by omega) (by omega)) (by omega) (by omega) (by assumption) (λ_ _ _ _ _=>?_)
  refine bS ?_
  exact sA (ih d _ hd1 hd2 (by omega) (by omega) (by omega)) (by omega) (by omega) (by assumption) (by omega) (by omega) (by omega)
 ·refine aPi H' hp (λq r=>aL rfl ?_)
  repeat' (first | refine sJ (by omega) (by omega) (by assumption) (by omega) (λ_ _ _=>?_) | refine dA hb (by omega) (by omega) (λ_ _ _ _=>?_) | refine pQ hb (by omega) (by omega) (λ_ _ _ _=>?_) | refine eH (by omega) (by first | omega | (simp;omega)) ?_ | refine tM rfl (by omega) (by first | omega | (simp;omega)) (λ_ _=>?_) | refine kP (by assumption) (by omega) (by omega) (by omega) (λ_ _ _=>?_) | refine aAP (by omega) ?_ | refine gN (by assumption) (by omega) (by omega) (by omega) (λ_ _ _=>?_) | refine fB ?_ | refine jM ?_ | refine lQ ?_ | refine jN ?_ | refine cL ?_ | refine kZ ?_ | (refine gC (λ_=>?_) (λ_=>?_)) | (refine eL (λ_=>?_) (λ_=>?_)) | refine aZ (λ_=>?_) (λ_=>?_) | refine oQ (by omega) ?_ | refine iS (by omega) ?_ | refine nX (by omega) (by omega) ?_ | refine oR (by omega) (by omega) (by omega) ?_ | refine nW (by omega) ?_ | refine mP (by omega) ?_ | refine dW ?_ | refine eS ?_ | refine gK ?_ | refine cD ?_ | refine mQ (by omega) ?_ | refine bJ rfl ?_ | refine aL rfl ?_ | refine lA rfl ?_ | refine gR rfl ?_ | exact aA ⟨_,_,_,rfl,by omega,by omega,by omega,by omega,by omega,by omega,by assumption⟩)
theorem aWz (f : Int) (hf : 0≤f∧f<fs.length) : ∀ d : Int,-500≤d→d≤n+1→sB l fs t lc mn (3*c+10) (λF T L M C A S D=>jJ (.I d) (.I f) F T L M C A S D):=by
 intro d hd1 hd2 a s cs h0 hl hc
 obtain ⟨p,hp⟩:=aVf H hf.1 hf.2
 have hp':=hp.2.2.1
 have L0:=aJw V H hc0 f p hp 1 (by omega) 0 (λd i _ _ h1 h2 h3=>by omega)
 have L1:=aJw V H hc0 f p hp (1+c) (by omega) 1 (λd i g1 g2 h1 h2 h3=>L0 d i g1 g2 h1 h2 (by omega))
 have L2:=aJw V H hc0 f p hp (1+c+c) (by omega) 2 (λd i g1 g2 h1 h2 h3=>L1 d i g1 g2 h1 h2 (by omega))
 show Ok _ (jJ _ _ _ _ _ _ _ _ _ _)
 rw [aBR]
 exact sA (L2 d 0 hd1 hd2 (by omega) (by omega) (by omega)) (by omega) (by omega) (by assumption) (by omega) (by omega) (by omega)
set_option maxRecDepth 100000 in
set_option maxHeartbeats 4000000 in
theorem aMy : aQM l fs t lc mn (n+1) (4*c+50):=by
 intro d hd1 hd2 a s cs h0 hl hc
 have RO:=aT0 V H hc0
 have IK:=aT1 V H hc0
 have CO:=aWz V H hc0
 have C2:=aQL (mn:=mn) H
 obtain ⟨hb,hfs,hfl,ht,hlc⟩:=H
 show Ok _ (bB _ _ _ _ _ _ _ _ _)
 rw [yC]
 repeat' (first | refine oB (V _ (by omega) (by omega)) (by omega) (by omega) (by assumption) (λ_ _ _ _ _=>?_) | refine oB (RO _ (by omega) (by omega)) (by omega) (by omega) (by assumption) (λ_ _ _ _ _=>?_) | exact sA C2 (by omega) (by omega) (by assumption) (by omega) (by omega) (by omega) | exact sA (IK _ (by omega) _ (by omega) (by omega)) (by omega) (by omega) (by assumption) (by omega) (by omega) (by omega) | exact sA (CO _ (by omega) _ (by omega) (by omega)) (by omega) (by omega) (by assumption) (by omega) (by omega) (by omega) | refine sJ (by omega) (by omega) (by assumption) (by omega) (λ_ _ _=>?_) | refine dA hb (by omega) (by omega) (λ_ _ _ _=>?_) | refine pQ hb (by omega) (by omega) (λ_ _ _ _=>?_) | refine eH (by omega) (by first | omega | (simp;omega)) ?_ | refine tM rfl (by omega) (by first | omega | (simp;omega)) (λ_ _=>?_) | refine kP (by assumption) (by omega) (by omega) (by omega) (λ_ _ _=>?_) | refine aAP (by omega) ?_ | refine gN (by assumption) (by omega) (by omega) (by omega) (λ_ _ _=>?_) | refine fB ?_ | refine jM ?_ | refine lQ ?_ | refine jN ?_ | refine cL ?_ | refine kZ ?_ | (refine gC (λ_=>?_) (λ_=>?_)) | (refine eL (λ_=>?_) (λ_=>?_)) | refine aZ (λ_=>?_) (λ_=>?_) | refine oQ (by omega) ?_ | refine iS (by omega) ?_ | refine nX (by omega) (by omega) ?_ | refine oR (by omega) (by omega) (by omega) ?_ | refine nW (by omega) ?_ | refine mP (by omega) ?_ | refine dW ?_ | refine eS ?_ | refine gK ?_ | refine cD ?_ | refine mQ (by omega) ?_ | refine bJ rfl ?_ | refine aL rfl ?_ | refine lA rfl ?_ | refine gR rfl ?_ | exact aA ⟨_,_,_,rfl,by omega,by omega,by omega,by omega,by omega,by omega,by assumption⟩)
end
end
section
variable {l : List Int} {fs : R} {t lc : Int} {mn : PV}
theorem aIs (H : Asm l fs t lc) : aQM l fs t lc mn 1 62:=aMy (aSY H) H (by omega)
theorem aPj (H : Asm l fs t lc) : aQM l fs t lc mn 2 298:=aMy (aIs H) H (by omega)
theorem aWA (H : Asm l fs t lc) : sB l fs t lc mn 100 (λF T L M C A S D=>rW F T L M C A S D):=by
 intro a s cs h0 hl hc
 have V1:=aIs (mn:=mn) H
 have V0:=aSY (mn:=mn) H
 obtain ⟨hb,hfs,hfl,ht,hlc⟩:=H
 show Ok _ (rW _ _ _ _ _ _ _ _)
 rw [aF2]
 refine oB (V1 _ (by omega) (by omega)) (by omega) (by omega) (by assumption) (λ_ _ _ _ _=>?_)
 refine oB (V0 _ (by omega) (by omega)) (by omega) (by omega) (by assumption) (λ_ _ _ _ _=>?_)
 repeat' (first | refine sJ (by omega) (by omega) (by assumption) (by omega) (λ_ _ _=>?_) | refine dA hb (by omega) (by omega) (λ_ _ _ _=>?_) | refine pQ hb (by omega) (by omega) (λ_ _ _ _=>?_) | refine eH (by omega) (by first | omega | (simp;omega)) ?_ | refine tM rfl (by omega) (by first | omega | (simp;omega)) (λ_ _=>?_) | refine kP (by assumption) (by omega) (by omega) (by omega) (λ_ _ _=>?_) | refine aAP (by omega) ?_ | refine gN (by assumption) (by omega) (by omega) (by omega) (λ_ _ _=>?_) | refine fB ?_ | refine jM ?_ | refine lQ ?_ | refine jN ?_ | refine cL ?_ | refine kZ ?_ | (refine gC (λ_=>?_) (λ_=>?_)) | (refine eL (λ_=>?_) (λ_=>?_)) | refine aZ (λ_=>?_) (λ_=>?_) | refine oQ (by omega) ?_ | refine iS (by omega) ?_ | refine nX (by omega) (by omega) ?_ | refine oR (by omega) (by omega) (by omega) ?_ | refine nW (by omega) ?_ | refine mP (by omega) ?_ | refine dW ?_ | refine eS ?_ | refine gK ?_ | refine cD ?_ | refine mQ (by omega) ?_ | refine bJ rfl ?_ | refine aL rfl ?_ | refine lA rfl ?_ | refine gR rfl ?_ | exact aA ⟨_,_,_,rfl,by omega,by omega,by omega,by omega,by omega,by omega,by assumption⟩)
def aSc (l : List Int) (fs : R) (t lc : Int) (mn : PV) (n c : Int) : Prop:=∀ d : Int,-100≤d→d≤n→sB l fs t lc mn c (λF T L M C A S D=>pB (.I d) F T L M C A S D)
def aPk (l : List Int) (fs : R) (t lc : Int) (mn : PV) (n q c : Int) : Prop:=∀ d : Int,-100≤d→d≤n→sB l fs t lc mn c (λF T L M C A S D=>jQ (.I d) (.I q) F T L M C A S D)
set_option maxRecDepth 100000 in
set_option maxHeartbeats 4000000 in
theorem aXy (H : Asm l fs t lc) : aSc l fs t lc mn 0 500:=by
 intro d hd1 hd2 a s cs h0 hl hc
 have V1:=aIs (mn:=mn) H
 have V2:=aPj (mn:=mn) H
 obtain ⟨hb,hfs,hfl,ht,hlc⟩:=H
 show Ok _ (pB _ _ _ _ _ _ _ _ _)
 rw [zB]
 repeat' (first | (exfalso;omega) | (first | refine oB (V1 _ (by omega) (by omega)) (by omega) (by omega) (by assumption) (λ_ _ _ _ _=>?_) | refine oB (V2 _ (by omega) (by omega)) (by omega) (by omega) (by assumption) (λ_ _ _ _ _=>?_) | refine oB TE (by omega) (by omega) (by assumption) (λ_ _ _ _ _=>?_) | refine oB (L _ (by omega) (by omega)) (by omega) (by omega) (by assumption) (λ_ _ _ _ _=>?_) | exact sA (C7 _ _ (by omega) (by omega) (by omega)) (by omega) (by omega) (by assumption) (by omega) (by omega) (by omega) | refine sJ (by omega) (by omega) (by assumption) (by omega) (λ_ _ _=>?_) | refine dA hb (by omega) (by omega) (λ_ _ _ _=>?_) | refine pQ hb (by omega) (by omega) (λ_ _ _ _=>?_) | refine eH (by omega) (by first | omega | (simp;omega)) ?_ | refine tM rfl (by omega) (by first | omega | (simp;omega)) (λ_ _=>?_) | refine kP (by assumption) (by omega) (by omega) (by omega) (λ_ _ _=>?_) | refine aAP (by omega) ?_ | refine gN (by assumption) (by omega) (by omega) (by omega) (λ_ _ _=>?_) | refine fB ?_ | refine jM ?_ | refine lQ ?_ | refine jN ?_ | refine cL ?_ | refine kZ ?_ | (refine gC (λ_=>?_) (λ_=>?_)) | (refine eL (λ_=>?_) (λ_=>?_)) | refine aZ (λ_=>?_) (λ_=>?_) | refine oQ (by omega) ?_ | refine iS (by omega) ?_ | refine nX (by omega) (by omega) ?_ | refine oR (by omega) (by omega) (by omega) ?_ | refine nW (by omega) ?_ | refine mP (by omega) ?_ | refine dW ?_ | refine eS ?_ | refine gK ?_ | refine cD ?_ | refine mQ (by omega) ?_ | refine bJ rfl ?_ | refine aL rfl ?_ | refine lA rfl ?_ | refine gR rfl ?_ | exact aA ⟨_,_,_,rfl,by omega,by omega,by omega,by omega,by omega,by omega,by assumption⟩))
section
variable {n c : Int} (L : aPk l fs t lc mn n 2 c) (H : Asm l fs t lc) (hc0 : 0 ≤ c ∧ c ≤ 100000 ∧ 0 ≤ n ∧ n ≤ 50)
include L H hc0
set_option maxRecDepth 100000 in
set_option maxHeartbeats 4000000 in
theorem aWB : ∀ d x : Int,1≤d→d≤n+1→0≤x∧x≤1000→sB l fs t lc mn (c+100) (λF T L M C A S D=>kT (.I d) (.I x) F T L M C A S D):=by
 intro d x hd1 hd2 hx a s cs h0 hl hc
 obtain ⟨hb,hfs,hfl,ht,hlc⟩:=H
 show Ok _ (kT _ _ _ _ _ _ _ _ _ _)
 rw [aC7]
 repeat' (first | refine oB (L _ (by omega) (by omega)) (by omega) (by omega) (by assumption) (λ_ _ _ _ _=>?_) | (first | refine sJ (by omega) (by omega) (by assumption) (by omega) (λ_ _ _=>?_) | refine dA hb (by omega) (by omega) (λ_ _ _ _=>?_) | refine pQ hb (by omega) (by omega) (λ_ _ _ _=>?_) | refine eH (by omega) (by first | omega | (simp;omega)) ?_ | refine tM rfl (by omega) (by first | omega | (simp;omega)) (λ_ _=>?_) | refine kP (by assumption) (by omega) (by omega) (by omega) (λ_ _ _=>?_) | refine aAP (by omega) ?_ | refine gN (by assumption) (by omega) (by omega) (by omega) (λ_ _ _=>?_) | refine fB ?_ | refine jM ?_ | refine lQ ?_ | refine jN ?_ | refine cL ?_ | refine kZ ?_ | (refine gC (λ_=>?_) (λ_=>?_)) | (refine eL (λ_=>?_) (λ_=>?_)) | refine aZ (λ_=>?_) (λ_=>?_) | refine oQ (by omega) ?_ | refine iS (by omega) ?_ | refine nX (by omega) (by omega) ?_ | refine oR (by omega) (by omega) (by omega) ?_ | refine nW (by omega) ?_ | refine mP (by omega) ?_ | refine dW ?_ | refine eS ?_ | refine gK ?_ | refine cD ?_ | refine mQ (by omega) ?_ | refine bJ rfl ?_ | refine aL rfl ?_ | refine lA rfl ?_ | refine gR rfl ?_ | exact aA ⟨_,_,_,rfl,by omega,by omega,by omega,by omega,by omega,by omega,by assumption⟩))
set_option maxRecDepth 100000 in
set_option maxHeartbeats 4000000 in
theorem aOb : aSc l fs t lc mn (n+1) (c+600):=by
 intro d hd1 hd2 a s cs h0 hl hc
 have V1:=aIs (mn:=mn) H
 have V2:=aPj (mn:=mn) H
 have TE:=aWA (mn:=mn) H
 have C7:=aWB L H hc0
 obtain ⟨hb,hfs,hfl,ht,hlc⟩:=H
 show Ok _ (pB _ _ _ _ _ _ _ _ _)
 rw [zB]
 repeat' (first | refine oB (V1 _ (by omega) (by omega)) (by omega) (by omega) (by assumption) (λ_ _ _ _ _=>?_) | refine oB (V2 _ (by omega) (by omega)) (by omega) (by omega) (by assumption) (λ_ _ _ _ _=>?_) | refine oB TE (by omega) (by omega) (by assumption) (λ_ _ _ _ _=>?_) | refine oB (L _ (by omega) (by omega)) (by omega) (by omega) (by assumption) (λ_ _ _ _ _=>?_) | exact sA (C7 _ _ (by omega) (by omega) (by omega)) (by omega) (by omega) (by assumption) (by omega) (by omega) (by omega) | refine sJ (by omega) (by omega) (by assumption) (by omega) (λ_ _ _=>?_) | refine dA hb (by omega) (by omega) (λ_ _ _ _=>?_) | refine pQ hb (by omega) (by omega) (λ_ _ _ _=>?_) | refine eH (by omega) (by first | omega | (simp;omega)) ?_ | refine tM rfl (by omega) (by first | omega | (simp;omega)) (λ_ _=>?_) | refine kP (by assumption) (by omega) (by omega) (by omega) (λ_ _ _=>?_) | refine aAP (by omega) ?_ | refine gN (by assumption) (by omega) (by omega) (by omega) (λ_ _ _=>?_) | refine fB ?_ | refine jM ?_ | refine lQ ?_ | refine jN ?_ | refine cL ?_ | refine kZ ?_ | (refine gC (λ_=>?_) (λ_=>?_)) | (refine eL (λ_=>?_) (λ_=>?_)) | refine aZ (λ_=>?_) (λ_=>?_) | refine oQ (by omega) ?_ | refine iS (by omega) ?_ | refine nX (by omega) (by omega) ?_ | refine oR (by omega) (by omega) (by omega) ?_ | refine nW (by omega) ?_ | refine mP (by omega) ?_ | refine dW ?_ | refine eS ?_ | refine gK ?_ | refine cD ?_ | refine mQ (by omega) ?_ | refine bJ rfl ?_ | refine aL rfl ?_ | refine lA rfl ?_ | refine gR rfl ?_ | exact aA ⟨_,_,_,rfl,by omega,by omega,by omega,by omega,by omega,by omega,by assumption⟩)
end
section
variable {n c : Int} (S : aSc l fs t lc mn n c) (H : Asm l fs t lc) (hc0 : 0 ≤ c ∧ c ≤ 100000 ∧ 0 ≤ n ∧ n ≤ 50)
include S H hc0
theorem xB (K : Int) (hK : 0≤K∧K≤10000000) (j : Int) (hj : 0≤j∧j≤100) (ih : ∀ d i : Int,-100≤d→d≤n→0≤i→i<j→sB l fs t lc mn K (λF T L M C A S D=>jB (.I d) (.I i) F T L M C A S D)) :
 ∀ d i : Int,-100≤d→d≤n→0≤i→i≤j→sB l fs t lc mn (K+c) (λF T L M C A S D=>jB (.I d) (.I i) F T L M C A S D):=by
 intro d i hd1 hd2 hi1 hi2 a s cs h0 hl hc
 obtain ⟨hb,hfs,hfl,ht,hlc⟩:=H
 show Ok _ (jB _ _ _ _ _ _ _ _ _ _)
 rw [aC6]
 refine iU (λ_=>?_) (λ_=>?_)
 ·refine eS (aO (λ_=>?_) (λ_=>?_))
  ·refine oB (S _ hd1 hd2) (by omega) (by omega) (by assumption) (λ_ _ _ _ _=>?_)
   refine dS ?_
   exact sA (ih d _ hd1 hd2 (by omega) (by omega)) (by omega) (by omega) (by assumption) (by omega) (by omega) (by omega)
  ·repeat' (first | refine sJ (by omega) (by omega) (by assumption) (by omega) (λ_ _ _=>?_) | refine dA hb (by omega) (by omega) (λ_ _ _ _=>?_) | refine pQ hb (by omega) (by omega) (λ_ _ _ _=>?_) | refine eH (by omega) (by first | omega | (simp;omega)) ?_ | refine tM rfl (by omega) (by first | omega | (simp;omega)) (λ_ _=>?_) | refine kP (by assumption) (by omega) (by omega) (by omega) (λ_ _ _=>?_) | refine aAP (by omega) ?_ | refine gN (by assumption) (by omega) (by omega) (by omega) (λ_ _ _=>?_) | refine fB ?_ | refine jM ?_ | refine lQ ?_ | refine jN ?_ | refine cL ?_ | refine kZ ?_ | (refine gC (λ_=>?_) (λ_=>?_)) | (refine eL (λ_=>?_) (λ_=>?_)) | refine aZ (λ_=>?_) (λ_=>?_) | refine oQ (by omega) ?_ | refine iS (by omega) ?_ | refine nX (by omega) (by omega) ?_ | refine oR (by omega) (by omega) (by omega) ?_ | refine nW (by omega) ?_ | refine mP (by omega) ?_ | refine dW ?_ | refine eS ?_ | refine gK ?_ | refine cD ?_ | refine mQ (by omega) ?_ | refine bJ rfl ?_ | refine aL rfl ?_ | refine lA rfl ?_ | refine gR rfl ?_ | exact aA ⟨_,_,_,rfl,by omega,by omega,by omega,by omega,by omega,by omega,by assumption⟩)
 ·repeat' (first | refine sJ (by omega) (by omega) (by assumption) (by omega) (λ_ _ _=>?_) | refine dA hb (by omega) (by omega) (λ_ _ _ _=>?_) | refine pQ hb (by omega) (by omega) (λ_ _ _ _=>?_) | refine eH (by omega) (by first | omega | (simp;omega)) ?_ | refine tM rfl (by omega) (by first | omega | (simp;omega)) (λ_ _=>?_) | refine kP (by assumption) (by omega) (by omega) (by omega) (λ_ _ _=>?_) | refine aAP (by omega) ?_ | refine gN (by assumption) (by omega) (by omega) (by omega) (λ_ _ _=>?_) | refine fB ?_ | refine jM ?_ | refine lQ ?_ | refine jN ?_ | refine cL ?_ | refine kZ ?_ | (refine gC (λ_=>?_) (λ_=>?_)) | (refine eL (λ_=>?_) (λ_=>?_)) | refine aZ (λ_=>?_) (λ_=>?_) | refine oQ (by omega) ?_ | refine iS (by omega) ?_ | refine nX (by omega) (by omega) ?_ | refine oR (by omega) (by omega) (by omega) ?_ | refine nW (by omega) ?_ | refine mP (by omega) ?_ | refine dW ?_ | refine eS ?_ | refine gK ?_ | refine cD ?_ | refine mQ (by omega) ?_ | refine bJ rfl ?_ | refine aL rfl ?_ | refine lA rfl ?_ | refine gR rfl ?_ | exact aA ⟨_,_,_,rfl,by omega,by omega,by omega,by omega,by omega,by omega,by assumption⟩)
theorem aPl (q : Int) (hq : 1≤q∧q≤6) : aPk l fs t lc mn n q (7*c+2):=by
 intro d hd1 hd2 a s cs h0 hl hc
 have L0:=xB S H hc0 0 (by omega) 0 (by omega) (λd i _ _ h1 h2=>by omega)
 have L1:=xB S H hc0 (0+c) (by omega) 1 (by omega) (λd i g1 g2 h1 h2=>L0 d i g1 g2 h1 (by omega))
 have L2:=xB S H hc0 (0+c+c) (by omega) 2 (by omega) (λd i g1 g2 h1 h2=>L1 d i g1 g2 h1 (by omega))
 have L3:=xB S H hc0 (0+c+c+c) (by omega) 3 (by omega) (λd i g1 g2 h1 h2=>L2 d i g1 g2 h1 (by omega))
 have L4:=xB S H hc0 (0+c+c+c+c) (by omega) 4 (by omega) (λd i g1 g2 h1 h2=>L3 d i g1 g2 h1 (by omega))
 have L5:=xB S H hc0 (0+c+c+c+c+c) (by omega) 5 (by omega) (λd i g1 g2 h1 h2=>L4 d i g1 g2 h1 (by omega))
 have hb:=H.hl
 show Ok _ (jQ _ _ _ _ _ _ _ _ _ _)
 rw [aF0]
 refine dA hb (by omega) (by omega) (λv _ _ _=>?_)
 refine bS ?_
 by_cases hv : 1+v≤5
 ·exact sA ((L5 d (1+v) hd1 hd2 (by omega) hv)) (by omega) (by omega) (by assumption) (by omega) (by omega) (by omega)
 ·have L6:=xB S H hc0 (0+c+c+c+c+c+c) (by omega) 6 (by omega) (λd i g1 g2 h1 h2=>L5 d i g1 g2 h1 (by omega))
  exact sA ((L6 d (1+v) hd1 hd2 (by omega) (by omega))) (by omega) (by omega) (by assumption) (by omega) (by omega) (by omega)
end
theorem aVg (H : Asm l fs t lc) : aPk l fs t lc mn 1 2 30000:=λd h1 h2=>
 (aPl (aOb (aPl (aXy (mn:=mn) H) H (by omega) 2 (by omega)) H (by omega)) H (by omega) 2 (by omega) d h1 (by omega)).mono (by omega)
theorem aXz (H : Asm l fs t lc) (q : Int) (hq : 1≤q∧q≤6) : aPk l fs t lc mn 2 q 500000:=λd h1 h2=>
 (aPl (aOb (aVg (mn:=mn) H) H (by omega)) H (by omega) q hq d h1 (by omega)).mono (by omega)
end
variable {a s : Int} {fs : R}
def oE (x : PV) : Prop:=∃ b : ByteArray,x = .str b∧b.size≤1000
theorem oE.el {ts : R} (h : ∀ x∈ts,oE x) : ∀ x∈ts,x.isEl 1 false=true:=by
 intro x hx
 obtain ⟨b,rfl,_⟩:=h x hx
 rfl
def aMz (l : List Int) (A : Int) (r : R) : Prop:=∃ a s : Int,∃ ts fs : R,r = [.agg [.lst ts,.lst fs],cX l,.I a,.I s]∧0≤a∧a≤A∧0≤s∧s<65521∧(∀ x∈ts,oE x)∧ts.length≤10∧(∀ x∈fs,pR x)∧1≤fs.length∧fs.length≤10
section
variable {l : List Int} (hl : Bts l) {ts : R} (hts : ∀ x ∈ ts, oE x) (htn : ts.length ≤ 10)
include hl hts htn
set_option maxRecDepth 100000 in
set_option maxHeartbeats 4000000 in
theorem aSZ {hs : R} {x4 x5 x7 : PV} (h0 : 0≤a∧a+2097152≤900000000∧0≤s∧s<65521) (hh : ∀ x∈hs,pR x) (hn : hs.length≤3) :
 Ok (aMz l (a+2097152)) (jI (.I 0) (cX l) (.I a) (.I s) x4 x5 (.lst ts) x7 (.lst hs)):=by
 rw [sX]
 refine iU (λh=>by omega) (λ_=>?_)
 refine dA hl (by omega) (by omega) (λp a1 s1 h1=>?_)
 refine dA hl (by omega) (by omega) (λq a2 s2 h2=>?_)
 refine bS (bJ rfl (bJ rfl (eS (bJ rfl (bJ rfl ?_)))))
 have H : Asm l hs (ts.length : Int) (3+q):=⟨hl,hh,by omega,by omega,by omega⟩
 refine aWn hl (by omega) (by omega) (λw a3 s3 h3=>?_)
 refine bS ?_
 refine oB (aXz (mn:=.bool true) H (1+w) (by omega) 2 (by omega) (by omega)) (by omega) (by simp) Cd.nil (λa4 s4 c4 h4 k4=>?_)
 simp only [List.length_nil,Int.natCast_zero] at h4
 refine oB (aIs (mn:=.bool true) H 1 (by omega) (by omega)) (by omega) (by omega) k4 (λa5 s5 c5 h5 k5=>?_)
 refine sJ (by omega) (by omega) k5 (by omega) (λc6 k6 h6=>?_)
 refine iT (by simp;omega) (pR.el hh) ?_
 refine aA ⟨a5,s5,ts,_,rfl,by omega,by omega,by omega,by omega,hts,htn,?_,by simp,by simp;omega⟩
 intro x hx
 rcases List.mem_append.1 hx with hx | hx
 ·simp only [List.mem_singleton] at hx
  exact ⟨p,3+q,c6,hx,by omega,by omega,k6,by omega,by omega⟩
 ·exact hh x hx
set_option maxRecDepth 100000 in
set_option maxHeartbeats 4000000 in
theorem aMA (x4 x5 x7 : PV) : ∀ (j : Nat) (k a s : Int) (hs : R),0≤k→k≤j→(0≤a∧a+2097152+100000*k≤900000000∧0≤s∧s<65521)→(∀ x∈hs,pR x)→(hs.length : Int)+k≤3→
 Ok (aMz l (a+2097152+100000*k)) (jI (.I k) (cX l) (.I a) (.I s) x4 x5 (.lst ts) x7 (.lst hs)):=by
 intro j
 induction j with
 | zero=>
   intro k a s hs hk1 hk2 h0 hh hn
   have : k=0:=by omega
   subst this
   refine (aSZ hl hts htn (by omega) hh (by omega)).mono ?_
   rintro r ⟨a',s',ts',fs',hr,h1,h2,h3⟩
   exact ⟨a',s',ts',fs',hr,h1,by omega,h3⟩
 | succ j ih=>
   intro k a s hs hk1 hk2 h0 hh hn
   by_cases hk : k=0
   ·subst hk
    refine (aSZ hl hts htn (by omega) hh (by omega)).mono ?_
    rintro r ⟨a',s',ts',fs',hr,h1,h2,h3⟩
    exact ⟨a',s',ts',fs',hr,h1,by omega,h3⟩
   rw [sX]
   refine iU (λ_=>?_) (λh=>by omega)
   refine dA hl (by omega) (by omega) (λp a1 s1 h1=>?_)
   refine bJ rfl (bS ?_)
   refine dA hl (by omega) (by omega) (λq a2 s2 h2=>?_)
   refine bS (bJ rfl (eS ?_))
   refine mD (by omega) (pR.el hh) (bJ rfl (bJ rfl ?_))
   have H : Asm l hs (ts.length : Int) (1+p+q):=⟨hl,hh,by omega,by omega,by omega⟩
   have C15 : ∀ (a s : Int) (cs : R),(0≤a∧a+2097152+100000*(k - 1)+1000≤900000000∧0≤s∧s<65521)→Cd cs→(cs.length : Int)≤2097152→
    Ok (aMz l (a+2097152+100000*(k - 1)+1000)) (lE (.I k) (cX l) (.I a) (.I s) (.I p) (.I (1+p+q)) (.lst hs) (.I ts.length) (.I (1+p+q)) (.bool false) x4 x5 (.lst ts) x7 (.lst hs) (.lst []) (.lst cs)):=by
    intro a s cs h0 hc hcl
    rw [aAY]
    refine oB (aPj (mn:=.bool false) H 2 (by omega) (by omega)) (by omega) (by omega) hc (λa5 s5 c5 h5 k5=>?_)
    refine sJ (by omega) (by omega) k5 (by omega) (λc6 k6 h6=>?_)
    have hnew : ∀ x∈[PV.agg [.I p,.I (1+p+q),.lst c6]],pR x:=by
     intro x hx
     simp only [List.mem_singleton] at hx
     exact ⟨p,1+p+q,c6,hx,by omega,by omega,k6,by omega,by omega⟩
    refine iT (by simp;omega) (pR.el hnew) (dS ?_)
    refine (ih (k - 1) a5 s5 (hs++[.agg [.I p,.I (1+p+q),.lst c6]]) (by omega) (by omega) (by omega) (λx hx=>(List.mem_append.1 hx).elim (hh x) (hnew x)) (by simp;omega)).mono ?_
    rintro r ⟨a',s',ts',fs',hr,h1,h2,h3⟩
    exact ⟨a',s',ts',fs',hr,h1,by omega,h3⟩
   refine pQ hl (by omega) (by omega) (λb a3 s3 h3=>?_)
   refine aZ (λ_=>?_) (λ_=>?_)
   ·refine oB (aVg (mn:=.bool false) H 1 (by omega) (by omega)) (by omega) (by simp) Cd.nil (λa4 s4 c4 h4 k4=>?_)
    simp only [List.length_nil,Int.natCast_zero] at h4
    refine (C15 a4 s4 c4 (by omega) k4 (by omega)).mono ?_
    rintro r ⟨a',s',ts',fs',hr,h1,h2,h3⟩
    exact ⟨a',s',ts',fs',hr,h1,by omega,h3⟩
   ·refine (C15 a3 s3 [] (by omega) Cd.nil (by simp)).mono ?_
    rintro r ⟨a',s',ts',fs',hr,h1,h2,h3⟩
    exact ⟨a',s',ts',fs',hr,h1,by omega,h3⟩
end
theorem aQN : ∀ x∈[PV.str (bs []),PV.str (bs [97]),PV.str (bs [98,99]),PV.str (bs [104,101,108,108,111,32,119,111,114,108,100]),PV.str (bs [120,32,121])],oE x:=by
 intro x hx
 simp only [List.mem_cons,List.not_mem_nil,or_false] at hx
 rcases hx with rfl | rfl | rfl | rfl | rfl<;>exact ⟨_,rfl,Nat.le_of_ble_eq_true rfl⟩
theorem aVh {l : List Int} (hl : Bts l) (x4 x5 : PV) : ∀ (j : Nat) (k a s : Int) (ts : R),0≤k→k≤j→(0≤a∧a+2500000+k≤900000000∧0≤s∧s<65521)→(∀ x∈ts,oE x)→(ts.length : Int)+k≤10→
 Ok (aMz l (a+2500000+k)) (mE (.I k) (cX l) (.I a) (.I s) x4 x5 (.lst ts) (.lst [])):=by
 intro j
 induction j with
 | zero=>
   intro k a s ts hk1 hk2 h0 ht hn
   rw [sW]
   refine iU (λh=>by omega) (λ_=>?_)
   refine dA hl (by omega) (by omega) (λp a1 s1 h1=>?_)
   refine (aMA hl ht (by omega) x4 x5 (.lst []) 3 p a1 s1 [] (by omega) (by omega) (by omega) (λx hx=>by cases hx) (by simp;omega)).mono ?_
   rintro r ⟨a',s',ts',fs',hr,h1,h2,h3⟩
   exact ⟨a',s',ts',fs',hr,h1,by omega,h3⟩
 | succ j ih=>
   intro k a s ts hk1 hk2 h0 ht hn
   rw [sW]
   refine iU (λ_=>?_) (λ_=>?_)
   ·refine dA hl (by omega) (by omega) (λp a1 s1 h1=>?_)
    refine eH (by omega) (by simp;omega) ?_
    refine aAk (by omega) (by simp;omega) (oE.el aQN) (λx hx _=>?_)
    have hone : ∀ y∈[x],oE y:=λy hy=>by simp only [List.mem_singleton] at hy;rw [hy];exact aQN x hx
    refine mD (by simp) (oE.el hone) ?_
    refine iT (by simp;omega) (oE.el hone) (dS ?_)
    refine (ih (k - 1) a1 s1 (ts++[x]) (by omega) (by omega) (by omega) (λy hy=>(List.mem_append.1 hy).elim (ht y) (hone y)) (by simp;omega)).mono ?_
    rintro r ⟨a',s',ts',fs',hr,h1,h2,h3⟩
    exact ⟨a',s',ts',fs',hr,h1,by omega,h3⟩
   ·refine dA hl (by omega) (by omega) (λp a1 s1 h1=>?_)
    refine (aMA hl ht (by omega) x4 x5 (.lst []) 3 p a1 s1 [] (by omega) (by omega) (by omega) (λx hx=>by cases hx) (by simp;omega)).mono ?_
    rintro r ⟨a',s',ts',fs',hr,h1,h2,h3⟩
    exact ⟨a',s',ts',fs',hr,h1,by omega,h3⟩
theorem aGk {l : List Int} (hl : Bts l) (h0 : 0≤a∧a≤800000000∧0≤s∧s<65521) : Ok (aMz l (a+3000000)) (pM (cX l) (.I a) (.I s)):=by
 rw [aDN]
 refine dA hl (by omega) (by omega) (λp a1 s1 h1=>?_)
 refine (aVh hl (.lst []) (.lst []) 2 p a1 s1 [] (by omega) (by omega) (by omega) (λx hx=>by cases hx) (by simp;omega)).mono ?_
 rintro r ⟨a',s',ts',fs',hr,h1,h2,h3⟩
 exact ⟨a',s',ts',fs',hr,h1,by omega,h3⟩
theorem aT2 {ts : R} (hf : ∀ x∈fs,pR x) (hn : fs.length≤100) (x3 x4 : PV) : ∀ (j i : Nat),fs.length - i=j→i≤fs.length→
 Ok (λr=>r = [.lst ts,.lst fs]) (mG (.I i) (.lst ts) (.lst fs) x3 x4 (.lst ts) (.lst (fs.take i))):=by
 intro j
 induction j with
 | zero=>
   intro i h1 h2
   rw [sY]
   have : i=fs.length:=by omega
   subst this
   refine eS (aO (λh=>by omega) (λ_=>aA ?_))
   rw [List.take_length]
 | succ j ih=>
   intro i h1 h2
   rw [sY]
   refine eS (aO (λ_=>?_) (λh=>by omega))
   refine aAk (by omega) (by omega) (pR.el hf) (λx hx hi=>?_)
   obtain ⟨p,lc,cs,rfl,hp,hlc,hc,hc1,hc2⟩:=hf x hx
   refine cB ?_
   refine mD (by omega) hc.el (bJ rfl (bJ rfl ?_))
   have hone : ∀ y∈[PV.agg [.I p,.I lc,.lst cs]],pR y:=λy hy=>by
    simp only [List.mem_singleton] at hy
    exact ⟨p,lc,cs,hy,hp,hlc,hc,hc1,hc2⟩
   refine iT (by simp;omega) (pR.el hone) (bS ?_)
   have htk : fs.take i++[PV.agg [.I p,.I lc,.lst cs]]=fs.take (i+1):=by
    have hi' : fs[i]? = some (.agg [.I p,.I lc,.lst cs]):=by simpa using hi
    rw [List.take_add_one,hi'];rfl
   rw [htk]
   exact ih (i+1) (by omega) (by omega)
theorem aWC {ts : R} (ht : ∀ x∈ts,oE x) (htn : ts.length≤10) (hf : ∀ x∈fs,pR x) (hn : fs.length≤100) :
 Ok (λr=>r = [.lst ts,.lst fs]) (tY (.agg [.lst ts,.lst fs])):=by
 rw [aDQ]
 refine dY ?_
 refine mD (by omega) (oE.el ht) ?_
 have:=aT2 (ts:=ts) hf hn (.lst []) (.lst []) fs.length 0 (by omega) (by omega)
 exact this
variable {x : PV} {fs : R} {P : R → Prop} {k : PV → OR} {i n a s : Int}
def qQ (x : PV) : Prop:=∃ p lc : Int,∃ cs : R,x = .agg [.I p,.I lc,.lst cs]∧(-9223372036854775808≤p∧p≤9223372036854775807)∧(-9223372036854775808≤lc∧lc≤9223372036854775807)∧Cd cs∧(cs.length : Int)≤200000000
theorem pR.toFun (h : pR x) : qQ x:=by
 obtain ⟨p,lc,cs,rfl,h1,h2,h3,h4,h5⟩:=h
 exact ⟨p,lc,cs,rfl,by omega,by omega,h3,by omega⟩
theorem qQ.el (h : ∀ x∈fs,qQ x) : ∀ x∈fs,x.isEl 3 true=true:=by
 intro x hx
 obtain ⟨p,lc,cs,rfl,_⟩:=h x hx
 rfl
def aWD (l : List Int) (A : Int) (r : R) : Prop:=∃ a s : Int,∃ ts fs : R,r = [.agg [.lst ts,.lst fs],cX l,.I a,.I s]∧0≤a∧a≤A∧0≤s∧s<65521∧(∀ x∈ts,oE x)∧ts.length≤100∧(∀ x∈fs,qQ x)∧fs.length≤100∧1≤fs.length
theorem aOc : ∀ {ts : R},(∀ x∈ts,oE x)→PV.flatEs false [] ts=true
 | [],_=>by simp [PV.flatEs]
 | x::r,h=>by
   obtain ⟨b,rfl,_⟩:=h x List.mem_cons_self
   simp [PV.flatEs,PV.flatE,PV.flat,aOc (λy hy=>h y (List.mem_cons_of_mem _ hy))]
theorem aOd : ∀ {cs : R},Cd cs→PV.flatEs true [] cs=true
 | [],_=>by simp [PV.flatEs]
 | x::r,h=>by
   obtain ⟨o,a,rfl,_⟩:=h x List.mem_cons_self
   simp [PV.flatEs,PV.flatE,PV.flatCs,PV.flat,aOd (λy hy=>h y (List.mem_cons_of_mem _ hy))]
theorem aOe : ∀ {fs : R},(∀ x∈fs,qQ x)→PV.flatEs true [.leaf,.leaf,.own 2 16 true []] fs=true
 | [],_=>by simp [PV.flatEs]
 | x::r,h=>by
   obtain ⟨p,lc,cs,rfl,_,_,hc,_⟩:=h x List.mem_cons_self
   simp [PV.flatEs,PV.flatE,PV.flatCs,PV.flat,aOd hc,aOe (λy hy=>h y (List.mem_cons_of_mem _ hy))]
theorem jA (hf : ∀ x∈fs,qQ x) (h0 : 0≤i) (hx : fs[i.toNat]? = some x) (h : Ok P (k x)) : Ok P (bd (aB 3 true (.lst fs) (.I i)) k):=by
 refine aAk h0 (by have:=(List.getElem?_eq_some_iff.1 hx).1;omega) (qQ.el hf) (λy _ hy=>?_)
 rw [hx] at hy
 cases hy
 exact h
theorem aVi {cs : R} (hc : Cd cs) (h0 : 0≤i) (h1 : i<cs.length) (hn : -9223372036854775808≤n∧n≤9223372036854775807) (h : ∀ cs' : R,Cd cs'→(cs'.length : Int)=cs.length→Ok P (k (.lst cs'))) :
 Ok P (bd (aC 2 (.lst cs) (.I i) 0 (.I n)) k):=by
 have hlt : i.toNat<cs.length:=by omega
 have hx : cs[i.toNat]? = some cs[i.toNat]:=List.getElem?_eq_getElem hlt
 obtain ⟨o,a,he,ho,ha⟩:=hc _ (List.mem_of_getElem? hx)
 rw [he] at hx
 refine kM h0 hx rfl (by omega) rfl (h _ (λx hm=>?_) (by rw [List.length_set]))
 rcases List.mem_or_eq_of_mem_set hm with h | h
 ·exact hc x h
 ·exact ⟨n,a,h,hn,ha⟩
theorem qQ.set {fs : R} (hf : ∀ x∈fs,qQ x) {i : Nat} {y : PV} (hy : qQ y) : ∀ x∈fs.set i y,qQ x:=by
 intro x hx
 rcases List.mem_or_eq_of_mem_set hx with h | h
 ·exact hf x h
 ·rw [h];exact hy
section
variable {l : List Int} (hl : Bts l) {ts : R} (ht : ∀ x ∈ ts, oE x) (htn : ts.length ≤ 20)
include hl ht htn
theorem aT3 (x3 x4 : PV) : ∀ (j : Nat) (a s : Int) (fs : R),13 - fs.length≤j→(0≤a∧a+j+1≤900000000∧0≤s∧s<65521)→(∀ x∈fs,qQ x)→fs.length≤50→
 Ok (aWD l (a+j+1)) (qM (cX l) (.I a) (.I s) x3 x4 (.lst ts) (.lst fs)):=by
 intro j
 induction j with
 | zero=>
   intro a s fs hj h0 hf hn
   rw [yA]
   refine eS (dA hl (by omega) (by omega) (λp a1 s1 h1=>?_))
   refine bS (aO (λ_=>by omega) (λ_=>?_))
   exact aA ⟨a1,s1,ts,fs,rfl,by omega,by omega,by omega,by omega,ht,by omega,hf,by omega⟩
 | succ j ih=>
   intro a s fs hj h0 hf hn
   rw [yA]
   refine eS (dA hl (by omega) (by omega) (λp a1 s1 h1=>?_))
   refine bS (aO (λ_=>?_) (λ_=>?_))
   ·have hone : ∀ y∈[PV.agg [.I 0,.I 0,.lst [.agg [.I 4,.I 0],.agg [.I 25,.I 0]]]],qQ y:=λy hy=>by
     simp only [List.mem_singleton] at hy
     exact ⟨0,0,_,hy,by omega,by omega,(Cd.one (by omega) (by omega)).append (Cd.one (by omega) (by omega)),by simp⟩
    refine iT (by simp;omega) (qQ.el hone) ?_
    refine (ih a1 s1 _ (by simp;omega) (by omega) (λx hx=>(List.mem_append.1 hx).elim (hf x) (hone x)) (by simp;omega)).mono ?_
    rintro r ⟨a',s',ts',fs',hr,h1,h2,h3⟩
    exact ⟨a',s',ts',fs',hr,h1,by omega,h3⟩
   ·exact aA ⟨a1,s1,ts,fs,rfl,by omega,by omega,by omega,by omega,ht,by omega,hf,by omega⟩
theorem aVj (x3 x4 : PV) (f o i : Int) (hf0 : 0≤f) (ho : -9223372036854775808≤o∧o≤9223372036854775807) (hi : -9223372036854775808≤i∧i≤9223372036854775807) :
 ∀ (j : Nat) (a s : Int) (fs : R) (p lc : Int) (cs : R),fs[f.toNat]? = some (.agg [.I p,.I lc,.lst cs])→121 - cs.length≤j→(0≤a∧a+j+1≤900000000∧0≤s∧s<65521)→(∀ x∈fs,qQ x)→fs.length≤50→
 Ok (aWD l (a+j+1)) (rS (.I f) (cX l) (.I a) (.I s) (.I o) (.I i) x3 x4 (.lst ts) (.lst fs)):=by
 intro j
 induction j with
 | zero=>
   intro a s fs p lc cs hx hj h0 hf hn
   rw [yZ]
   have hlt:=(List.getElem?_eq_some_iff.1 hx).1
   refine eH hf0 (by omega) (jA hf hf0 hx (jA hf hf0 hx (aL rfl (eS (dA hl (by omega) (by omega) (λq a1 s1 h1=>?_))))))
   refine bS (aO (λ_=>by omega) (λ_=>?_))
   exact aA ⟨a1,s1,ts,fs,rfl,by omega,by omega,by omega,by omega,ht,by omega,hf,by omega⟩
 | succ j ih=>
   intro a s fs p lc cs hx hj h0 hf hn
   rw [yZ]
   have hlt:=(List.getElem?_eq_some_iff.1 hx).1
   obtain ⟨p',lc',cs',he,hp,hlc,hc,hcl⟩:=hf _ (List.mem_of_getElem? hx)
   cases he
   refine eH hf0 (by omega) (jA hf hf0 hx (jA hf hf0 hx (aL rfl (eS (dA hl (by omega) (by omega) (λq a1 s1 h1=>?_))))))
   refine bS (aO (λ_=>?_) (λ_=>?_))
   ·refine eH hf0 (by omega) (jA hf hf0 hx (jA hf hf0 hx (aL rfl (jA hf hf0 hx (aL rfl ?_)))))
    refine kM hf0 hx rfl (by omega) rfl ?_
    refine iT (by simp;omega) (Cd.one ho hi).el ?_
    refine eH hf0 (by rw [List.length_set];omega) ?_
    refine kM (cs:=[.I p,.I lc,.hole]) hf0 (List.getElem?_set_self hlt) rfl (by omega) rfl ?_
    rw [List.set_set]
    have hcode : Cd (cs++[.agg [.I o,.I i]]):=hc.append (Cd.one ho hi)
    refine (ih a1 s1 _ p lc (cs++[.agg [.I o,.I i]]) (List.getElem?_set_self hlt) (by simp;omega) (by omega) (qQ.set hf ⟨p,lc,_,rfl,hp,hlc,hcode,by simp;omega⟩) (by rw [List.length_set];exact hn)).mono ?_
    rintro r ⟨a',s',ts',fs',hr,h1,h2,h3⟩
    exact ⟨a',s',ts',fs',hr,h1,by omega,h3⟩
   ·exact aA ⟨a1,s1,ts,fs,rfl,by omega,by omega,by omega,by omega,ht,by omega,hf,by omega⟩
end
theorem aOf : ∀ x∈[PV.str (bs [113,34]),PV.str (bs [10]),PV.str (bs [48,49,50,51,52,53,54,55,56,57,48,49,50,51,52,53,54,55,56,57,48,49,50,51,52,53,54,55,56,57,48,49,50,51,52,53,54,55,56,57,48,49,50,51,52,53,54,55,56,57,48,49,50,51,52,53,54,55,56,57,48]),PV.str (bs [195,169])],oE x:=by
 intro x hx
 simp only [List.mem_cons,List.not_mem_nil,or_false] at hx
 rcases hx with rfl | rfl | rfl | rfl<;>exact ⟨_,rfl,Nat.le_of_ble_eq_true rfl⟩
set_option maxRecDepth 100000 in
set_option maxHeartbeats 4000000 in
theorem aVk {l : List Int} (hl : Bts l) {ts : R} (ht : ∀ x∈ts,oE x) (htn : ts.length≤10) (hh : ∀ x∈fs,pR x) (hn1 : 1≤fs.length) (hn : fs.length≤10) (h0 : 0≤a∧a≤850000000∧0≤s∧s<65521) :
 Ok (aWD l (a+1000)) (aBN (.lst ts) (.lst fs) (cX l) (.I a) (.I s)):=by
 have hf : ∀ x∈fs,qQ x:=λx hx=>(hh x hx).toFun
 rw [aJm]
 refine aI (aWC ht htn hh (by omega)) (λr hr=>?_)
 subst hr
 refine gD (aOc ht) (gD (aOe hf) ?_)
 refine eS (dA hl (by omega) (by omega) (λf a1 s1 h1=>?_))
 have hlt : f.toNat<fs.length:=by omega
 have hx : fs[f.toNat]? = some fs[f.toNat]:=List.getElem?_eq_getElem hlt
 obtain ⟨p,lc,cs,he,hp,hlc,hc,hc1,hcl⟩:=hh _ (List.mem_of_getElem? hx)
 rw [he] at hx
 refine eH (by omega) (by omega) (jA hf (by omega) hx (jA hf (by omega) hx (aL rfl (eS (dA hl (by omega) (by omega) (λi a2 s2 h2=>?_))))))
 refine dA hl (by omega) (by omega) (λq a3 s3 h3=>?_)
 have hset : ∀ cs' : R,Cd cs'→(cs'.length : Int)≤cs.length→∀ x∈fs.set f.toNat (.agg [.I p,.I lc,.lst cs']),qQ x:=λcs' h1 h2=>qQ.set hf ⟨p,lc,cs',rfl,by omega,by omega,h1,by omega⟩
 refine aJ (λ_=>?_) (λ_=>?_)
 ·refine eH (by omega) (by omega) (jA hf (by omega) hx (dA hl (by omega) (by omega) (λw a4 s4 h4=>?_)))
  refine dS (jA hf (by omega) hx (aL rfl (eH (by omega) (by omega) (jA hf (by omega) hx (aL rfl (bJ rfl (jA hf (by omega) hx (aL rfl ?_))))))))
  refine aVi hc (by omega) (by omega) (by omega) (λcs' hc' hl'=>jA hf (by omega) hx (aL rfl ?_))
  refine kM (by omega) hx rfl (by omega) rfl ?_
  exact aA ⟨a4,s4,ts,_,rfl,by omega,by omega,by omega,by omega,ht,by omega,hset cs' hc' (by omega),by rw [List.length_set];omega⟩
 refine aJ (λ_=>?_) (λ_=>?_)
 ·refine eH (by omega) (by omega) (jA hf (by omega) hx (aN0 hl (by omega) (λw a4 s4 h4=>?_)))
  refine jA hf (by omega) hx (aL rfl (eH (by omega) (by omega) (jA hf (by omega) hx (aL rfl (bJ rfl (jA hf (by omega) hx (aL rfl ?_)))))))
  refine kP hc (by omega) (by omega) (by omega) (λcs' hc' hl'=>jA hf (by omega) hx (aL rfl ?_))
  refine kM (by omega) hx rfl (by omega) rfl ?_
  exact aA ⟨a4,s4,ts,_,rfl,by omega,by omega,by omega,by omega,ht,by omega,hset cs' hc' (by omega),by rw [List.length_set];omega⟩
 refine aJ (λ_=>?_) (λ_=>?_)
 ·refine dA hl (by omega) (by omega) (λw a4 s4 h4=>?_)
  refine dS (eH (by omega) (by omega) (bJ rfl ?_))
  refine kM (by omega) hx rfl (by omega) rfl ?_
  exact aA ⟨a4,s4,ts,_,rfl,by omega,by omega,by omega,by omega,ht,by omega,qQ.set hf ⟨w - 1,lc,cs,rfl,by omega,by omega,hc,by omega⟩,by rw [List.length_set];omega⟩
 refine aJ (λ_=>?_) (λ_=>?_)
 ·refine dA hl (by omega) (by omega) (λw a4 s4 h4=>?_)
  refine eH (by omega) (by simp;omega) (tM rfl (by omega) (by simp;omega) (λy hy=>?_))
  refine eH (by omega) (by omega) (bJ rfl ?_)
  refine kM (by omega) hx rfl (by omega) rfl ?_
  exact aA ⟨a4,s4,ts,_,rfl,by omega,by omega,by omega,by omega,ht,by omega,qQ.set hf ⟨p,y,cs,rfl,by omega,by omega,hc,by omega⟩,by rw [List.length_set];omega⟩
 refine aJ (λ_=>?_) (λ_=>?_)
 ·refine dA hl (by omega) (by omega) (λw a4 s4 h4=>?_)
  refine eH (by omega) (by simp;omega) (aAk (by omega) (by simp;omega) (oE.el aOf) (λy hy _=>?_))
  have hone : ∀ z∈[y],oE z:=λz hz=>by simp only [List.mem_singleton] at hz;rw [hz];exact aOf y hy
  refine mD (by simp) (oE.el hone) (iT (by simp;omega) (oE.el hone) ?_)
  exact aA ⟨a4,s4,_,fs,rfl,by omega,by omega,by omega,by omega,λz hz=>(List.mem_append.1 hz).elim (ht z) (hone z),by simp;omega,hf,by omega⟩
 refine aJ (λ_=>?_) (λ_=>?_)
 ·refine eH (by omega) (by omega) (jA hf (by omega) hx (jA hf (by omega) hx (aL rfl (gN hc (by omega) (by omega) (by omega) (λc1 k1 e1=>?_)))))
  refine eH (by omega) (by omega) (jA hf (by omega) hx (bS (jA hf (by omega) hx (aL rfl (eS (gN hc (by omega) (by omega) (by omega) (λc2 k2 e2=>?_)))))))
  refine jA hf (by omega) hx (aL rfl (jA hf (by omega) hx (aL rfl (gN hc (by omega) (by omega) (by omega) (λc3 k3 e3=>?_)))))
  refine gN hc (by omega) (by omega) (by omega) (λc4 k4 e4=>jA hf (by omega) hx (aL rfl ?_))
  refine kM (by omega) hx rfl (by omega) rfl ?_
  refine iT (by omega) k3.el ?_
  refine eH (by omega) (by rw [List.length_set];omega) ?_
  refine kM (cs:=[.I p,.I lc,.hole]) (by omega) (List.getElem?_set_self hlt) rfl (by omega) rfl ?_
  rw [List.set_set]
  exact aA ⟨a3,s3,ts,_,rfl,by omega,by omega,by omega,by omega,ht,by omega,hset _ (k4.append k3) (by rw [List.length_append];omega),by rw [List.length_set];omega⟩
 refine aJ (λ_=>?_) (λ_=>?_)
 ·refine (aT3 hl ht (by omega) (.lst []) (.lst []) 13 a3 s3 fs (by omega) (by omega) hf (by omega)).mono ?_
  rintro r ⟨a',s',ts',fs',hr,h1,h2,h3⟩
  exact ⟨a',s',ts',fs',hr,h1,by omega,h3⟩
 ·refine eH (by omega) (by omega) (jA hf (by omega) hx (jA hf (by omega) hx (aL rfl (eH (by omega) (by omega) (jA hf (by omega) hx (aL rfl ?_))))))
  refine aAk (by omega) (by omega) hc.el (λy hy _=>?_)
  obtain ⟨o,b,rfl,ho,hb⟩:=hc y hy
  refine dY ?_
  refine (aVj hl ht (by omega) (.lst []) (.lst []) f o b (by omega) ho hb 121 a3 s3 fs p lc cs hx (by omega) (by omega) hf (by omega)).mono ?_
  rintro r ⟨a',s',ts',fs',hr,h1,h2,h3⟩
  exact ⟨a',s',ts',fs',hr,h1,by omega,h3⟩
theorem aSd {l : List Int} (hl : Bts l) (hn : 1≤n∧n≤1000) (h0 : 0≤a∧a≤800000000∧0≤s∧s<65521) : Ok (aWD l (a+4000000)) (yM (.I n) (cX l) (.I a) (.I s)):=by
 rw [aG4]
 refine aI (aGk hl h0) ?_
 rintro r ⟨a1,s1,ts,fs,rfl,h1,h2,h3,h4,ht,htn,hf,hn1,hn2⟩
 refine dY ?_
 refine pQ hl (by omega) (by omega) (λb a2 s2 h5=>aZ (λ_=>?_) (λ_=>?_))
 ·refine aI (aVk hl ht htn hf hn1 hn2 (by omega)) ?_
  rintro r ⟨a3,s3,ts3,fs3,rfl,g1,g2,g3,g4,g5,g6,g7,g8⟩
  refine dY ?_
  exact aA ⟨a3,s3,ts3,fs3,rfl,by omega,by omega,by omega,by omega,g5,g6,g7,g8⟩
 ·exact aA ⟨a2,s2,ts,fs,rfl,by omega,by omega,by omega,by omega,ht,by omega,λx hx=>(hf x hx).toFun,by omega⟩
theorem aWE {l : List Int} (hl : Bts l) {k : R→OR} (h : ∀ s : Int,0≤s∧s<65521→Ok P (k [cX l,.I 0,.I s])) : Ok P (bd (aCV (cX l)) k):=by
 refine aI (Q:=λr=>∃ s : Int,r = [cX l,.I 0,.I s]∧0≤s∧s<65521) ?_ (λr ⟨s,hr,hs⟩=>by rw [hr];exact h s hs)
 rw [aKu]
 refine dW (nX (by omega) (by omega) (bS (bJ rfl (bJ rfl (aA ⟨_,rfl,by omega,by omega⟩)))))
def aYO (x : PV) : Prop:=∃ ts fs : R,x = .agg [.lst ts,.lst fs]∧(∀ x∈ts,oE x)∧ts.length≤100∧(∀ x∈fs,qQ x)∧fs.length≤100∧1≤fs.length
def Byt (l : List Int) : Prop:=∀ x∈l,0≤x∧x≤255
theorem aS0 : ∀ {ts : R},(∀ x∈ts,oE x)→∃ l : List ByteArray,ts=l.map PV.str∧∀ t∈l,t.size≤1000
 | [],_=>⟨[],rfl,λt ht=>by cases ht⟩
 | x::r,h=>by
   obtain ⟨b,rfl,hb⟩:=h x List.mem_cons_self
   obtain ⟨l,rfl,hl⟩:=aS0 (λy hy=>h y (List.mem_cons_of_mem _ hy))
   refine ⟨b::l,rfl,λt ht=>?_⟩
   rcases List.mem_cons.1 ht with rfl | ht
   ·exact hb
   ·exact hl t ht
theorem aS1 : ∀ {cs : R},Cd cs→∃ l : List eC,cs=l.map eC.pv
 | [],_=>⟨[],rfl⟩
 | x::r,h=>by
   obtain ⟨o,a,rfl,_⟩:=h x List.mem_cons_self
   obtain ⟨l,rfl⟩:=aS1 (λy hy=>h y (List.mem_cons_of_mem _ hy))
   exact ⟨⟨o,a⟩::l,rfl⟩
theorem aS2 : ∀ {fs : R},(∀ x∈fs,qQ x)→∃ l : List eJ,fs=l.map eJ.pv∧∀ f∈l,f.code.length≤1000000000
 | [],_=>⟨[],rfl,λt ht=>by cases ht⟩
 | x::r,h=>by
   obtain ⟨p,lc,cs,rfl,_,_,hc,hl⟩:=h x List.mem_cons_self
   obtain ⟨l,rfl,hl2⟩:=aS2 (λy hy=>h y (List.mem_cons_of_mem _ hy))
   obtain ⟨c,rfl⟩:=aS1 hc
   refine ⟨⟨p,lc,c⟩::l,rfl,λt ht=>?_⟩
   rcases List.mem_cons.1 ht with rfl | ht
   ·rw [List.length_map] at hl
    show c.length≤_
    omega
   ·exact hl2 t ht
theorem aXA {l : List Int} (hb : Byt l) {P : R→Prop} {k : R→OR} (h1 : Bts l→Ok P (k [.bool false])) (h2 : Ok P (k [.bool true])) : Ok P (bd (aL2 (cX l)) k):=by
 refine aI (Q:=λr=>r = [.bool (decide ((1048576 : Int)<l.length))]) ?_ (λr hr=>?_)
 ·rw [aQt]
  exact dW (lQ (aA rfl))
 ·subst hr
  by_cases h : (1048576 : Int)<l.length
  ·rw [decide_eq_true h];exact h2
  ·rw [decide_eq_false h];exact h1 ⟨hb,by omega⟩
end
noncomputable section
open Go Go.IntWalk
attribute [local irreducible] bd aV aE aH bE aS PV.cell PV.sub aB aK bV dG dL dQ cQ aD dM dB bR bA cG aN aX aC bM bC bD bK aW PV.deref bG cA aT dJ cJ cK dO PV.apply bL bO fK cC
variable {fs : List eJ} {pc : Nat} {c i : Int} {kp : PV → OR}
def aBw (m : fO) : Bool:=m.okB&&(bad m.funcs).isNone
theorem aAQ {m : fO} (hs : m.sized) (h : aBw m=true) : fF m:=by
 simp only [aBw,Bool.and_eq_true,Option.isNone_iff_eq_none] at h
 exact ⟨hs,h.1,h.2⟩
theorem aT4 {code : List eC} {d : List Int} (h : aIo fs code d pc=some c) : c≠0:=by
 unfold aIo at h
 repeat' split at h
 all_goals first
  | (cases h;done)
  | (injection h with h;omega)
theorem aQO {f : Nat} (h : bad fs=some (c,f,pc)) : c≠0:=by
 unfold bad at h
 obtain ⟨i,_,h⟩:=List.exists_of_findSome?_eq_some h
 unfold aN9 at h
 split at h
 ·obtain ⟨j,_,h⟩:=List.exists_of_findSome?_eq_some h
  unfold aGj at h
  simp only [Option.map_eq_some_iff] at h
  obtain ⟨c',h1,h2⟩:=h
  injection h2 with h2 h3
  rw [← h2]
  exact aT4 h1
 ·cases h
section
variable {P : R → Prop} {k : R → OR}
theorem aK1 {m : fO} (hs : m.sized) (h : Ok P (k [.bool (aBw m)])) : Ok P (bd (vF m.pv) k):=by
 refine aI (Q:=λr=>r = [.bool (aBw m)]) ?_ (λr hr=>by rw [hr];exact h)
 rw [aKp]
 refine dY (aI (aQG hs) (λr hr=>?_))
 subst hr
 show Ok _ (bd (PV.cell m.verify 0) _)
 unfold fO.verify aBw
 cases ho : m.okB with
 | false=>exact aL (y:=.I 1) rfl (cL (aA rfl))
 | true=>
   simp only [if_true,Bool.true_and]
   cases hb : bad m.funcs with
   | none=>exact aL (y:=.I 0) rfl (cL (aA rfl))
   | some p=>
     obtain ⟨c,f,pc⟩:=p
     have:=aQO hb
     refine aL (y:=.I c) rfl (cL (aA ?_))
     rw [decide_eq_false this];rfl
theorem aIt {m : fO} (hs : m.sized) (h : Ok P (k [.bool (aBw m)])) : Ok P (bd (xS m.pv) k):=by
 refine aI (Q:=λr=>r = [.bool (aBw m)]) ?_ (λr hr=>by rw [hr];exact h)
 rw [aL4]
 refine dY (aI (aQH hs) (λr hr=>?_))
 subst hr
 show Ok _ (bd (bE 3 m.verify) _)
 have eq : ∀ a b c : Int,(cQ [1,1,1] .eql (.agg [.I a,.I b,.I c]) (.agg [.I 0,.I 0,.I 0]))=some (.bool (decide (a=0)&&(decide (b=0)&&decide (c=0)))):=by
  intro a b c
  simp [cQ,eU,iB,vZ]
  rfl
 unfold fO.verify aBw
 cases ho : m.okB with
 | false=>exact gR (cs:=[.I 1,.I 0,.I 0]) rfl (aL rfl (aL rfl (aL rfl (eZ _ (eq _ _ _) (aA rfl)))))
 | true=>
   simp only [if_true,Bool.true_and]
   cases hb : bad m.funcs with
   | none=>exact gR (cs:=[.I 0,.I 0,.I 0]) rfl (aL rfl (aL rfl (aL rfl (eZ _ (eq _ _ _) (aA rfl)))))
   | some p=>
     obtain ⟨c,f,pc⟩:=p
     have:=aQO hb
     refine gR (cs:=[.I c,.I f,.I pc]) rfl (aL rfl (aL rfl (aL rfl (eZ _ (eq _ _ _) (aA ?_)))))
     rw [decide_eq_false this];rfl
end
section
variable {P : R → Prop} {m : fO}
theorem sZ (h0 : 0≤i∧i<m.funcs.length) (h : ∀ lc,Ok P (kp (.agg [.I (iL m.funcs i),lc,.lst ((dR m.funcs i).map eC.pv)]))) : Ok P (bd (aB 3 true (.lst (m.funcs.map eJ.pv)) (.I i)) kp):=by
 obtain ⟨j,rfl⟩:=Int.eq_ofNat_of_zero_le h0.1
 have hj : j<m.funcs.length:=by omega
 refine aQ hj (λ_=>rfl) ?_
 have:=h (.I m.funcs[j].lc)
 have e1 : dR m.funcs j=m.funcs[j].code:=by simp [dR,List.getElem?_eq_getElem hj]
 have e2 : iL m.funcs j=m.funcs[j].p:=by simp [iL,List.getElem?_eq_getElem hj]
 rw [e1,e2] at this
 exact this
theorem xC (h0 : 0≤i∧i<m.funcs.length) (h : Ok P (kp (.agg [.I (iL m.funcs i),.I (aCp m.funcs i),.lst ((dR m.funcs i).map eC.pv)]))) : Ok P (bd (aB 3 true (.lst (m.funcs.map eJ.pv)) (.I i)) kp):=by
 obtain ⟨j,rfl⟩:=Int.eq_ofNat_of_zero_le h0.1
 have hj : j<m.funcs.length:=by omega
 refine aQ hj (λ_=>rfl) ?_
 have e1 : dR m.funcs j=m.funcs[j].code:=by simp [dR,List.getElem?_eq_getElem hj]
 have e2 : iL m.funcs j=m.funcs[j].p:=by simp [iL,List.getElem?_eq_getElem hj]
 have e3 : aCp m.funcs j=m.funcs[j].lc:=by simp [aCp,List.getElem?_eq_getElem hj]
 rw [e1,e2,e3] at h
 exact h
def vmZ : mL:=⟨[],[],0,[],0,0,eQ,0⟩
end
variable {a b : Int}
section
variable {P : R → Prop} {k : R → OR}
def aQP (a b : Int) : Int:=if a<b then -1 else if b<a then 1 else 0
theorem aVl (h : Ok P (k [.bool false])) : Ok P (bd (xJ (.I a)) k):=by
 refine aI (Q:=λr=>r = [.bool false]) ?_ (λr hr=>by rw [hr];exact h)
 rw [aJd]
 exact kZ (aA (by simp))
theorem aPm (h : Ok P (k [.I (aQP a b)])) : Ok P (bd (tD (.I a) (.I b)) k):=by
 refine aI (Q:=λr=>r = [.I (aQP a b)]) ?_ (λr hr=>by rw [hr];exact h)
 rw [aGS]
 refine aVl (aVl (bP (bP (aO (λh=>aA ?_) (λh=>iU (λh'=>aA ?_) (λh'=>aA ?_))))))
 ·rw [aQP,if_pos h]
 ·rw [aQP,if_neg h,if_pos h']
 ·rw [aQP,if_neg h,if_neg h']
theorem aVm (h : Ok P (k [.I (if a≠0 then a else b)])) : Ok P (bd (aN 1 8 false (.lst []) (.lst [.I a,.I b])) λv=>bd (aGD v) k):=by
 refine aSP (aI (Q:=λr=>r = [.I (if a≠0 then a else b)]) ?_ (λr hr=>by rw [hr];exact h))
 rw [aM9]
 refine gU ?_
 rw [wX]
 refine fB (bF ?_)
 refine fR (i:=0) (l:=[a,b]) (by simp) ?_
 refine dD (λh0=>aA (by rw [if_pos (show a≠0 from h0)];rfl)) (λh0=>bS ?_)
 have h0 : a=0:=h0
 rw [wX]
 refine fB (bF ?_)
 refine fR (i:=1) (l:=[a,b]) (by simp) ?_
 refine dD (λh1=>aA (by rw [eV];rfl)) (λh1=>bS ?_)
 rw [wX]
 refine fB (bP (aA ?_))
 have : b=0:=h1
 rw [eV,this]
end
structure hY where
 f : Int
 pc : Int
 seen : Int
 tgt : Int
def hY.pv (s : hY) : PV:=.agg [.I s.f,.I s.pc,.I s.seen,.I s.tgt]
def bN (l : List hY) : PV:=.lst (l.map hY.pv)
def isW (o : Int) : Prop:=o=23∨(11≤o∧o≤14)
instance (o : Int) : Decidable (isW o):=by unfold isW;infer_instance
def dZ (a b : hY) : Prop:=a.f<b.f∨(a.f=b.f∧a.pc<b.pc)
instance (a b : hY) : Decidable (dZ a b):=by unfold dZ;infer_instance
def plP (m : fO) (f pc : Int) : Prop:=(0≤f∧f<m.funcs.length)∧(0≤pc∧pc<(dR m.funcs f).length)
instance (m : fO) (f pc : Int) : Decidable (plP m f pc):=by unfold plP;infer_instance
def jR (m : fO) (s : hY) : Prop:=plP m s.f s.pc∧
 (((dU m s.f s.pc).o=23∧s.seen=1∧0≤s.tgt∧s.tgt<m.funcs.length)∨((dU m s.f s.pc).o=23∧s.seen=2∧s.tgt=0)∨((11≤(dU m s.f s.pc).o∧(dU m s.f s.pc).o≤14)∧1≤s.seen∧s.seen≤3∧s.tgt=0))
instance (m : fO) (s : hY) : Decidable (jR m s):=by unfold jR;infer_instance
def aDF (m : fO) : Option hY→List hY→Bool
 | _,[]=>true
 | q,s::r=>decide (jR m s)&&((match q with | none=>true | some q=>decide (dZ q s))&&aDF m (some s) r)
def aGl (m : fO) (p : List hY) : Bool:=decide (p.length≤150)&&aDF m none p
def aOg (p : List hY) (i : Nat) : Option hY:=if i=0 then none else p[i - 1]?
theorem aHe {p : List hY} {i : Nat} (h : i<p.length) : aOg p (i+1)=some p[i]:=by simp [aOg,List.getElem?_eq_getElem h]
section
variable {P : R → Prop} {k : R → OR} {m : fO}
theorem uB {kp : PV→OR} {i j : Int} (h0 : 0≤j∧j<(dR m.funcs i).length) (h : Ok P (kp (.agg [.I (dU m i j).o,.I (dU m i j).a]))) : Ok P (bd (aB 2 true (.lst ((dR m.funcs i).map eC.pv)) (.I j)) kp):=by
 obtain ⟨q,rfl⟩:=Int.eq_ofNat_of_zero_le h0.1
 have hq : q<(dR m.funcs i).length:=by omega
 refine aQ hq (λ_=>rfl) ?_
 have e : dU m i q=(dR m.funcs i)[q]:=by simp [dU,List.getElem?_eq_getElem hq]
 rw [e] at h
 exact h
theorem aVp (hs : m.sized) (i : Int) : (dR m.funcs i).length≤1000000000:=by
 unfold dR
 cases hx : m.funcs[i.toNat]? with
 | none=>simp
 | some f=>exact hs.2.2.2 f (List.mem_of_getElem? hx)
theorem aXB {o : Int} (h : Ok P (k [.bool (decide (isW o))])) : Ok P (bd (aGG (.I o)) k):=by
 refine aI (Q:=λr=>r = [.bool (decide (isW o))]) ?_ (λr hr=>by rw [hr];exact h)
 rw [aNe]
 have t : isW o→Ok (λr=>r = [.bool (decide (isW o))]) (some [.bool true]):=λh=>aA (by rw [decide_eq_true h])
 have f : ¬ isW o→Ok (λr=>r = [.bool (decide (isW o))]) (some [.bool false]):=λh=>aA (by rw [decide_eq_false h])
 unfold isW at t f ⊢
 refine aJ (λ_=>t (by omega)) (λ_=>?_)
 refine aJ (λ_=>t (by omega)) (λ_=>?_)
 refine aJ (λ_=>t (by omega)) (λ_=>?_)
 refine aJ (λ_=>t (by omega)) (λ_=>?_)
 exact aJ (λ_=>t (by omega)) (λ_=>f (by omega))
theorem aVq {a b : hY} (h : Ok P (k [.bool (decide (dZ a b))])) : Ok P (bd (aCZ a.pv b.pv) k):=by
 refine aI (Q:=λr=>r = [.bool (decide (dZ a b))]) ?_ (λr hr=>by rw [hr];exact h)
 rw [aKA]
 have t : (a.f<b.f∨(a.f=b.f∧a.pc<b.pc))→decide (dZ a b)=true:=λh=>decide_eq_true h
 have f : ¬ (a.f<b.f∨(a.f=b.f∧a.pc<b.pc))→decide (dZ a b)=false:=λh=>decide_eq_false h
 refine jG (jG ?_)
 refine aO (λh=>aA (by rw [t (by omega)])) (λh=>aJ (λh'=>fB (aA ?_)) (λh'=>aA (by rw [f (by omega)])))
 by_cases h2 : a.pc<b.pc
 ·rw [t (by omega),decide_eq_true h2]
 ·rw [f (by omega),decide_eq_false h2]
theorem aWF {a b : hY} (h : ∀ n : Int,(0≤n↔¬ dZ a b)→Ok P (k [.I n])) : Ok P (bd (iW a.pv b.pv) k):=by
 refine aI (Q:=λr=>∃ n : Int,r = [.I n]∧(0≤n↔¬ dZ a b)) ?_ (λr ⟨n,hr,hn⟩=>by rw [hr];exact h n hn)
 rw [xW]
 refine jG (jG ?_)
 refine aPm (aPm (aVm (eF rfl (aA ⟨_,rfl,?_⟩))))
 unfold aQP dZ
 repeat' split
 all_goals omega
end
variable {f pc : Int} {s : hY} {p : List hY}
def aT5 (m : fO) (f pc : Int) : R:=if plP m f pc then [.tup [.agg [.I (dU m f pc).o,.I (dU m f pc).a],.bool true]] else [.tup [.agg [.I 0,.I 0],.bool false]]
section
variable {P : R → Prop} {k : R → OR} {m : fO}
theorem aQQ (hs : m.sized) : Ok (λr=>r=aT5 m f pc) (aCR m.pv (.I f) (.I pc)):=by
 have hfl:=hs.2.1
 have hcl:=aVp hs f
 rw [aM8]
 have no : ¬ ((0≤f∧f<m.funcs.length)∧(0≤pc∧pc<(dR m.funcs f).length))→Ok (λr=>r=aT5 m f pc) (some [.tup [.agg [.I 0,.I 0],.bool false]]):=λh=>aA (by rw [aT5,if_neg (show ¬ plP m f pc from h)])
 have yes : ((0≤f∧f<m.funcs.length)∧(0≤pc∧pc<(dR m.funcs f).length))→Ok (λr=>r=aT5 m f pc) (some [.tup [.agg [.I (dU m f pc).o,.I (dU m f pc).a],.bool true]]):=λh=>aA (by rw [aT5,if_pos (show plP m f pc from h)])
 refine dY (aF (hU (by omega) (cD ?_)))
 cases hb : mA f 0 ((m.funcs.length : Int) - 1) with
 | false=>exact bF (no (by have:=aIg.1 hb;omega))
 | true=>
   have h1:=bT.1 hb
   refine bP (sZ (by omega) (λlc=>aL rfl (aF (hU (by omega) (cD ?_)))))
   cases hb2 : mA pc 0 (((dR m.funcs f).length : Int) - 1) with
   | false=>exact bF (no (by have:=aIg.1 hb2;omega))
   | true=>
     have h2:=bT.1 hb2
     exact bP (sZ (by omega) (λlc=>aL rfl (uB (by omega) (dY (yes (by omega))))))
theorem aVr (hs : m.sized) (h1 : plP m f pc→Ok P (k [.tup [.agg [.I (dU m f pc).o,.I (dU m f pc).a],.bool true]])) (h2 : ¬ plP m f pc→Ok P (k [.tup [.agg [.I 0,.I 0],.bool false]])) :
 Ok P (bd (aCR m.pv (.I f) (.I pc)) k):=by
 refine aI (aQQ hs) (λr hr=>?_)
 subst hr
 unfold aT5
 by_cases h : plP m f pc
 ·rw [if_pos h];exact h1 h
 ·rw [if_neg h];exact h2 h
theorem aMB {o a : Int} (h : Ok P (k [.bool (mA o 11 14)])) : Ok P (bd (zI (.agg [.I o,.I a])) k):=by
 refine aI (Q:=λr=>r = [.bool (mA o 11 14)]) ?_ (λr hr=>by rw [hr];exact h)
 rw [aKn]
 exact dY (gB (aA rfl))
theorem aT6 (hs : m.sized) : Ok (λr=>r = [.bool (decide (jR m s))]) (aEB m.pv s.pv):=by
 have hfl:=hs.2.1
 rw [aL6]
 have ans : ∀ b : Bool,(b=true↔jR m s)→Ok (λr=>r = [.bool (decide (jR m s))]) (some [.bool b]):=by
  intro b hb
  refine aA ?_
  congr 2
  cases b with
  | true=>exact (decide_eq_true (hb.1 rfl)).symm
  | false=>exact (decide_eq_false (λh=>by have:=hb.2 h;cases this)).symm
 refine dY (jG ?_)
 refine aVr hs (λhp=>?_) (λhp=>?_)
 ·refine gZ (dY (vR ?_))
  have c6 : ¬ ((dU m s.f s.pc).o=23∧s.seen=1)→Ok (λr=>r = [.bool (decide (jR m s))]) (vD (.I s.f) (.I s.pc) (.I s.seen) (.I s.tgt) (.I (dU m s.f s.pc).o) (.I (dU m s.f s.pc).a)):=by
   intro hn
   rw [aHX]
   refine aJ (λh1=>aJ (λh2=>cL (ans _ ?_)) (λh2=>ans _ ?_)) (λh1=>aMB ?_)
   ·rw [decide_eq_true_eq];unfold jR;constructor
    ·intro h;exact ⟨hp,by omega⟩
    ·rintro ⟨_,h⟩;omega
   ·unfold jR;constructor
    ·intro h;cases h
    ·rintro ⟨_,h⟩;omega
   ·cases hb : mA (dU m s.f s.pc).o 11 14 with
    | false=>
      have hb:=aIg.1 hb
      refine bP (ans _ ?_)
      unfold jR;constructor
      ·intro h;cases h
      ·rintro ⟨_,h⟩;omega
    | true=>
      have hb:=bT.1 hb
      refine bF (gB ?_)
      cases hb2 : mA s.seen 1 3 with
      | false=>
        have hb2:=aIg.1 hb2
        refine bP (ans _ ?_)
        unfold jR;constructor
        ·intro h;cases h
        ·rintro ⟨_,h⟩;omega
      | true=>
        have hb2:=bT.1 hb2
        refine bF (cL (ans _ ?_))
        rw [decide_eq_true_eq];unfold jR;constructor
        ·intro h;exact ⟨hp,by omega⟩
        ·rintro ⟨_,h⟩;omega
  refine aJ (λh1=>aJ (λh2=>?_) (λh2=>c6 (by omega))) (λh1=>c6 (by omega))
  rw [aHW]
  refine aF (hU (by omega) (ans _ ?_))
  rw [bT];unfold jR;constructor
  ·intro h;exact ⟨hp,by omega⟩
  ·rintro ⟨_,h⟩;omega
 ·refine gZ (dY (aV9 (ans _ ?_)))
  unfold jR;constructor
  ·intro h;cases h
  ·rintro ⟨h,_⟩;exact absurd h hp
theorem aJ6 (hs : m.sized) (hp : p.length≤2097152) : Ok (λr=>r = [.bool (aGl m p)]) (vC m.pv (bN p)):=by
 rw [aHV]
 refine dY (aF ?_)
 have e : aGl m p=(aDF m (aOg p 0) (p.drop 0)&&decide (p.length≤150)):=by rw [aGl,Bool.and_comm];rfl
 rw [e]
 refine fQ (n:=p.length) (P:=λi r=>r = [.bool (aDF m (aOg p i) (p.drop i)&&decide (p.length≤150))]) (F:=λi=>nI (bN p) (bN p) (.I p.length) (.I i) (.lst (m.texts.map PV.str)) (.lst (m.funcs.map eJ.pv))) ?_ ?_ 0 (by omega)
 ·rw [xV]
  refine aO (λh=>by omega) (λ_=>aF (jM (aA ?_)))
  rw [List.drop_length]
  simp only [aDF,Bool.true_and]
  congr 2
  exact decide_eq_decide.2 (by omega)
 ·intro i hi ih
  rw [xV]
  have hpv:=aHe hi
  have hdr : p.drop i=p[i]::p.drop (i+1):=List.drop_eq_getElem_cons hi
  rw [hpv] at ih
  rw [hdr]
  refine aO (λ_=>?_) (λh=>by omega)
  refine aQ hi (λ_=>rfl) (jG ?_)
  refine aI (aT6 hs (s:=p[i])) (λr hr=>?_)
  subst hr
  refine cD (eL (λh=>aA (by simp only [aDF];rw [decide_eq_false h];rfl)) (λh=>?_))
  refine iU (λh0=>?_) (λh0=>bS ?_)
  ·obtain ⟨j,rfl⟩ : ∃ j,i=j+1:=⟨i - 1,by omega⟩
   refine dS ?_
   have ej : ((j+1 : Nat) : Int) - 1=(j : Int):=by omega
   rw [ej]
   have hj : j<p.length:=by omega
   refine aQ hj (λ_=>rfl) (aWF (λn hn=>aCA (λh3=>aA ?_) (λh3=>bS ?_)))
   ·rw [aHe hj]
    simp only [aDF]
    rw [decide_eq_false (hn.1 h3)];simp
   ·rw [aHe hj]
    simp only [aDF]
    have : dZ p[j] p[j+1]:=by
     apply Classical.byContradiction
     intro h
     exact h3 (hn.2 h)
    rw [decide_eq_true h,decide_eq_true this]
    exact ih
  ·have : aOg p i=none:=by rw [aOg,gH]
   rw [this]
   simp only [aDF]
   rw [decide_eq_true h]
   exact ih
def aMC (m : fO) (p : List hY) : Bool:=aBw m&&aGl m p
theorem aE8 (hs : m.sized) (hp : p.length≤2097152) (h : Ok P (k [.bool (aMC m p)])) : Ok P (bd (qW m.pv (bN p)) k):=by
 refine aI (Q:=λr=>r = [.bool (aMC m p)]) ?_ (λr hr=>by rw [hr];exact h)
 rw [aHU]
 refine dY (aIt hs (aZ (λh=>aI (aJ6 hs hp) (λr hr=>by subst hr;exact aA (by rw [aMC,h];rfl))) (λh=>aA (by rw [aMC,h];rfl))))
def aNw (f pc : Int) (s : hY) : Bool:=decide (s.f=f)&&decide (s.pc=pc)
def uC (p : List hY) (f pc : Int) : hY:=(p.find? (aNw f pc)).getD ⟨0,0,0,0⟩
theorem aJ7 : uC (s::p) f pc=if s.f=f∧s.pc=pc then s else uC p f pc:=by
 unfold uC
 rw [List.find?_cons]
 by_cases h : s.f=f∧s.pc=pc
 ·have : aNw f pc s=true:=by simp [aNw,h]
  rw [this,if_pos h];rfl
 ·have : aNw f pc s=false:=by simp [aNw];omega
  rw [this,if_neg h]
theorem aT7 (hp : p.length≤2097152) (h : Ok P (k [(uC p f pc).pv])) : Ok P (bd (aEG (bN p) (.I f) (.I pc)) k):=by
 refine aI (Q:=λr=>r = [(uC p f pc).pv]) ?_ (λr hr=>by rw [hr];exact h)
 rw [aMg]
 refine fQ (n:=p.length) (P:=λi r=>r = [(uC (p.drop i) f pc).pv]) (F:=λi=>rF (bN p) (.I f) (.I pc) (.I i) (.I 0) (.I 0) (.I 0) (.I 0)) ?_ ?_ 0 (by omega)
 ·rw [aBq]
  refine aF (aO (λh=>by omega) (λ_=>aA ?_))
  rw [List.drop_length];rfl
 ·intro i hi ih
  rw [aBq,List.drop_eq_getElem_cons hi,aJ7]
  refine aF (aO (λ_=>?_) (λh=>by omega))
  refine aQ hi (λ_=>rfl) (aL rfl (aJ (λh1=>?_) (λh1=>bS ?_)))
  ·refine aQ hi (λ_=>rfl) (aL rfl (aJ (λh2=>?_) (λh2=>bS ?_)))
   ·refine aQ hi (λ_=>rfl) (jG (aA ?_))
    rw [if_pos ⟨h1,h2⟩];rfl
   ·rw [if_neg (λh=>h2 h.2)];exact ih
  ·rw [if_neg (λh=>h1 h.1)];exact ih
theorem aSe (hp : p.length≤2097152) (h : Ok P (k [(uC p f pc).pv])) : Ok P (bd (aEz (bN p) (.I f) (.I pc)) k):=by
 refine aI (Q:=λr=>r = [(uC p f pc).pv]) ?_ (λr hr=>by rw [hr];exact h)
 rw [aL3]
 refine aF ?_
 refine fQ (n:=p.length) (P:=λi r=>r = [(uC (p.drop i) f pc).pv]) (F:=λi=>qX (.I f) (.I pc) (bN p) (.I p.length) (.I i) (.I 0) (.I 0) (.I 0) (.I 0)) ?_ ?_ 0 (by omega)
 ·rw [aBh]
  refine aO (λh=>by omega) (λ_=>aA ?_)
  rw [List.drop_length];rfl
 ·intro i hi ih
  rw [aBh,List.drop_eq_getElem_cons hi,aJ7]
  refine aO (λ_=>?_) (λh=>by omega)
  refine aQ hi (λ_=>rfl) (jG (aJ (λh1=>?_) (λh1=>bS ?_)))
  ·refine aJ (λh2=>aA ?_) (λh2=>bS ?_)
   ·rw [if_pos ⟨h1,h2⟩];rfl
   ·rw [if_neg (λh=>h2 h.2)];exact ih
  ·rw [if_neg (λh=>h1 h.1)];exact ih
end
variable {x : hY}
structure SpT where
 f : Int
 pc : Int
 kind : Int
 tgt : Int
def SpT.pv (s : SpT) : PV:=.agg [.I s.f,.I s.pc,.I s.kind,.I s.tgt]
def aWG (l : List SpT) : PV:=.lst (l.map SpT.pv)
def aVs (m : fO) (s : SpT) : Prop:=plP m s.f s.pc∧
 ((s.kind=1∧(11≤(dU m s.f s.pc).o∧(dU m s.f s.pc).o≤14)∧s.tgt=0)∨(s.kind=2∧(dU m s.f s.pc).o=23∧(0≤s.tgt∧s.tgt<m.funcs.length)∧iL m.funcs s.tgt=(dU m s.f s.pc).a))
instance (m : fO) (s : SpT) : Decidable (aVs m s):=by unfold aVs;infer_instance
def aVt (m : fO) (x : hY) : SpT:=if (dU m x.f x.pc).o=23 then ⟨x.f,x.pc,2,x.tgt⟩ else ⟨x.f,x.pc,1,0⟩
def aYA (s b : SpT) : Bool:=decide (b.f=s.f)&&(decide (b.pc=s.pc)&&decide (b.kind=s.kind))
def aX6 (m : fO) (black : List SpT) (x : hY) : Bool:=decide (x.seen=1)&&(decide (aVs m (aVt m x))&&!(black.any (aYA (aVt m x))))
def aX7 (m : fO) (sites : List hY) (black : List SpT) : List SpT:=(sites.filter (aX6 m black)).map (aVt m)
section
variable {P : R → Prop} {k : R → OR} {m : fO}
end
section
variable {P : R → Prop} {k : R → OR} {m : fO}
def aYP (m : fO) (sites : List hY) (black : List SpT) (lay : Int) (bare : Bool) : PV:=
 if aMC m sites=true∧0≤lay∧lay≤3 then .agg [aWG (aX7 m sites black),.I lay,.bool bare] else .agg [.lst [],.I 0,.bool false]
end
variable {sites : List hY} {black : List SpT}
def aYQ (a b : SpT) : Prop:=a.f<b.f∨(a.f=b.f∧a.pc<b.pc)
section
variable {P : R → Prop} {k : R → OR} {m : fO}
end
variable {a s : Int} {vs : List eR} {v : eR}
def MdP (l : List Int) (A : Int) (r : R) : Prop:=∃ a s : Int,∃ m : fO,r = [m.pv,cX l,.I a,.I s]∧0≤a∧a≤A∧0≤s∧s<65521∧m.sized∧1≤m.funcs.length∧m.funcs.length≤100
theorem MdP.of {l : List Int} {A : Int} {ts fs : R} (h : 0≤a∧a≤A∧0≤s∧s<65521) (h1 : ∀ x∈ts,oE x) (h2 : ts.length≤100) (h3 : ∀ x∈fs,qQ x) (h4 : fs.length≤100) (h5 : 1≤fs.length) : ∃ m : fO,ts=m.texts.map PV.str∧fs=m.funcs.map eJ.pv∧m.sized∧1≤m.funcs.length∧m.funcs.length≤100:=by
 obtain ⟨t,rfl,ht⟩:=aS0 h1
 obtain ⟨f,rfl,hf⟩:=aS2 h3
 rw [List.length_map] at h2 h4 h5
 exact ⟨⟨t,f⟩,rfl,rfl,⟨by show t.length≤_;omega,by show f.length≤_;omega,λx hx=>by have:=ht x hx;omega,hf⟩,h5,h4⟩
section
variable {l : List Int} (hl : Bts l) {P : R → Prop}
include hl
theorem aQR (h0 : 0≤a∧a≤800000000∧0≤s∧s<65521) : Ok (MdP l (a+4000000)) (wR (cX l) (.I a) (.I s)):=by
 rw [aFT]
 refine aI (aGk hl h0) ?_
 rintro r ⟨a1,s1,ts,fs,rfl,h1,h2,h3,h4,ht,htn,hf,hn1,hn2⟩
 obtain ⟨m,rfl,rfl,hs,hm1,hm2⟩:=MdP.of (l:=l) (A:=a1) (a:=a1) (s:=s1) (by omega) ht (by omega) (λx hx=>(hf x hx).toFun) (by omega) hn1
 refine dY (aK1 hs (cD (aZ (λ_=>aA ?_) (λ_=>aA ?_))))
 ·refine ⟨a1,s1,⟨[],[⟨0,1,[⟨6,0⟩,⟨26,0⟩,⟨4,0⟩,⟨25,0⟩]⟩]⟩,rfl,by omega,by omega,by omega,by omega,⟨?_,?_,?_,?_⟩,?_,?_⟩
  all_goals simp
 ·exact ⟨a1,s1,m,rfl,by omega,by omega,by omega,by omega,hs,hm1,hm2⟩
theorem aQS (h0 : 0≤a∧a≤700000000∧0≤s∧s<65521) : Ok (MdP l (a+5000000)) (wP (cX l) (.I a) (.I s)):=by
 rw [aFP]
 refine pQ hl (by omega) (by omega) (λb a1 s1 h1=>aZ (λ_=>?_) (λ_=>?_))
 ·refine aI (aSd hl (by omega) (by omega)) ?_
  rintro r ⟨a2,s2,ts,fs,rfl,g1,g2,g3,g4,ht,htn,hf,hn2,hn1⟩
  obtain ⟨m,rfl,rfl,hs,hm1,hm2⟩:=MdP.of (l:=l) (A:=a2) (a:=a2) (s:=s2) (by omega) ht (by omega) hf (by omega) hn1
  exact dY (aA ⟨a2,s2,m,rfl,by omega,by omega,by omega,by omega,hs,hm1,hm2⟩)
 ·refine aI (aQR hl (by omega)) ?_
  rintro r ⟨a2,s2,m,rfl,g1,g2,g3,g4,hs,hm1,hm2⟩
  exact dY (aA ⟨a2,s2,m,rfl,by omega,by omega,by omega,by omega,hs,hm1,hm2⟩)
def aX9 (l : List Int) (A : Int) (r : R) : Prop:=∃ a s : Int,∃ v : eR,r = [v.pv,cX l,.I a,.I s]∧0≤a∧a≤A∧0≤s∧s<65521∧v.s.size≤1000
omit hl in
theorem aS4 : ∀ x∈[PV.str (bs []),PV.str (bs [97]),PV.str (bs [98,99]),PV.str (bs [48,49,50,51,52,53,54,55,56,57,48,49,50,51,52,53,54,55,56,57,48,49,50,51,52,53,54,55,56,57,48,49,50,51,52,53,54,55,56,57])],oE x:=by
 intro x hx
 simp only [List.mem_cons,List.not_mem_nil,or_false] at hx
 rcases hx with rfl | rfl | rfl | rfl<;>exact ⟨_,rfl,by decide⟩
omit hl in
theorem aS5 : ∀ x∈[PV.str (bs []),PV.str (bs [97]),PV.str (bs [34])],oE x:=by
 intro x hx
 simp only [List.mem_cons,List.not_mem_nil,or_false] at hx
 rcases hx with rfl | rfl | rfl<;>exact ⟨_,rfl,by decide⟩
theorem aPn (h0 : 0≤a∧a≤800000000∧0≤s∧s<65521) : Ok (aX9 l (a+10)) (nM (cX l) (.I a) (.I s)):=by
 rw [aES]
 have e0 : (bs []).size≤1000:=by decide
 have num : ∀ {a1 s1 : Int},a≤a1∧a1≤a+1∧0≤s1∧s1<65521→Ok (aX9 l (a+10)) (bd (iH (cX l) (.I a1) (.I s1)) λr1757=>
  bd (jD (gd r1757 0)) λr1758=>
  bd (bE 3 (hd r1758)) λv1759=>
  bd (PV.cell v1759 0) λv1760=>
  bd (PV.cell v1759 1) λv1761=>
  bd (PV.cell v1759 2) λv1762=>
  some [(.agg [v1760,v1761,v1762]),(gd r1757 1),(gd r1757 2),(gd r1757 3)]):=λh=>
  aN0 hl (by omega) (λn a2 s2 h2=>aCn (cB (aA ⟨a2,s2,zR n,rfl,by omega,by omega,by omega,by omega,e0⟩)))
 refine dA hl (by omega) (by omega) (λx a1 s1 h1=>?_)
 refine aJ (λ_=>aA ⟨a1,s1,eQ,rfl,by omega,by omega,by omega,by omega,e0⟩) (λ_=>?_)
 refine aJ (λ_=>num (by omega)) (λ_=>?_)
 refine aJ (λ_=>num (by omega)) (λ_=>?_)
 refine aJ (λ_=>num (by omega)) (λ_=>?_)
 refine aJ (λ_=>dA hl (by omega) (by omega) (λy a2 s2 h2=>bJ rfl (aA ⟨a2,s2,⟨2,y,bs []⟩,rfl,by omega,by omega,by omega,by omega,e0⟩))) (λ_=>?_)
 refine aJ (λ_=>dA hl (by omega) (by omega) (λy a2 s2 h2=>?_)) (λ_=>?_)
 ·refine eH (by omega) (by simp;omega) (aAk (by omega) (by simp;omega) (oE.el aS4) (λz hz _=>?_))
  obtain ⟨b,rfl,hb⟩:=aS4 z hz
  exact bJ rfl (aA ⟨a2,s2,⟨3,0,b⟩,rfl,by omega,by omega,by omega,by omega,hb⟩)
 refine aJ (λ_=>dA hl (by omega) (by omega) (λy a2 s2 h2=>bJ rfl (aA ⟨a2,s2,⟨4,y,bs []⟩,rfl,by omega,by omega,by omega,by omega,e0⟩))) (λ_=>?_)
 refine aJ (λ_=>dA hl (by omega) (by omega) (λy a2 s2 h2=>bJ rfl (aA ⟨a2,s2,⟨5,y,bs []⟩,rfl,by omega,by omega,by omega,by omega,e0⟩))) (λ_=>?_)
 refine dA hl (by omega) (by omega) (λy a2 s2 h2=>dS (dA hl (by omega) (by omega) (λz a3 s3 h3=>dS (dA hl (by omega) (by omega) (λw a4 s4 h4=>?_)))))
 refine eH (by omega) (by simp;omega) (aAk (by omega) (by simp;omega) (oE.el aS5) (λt ht _=>?_))
 obtain ⟨b,rfl,hb⟩:=aS5 t ht
 exact bJ rfl (bJ rfl (bJ rfl (aA ⟨a4,s4,⟨y - 1,z - 1,b⟩,rfl,by omega,by omega,by omega,by omega,hb⟩)))
def aQT (l : List Int) (A : Int) (r : R) : Prop:=∃ a s : Int,∃ vs : List eR,r = [bI vs,cX l,.I a,.I s]∧0≤a∧a≤A∧0≤s∧s<65521∧(∀ v∈vs,v.s.size≤1000)∧vs.length≤21
omit hl in
theorem aOh (h : ∀ v∈vs,v.s.size≤1000) (hv : v.s.size≤1000) : ∀ w∈vs++[v],w.s.size≤1000:=by
 intro w hw
 rcases List.mem_append.1 hw with hw | hw
 ·exact h w hw
 ·rw [List.mem_singleton] at hw;rw [hw];exact hv
omit hl in
theorem aMD {k : PV→OR} (hn : vs.length≤1000) (h : Ok P (k (bI (vs++[v])))) : Ok P (bd (aN 3 32 true (.lst []) (.lst [v.pv])) λy=>bd (aN 3 32 true (bI vs) y) k):=by
 refine mD (by simp) (xM (l:=[v])) (iT (by simp;omega) (xM (l:=[v])) ?_)
 rw [show vs.map eR.pv++[v.pv]=(vs++[v]).map eR.pv by rw [List.map_append];rfl]
 exact h
theorem aQU (h0 : 0≤a∧a≤790000000∧0≤s∧s<65521) (hv : ∀ v∈vs,v.s.size≤1000) (hn : vs.length≤20) : Ok (aQT l (a+20)) (bd (fH (.I 30) (cX l) (.I a) (.I s)) λr1440=>
 aV (gd r1440 0)
  (bd (nM (gd r1440 1) (gd r1440 2) (gd r1440 3)) λr1441=>
  bd (aN 3 32 true (.lst []) (.lst [(gd r1441 0)])) λv1442=>
  bd (aN 3 32 true (bI vs) v1442) λv1443=>
  some [v1443,(gd r1441 1),(gd r1441 2),(gd r1441 3)])
  (some [bI vs,(gd r1440 1),(gd r1440 2),(gd r1440 3)])):=by
 refine pQ hl (by omega) (by omega) (λb a1 s1 h1=>aZ (λ_=>aI (aPn hl (by omega)) ?_) (λ_=>aA ⟨a1,s1,vs,rfl,by omega,by omega,by omega,by omega,hv,by omega⟩))
 rintro r ⟨a2,s2,v,rfl,g1,g2,g3,g4,g5⟩
 exact aMD (by omega) (aA ⟨a2,s2,vs++[v],rfl,by omega,by omega,by omega,by omega,aOh hv g5,by simp;omega⟩)
theorem aQV {m : fO} (hs : m.sized) (hm : 1≤m.funcs.length) (h0 : 0≤a∧a≤700000000∧0≤s∧s<65521) : Ok (aQT l (a+1000)) (wQ (.lst (m.texts.map PV.str)) (.lst (m.funcs.map eJ.pv)) (cX l) (.I a) (.I s)):=by
 rw [aFQ]
 have hfl:=hs.2.1
 have loop : ∀ (j : Nat) (q a1 s1 : Int) (vs : List eR),q+j=20→0≤q→vs.length=q→(a≤a1∧a1≤a+10*q∧0≤s1∧s1<65521)→(∀ v∈vs,v.s.size≤1000)→
  Ok (aQT l (a+1000)) (oI (.I q) (cX l) (.I a1) (.I s1) (.lst (m.texts.map PV.str)) (.lst (m.funcs.map eJ.pv)) (bI vs)):=by
  intro j
  induction j with
  | zero=>
    intro q a1 s1 vs hq hq0 hn h1 hv
    have fin:=aQU hl (a:=a1) (s:=s1) (vs:=vs) (by omega) hv (by omega)
    have fin : Ok (aQT l (a+1000)) _:=fin.mono (λr ⟨a',s',v',hr,g1,g2,g⟩=>⟨a',s',v',hr,g1,by omega,g⟩)
    rw [vL]
    refine sZ (by omega) (λlc=>aL rfl (aO (λ_=>aO (λh=>by omega) (λ_=>fin)) (λ_=>fin)))
  | succ j ih=>
    intro q a1 s1 vs hq hq0 hn h1 hv
    have fin:=aQU hl (a:=a1) (s:=s1) (vs:=vs) (by omega) hv (by omega)
    have fin : Ok (aQT l (a+1000)) _:=fin.mono (λr ⟨a',s',v',hr,g1,g2,g⟩=>⟨a',s',v',hr,g1,by omega,g⟩)
    rw [vL]
    refine sZ (by omega) (λlc=>aL rfl (aO (λ_=>aO (λ_=>?_) (λ_=>fin)) (λ_=>fin)))
    refine dA hl (by omega) (by omega) (λx1 a2 s2 h2=>aCn (dA hl (by omega) (by omega) (λx2 a3 s3 h3=>dS (aCn (dA hl (by omega) (by omega) (λx3 a4 s4 h4=>aCn (uO (aF (dA hl (by omega) (by omega) (λx4 a5 s5 h5=>bJ rfl ?_))))))))))
    refine mD (by simp) (xM (l:=[zR x1,zR (x2 - 2),zR x3,rJ true,aDD (bs [113]),eQ,aPa x4])) ?_
    refine dA hl (by omega) (by omega) (λx5 a6 s6 h6=>?_)
    refine eH (by omega) (by simp;omega) (aAk (by omega) (by simp;omega) (xM (l:=[zR x1,zR (x2 - 2),zR x3,rJ true,aDD (bs [113]),eQ,aPa x4])) (λz hz _=>?_))
    obtain ⟨v,hv',rfl⟩:=List.mem_map.1 (show z∈[zR x1,zR (x2 - 2),zR x3,rJ true,aDD (bs [113]),eQ,aPa x4].map eR.pv from hz)
    have hvs : v.s.size≤1000:=by
     have e0 : (bs []).size≤1000:=by decide
     have e1 : (bs [113]).size≤1000:=by decide
     simp only [List.mem_cons,List.not_mem_nil,or_false] at hv'
     rcases hv' with rfl | rfl | rfl | rfl | rfl | rfl | rfl<;>first | exact e0 | exact e1
    refine aMD (by omega) (bS (ih (q+1) a6 s6 (vs++[v]) (by omega) (by omega) (by simp;omega) (by omega) (aOh hv hvs)))
 exact loop 20 0 a s [] (by omega) (by omega) rfl (by omega) (by simp)
end
variable {k : PV → OR} {v : hY}
theorem aK2 {l : List hY} : ∀ x∈l.map hY.pv,x.isEl 4 true=true:=by
 intro x hx
 obtain ⟨a,_,rfl⟩:=List.mem_map.1 hx
 rfl
theorem rK (l : List hY) : PV.flatO oS (bN l)=true:=by
 show PV.flatEs true [] (l.map hY.pv)=true
 induction l with
 | nil=>simp [PV.flatEs]
 | cons x r ih=>simp [PV.flatEs,PV.flatE,PV.flatCs,PV.flat,hY.pv,ih]
section
variable {P : R → Prop} {m : fO}
theorem uQ {vs : List hY} (hn : vs.length≤100000) (h : Ok P (k (bN (vs++[v])))) : Ok P (bd (aN 4 32 true (bN vs) (.lst [v.pv])) k):=by
 refine iT (by simp;omega) (aK2 (l:=[v])) ?_
 rw [show vs.map hY.pv++[v.pv]=(vs++[v]).map hY.pv by rw [List.map_append];rfl]
 exact h
theorem aBx (h : Ok P (k (.lst [v.pv]))) : Ok P (bd (aN 4 32 true (.lst []) (.lst [v.pv])) k):=mD (by simp) (aK2 (l:=[v])) h
end
variable {a b : eR} {n o : Int} {f : Nat} {s : ByteArray}
section
variable {P : R → Prop} {k : R → OR}
theorem zV {q : Int} (h : Ok P (k [.bool (decide (a.k=q)&&decide (b.k=q))])) : Ok P (bd (uM a.pv b.pv (.I q)) k):=by
 refine aI (Q:=λr=>r = [.bool (decide (a.k=q)&&decide (b.k=q))]) ?_ (λr hr=>by rw [hr];exact h)
 rw [aH4]
 refine cB (cB (cL ?_))
 refine gC (λh1=>cL (aA ?_)) (λh1=>aA ?_)
 ·rw [decide_eq_true h1];rfl
 ·rw [decide_eq_false h1];rfl
theorem xN (h : Ok P (k [.bool (eM n)])) : Ok P (bd (rC (.I n)) k):=by
 refine aI (Q:=λr=>r = [.bool (eM n)]) ?_ (λr hr=>by rw [hr];exact h)
 rw [aGg]
 exact gB (aA rfl)
theorem aGm (h : Ok P (k [(zR n).pv])) : Ok P (bd (aC0 (.I n)) k):=by
 refine aI (Q:=λr=>r = [(zR n).pv]) ?_ (λr hr=>by rw [hr];exact h)
 rw [aNn]
 exact bJ rfl (aA rfl)
theorem rL {c : Bool} (h : Ok P (k [(rJ c).pv])) : Ok P (bd (rG (.bool c)) k):=by
 refine aI (Q:=λr=>r = [(rJ c).pv]) ?_ (λr hr=>by rw [hr];exact h)
 rw [aMl]
 cases c
 ·exact bP (aA rfl)
 ·exact bF (aA rfl)
def aVu (f : PV) (g : Int→Int→Int) : Prop:=∀ {a b : Int} {P : R→Prop} {k : R→OR},eM a=true→eM b=true→Ok P (k [.I (g a b)])→Ok P (bd (PV.apply aU f [.I a,.I b]) k)
theorem aPo {a : Int} (h : eM a=true) : -1000000000≤a∧a≤1000000000:=bT.1 h
theorem yQ {f : PV} (hf : aVu f (aC8 o)) (h : Ok P (k (opR (aDT o a b)))) : Ok P (bd (vJ a.pv b.pv f) k):=by
 refine aI (Q:=λr=>r=opR (aDT o a b)) ?_ (λr hr=>by rw [hr];exact h)
 rw [aKE]
 unfold aDT
 refine cB (cB (zV (cD ?_)))
 by_cases h1 : a.k=1∧b.k=1
 ·rw [decide_eq_true h1.1,decide_eq_true h1.2,eV,eV]
  refine bP (xN (cD ?_))
  cases h2 : eM a.n with
  | false=>exact bF (aA (by simp [opR,eR.pv,eQ]))
  | true=>
    refine bP (xN (cD ?_))
    cases h3 : eM b.n with
    | false=>exact bF (aA (by simp [opR,eR.pv,eQ]))
    | true=>
      refine bP (hf h2 h3 (xN (cD ?_)))
      cases h4 : eM (aC8 o a.n b.n) with
      | false=>exact bF (aA (by simp [opR,eR.pv,eQ,h4]))
      | true=>
        refine bP (hf h2 h3 (aGm ?_))
        exact cB (aA (by simp [opR,eR.pv,zR,h4]))
 ·have h5 : (decide (a.k=1)&&decide (b.k=1))=false:=by
   cases h : (decide (a.k=1)&&decide (b.k=1))
   ·rfl
   ·simp only [Bool.and_eq_true,decide_eq_true_eq] at h;exact absurd h h1
  rw [h5]
  refine bF (aA ?_)
  by_cases h6 : a.k=1
  ·rw [eV,if_pos (λh7=>h1 ⟨h6,h7⟩)];rfl
  ·rw [if_pos h6];rfl
theorem aPp {g : PV→PV→OR} (hg : ∀ x y,aU f [x,y]=g x y) (h : ∀ {a b : Int},eM a=true→eM b=true→Ok (λr=>r = [.I (aC8 o a b)]) (g (.I a) (.I b))) : aVu (.fn f []) (aC8 o):=
 λha hb hk=>sL (f:=f) (hg _ _) (h ha hb) (λr hr=>by rw [hr];exact hk)
theorem aVv (h : Ok P (k [.bool false])) : Ok P (bd (rU (.str s)) k):=by
 refine aI (Q:=λr=>r = [.bool false]) ?_ (λr hr=>by rw [hr];exact h)
 rw [aFW]
 exact aTk (aA rfl)
theorem aSf {t : ByteArray} (h : Ok P (k [.bool (lM s.toList t.toList)])) : Ok P (bd (yO (.str s) (.str t)) k):=by
 refine aI (Q:=λr=>r = [.bool (lM s.toList t.toList)]) ?_ (λr hr=>by rw [hr];exact h)
 rw [aG9]
 exact aVv (bP (aSQ (aA rfl)))
theorem aXC (hg : ∀ x y,aU f [x,y]=aC1 x y) : aVu (.fn f []) (aC8 11):=aPp (g:=aC1) hg (λha hb=>by
 have:=aPo ha;have:=aPo hb
 rw [aKF]
 exact bS (aA rfl))
theorem aXD (hg : ∀ x y,aU f [x,y]=aC2 x y) : aVu (.fn f []) (aC8 12):=aPp (g:=aC2) hg (λha hb=>by
 have:=aPo ha;have:=aPo hb
 rw [aKG]
 exact dS (aA rfl))
theorem aXE (hg : ∀ x y,aU f [x,y]=aC3 x y) : aVu (.fn f []) (aC8 13):=aPp (g:=aC3) hg (λha hb=>by
 have:=aU4 ha hb
 rw [aKH]
 exact nW (by omega) (aA rfl))
theorem aVw (hs : a.s.size≤2097152∧b.s.size≤2097152) : Ok (λr=>r=opR (uT 11 a b)) (aGO a.pv b.pv):=by
 rw [aNp]
 refine cB (cB (zV ?_))
 have e : uT 11 a b=(if a.k=3∧b.k=3 then (if (60 : Int)<a.s.size+b.s.size then (eQ,3) else (aDD (a.s++b.s),0)) else aDT 11 a b):=rfl
 rw [e]
 by_cases h1 : a.k=3∧b.k=3
 ·rw [if_pos h1,decide_eq_true h1.1,decide_eq_true h1.2]
  refine bF (gK (gK (bS (iU (λh2=>aA ?_) (λh2=>tL (by omega) (bJ rfl (aA ?_)))))))
  ·rw [if_pos h2];rfl
  ·rw [if_neg h2];rfl
 ·have h5 : (decide (a.k=3)&&decide (b.k=3))=false:=by
   cases h : (decide (a.k=3)&&decide (b.k=3))
   ·rfl
   ·simp only [Bool.and_eq_true,decide_eq_true_eq] at h;exact absurd h h1
  rw [if_neg h1,h5]
  refine bP (yQ (aXC (λ_ _=>rfl)) (gZ (cB (aA rfl))))
theorem aVx : Ok (λr=>r=opR (uT 12 a b)) (aGP a.pv b.pv):=by
 rw [aNq]
 exact cB (cB (yQ (aXD (λ_ _=>rfl)) (gZ (cB (aA rfl)))))
theorem aVy : Ok (λr=>r=opR (uT 13 a b)) (aGQ a.pv b.pv):=by
 rw [aNr]
 exact cB (cB (yQ (aXE (λ_ _=>rfl)) (gZ (cB (aA rfl)))))
theorem aVz {p q : Prop} [Decidable p] [Decidable q] (h : ¬ (p∧q)) : (decide p&&decide q)=false:=by
 cases h' : (decide p&&decide q)
 ·rfl
 ·simp only [Bool.and_eq_true,decide_eq_true_eq] at h';exact absurd h' h
theorem aT8 : Ok (λr=>r=opR (uT 14 a b)) (aEN a.pv b.pv):=by
 rw [aMn]
 have e : uT 14 a b=(if a.k=3∧b.k=3 then (rJ (lM a.s.toList b.s.toList),0) else if a.k=1∧b.k=1 then (rJ (decide (a.n<b.n)),0) else (eQ,1)):=rfl
 rw [e]
 refine cB (cB (zV ?_))
 by_cases h1 : a.k=1∧b.k=1
 ·rw [eV,if_pos h1,decide_eq_true h1.1,decide_eq_true h1.2]
  exact bF (fB (rL (cB (aA rfl))))
 ·rw [aVz h1]
  refine bP (zV ?_)
  by_cases h2 : a.k=3∧b.k=3
  ·rw [if_pos h2,decide_eq_true h2.1,decide_eq_true h2.2]
   exact bF (aSf (rL (cB (aA rfl))))
  ·rw [if_neg h2,if_neg h1,aVz h2]
   exact bP (aA rfl)
theorem aK3 {k : PV→OR} (h : Ok P (k (.bool (decide (a.k=b.k)&&(decide (a.n=b.n)&&kV a.s b.s))))) : Ok P (bd (cQ [1,1,2] .eql (.agg [.I a.k,.I a.n,.str a.s]) (.agg [.I b.k,.I b.n,.str b.s])) k):=
 eZ _ (by simp [cQ,eU,iB,vZ,kV];rfl) h
theorem aT9 : Ok (λr=>r = [(aGh a b).pv]) (aEM a.pv b.pv):=by
 rw [aMm]
 exact cB (cB (aK3 (rL (cB (aA rfl)))))
theorem aVA {v : eR} : Ok (λr=>r=opR (aCo v)) (aGN v.pv):=by
 rw [aNo]
 unfold aCo
 refine cB (dD (λh=>aA ?_) (λh=>kZ (rL (cB (aA ?_)))))
 ·rw [if_pos h];rfl
 ·rw [eV];rfl
end
variable {n nf : Int} {v : eR}
theorem aXF {a b : ByteArray} (h : a.data.toList=b.data.toList) : a=b:=by
 cases a;cases b;congr 1;exact Array.toList_inj.1 h
theorem aFE (a b : ByteArray) : (a++b).data.toList=a.data.toList++b.data.toList:=by
 rw [ByteArray.data_append,Array.toList_append]
theorem aCq : ∀ (j : Nat) (n : Nat),n<10 ^ (j+1)→(aDa j (n : Int)).data.toList=Lib.decDigits n
 | 0,n,h=>by
   rw [Lib.decDigits_one (by omega)]
   show [UInt8.ofNat (48+(n : Int)).toNat]=_
   rw [show (48+(n : Int)).toNat=48+n by omega]
 | j+1,n,h=>by
   unfold aDa
   by_cases h1 : (n : Int)<10
   ·rw [if_pos h1,Lib.decDigits_one (by omega)]
    show [UInt8.ofNat (48+(n : Int)).toNat]=_
    rw [show (48+(n : Int)).toNat=48+n by omega]
   ·rw [if_neg h1,aFE,show ((n : Int) / 10)=((n / 10 : Nat) : Int) by omega,aCq j (n / 10) (by have : 10 ^ (j+1+1)=10 ^ (j+1)*10:=Nat.pow_succ ..;omega)]
    conv=>rhs;rw [Lib.decDigits,dif_neg (by omega)]
    show _++[UInt8.ofNat (48+(n : Int) % 10).toNat]=_
    rw [show (48+(n : Int) % 10).toNat=48+n % 10 by omega]
theorem aQW (hn : -1000000000≤n∧n≤1000000000) : (⟨(Lib.itoa n).toArray⟩ : ByteArray)=mK n:=by
 refine aXF ?_
 show Lib.itoa n=(mK n).data.toList
 unfold Lib.itoa mK
 by_cases h0 : n<0
 ·rw [if_pos h0,if_pos h0]
  obtain ⟨q,rfl⟩ : ∃ q : Nat,n = -(q : Int):=⟨n.natAbs,by omega⟩
  rw [show (-(q : Int)).natAbs=q by omega]
  by_cases h9 : -(q : Int) < -9
  ·obtain ⟨e1,e2⟩:=aQx h0
   rw [if_pos h9,e1,e2,Int.neg_neg,Int.neg_neg,Int.neg_neg,aFE,aFE,show (q : Int) / 10=((q / 10 : Nat) : Int) by omega,show (q : Int) % 10=((q % 10 : Nat) : Int) by omega,
    aCq 18 (q / 10) (by omega),aCq 18 (q % 10) (by omega),Lib.decDigits_one (show q % 10<10 by omega)]
   conv=>lhs;rw [Lib.decDigits,dif_neg (by omega)]
   rfl
  ·rw [if_neg h9,Int.neg_neg,aFE,aCq 18 q (by omega)]
   rfl
 ·rw [if_neg h0,if_neg h0]
  obtain ⟨q,rfl⟩:=Int.eq_ofNat_of_zero_le (show 0≤n by omega)
  rw [Int.toNat_natCast,aCq 18 q (by omega)]
section
variable {P : R → Prop} {k : R → OR}
theorem aPq (hn : -1000000000≤n∧n≤1000000000) (h : Ok P (k [.str (mK n)])) : Ok P (bd (strconv_Itoa (.I n)) k):=by
 refine aI (Q:=λr=>r = [.str (mK n)]) ?_ (λr hr=>by rw [hr];exact h)
 rw [aKD]
 unfold aD8
 simp only
 rw [gH]
 exact aA (by rw [aQW hn])
theorem aSg {b : Bool} (h : Ok P (k [.str (if b then bs [116,114,117,101] else bs [102,97,108,115,101])])) : Ok P (bd (tX (.bool b)) k):=by
 refine aI (Q:=λr=>r = [.str (if b then bs [116,114,117,101] else bs [102,97,108,115,101])]) ?_ (λr hr=>by rw [hr];exact h)
 rw [aDP]
 refine aI (Q:=λr=>r = [.str (if b then bs [116,114,117,101] else bs [102,97,108,115,101])]) ?_ (λr hr=>by rw [hr];exact aA rfl)
 rw [wY]
 cases b
 ·exact bP (aA rfl)
 ·exact bF (aA rfl)
theorem aWH {s : ByteArray} (hs : s.size≤2097152) (h : Ok P (k [.bool (fA s)])) : Ok P (bd (uL (.str s)) k):=aI (aFy hs) (λr hr=>by rw [hr];exact h)
theorem aHf {recs : Int} (hs : v.s.size≤2097152) (hn : -1000000000≤nf∧nf≤1000000000) (hr : -1000000000≤recs∧recs≤1000000000) : Ok (λr=>r = [.bool (cW nf recs v)]) (zM v.pv (.I nf) (.I recs)):=by
 rw [aKx]
 refine cB ?_
 refine aJ (λh0=>?_) (λh0=>?_)
 rotate_left
 refine aJ (λh1=>xN ?_) (λh1=>?_)
 rotate_left
 refine aJ (λh2=>gB ?_) (λh2=>?_)
 rotate_left
 refine aJ (λh3=>cL ?_) (λh3=>?_)
 rotate_left
 refine aJ (λh4=>hU hr ?_) (λh4=>?_)
 rotate_left
 refine aJ (λh5=>hU hn ?_) (λh5=>aA ?_)
 rotate_right 5
 ·refine aK3 (a:=v) (b:=⟨0,0,bs []⟩) (aA ?_)
  unfold cW
  cases hse : kV v.s (bs []) with
  | false=>rw [if_pos ⟨by omega,rfl⟩];simp [hse]
  | true=>rw [if_neg (by simp),if_pos h0];simp [h0,hse]
 all_goals unfold cW
 ·cases hse : kV v.s (bs []) with
  | false=>
    rw [if_pos ⟨by omega,rfl⟩]
    cases eM v.n
    ·exact bP (aA rfl)
    ·exact bF (zS (aA (by rw [hse])))
  | true=>
    rw [if_neg (by simp),if_neg h0,if_pos h1]
    cases eM v.n
    ·exact bP (aA rfl)
    ·exact bF (zS (aA (by rw [hse])))
 ·cases hse : kV v.s (bs []) with
  | false=>
    rw [if_pos ⟨by omega,rfl⟩]
    cases mA v.n 0 1
    ·exact bP (aA rfl)
    ·exact bF (zS (aA (by rw [hse])))
  | true=>
    rw [if_neg (by simp),if_neg h0,if_neg h1,if_pos h2]
    cases mA v.n 0 1
    ·exact bP (aA rfl)
    ·exact bF (zS (aA (by rw [hse])))
 ·rw [if_neg (λh=>h.1 h3),if_neg h0,if_neg h1,if_neg h2,if_pos h3]
  refine gC (λh6=>aWH hs (aA ?_)) (λh6=>aA ?_)
  ·rw [decide_eq_true h6];rfl
  ·rw [decide_eq_false h6];rfl
 ·have e : mA v.n 0 (recs - 1)=(decide (0≤v.n)&&decide (v.n<recs)):=by
   unfold mA
   congr 1
   exact decide_eq_decide.2 (by omega)
  rw [e]
  cases hse : kV v.s (bs []) with
  | false=>
    rw [if_pos ⟨by omega,rfl⟩]
    cases (decide (0≤v.n)&&decide (v.n<recs))
    ·exact bP (aA rfl)
    ·exact bF (zS (aA (by rw [hse])))
  | true=>
    rw [if_neg (by simp),if_neg h0,if_neg h1,if_neg h2,if_neg h3,if_pos h4]
    cases (decide (0≤v.n)&&decide (v.n<recs))
    ·exact bP (aA rfl)
    ·exact bF (zS (aA (by rw [hse])))
 ·cases hse : kV v.s (bs []) with
  | false=>
    rw [if_pos ⟨by omega,rfl⟩]
    cases mA v.n 0 (nf - 1)
    ·exact bP (aA rfl)
    ·exact bF (zS (aA (by rw [hse])))
  | true=>
    rw [if_neg (by simp),if_neg h0,if_neg h1,if_neg h2,if_neg h3,if_neg h4,if_pos h5]
    cases mA v.n 0 (nf - 1)
    ·exact bP (aA rfl)
    ·exact bF (zS (aA (by rw [hse])))
 ·by_cases hse : kV v.s (bs [])=false
  ·rw [if_pos ⟨by omega,hse⟩]
  ·rw [if_neg (λh=>hse h.2),if_neg h0,if_neg h1,if_neg h2,if_neg h3,if_neg h4,if_neg h5]
theorem aPr {hp : List (List eR)} (hnf : nf≤1000) (hh : hp.length≤1000) (hr : ∀ r∈hp,r.length≤1000) (hv : cW nf hp.length v=true) :
 Ok (λr=>r = [.str (kW v hp)]) (aAC v.pv (.lst (hp.map bQ))):=by
 have hn : -1000000000≤v.n∧v.n≤1000000000∧(v.k=4→0≤v.n∧v.n<hp.length)∧0≤v.k∧v.k≤5:=by
  unfold cW at hv
  repeat' split at hv
  all_goals first
   | (cases hv;done)
   | (simp only [eM,bT,Bool.and_eq_true,decide_eq_true_eq] at hv;omega)
 rw [aId]
 unfold kW
 have hdig:=zT v.n
 refine cB ?_
 refine aJ (λh0=>aA ?_) (λh0=>?_)
 ·rw [if_pos h0]
 refine aJ (λh1=>aPq (by omega) (aA ?_)) (λh1=>?_)
 ·rw [if_neg h0,if_pos h1];rfl
 refine aJ (λh2=>cL (aSg (aA ?_))) (λh2=>?_)
 ·rw [if_neg h0,if_neg h1,if_pos h2]
  by_cases h : v.n=1
  ·rw [decide_eq_true h,if_pos h,if_pos rfl];rfl
  ·rw [decide_eq_false h,if_neg h,if_neg (by simp)];rfl
 refine aJ (λh3=>aA ?_) (λh3=>?_)
 ·rw [if_neg h0,if_neg h1,if_neg h2,if_pos h3]
 refine aJ (λh5=>aPq (by omega) (tL ?_ (aA ?_))) (λh5=>?_)
 ·have : (bs [102,117,110]).size=3:=rfl
  omega
 ·rw [if_neg h0,if_neg h1,if_neg h2,if_neg h3,if_pos h5]
 refine aJ (λh4=>aF (hU (by omega) ?_)) (λh4=>aA ?_)
 ·have h6:=hn.2.2.1 h4
  rw [bT.2 (by omega),if_neg h0,if_neg h1,if_neg h2,if_neg h3,if_neg h5,if_pos h4]
  have hlen : (hp[v.n.toNat]?.getD []).length≤1000:=by
   cases hg : hp[v.n.toNat]? with
   | none=>simp
   | some r=>exact hr r (List.mem_of_getElem? hg)
  have hd:=zT (hp[v.n.toNat]?.getD []).length
  have e1 : (bs [123]).size=1:=rfl
  have e2 : (bs [125]).size=1:=rfl
  refine bF (fV h6.1 h6.2 (aL rfl (aF (aPq (by omega) (tL ?_ (tL ?_ (aA rfl)))))))
  ·omega
  ·rw [ByteArray.size_append]
   omega
 ·rw [if_neg h0,if_neg h1,if_neg h2,if_neg h3,if_neg h5,if_neg h4]
end
variable {n : Int} {fs : List eJ}
section
variable {P : R → Prop} {k : R → OR}
theorem aDd {l : List eR} (hl : l.length≤2097152) (h : Ok P (k [bI l])) : Ok P (bd (eA (bI l)) k):=by
 refine aI (Q:=λr=>r = [bI l]) ?_ (λr hr=>by rw [hr];exact h)
 rw [rY]
 refine aLg (aOB (λe=>aA ?_) ?_)
 ·have : l = []:=List.map_eq_nil_iff.1 e
  subst this;rfl
 ·exact nS (l:=[]) (m:=l) (by simp;omega) (aA (by simp))
theorem aSh {l : List ByteArray} (hl : l.length≤2097152) (h : Ok P (k [.lst (l.map PV.str)])) : Ok P (bd (lY (.lst (l.map PV.str))) k):=by
 refine aI (Q:=λr=>r = [.lst (l.map PV.str)]) ?_ (λr hr=>by rw [hr];exact h)
 rw [yB]
 refine aLg (aOB (λe=>aA ?_) ?_)
 ·have : l = []:=List.map_eq_nil_iff.1 e
  subst this;rfl
 ·exact mD (by simp;omega) aSU (aA rfl)
theorem aS6 (h0 : 0≤n) (h1 : n≤1000000000) (h : Ok P (k [bI (List.replicate n.toNat eQ)])) : Ok P (bd (aFx (.I n)) k):=by
 refine aI (Q:=λr=>r = [bI (List.replicate n.toNat eQ)]) ?_ (λr hr=>by rw [hr];exact h)
 rw [aO5]
 refine aBu h0 h1 (jM ?_)
 rw [decide_eq_true (Int.le_refl n)]
 exact bF (aBu h0 h1 (aA rfl))
theorem aWI (h0 : 0≤n) (h1 : n≤4194304) (h : Ok P (k [.lst []])) : Ok P (bd (iO (.I n)) k):=by
 refine aI (Q:=λr=>r = [.lst []]) ?_ (λr hr=>by rw [hr];exact h)
 rw [sI]
 unfold aAl
 simp only
 rw [gH]
 exact aA rfl
theorem aPs {a b : List eR} (ha : a.length≤2097152) (hb : b.length≤2097152) (h : Ok P (k [bI (a++b)])) : Ok P (bd (fJ (.lst [bI a,bI b])) k):=by
 refine aI (Q:=λr=>r = [bI (a++b)]) ?_ (λr hr=>by rw [hr];exact h)
 have at0 : ∀ {P : R→Prop} {k : PV→OR},Ok P (k (bI a))→Ok P (bd (aB 1 false (.lst [bI a,bI b]) (.I 0)) k):=λh=>aGq (by omega) rfl rfl h
 have at1 : ∀ {P : R→Prop} {k : PV→OR},Ok P (k (bI b))→Ok P (bd (aB 1 false (.lst [bI a,bI b]) (.I 1)) k):=λh=>aGq (by omega) rfl rfl h
 rw [rI]
 refine eS ?_
 show Ok _ (dN _ (.I 0) _ (.I 2) (.I 0))
 rw [fS]
 refine fB (bF (at0 (bX (bS (aO (λh=>by omega) (λ_=>bS ?_))))))
 show Ok _ (dN _ _ _ (.I 2) (.I 1))
 rw [fS]
 refine fB (bF (at1 (bX (bS (aO (λh=>by omega) (λ_=>bS ?_))))))
 show Ok _ (dN _ _ _ (.I 2) (.I 2))
 rw [fS]
 refine fB (bP (aWI (by omega) (by omega) (eS ?_)))
 show Ok _ (dI _ (.I 2) (.I 0) (bI []))
 rw [fN]
 refine fB (bF (at0 (nS (by simp;omega) (bS ?_))))
 show Ok _ (dI _ (.I 2) (.I 1) _)
 rw [fN]
 refine fB (bF (at1 (nS (by simp;omega) (bS ?_))))
 show Ok _ (dI _ (.I 2) (.I 2) _)
 rw [fN]
 refine fB (bP (aA ?_))
 simp
theorem aHg {i : Int} {k : PV→OR} (h0 : 0≤i) (h1 : i<fs.length) (h : ∀ f : eJ,fs[i.toNat]? = some f→Ok P (k f.pv)) : Ok P (bd (aB 3 true (.lst (fs.map eJ.pv)) (.I i)) k):=by
 obtain ⟨n,rfl⟩:=Int.eq_ofNat_of_zero_le h0
 refine aQ (by omega) (λ_=>rfl) (h _ ?_)
 rw [Int.toNat_natCast,List.getElem?_eq_getElem (by omega)]
theorem aME {T : PV} {g : Int} {args : List eR} (h0 : 0≤g) (h1 : g<fs.length) (hl : (args.length : Int)≤aCp fs g) (hl2 : aCp fs g≤12) (h : Ok P (k [.I g,.I 0,bI (yP fs g args).loc,bI []])) :
 Ok P (bd (zN (.agg [T,.lst (fs.map eJ.pv)]) (.I g) (bI args)) k):=by
 refine aI (Q:=λr=>r = [.I g,.I 0,bI (yP fs g args).loc,bI []]) ?_ (λr hr=>by rw [hr];exact h)
 rw [aKC]
 refine dY (aHg h0 h1 (λf hf=>?_))
 have e : aCp fs g=f.lc:=by unfold aCp;rw [hf];rfl
 rw [e] at hl hl2
 refine aL rfl (bX (dS (aS6 (by omega) (by omega) (gD (iI _) ?_))))
 refine mD (by simp) (λx hx=>?_) (aPs (by omega) (by simp;omega) (gD (iI _) (bJ rfl (aA ?_))))
 ·simp at hx
  rcases hx with rfl | rfl<;>rfl
 ·unfold yP
  rw [e]
  simp only
  rw [show (f.lc - (args.length : Int)).toNat=f.lc.toNat - args.length by omega]
  rfl
theorem aQX {hp : List (List eR)} (h : hp.length≤1000) (hl : ∀ r∈hp,r.length≤1000) : Ok (λr=>r = [.lst (hp.map bQ)]) (aBO (.lst (hp.map bQ))):=by
 rw [aJn]
 have e : (hp.map bQ).length=hp.length:=List.length_map ..
 refine eS ?_
 rw [e]
 refine (fQ (n:=hp.length) (F:=λi=>rT (.lst (hp.map bQ)) (.I hp.length) (.I i) (.lst ((hp.take i).map bQ))) (P:=λ_ r=>r = [.lst (hp.map bQ)]) ?_ (λi hi ih=>?_) 0 (Nat.zero_le _))
 ·rw [zA]
  refine fB ?_
  rw [decide_eq_false (by omega)]
  refine bP (aA ?_)
  rw [List.take_length]
 ·rw [zA]
  refine fB ?_
  rw [decide_eq_true (by omega)]
  refine bF (aQ hi (λ_=>rfl) (aPJ (aDd (by have:=hl _ (List.getElem_mem hi);omega) (gD (iI _) ?_))))
  refine iT (by simp;omega) (λx hx=>by simp at hx;subst hx;rfl) (bS ?_)
  have e : (hp.take (i+1)).map bQ=(hp.take i).map bQ++[PV.agg [bI hp[i]]]:=by
   rw [List.take_add_one,List.getElem?_eq_getElem hi,List.map_append];rfl
  rw [e] at ih
  exact ih
theorem aNx {fr : List dC} (h : fr.length≤1000) (hl : ∀ f∈fr,f.loc.length≤1000∧f.stk.length≤1000) : Ok (λr=>r = [.lst (fr.map dC.pv)]) (yN (.lst (fr.map dC.pv))):=by
 rw [aG7]
 have e : (fr.map dC.pv).length=fr.length:=List.length_map ..
 refine eS ?_
 rw [e]
 refine (fQ (n:=fr.length) (F:=λi=>pN (.lst (fr.map dC.pv)) (.I fr.length) (.I i) (.lst ((fr.take i).map dC.pv))) (P:=λ_ r=>r = [.lst (fr.map dC.pv)]) ?_ (λi hi ih=>?_) 0 (Nat.zero_le _))
 ·rw [vX]
  refine fB ?_
  rw [decide_eq_false (by omega)]
  refine bP (aA ?_)
  rw [List.take_length]
 ·rw [vX]
  refine fB ?_
  rw [decide_eq_true (by omega)]
  have hb:=hl _ (List.getElem_mem hi)
  refine bF (aQ hi (λ_=>rfl) (jG (aDd (by omega) (gD (iI _) (aDd (by omega) (gD (iI _) ?_))))))
  refine iT (by simp;omega) (λx hx=>by simp at hx;subst hx;rfl) (bS ?_)
  have e : (fr.take (i+1)).map dC.pv=(fr.take i).map dC.pv++[fr[i].pv]:=by
   rw [List.take_add_one,List.getElem?_eq_getElem hi,List.map_append];rfl
  rw [e] at ih
  exact ih
theorem aQY {v : mL} (z : Sz v) (h : Ok P (k (oC v))) : Ok P (bd (xK v.pv) k):=by
 refine aI (Q:=λr=>r=oC v) ?_ (λr hr=>by rw [hr];exact h)
 rw [aJj]
 refine tS ?_
 refine aI (aNx z.f z.fl) (λr hr=>?_)
 rw [hr]
 refine gD (aE4 _) (aI (aQX z.h z.hl) (λr hr=>?_))
 rw [hr]
 refine gD (aFC _) (aSh (by have:=z.o;omega) (gD (aJu _) (aA rfl)))
end
variable {f pc i : Int} {loc s l : List eR} {y c0 c1 c2 c3 c4 c5 c6 O : PV} {v : eR}
def DoI (made a3 a4 a5 a6 a7 a8 F H O : PV) (fs0 : List dC) : aIn→R→Prop
 | .trap c,r=>c≠0∧r = [.I c,made,a3,a4,a5,a6,a7,a8,F,H,O]
 | .next fr hp made' out,r=>r = [.I 0,.I made',a3,a4,a5,a6,a7,a8,.lst (fs0.map dC.pv++[fr.pv]),.lst (hp.map bQ),.lst (out.map PV.str)]
 | .call fr g,r=>r = [.I 0,made,a3,a4,a5,a6,a7,a8,.lst (fs0.map dC.pv++[fr.pv]++[g.pv]),H,O]
 | .ret v,r=>r=if fs0 = [] then [.I 0,made,.I 1,a4,.I v.k,.I v.n,.str v.s,a8,.lst [],H,O]
  else [.I 0,made,a3,a4,a5,a6,a7,a8,.lst ((aGi v fs0).map dC.pv),H,O]
section
variable {P : R → Prop} {k : R → OR} {A : R}
theorem pH {A : R} {j : Nat} {k : PV→OR} (hi : i=A.length) (hy : [PV.I f,.I pc,bI loc,bI s][j]? = some y) (h : Ok P (k y)) :
 Ok P (bd (aB 4 true (.lst (A++[dC.pv ⟨f,pc,loc,s⟩])) (.I i)) λx=>bd (PV.cell x j) k):=dV hi rfl (aL hy h)
theorem aDe {A : R} {f : dC} {k : PV→OR} (hi : i=A.length) (h : ∀ x,Ok P (k x)) : Ok P (bd (aB 4 true (.lst (A++[f.pv])) (.I i)) k):=dV hi rfl (h _)
theorem kQ {next base : Int} {t laid : List eR} {k : PV→OR} (hi : i=A.length) (hb : base=s.length) (hs : s.length≤1000) (hl : laid.length≤1000) (h : Ok P (k (.lst (A++[dC.pv ⟨f,next,loc,s++laid⟩])))) :
 Ok P (bd (aB 4 true (.lst (A++[dC.pv ⟨f,pc,loc,s++t⟩])) (.I i)) λ_=>
  bd (aB 4 true (.lst (A++[dC.pv ⟨f,pc,loc,s++t⟩])) (.I i)) λv1=>
  bd (PV.cell v1 3) λv2=>
  bd (bA 3 true v2 (.I 0) (.I base)) λ_=>
  bd (aB 4 true (.lst (A++[dC.pv ⟨f,pc,loc,s++t⟩])) (.I i)) λv4=>
  bd (PV.cell v4 3) λv5=>
  bd (bA 3 true v5 (.I 0) (.I base)) λv6=>
  bd (aB 4 true (.lst (A++[dC.pv ⟨f,pc,loc,s++t⟩])) (.I i)) λv7=>
  bd (PV.cell v7 3) λ_=>
  bd (aC 4 (.lst (A++[dC.pv ⟨f,pc,loc,s++t⟩])) (.I i) 3 .hole) λv9=>
  bd (aN 3 32 true v6 (bI laid)) λv10=>
  bd (aC 4 v9 (.I i) 3 v10) λv11=>
  bd (aS (.I next)) λv12=>
  bd (aC 4 v11 (.I i) 1 v12) k):=by
 subst hb
 refine aDe hi (λ_=>pH hi rfl (lL (by omega) (by omega) (by simp;omega) (pH hi rfl (lL (by omega) (by omega) (by simp;omega) (pH hi rfl ?_)))))
 have e : (((s++t).take (s.length : Int).toNat).drop (0 : Int).toNat)=s:=by simp
 rw [e]
 exact eW hi rfl (by omega) rfl (nS (by omega) (eW hi rfl (by omega) rfl (bJ rfl (eW hi rfl (by omega) rfl h))))
theorem aS7 {i : Nat} {k : PV→OR} (hv : l[i]? = some v) (h : Ok P (k v.pv)) : Ok P (bd (aT (bI l) (.I (i : Int))) λ_=>bd (aB 3 true (bI l) (.I (i : Int))) k):=by
 have hi:=(List.getElem?_eq_some_iff.1 hv).1
 refine gV (by omega) (by omega) (uA (by omega) (by omega) (λw hw=>?_))
 rw [Int.toNat_natCast,hv] at hw
 cases hw
 exact h
theorem aDf {k : PV→OR} (hl : l.length≤1000) (h : Ok P (k (bI l))) : Ok P (bd (aN 3 32 true (.lst []) (.lst (l.map eR.pv))) λv=>bd (aN 3 32 true (.lst []) v) k):=
 nS (l:=[]) (m:=l) (by simp;omega) (nS (l:=[]) (m:=l) (by simp;omega) (by simpa using h))
theorem aFF {f : Nat} {x : PV} {g : PV→PV→OR} {Q : R→Prop} (hg : aU f [x,y]=g x y) (h : Ok Q (g x y)) (hk : ∀ r,Q r→Ok P (k r)) : Ok P (bd (PV.apply aU (.fn f []) [x,y]) k):=sL hg h hk
theorem aQZ {x : Int} {hp : List (List eR)} {F : PV} (hx : 0≤x∧x≤1000) (hh : hp.length≤1000) (hr : ∀ r∈hp,r.length≤1000) (hv : v.k=4→0≤v.n∧v.n<hp.length)
 (h1 : v.k≠4→Ok P (k [.nil,.nil,.I 1,c0,c1,c2,c3,c4,c5,c6,F,.lst (hp.map bQ),O]))
 (h2 : v.k=4→(hp[v.n.toNat]?.getD []).length≤x→Ok P (k [.nil,.nil,.I 4,c0,c1,c2,c3,c4,c5,c6,F,.lst (hp.map bQ),O]))
 (h3 : v.k=4→x<(hp[v.n.toNat]?.getD []).length→Ok P (k [.I v.n,.I x,.I 0,c0,c1,c2,c3,c4,c5,c6,F,.lst (hp.map bQ),O])) :
 Ok P (bd (xL v.pv (.I x) c0 c1 c2 c3 c4 c5 c6 F (.lst (hp.map bQ)) O) k):=by
 refine aI (Q:=λr=>(v.k≠4∧r = [.nil,.nil,.I 1,c0,c1,c2,c3,c4,c5,c6,F,.lst (hp.map bQ),O])∨(v.k=4∧(hp[v.n.toNat]?.getD []).length≤x∧r = [.nil,.nil,.I 4,c0,c1,c2,c3,c4,c5,c6,F,.lst (hp.map bQ),O])∨
  (v.k=4∧x<(hp[v.n.toNat]?.getD []).length∧r = [.I v.n,.I x,.I 0,c0,c1,c2,c3,c4,c5,c6,F,.lst (hp.map bQ),O])) ?_ ?_
 rotate_left
 ·rintro r (⟨g1,rfl⟩ | ⟨g1,g2,rfl⟩ | ⟨g1,g2,rfl⟩)
  ·exact h1 g1
  ·exact h2 g1 g2
  ·exact h3 g1 g2
 rw [aJo]
 refine cB (dD (λg=>aA (.inl ⟨g,rfl⟩)) (λg=>?_))
 obtain ⟨g1,g2⟩:=hv g
 have hlen : (hp[v.n.toNat]?.getD []).length≤1000:=by
  cases hg : hp[v.n.toNat]? with
  | none=>simp
  | some r=>exact hr r (List.mem_of_getElem? hg)
 refine wZ g1 g2 (fV g1 g2 (fV g1 g2 (aL rfl (bX (aCA (λq=>aA (.inr (.inl ⟨g,q,rfl⟩))) (λq=>?_))))))
 exact wZ g1 g2 (fV g1 g2 (fV g1 g2 (aL rfl (gV (by omega) (by omega) (aA (.inr (.inr ⟨g,by omega,rfl⟩)))))))
theorem aUa {fs0 : List dC} {f : dC} {H : PV} (hn : fs0.length≤1000) (hs : ∀ g∈fs0,g.stk.length≤1000)
 (h : Ok P (k (if fs0 = [] then [c0,.I 1,c2,.I v.k,.I v.n,.str v.s,c6,.lst [],H,O] else [c0,c1,c2,c3,c4,c5,c6,.lst ((aGi v fs0).map dC.pv),H,O]))) :
 Ok P (bd (aAD v.pv c0 c1 c2 c3 c4 c5 c6 (.lst (fs0.map dC.pv++[f.pv])) H O) k):=by
 refine aI (Q:=λr=>r=(if fs0 = [] then [c0,.I 1,c2,.I v.k,.I v.n,.str v.s,c6,.lst [],H,O] else [c0,c1,c2,c3,c4,c5,c6,.lst ((aGi v fs0).map dC.pv),H,O])) ?_ (λr hr=>by rw [hr];exact h)
 rw [aIe]
 have e : ((fs0.map dC.pv++[f.pv]).length : Int) - 1=fs0.length:=by simp
 have el : ∀ x∈fs0.map dC.pv++[f.pv],x.isEl 4 true=true:=by
  intro x hx
  rcases List.mem_append.1 hx with hx | hx
  ·exact aN8 x hx
  ·simp at hx;subst hx;rfl
 have et : (((fs0.map dC.pv++[f.pv]).take ((fs0.length : Int)).toNat).drop ((0 : Int)).toNat)=fs0.map dC.pv:=by simp
 refine cB (eS (iS (by simp;omega) ?_))
 rw [e]
 refine aCz (by omega) (by omega) (by simp;omega) el (aCz (by omega) (by omega) (by simp;omega) el ?_)
 rw [et]
 refine aJ (λh0=>aA ?_) (λh0=>?_)
 ·have : fs0 = []:=List.eq_nil_of_length_eq_zero (by omega)
  subst this
  rfl
 ·obtain ⟨gs,g,rfl⟩ : ∃ gs g,fs0=gs++[g]:=by
   rcases List.eq_nil_or_concat fs0 with rfl | ⟨gs,g,rfl⟩
   ·simp at h0
   ·exact ⟨gs,g,by simp⟩
  have e2 : ((gs++[g]).length : Int) - 1=gs.length:=by simp
  have em : (gs++[g]).map dC.pv=gs.map dC.pv++[g.pv]:=by simp
  refine dS ?_
  rw [e2,em]
  have hi : (gs.length : Int)=(gs.map dC.pv).length:=by simp
  have hg:=hs g (by simp)
  obtain ⟨gf,gp,gl,gk⟩:=g
  have hg : gk.length≤1000:=hg
  refine eH (by omega) (by simp;omega) (aDe hi (λ_=>pH hi rfl (pH hi rfl ?_)))
  refine eW hi rfl (by omega) rfl (nS (m:=[v]) (by simp;omega) (eW hi rfl (by omega) rfl (aA ?_)))
  rw [if_neg (by simp),aDc]
  simp
  rfl
end
variable {P : R → Prop} {l : List eR} {v : eR} {k : PV → OR} {m : fO} {a3 a4 a5 a6 a7 a8 : PV}
theorem hX (hv : l[0]? = some v) (h : Ok P (k v.pv)) : Ok P (bd (aT (bI l) (.I 0)) λ_=>bd (aB 3 true (bI l) (.I 0)) k):=aS7 (i:=0) hv h
theorem aAR (hv : l[1]? = some v) (h : Ok P (k v.pv)) : Ok P (bd (aT (bI l) (.I 1)) λ_=>bd (aB 3 true (bI l) (.I 1)) k):=aS7 (i:=1) hv h
theorem aK4 {o : Int} {a b : eR} (ho : 11≤o∧o≤14) (hs : a.s.size≤2097152∧b.s.size≤2097152) : Ok (λr=>∀ {P : R→Prop} {k : R→OR},Ok P (k (opR (uT o a b)))→Ok P (bd (PV.apply aU (hd r) [a.pv,b.pv]) k)) (nB (.I o)):=by
 rw [aG8]
 refine dS ?_
 have : o=11∨o=12∨o=13∨o=14:=by omega
 rcases this with rfl | rfl | rfl | rfl
 ·exact aSy (by decide) rfl rfl (aA (λh=>aFF (g:=aGO) rfl (aVw hs) (λr hr=>by rw [hr];exact h)))
 ·exact aSy (by decide) rfl rfl (aA (λh=>aFF (g:=aGP) rfl aVx (λr hr=>by rw [hr];exact h)))
 ·exact aSy (by decide) rfl rfl (aA (λh=>aFF (g:=aGQ) rfl aVy (λr hr=>by rw [hr];exact h)))
 ·exact aSy (by decide) rfl rfl (aA (λh=>aFF (g:=aEN) rfl aT8 (λr hr=>by rw [hr];exact h)))
theorem aVB {A : R} {made T H O : PV} {f pc base g next i : Int} {loc s t args : List eR} (hi : i=A.length) (hb : base=s.length) (hs : s.length≤1000) (hA : A.length≤23) (hg : 0≤g∧g<m.funcs.length) (hargs : (args.length : Int)=iL m.funcs g)
 (par : ∀ f∈m.funcs,0≤f.p∧f.p≤6∧f.p≤f.lc∧f.lc≤12) :
 Ok (λr=>(A.length=23∧r = [.I 6,made,a3,a4,a5,a6,a7,a8,.lst (A++[dC.pv ⟨f,pc,loc,s++t⟩]),H,O])∨(A.length≠23∧r = [.I 0,made,a3,a4,a5,a6,a7,a8,.lst (A++[dC.pv ⟨f,next,loc,s⟩]++[(yP m.funcs g args).pv]),H,O]))
  (pA (.I i) (.I base) (.I next) (.I g) made a3 a4 a5 a6 a7 a8 T (.lst (m.funcs.map eJ.pv)) (.lst (A++[dC.pv ⟨f,pc,loc,s++t⟩])) H O (bI args)):=by
 subst hb
 rw [aIc]
 refine eS (aJ (λh=>aA (.inl ⟨by simp at h;omega,rfl⟩)) (λh=>?_))
 refine aDe hi (λ_=>pH hi rfl (lL (by omega) (by omega) (by simp;omega) (pH hi rfl (lL (by omega) (by omega) (by simp;omega) (pH hi rfl ?_)))))
 have e : (((s++t).take (s.length : Int).toNat).drop (0 : Int).toNat)=s:=by simp
 rw [e]
 refine eW hi rfl (by omega) rfl (eW hi rfl (by omega) rfl (bJ rfl (eW hi rfl (by omega) rfl ?_)))
 obtain ⟨q,rfl⟩:=Int.eq_ofNat_of_zero_le hg.1
 have hq : q<m.funcs.length:=by omega
 have hf:=par _ (List.getElem_mem hq)
 have hlc : aCp m.funcs q=m.funcs[q].lc:=by unfold aCp;rw [Int.toNat_natCast,List.getElem?_eq_getElem hq];rfl
 have hpa : iL m.funcs q=m.funcs[q].p:=by unfold iL;rw [Int.toNat_natCast,List.getElem?_eq_getElem hq];rfl
 refine aME (by omega) (by omega) (by rw [hlc];omega) (by rw [hlc];omega) (eF rfl (eF rfl (gD (iI _) (gD (iI []) ?_))))
 refine iT (by simp;omega) (λx hx=>by simp at hx;subst hx;rfl) (aA (.inr ⟨?_,rfl⟩))
 intro h0
 exact h (by simp;omega)
set_option maxHeartbeats 8000000 in
theorem aWJ {fs0 : List dC} {took : List eR} {hp : List (List eR)} {made ff fpc : Int} {floc fstk : List eR} {out : List ByteArray} {x : eC} {nc : Int}
 (S : aVa m fs0 ⟨ff,fpc+1,floc,fstk⟩ took hp made out) (hx : eI m.texts.length m.funcs.length floc.length nc x.o x.a=true) (hu : (took.length : Int)=(bU m.funcs x).1)
 (hff : 0≤ff∧ff<m.funcs.length) (hpc : 0≤fpc∧fpc≤1000) (hcode : (dR m.funcs ff)[fpc.toNat]? = some x) :
 Ok (DoI (.I made) a3 a4 a5 a6 a7 a8 (.lst (fs0.map dC.pv++[dC.pv ⟨ff,fpc,floc,fstk++took⟩])) (.lst (hp.map bQ)) (.lst (out.map PV.str)) fs0 (fX m ⟨ff,fpc+1,floc,fstk⟩ took (fs0.length+1) hp made out x))
  (aGM (.lst (m.texts.map PV.str)) (.lst (m.funcs.map eJ.pv)) (.I made) a3 a4 a5 a6 a7 a8
   (.lst (fs0.map dC.pv++[dC.pv ⟨ff,fpc,floc,fstk++took⟩])) (.lst (hp.map bQ)) (.lst (out.map PV.str))):=by
 obtain ⟨q26,q3,q67,q20,q2122,q23,q524,qj,q1⟩:=aAd hx
 obtain ⟨nf,nt,par,n0,stks,nl,ns,recs,nh,nm,no,vals0⟩:=S
 simp only at *
 have hsz : ∀ v∈took,v.s.size≤2097152:=λv hv=>by have:=dE (vals0 v hv);omega
 have hrec : ∀ r∈hp,r.length≤1000:=λr hr=>by have:=recs r hr;omega
 rw [aNm]
 have hA : (fs0.map dC.pv).length=fs0.length:=List.length_map ..
 have hi : (fs0.length : Int)=(fs0.map dC.pv).length:=by rw [hA]
 have e : ((fs0.map dC.pv++[dC.pv ⟨ff,fpc,floc,fstk++took⟩]).length : Int) - 1=fs0.length:=by simp
 refine eS (iS (by simp;omega) ?_)
 rw [e]
 refine eH (by omega) (by simp;omega) (pH hi rfl (aHg hff.1 hff.2 (λfn hfn=>aL rfl (pH hi rfl ?_))))
 have hcd : (fn.code.map eC.pv)[fpc.toNat]? = some x.pv:=by
  have : dR m.funcs ff=fn.code:=by unfold dR;rw [hfn];rfl
  rw [List.getElem?_map,← this,hcode];rfl
 refine aGq (by omega) hcd rfl (dY (aI (aN2 (by omega)) (λr hr=>?_)))
 rw [hr]
 refine gZ (aDe hi (λ_=>pH hi rfl (bX (iS (by simp;omega) ?_))))
 have e2 : ((fstk++took).length : Int) - (bU m.funcs x).1=fstk.length:=by rw [← hu];simp
 rw [e2]
 refine aDe hi (λ_=>pH hi rfl (bX (lL (by omega) (by simp;omega) (by omega) (pH hi rfl (lL (by omega) (by simp;omega) (by omega) ?_)))))
 have e3 : (((fstk++took).take ((fstk++took).length : Int).toNat).drop (fstk.length : Int).toNat)=took:=by rw [Int.toNat_natCast,Int.toNat_natCast,List.take_length,List.drop_left]
 rw [e3]
 refine aDd (by omega) (gD (iI _) (pH hi rfl (bS ?_)))
 have hfs : fstk.length≤1000:=by omega
 refine aJ (λho=>?_) (λn1=>?_)
 ·have e0 : bU m.funcs x=(0,1):=by unfold bU;repeat (first | rfl | rw [gH] | rw [eV])
  rw [e0] at hu
  obtain rfl:=List.eq_nil_of_length_eq_zero (show took.length=0 by omega)
  have e : fX m ⟨ff,fpc+1,floc,fstk⟩ [] (fs0.length+1) hp made out x = .next ⟨ff,fpc+1,floc,fstk++[zR x.a]⟩ hp made out:=by simp only [fX,List.headD,List.tail];(repeat (first | rfl | refine (gH).trans ?_ | refine (eV).trans ?_))
  exact aGm (aDf (l:=[zR x.a]) (by simp) (kQ (laid:=[zR x.a]) hi rfl hfs (by simp) (aA (by rw [e];rfl))))
 refine aJ (λho=>?_) (λn2=>?_)
 ·have e0 : bU m.funcs x=(0,1):=by unfold bU;repeat (first | rfl | rw [gH] | rw [eV])
  rw [e0] at hu
  obtain rfl:=List.eq_nil_of_length_eq_zero (show took.length=0 by omega)
  have e : fX m ⟨ff,fpc+1,floc,fstk⟩ [] (fs0.length+1) hp made out x = .next ⟨ff,fpc+1,floc,fstk++[rJ (decide (x.a=1))]⟩ hp made out:=by simp only [fX,List.headD,List.tail];(repeat (first | rfl | refine (gH).trans ?_ | refine (eV).trans ?_))
  exact cL (rL (aDf (l:=[rJ (decide (x.a=1))]) (by simp) (kQ (laid:=[rJ (decide (x.a=1))]) hi rfl hfs (by simp) (aA (by rw [e];rfl)))))
 refine aJ (λho=>?_) (λn3=>?_)
 ·have e0 : bU m.funcs x=(0,1):=by unfold bU;repeat (first | rfl | rw [gH] | rw [eV])
  rw [e0] at hu
  obtain rfl:=List.eq_nil_of_length_eq_zero (show took.length=0 by omega)
  obtain ⟨xa,hxa⟩:=Int.eq_ofNat_of_zero_le (q3 ho).1
  have hlt : xa<m.texts.length:=by have:=q3 ho;omega
  have e : fX m ⟨ff,fpc+1,floc,fstk⟩ [] (fs0.length+1) hp made out x = .next ⟨ff,fpc+1,floc,fstk++[aDD m.texts[xa]]⟩ hp made out:=by
   have et : m.texts[x.a.toNat]?.getD (bs [])=m.texts[xa]:=by rw [hxa,Int.toNat_natCast,List.getElem?_eq_getElem hlt];rfl
   simp only [fX,List.headD,List.tail,et];(repeat (first | rfl | refine (gH).trans ?_ | refine (eV).trans ?_))
  rw [hxa]
  refine aQ hlt (λ_=>rfl) (bJ rfl (kQ (laid:=[aDD m.texts[xa]]) hi rfl hfs (by simp) (aA (by rw [e];rfl))))
 refine aJ (λho=>?_) (λn4=>?_)
 ·have e0 : bU m.funcs x=(0,1):=by unfold bU;repeat (first | rfl | rw [gH] | rw [eV])
  rw [e0] at hu
  obtain rfl:=List.eq_nil_of_length_eq_zero (show took.length=0 by omega)
  have e : fX m ⟨ff,fpc+1,floc,fstk⟩ [] (fs0.length+1) hp made out x = .next ⟨ff,fpc+1,floc,fstk++[eQ]⟩ hp made out:=by simp only [fX,List.headD,List.tail];(repeat (first | rfl | refine (gH).trans ?_ | refine (eV).trans ?_))
  exact kQ (laid:=[eQ]) hi rfl hfs (by simp) (aA (by rw [e];rfl))
 refine aJ (λho=>?_) (λn5=>?_)
 ·have e0 : bU m.funcs x=(0,1):=by unfold bU;repeat (first | rfl | rw [gH] | rw [eV])
  rw [e0] at hu
  obtain rfl:=List.eq_nil_of_length_eq_zero (show took.length=0 by omega)
  have e : fX m ⟨ff,fpc+1,floc,fstk⟩ [] (fs0.length+1) hp made out x = .next ⟨ff,fpc+1,floc,fstk++[aPa x.a]⟩ hp made out:=by simp only [fX,List.headD,List.tail];(repeat (first | rfl | refine (gH).trans ?_ | refine (eV).trans ?_))
  exact bJ rfl (kQ (laid:=[aPa x.a]) hi rfl hfs (by simp) (aA (by rw [e];rfl)))
 refine aJ (λho=>?_) (λn6=>?_)
 ·have e0 : bU m.funcs x=(0,1):=by unfold bU;repeat (first | rfl | rw [gH] | rw [eV])
  rw [e0] at hu
  obtain rfl:=List.eq_nil_of_length_eq_zero (show took.length=0 by omega)
  have hq:=q67 (.inl ho)
  obtain ⟨v,hv⟩ : ∃ v,floc[x.a.toNat]? = some v:=⟨_,List.getElem?_eq_getElem (show x.a.toNat<floc.length by omega)⟩
  have e : fX m ⟨ff,fpc+1,floc,fstk⟩ [] (fs0.length+1) hp made out x = .next ⟨ff,fpc+1,floc,fstk++[v]⟩ hp made out:=by
   have et : floc[x.a.toNat]?.getD eQ=v:=by rw [hv];rfl
   simp only [fX,List.headD,List.tail,et];(repeat (first | rfl | refine (gH).trans ?_ | refine (eV).trans ?_))
  refine aDe hi (λ_=>pH hi rfl (gV (by omega) (by omega) (pH hi rfl (uA (by omega) (by omega) (λv' hv'=>?_)))))
  rw [hv] at hv';cases hv'
  exact aDf (l:=[v]) (by simp) (kQ (laid:=[v]) hi rfl hfs (by simp) (aA (by rw [e];rfl)))
 refine aJ (λho=>?_) (λn7=>?_)
 ·have e0 : bU m.funcs x=(1,0):=by unfold bU;repeat (first | rfl | rw [gH] | rw [eV])
  rw [e0] at hu
  obtain ⟨a,rfl⟩:=List.length_eq_one_iff.1 (show took.length=1 by omega)
  have hq:=q67 (.inr ho)
  have e : fX m ⟨ff,fpc+1,floc,fstk⟩ [a] (fs0.length+1) hp made out x = .next ⟨ff,fpc+1,floc.set x.a.toNat a,fstk⟩ hp made out:=by simp only [fX,List.headD,List.tail];(repeat (first | rfl | refine (gH).trans ?_ | refine (eV).trans ?_))
  refine aDe hi (λ_=>hX rfl (pH hi rfl (gV (by omega) (by omega) (pH hi rfl (pH hi rfl (uP (by omega) (by omega) (pH hi rfl (eW hi rfl (by omega) rfl ?_))))))))
  exact kQ (loc:=floc.set x.a.toNat a) (laid:=[]) hi rfl hfs (by simp) (aA (by rw [e];simp [DoI]))
 refine aJ (λho=>?_) (λn8=>?_)
 ·have e0 : bU m.funcs x=(1,2):=by unfold bU;repeat (first | rfl | rw [gH] | rw [eV])
  rw [e0] at hu
  obtain ⟨a,rfl⟩:=List.length_eq_one_iff.1 (show took.length=1 by omega)
  have e : fX m ⟨ff,fpc+1,floc,fstk⟩ [a] (fs0.length+1) hp made out x = .next ⟨ff,fpc+1,floc,fstk++[a,a]⟩ hp made out:=by simp only [fX,List.headD,List.tail];(repeat (first | rfl | refine (gH).trans ?_ | refine (eV).trans ?_))
  exact hX rfl (hX rfl (aDf (l:=[a,a]) (by simp) (kQ (laid:=[a,a]) hi rfl hfs (by simp) (aA (by rw [e];rfl)))))
 refine aJ (λho=>?_) (λn10=>?_)
 ·have e0 : bU m.funcs x=(2,2):=by unfold bU;repeat (first | rfl | rw [gH] | rw [eV])
  rw [e0] at hu
  obtain ⟨a,b,rfl⟩:=vP (show took.length=2 by omega)
  have e : fX m ⟨ff,fpc+1,floc,fstk⟩ [a,b] (fs0.length+1) hp made out x = .next ⟨ff,fpc+1,floc,fstk++[b,a]⟩ hp made out:=by simp only [fX,List.headD,List.tail];(repeat (first | rfl | refine (gH).trans ?_ | refine (eV).trans ?_))
  exact aAR rfl (hX rfl (aDf (l:=[b,a]) (by simp) (kQ (laid:=[b,a]) hi rfl hfs (by simp) (aA (by rw [e];rfl)))))
 refine aJ (λho=>?_) (λn11=>?_)
 ·have e0 : bU m.funcs x=(2,1):=by unfold bU;repeat (first | rfl | rw [gH] | rw [eV])
  rw [e0] at hu
  obtain ⟨a,b,rfl⟩:=vP (show took.length=2 by omega)
  have hab:=hsz a (by simp);have hbb:=hsz b (by simp)
  refine aI (aK4 (a:=a) (b:=b) (by omega) ⟨hab,hbb⟩) (λr hr=>hX rfl (aAR rfl (hr (gZ (cB (dD (λht=>aA ?_) (λht=>?_)))))))
  ·have e : fX m ⟨ff,fpc+1,floc,fstk⟩ [a,b] (fs0.length+1) hp made out x = .trap (uT x.o a b).2:=by simp only [fX,List.headD,List.tail];(repeat (first | rfl | refine (gH).trans ?_ | refine (eV).trans ?_))
   rw [e];exact ⟨ht,rfl⟩
  ·have e : fX m ⟨ff,fpc+1,floc,fstk⟩ [a,b] (fs0.length+1) hp made out x = .next ⟨ff,fpc+1,floc,fstk++[(uT x.o a b).1]⟩ hp made out:=by simp only [fX,List.headD,List.tail];(repeat (first | rfl | refine (gH).trans ?_ | refine (eV).trans ?_))
   exact kQ (laid:=[(uT x.o a b).1]) hi rfl hfs (by simp) (aA (by rw [e];rfl))
 refine aJ (λho=>?_) (λn12=>?_)
 ·have e0 : bU m.funcs x=(2,1):=by unfold bU;repeat (first | rfl | rw [gH] | rw [eV])
  rw [e0] at hu
  obtain ⟨a,b,rfl⟩:=vP (show took.length=2 by omega)
  have hab:=hsz a (by simp);have hbb:=hsz b (by simp)
  refine aI (aK4 (a:=a) (b:=b) (by omega) ⟨hab,hbb⟩) (λr hr=>hX rfl (aAR rfl (hr (gZ (cB (dD (λht=>aA ?_) (λht=>?_)))))))
  ·have e : fX m ⟨ff,fpc+1,floc,fstk⟩ [a,b] (fs0.length+1) hp made out x = .trap (uT x.o a b).2:=by simp only [fX,List.headD,List.tail];(repeat (first | rfl | refine (gH).trans ?_ | refine (eV).trans ?_))
   rw [e];exact ⟨ht,rfl⟩
  ·have e : fX m ⟨ff,fpc+1,floc,fstk⟩ [a,b] (fs0.length+1) hp made out x = .next ⟨ff,fpc+1,floc,fstk++[(uT x.o a b).1]⟩ hp made out:=by simp only [fX,List.headD,List.tail];(repeat (first | rfl | refine (gH).trans ?_ | refine (eV).trans ?_))
   exact kQ (laid:=[(uT x.o a b).1]) hi rfl hfs (by simp) (aA (by rw [e];rfl))
 refine aJ (λho=>?_) (λn13=>?_)
 ·have e0 : bU m.funcs x=(2,1):=by unfold bU;repeat (first | rfl | rw [gH] | rw [eV])
  rw [e0] at hu
  obtain ⟨a,b,rfl⟩:=vP (show took.length=2 by omega)
  have hab:=hsz a (by simp);have hbb:=hsz b (by simp)
  refine aI (aK4 (a:=a) (b:=b) (by omega) ⟨hab,hbb⟩) (λr hr=>hX rfl (aAR rfl (hr (gZ (cB (dD (λht=>aA ?_) (λht=>?_)))))))
  ·have e : fX m ⟨ff,fpc+1,floc,fstk⟩ [a,b] (fs0.length+1) hp made out x = .trap (uT x.o a b).2:=by simp only [fX,List.headD,List.tail];(repeat (first | rfl | refine (gH).trans ?_ | refine (eV).trans ?_))
   rw [e];exact ⟨ht,rfl⟩
  ·have e : fX m ⟨ff,fpc+1,floc,fstk⟩ [a,b] (fs0.length+1) hp made out x = .next ⟨ff,fpc+1,floc,fstk++[(uT x.o a b).1]⟩ hp made out:=by simp only [fX,List.headD,List.tail];(repeat (first | rfl | refine (gH).trans ?_ | refine (eV).trans ?_))
   exact kQ (laid:=[(uT x.o a b).1]) hi rfl hfs (by simp) (aA (by rw [e];rfl))
 refine aJ (λho=>?_) (λn14=>?_)
 ·have e0 : bU m.funcs x=(2,1):=by unfold bU;repeat (first | rfl | rw [gH] | rw [eV])
  rw [e0] at hu
  obtain ⟨a,b,rfl⟩:=vP (show took.length=2 by omega)
  have hab:=hsz a (by simp);have hbb:=hsz b (by simp)
  refine aI (aK4 (a:=a) (b:=b) (by omega) ⟨hab,hbb⟩) (λr hr=>hX rfl (aAR rfl (hr (gZ (cB (dD (λht=>aA ?_) (λht=>?_)))))))
  ·have e : fX m ⟨ff,fpc+1,floc,fstk⟩ [a,b] (fs0.length+1) hp made out x = .trap (uT x.o a b).2:=by simp only [fX,List.headD,List.tail];(repeat (first | rfl | refine (gH).trans ?_ | refine (eV).trans ?_))
   rw [e];exact ⟨ht,rfl⟩
  ·have e : fX m ⟨ff,fpc+1,floc,fstk⟩ [a,b] (fs0.length+1) hp made out x = .next ⟨ff,fpc+1,floc,fstk++[(uT x.o a b).1]⟩ hp made out:=by simp only [fX,List.headD,List.tail];(repeat (first | rfl | refine (gH).trans ?_ | refine (eV).trans ?_))
   exact kQ (laid:=[(uT x.o a b).1]) hi rfl hfs (by simp) (aA (by rw [e];rfl))
 refine aJ (λho=>?_) (λn15=>?_)
 ·have e0 : bU m.funcs x=(2,1):=by unfold bU;repeat (first | rfl | rw [gH] | rw [eV])
  rw [e0] at hu
  obtain ⟨a,b,rfl⟩:=vP (show took.length=2 by omega)
  have e4 : (uT x.o a b)=(aGh a b,0):=by unfold uT;repeat (first | rfl | rw [gH] | rw [eV])
  have e : fX m ⟨ff,fpc+1,floc,fstk⟩ [a,b] (fs0.length+1) hp made out x = .next ⟨ff,fpc+1,floc,fstk++[aGh a b]⟩ hp made out:=by simp only [fX,List.headD,List.tail,e4];(repeat (first | rfl | exact if_neg (λh=>h rfl) | refine (gH).trans ?_ | refine (eV).trans ?_))
  exact hX rfl (aAR rfl (aI aT9 (λr hr=>by rw [hr];exact aDf (l:=[aGh a b]) (by simp) (kQ (laid:=[aGh a b]) hi rfl hfs (by simp) (aA (by rw [e];rfl))))))
 refine aJ (λho=>?_) (λn16=>?_)
 ·have e0 : bU m.funcs x=(1,1):=by unfold bU;repeat (first | rfl | rw [gH] | rw [eV])
  rw [e0] at hu
  obtain ⟨a,rfl⟩:=List.length_eq_one_iff.1 (show took.length=1 by omega)
  refine hX rfl (tZ aVA (gZ (cB (dD (λht=>aA ?_) (λht=>?_)))))
  ·have e : fX m ⟨ff,fpc+1,floc,fstk⟩ [a] (fs0.length+1) hp made out x = .trap (aCo a).2:=by simp only [fX,List.headD,List.tail];(repeat (first | rfl | refine (gH).trans ?_ | refine (eV).trans ?_))
   rw [e];exact ⟨ht,rfl⟩
  ·have e : fX m ⟨ff,fpc+1,floc,fstk⟩ [a] (fs0.length+1) hp made out x = .next ⟨ff,fpc+1,floc,fstk++[(aCo a).1]⟩ hp made out:=by simp only [fX,List.headD,List.tail];(repeat (first | rfl | refine (gH).trans ?_ | refine (eV).trans ?_))
   exact kQ (laid:=[(aCo a).1]) hi rfl hfs (by simp) (aA (by rw [e];rfl))
 refine aJ (λho=>?_) (λn17=>?_)
 ·have e0 : bU m.funcs x=(0,0):=by unfold bU;repeat (first | rfl | rw [gH] | rw [eV])
  rw [e0] at hu
  obtain rfl:=List.eq_nil_of_length_eq_zero (show took.length=0 by omega)
  have e : fX m ⟨ff,fpc+1,floc,fstk⟩ [] (fs0.length+1) hp made out x = .next ⟨ff,x.a,floc,fstk⟩ hp made out:=by simp only [fX,List.headD,List.tail];(repeat (first | rfl | refine (gH).trans ?_ | refine (eV).trans ?_))
  exact kQ (next:=x.a) (laid:=[]) hi rfl hfs (by simp) (aA (by rw [e];simp [DoI]))
 refine aJ (λho=>?_) (λn18=>?_)
 ·have e0 : bU m.funcs x=(1,0):=by unfold bU;repeat (first | rfl | rw [gH] | rw [eV])
  rw [e0] at hu
  obtain ⟨a,rfl⟩:=List.length_eq_one_iff.1 (show took.length=1 by omega)
  have hd : decide (x.o=18)=true:=by simp [ho]
  refine hX rfl (aL rfl (dD (λh1=>aA ?_) (λh1=>?_)))
  ·have e : fX m ⟨ff,fpc+1,floc,fstk⟩ [a] (fs0.length+1) hp made out x = .trap 1:=by simp only [fX,List.headD,List.tail];(repeat (first | rfl | refine (gH).trans ?_ | refine (eV).trans ?_))
   rw [e];exact ⟨by omega,rfl⟩
  refine hX rfl (aL rfl (cL (cL (aCy (aZ (λh2=>?_) (λh2=>?_))))))
  ·have e : fX m ⟨ff,fpc+1,floc,fstk⟩ [a] (fs0.length+1) hp made out x = .next ⟨ff,x.a,floc,fstk⟩ hp made out:=by simp only [fX,List.headD,List.tail];(repeat (first | rfl | refine (gH).trans ?_ | refine (eV).trans ?_ | refine (if_pos h2).trans ?_))
   exact kQ (next:=x.a) (laid:=[]) hi rfl hfs (by simp) (aA (by rw [e];simp [DoI]))
  ·have e : fX m ⟨ff,fpc+1,floc,fstk⟩ [a] (fs0.length+1) hp made out x = .next ⟨ff,fpc+1,floc,fstk++[]⟩ hp made out:=by simp only [fX,List.headD,List.tail];(repeat (first | rfl | refine (gH).trans ?_ | refine (eV).trans ?_ | exact if_neg (λh=>Bool.noConfusion (h2.symm.trans h))))
   exact kQ (laid:=[]) hi rfl hfs (by simp) (aA (by rw [e];rfl))
 refine aJ (λho=>?_) (λn19=>?_)
 ·have e0 : bU m.funcs x=(1,0):=by unfold bU;repeat (first | rfl | rw [gH] | rw [eV])
  rw [e0] at hu
  obtain ⟨a,rfl⟩:=List.length_eq_one_iff.1 (show took.length=1 by omega)
  have hd : decide (x.o=18)=false:=by simp [ho]
  refine hX rfl (aL rfl (dD (λh1=>aA ?_) (λh1=>?_)))
  ·have e : fX m ⟨ff,fpc+1,floc,fstk⟩ [a] (fs0.length+1) hp made out x = .trap 1:=by simp only [fX,List.headD,List.tail];(repeat (first | rfl | refine (gH).trans ?_ | refine (eV).trans ?_))
   rw [e];exact ⟨by omega,rfl⟩
  refine hX rfl (aL rfl (cL (cL (aCy (aZ (λh2=>?_) (λh2=>?_))))))
  ·have e : fX m ⟨ff,fpc+1,floc,fstk⟩ [a] (fs0.length+1) hp made out x = .next ⟨ff,x.a,floc,fstk⟩ hp made out:=by simp only [fX,List.headD,List.tail];(repeat (first | rfl | refine (gH).trans ?_ | refine (eV).trans ?_ | refine (if_pos h2).trans ?_))
   exact kQ (next:=x.a) (laid:=[]) hi rfl hfs (by simp) (aA (by rw [e];simp [DoI]))
  ·have e : fX m ⟨ff,fpc+1,floc,fstk⟩ [a] (fs0.length+1) hp made out x = .next ⟨ff,fpc+1,floc,fstk++[]⟩ hp made out:=by simp only [fX,List.headD,List.tail];(repeat (first | rfl | refine (gH).trans ?_ | refine (eV).trans ?_ | exact if_neg (λh=>Bool.noConfusion (h2.symm.trans h))))
   exact kQ (laid:=[]) hi rfl hfs (by simp) (aA (by rw [e];rfl))
 refine aJ (λho=>?_) (λn20=>?_)
 ·have e0 : bU m.funcs x=(0,1):=by unfold bU;repeat (first | rfl | rw [gH] | rw [eV])
  rw [e0] at hu
  obtain rfl:=List.eq_nil_of_length_eq_zero (show took.length=0 by omega)
  have hq:=q20 ho
  refine aJ (λh1=>aA ?_) (λh1=>?_)
  ·have e : fX m ⟨ff,fpc+1,floc,fstk⟩ [] (fs0.length+1) hp made out x = .trap 7:=by simp only [fX,List.headD,List.tail];(repeat (first | rfl | refine (gH).trans ?_ | refine (eV).trans ?_))
   rw [e];exact ⟨by omega,rfl⟩
  have e : fX m ⟨ff,fpc+1,floc,fstk⟩ [] (fs0.length+1) hp made out x = .next ⟨ff,fpc+1,floc,fstk++[aTN hp.length]⟩ (hp++[List.replicate x.a.toNat eQ]) (made+1) out:=by simp only [fX,List.headD,List.tail];(repeat (first | rfl | refine (gH).trans ?_ | refine (eV).trans ?_))
  refine aF (bJ rfl (aS6 (by omega) (by omega) (gD (iI _) (iT (by simp;omega) (λy hy=>by simp at hy;subst hy;rfl) (bS (bJ rfl ?_))))))
  exact kQ (laid:=[aTN hp.length]) hi rfl hfs (by simp) (aA (by rw [e];simp [DoI];rfl))
 refine aJ (λho=>?_) (λn21=>?_)
 ·have e0 : bU m.funcs x=(1,1):=by unfold bU;repeat (first | rfl | rw [gH] | rw [eV])
  rw [e0] at hu
  obtain ⟨a,rfl⟩:=List.length_eq_one_iff.1 (show took.length=1 by omega)
  have hq:=q2122 (.inl ho)
  refine hX rfl (aQZ (by omega) (by omega) hrec (aAc (vals0 a (by simp))) (λh1=>?_) (λh1 h2=>?_) (λh1 h2=>?_))
  ·have e : fX m ⟨ff,fpc+1,floc,fstk⟩ [a] (fs0.length+1) hp made out x = .trap 1:=by simp only [fX,List.headD,List.tail];(repeat (first | rfl | refine (gH).trans ?_ | refine (eV).trans ?_))
   refine dD (λ_=>aA ?_) (λh=>absurd h (by decide))
   rw [e];exact ⟨by omega,rfl⟩
  ·have e : fX m ⟨ff,fpc+1,floc,fstk⟩ [a] (fs0.length+1) hp made out x = .trap 4:=by simp only [fX,List.headD,List.tail];(repeat (first | rfl | refine (gH).trans ?_ | refine (eV).trans ?_))
   refine dD (λ_=>aA ?_) (λh=>absurd h (by decide))
   rw [e];exact ⟨by omega,rfl⟩
  ·have hr4:=aAc (vals0 a (by simp)) h1
   obtain ⟨v,hv⟩ : ∃ v,(hp[a.n.toNat]?.getD [])[x.a.toNat]? = some v:=⟨_,List.getElem?_eq_getElem (show x.a.toNat<(hp[a.n.toNat]?.getD []).length by omega)⟩
   have et : (hp[a.n.toNat]?.getD [])[x.a.toNat]?.getD eQ=v:=by rw [hv];rfl
   have e : fX m ⟨ff,fpc+1,floc,fstk⟩ [a] (fs0.length+1) hp made out x = .next ⟨ff,fpc+1,floc,fstk++[v]⟩ hp made out:=by simp only [fX,List.headD,List.tail,et];(repeat (first | rfl | refine (gH).trans ?_ | refine (eV).trans ?_))
   refine dD (λh=>absurd rfl h) (λ_=>aPI (fV hr4.1 hr4.2 (aL rfl (uA (by omega) (by omega) (λv' hv'=>?_)))))
   rw [hv] at hv';cases hv'
   exact aDf (l:=[v]) (by simp) (kQ (laid:=[v]) hi rfl hfs (by simp) (aA (by rw [e];rfl)))
 refine aJ (λho=>?_) (λn22=>?_)
 ·have e0 : bU m.funcs x=(2,0):=by unfold bU;repeat (first | rfl | rw [gH] | rw [eV])
  rw [e0] at hu
  obtain ⟨a,b,rfl⟩:=vP (show took.length=2 by omega)
  have hq:=q2122 (.inr ho)
  refine hX rfl (aQZ (by omega) (by omega) hrec (aAc (vals0 a (by simp))) (λh1=>?_) (λh1 h2=>?_) (λh1 h2=>?_))
  ·have e : fX m ⟨ff,fpc+1,floc,fstk⟩ [a,b] (fs0.length+1) hp made out x = .trap 1:=by simp only [fX,List.headD,List.tail];(repeat (first | rfl | refine (gH).trans ?_ | refine (eV).trans ?_))
   refine dD (λ_=>aA ?_) (λh=>absurd h (by decide))
   rw [e];exact ⟨by omega,rfl⟩
  ·have e : fX m ⟨ff,fpc+1,floc,fstk⟩ [a,b] (fs0.length+1) hp made out x = .trap 4:=by simp only [fX,List.headD,List.tail];(repeat (first | rfl | refine (gH).trans ?_ | refine (eV).trans ?_))
   refine dD (λ_=>aA ?_) (λh=>absurd h (by decide))
   rw [e];exact ⟨by omega,rfl⟩
  ·have hr4:=aAc (vals0 a (by simp)) h1
   have e : fX m ⟨ff,fpc+1,floc,fstk⟩ [a,b] (fs0.length+1) hp made out x = .next ⟨ff,fpc+1,floc,fstk⟩ (hp.set a.n.toNat ((hp[a.n.toNat]?.getD []).set x.a.toNat b)) made out:=by simp only [fX,List.headD,List.tail];(repeat (first | rfl | refine (gH).trans ?_ | refine (eV).trans ?_))
   refine dD (λh=>absurd rfl h) (λ_=>aAR rfl (aPI (fV hr4.1 hr4.2 (aL rfl (fV hr4.1 hr4.2 (aL rfl (uP (by omega) (by omega) (fV hr4.1 hr4.2 (aL rfl (aMt hr4.1 hr4.2 ?_))))))))))
   exact kQ (laid:=[]) hi rfl hfs (by simp) (aA (by rw [e,List.append_nil];rfl))
 refine aJ (λho=>?_) (λn23=>?_)
 ·have e0 : bU m.funcs x=(x.a+1,1):=by unfold bU;repeat (first | rfl | rw [gH] | rw [eV])
  rw [e0] at hu
  have hq:=q23 ho
  obtain ⟨a,args,rfl⟩ : ∃ a args,took=a::args:=by
   cases took with
   | nil=>simp at hu;omega
   | cons a args=>exact ⟨a,args,rfl⟩
  simp only [List.length_cons] at hu
  have hk:=vals0 a (by simp)
  refine cL ?_
  rw [decide_eq_true ho]
  refine bF (hX rfl (aL rfl (dD (λh1=>aA ?_) (λh1=>?_))))
  ·have e : fX m ⟨ff,fpc+1,floc,fstk⟩ (a::args) (fs0.length+1) hp made out x = .trap 1:=by simp only [fX,List.headD,List.tail];(repeat (first | rfl | refine (gH).trans ?_ | refine (eV).trans ?_))
   rw [e];exact ⟨by omega,rfl⟩
  have h5:=aJs hk h1
  obtain ⟨q,hqn⟩:=Int.eq_ofNat_of_zero_le h5.1
  have hql : q<m.funcs.length:=by omega
  have hpa : iL m.funcs a.n=m.funcs[q].p:=by unfold iL;rw [hqn,Int.toNat_natCast,List.getElem?_eq_getElem hql];rfl
  refine hX rfl (aL rfl (aHg h5.1 h5.2 (λfn2 hfn2=>aL rfl ?_)))
  have hp2 : fn2.p=iL m.funcs a.n:=by unfold iL;rw [hfn2];rfl
  rw [hp2]
  refine dD (λh2=>aA ?_) (λh2=>?_)
  ·have e : fX m ⟨ff,fpc+1,floc,fstk⟩ (a::args) (fs0.length+1) hp made out x = .trap 5:=by simp only [fX,List.headD,List.tail];(repeat (first | rfl | refine (gH).trans ?_ | refine (eV).trans ?_))
   rw [e];exact ⟨by omega,rfl⟩
  refine hX rfl (aL rfl (bX (lL (by omega) (by simp;omega) (by omega) (lL (by omega) (by simp;omega) (by omega) ?_))))
  have et : (((a::args).take ((a::args).length : Int).toNat).drop (1 : Int).toNat)=args:=by rw [Int.toNat_natCast,List.take_length];rfl
  rw [et]
  refine (aVB (t:=a::args) hi rfl hfs (by rw [hA];omega) h5 (by omega) par).mono (λr hr=>?_)
  rcases hr with ⟨h6,rfl⟩ | ⟨h6,rfl⟩
  ·have e : fX m ⟨ff,fpc+1,floc,fstk⟩ (a::args) (fs0.length+1) hp made out x = .trap 6:=by simp only [fX,List.headD,List.tail];(repeat (first | rfl | refine (gH).trans ?_ | refine (eV).trans ?_))
   rw [e];exact ⟨by omega,rfl⟩
  ·have e : fX m ⟨ff,fpc+1,floc,fstk⟩ (a::args) (fs0.length+1) hp made out x = .call ⟨ff,fpc+1,floc,fstk⟩ (yP m.funcs a.n args):=by simp only [fX,List.headD,List.tail];(repeat (first | rfl | refine (gH).trans ?_ | refine (eV).trans ?_))
   rw [e];rfl
 refine aJ (λho=>?_) (λn24=>?_)
 ·have e0 : bU m.funcs x=(iL m.funcs x.a,1):=by unfold bU;repeat (first | rfl | rw [gH] | rw [eV])
  rw [e0] at hu
  have hq:=q524 (.inr ho)
  refine cL ?_
  rw [decide_eq_false n23]
  refine bP ((aVB (t:=took) hi rfl hfs (by rw [hA];omega) hq hu par).mono (λr hr=>?_))
  rcases hr with ⟨h6,rfl⟩ | ⟨h6,rfl⟩
  ·have e : fX m ⟨ff,fpc+1,floc,fstk⟩ took (fs0.length+1) hp made out x = .trap 6:=by simp only [fX];(repeat (first | rfl | refine (gH).trans ?_ | refine (eV).trans ?_))
   rw [e];exact ⟨by omega,rfl⟩
  ·have e : fX m ⟨ff,fpc+1,floc,fstk⟩ took (fs0.length+1) hp made out x = .call ⟨ff,fpc+1,floc,fstk⟩ (yP m.funcs x.a took):=by simp only [fX];(repeat (first | rfl | refine (gH).trans ?_ | refine (eV).trans ?_))
   rw [e];rfl
 refine aJ (λho=>?_) (λn25=>?_)
 ·have e0 : bU m.funcs x=(1,0):=by unfold bU;repeat (first | rfl | rw [gH] | rw [eV])
  rw [e0] at hu
  obtain ⟨a,rfl⟩:=List.length_eq_one_iff.1 (show took.length=1 by omega)
  have e : fX m ⟨ff,fpc+1,floc,fstk⟩ [a] (fs0.length+1) hp made out x = .ret a:=by simp only [fX,List.headD,List.tail];(repeat (first | rfl | refine (gH).trans ?_ | refine (eV).trans ?_))
  refine hX rfl (aUa (by omega) (λg hg=>by have:=stks g hg;omega) (aA ?_))
  rw [e]
  show _=_
  by_cases h0 : fs0 = []
  ·rw [if_pos h0,if_pos h0];rfl
  ·rw [if_neg h0,if_neg h0];rfl
 refine aJ (λho=>?_) (λn26=>?_)
 ·have e0 : bU m.funcs x=(1,0):=by unfold bU;repeat (first | rfl | rw [gH] | rw [eV])
  rw [e0] at hu
  obtain ⟨a,rfl⟩:=List.length_eq_one_iff.1 (show took.length=1 by omega)
  refine aF (aJ (λh1=>aA ?_) (λh1=>?_))
  ·have e : fX m ⟨ff,fpc+1,floc,fstk⟩ [a] (fs0.length+1) hp made out x = .trap 8:=by simp only [fX,List.headD,List.tail];(repeat (first | rfl | refine (gH).trans ?_ | refine (eV).trans ?_))
   rw [e];exact ⟨by omega,rfl⟩
  have e : fX m ⟨ff,fpc+1,floc,fstk⟩ [a] (fs0.length+1) hp made out x = .next ⟨ff,fpc+1,floc,fstk⟩ hp made (out++[kW a hp]):=by simp only [fX,List.headD,List.tail];(repeat (first | rfl | refine (gH).trans ?_ | refine (eV).trans ?_))
  refine hX rfl (aI (aPr (nf:=m.funcs.length) (by omega) (by omega) hrec (vals0 a (by simp))) (λr hr=>?_))
  rw [hr]
  refine eF rfl (iT (by simp) (λy hy=>by simp at hy;subst hy;rfl) (iT (by simp;omega) (λy hy=>by simp at hy;subst hy;rfl) ?_))
  exact kQ (laid:=[]) hi rfl hfs (by simp) (aA (by rw [e];simp [DoI];rfl))
 have h9 : x.o=9:=by omega
 have e0 : bU m.funcs x=(1,0):=by unfold bU;repeat (first | rfl | rw [gH] | rw [eV])
 rw [e0] at hu
 obtain ⟨a,rfl⟩:=List.length_eq_one_iff.1 (show took.length=1 by omega)
 have e : fX m ⟨ff,fpc+1,floc,fstk⟩ [a] (fs0.length+1) hp made out x = .next ⟨ff,fpc+1,floc,fstk++[]⟩ hp made out:=by simp only [fX,List.headD,List.tail];(repeat (first | rfl | refine (gH).trans ?_ | refine (eV).trans ?_))
 exact kQ (laid:=[]) hi rfl hfs (by simp) (aA (by rw [e];rfl))
variable {m : fO} {v : mL}
def aYa (m : fO) : Nat→mL→mL
 | 0,v=>v
 | n+1,v=>aYa m n (iZ m v)
def lF (m : fO) (args : List eR) : mL:=⟨[yP m.funcs 0 args],[],0,[],0,0,eQ,0⟩
def lG (m : fO) (args : List eR) : Bool:=aBw m&&(decide ((args.length : Int)=iL m.funcs 0)&&args.all (cW m.funcs.length 0))
def aAZ (m : fO) (args : List eR) (fuel : Int) : Bool:=lG m args&&mA fuel 0 50000
def aY4 (m : fO) (args : List eR) (fuel : Int) : mL:=if aAZ m args fuel then aYa m fuel.toNat (lF m args) else vmZ
theorem aSi (h : v.st≠0) : iZ m v=v:=by unfold iZ;rw [if_pos h]
theorem aSj {fs0 : List dC} (a : aIn) : (aE5 m v fs0 a).steps=v.steps+1:=by
 cases a with
 | ret x=>simp only [aE5];split<;>rfl
 | _=>rfl
theorem aQ0 (hs : v.steps≤50000) : v.steps≤(iZ m v).steps∧(iZ m v).steps≤v.steps+1:=by
 unfold iZ
 split
 ·omega
 ·split
  ·omega
  ·split
   ·omega
   ·rw [aSj];omega
section
variable {P : R → Prop} {k : R → OR}
theorem aFG {args : List eR} (hs : m.sized) (h : lG m args=true) : fF m∧VmI m (lF m args):=by
 simp only [lG,Bool.and_eq_true,decide_eq_true_eq,List.all_eq_true] at h
 have g:=aAQ hs h.1
 obtain ⟨f1,f2,ff⟩:=g.fit
 have h0 : (0 : Int)≤0∧(0 : Int)<m.funcs.length:=by omega
 refine ⟨g,⟨by simp [lF],by simp [lF],by simp [lF]⟩,by simp [lF],by simp [lF],by simp [lF],λfs0 f hf=>?_⟩
 obtain ⟨rfl,rfl⟩:=aIr (a:=[]) (show []++[yP m.funcs 0 args]=fs0++[f] from hf)
 exact ⟨aQK g h0 h.2.1 h.2.2,by simp⟩
end
variable {m : fO} {args : List eR}
section
variable {P : R → Prop} {k : R → OR}
theorem aMF {cs : R} {k : PV→OR} (h : Ok P (k (.bx cs))) : Ok P (bd (bG (.bx cs)) k):=eZ _ (by simp only [bG]) h
theorem aQ1 {v : eR} (hf : m.funcs.length≤2097152) (hs : v.s.size≤2097152) : Ok (λr=>r = [.bool (!cW m.funcs.length 0 v)]) (aGe v.pv (.bx [.lst (m.texts.map PV.str),.lst (m.funcs.map eJ.pv)])):=by
 rw [aJi]
 refine cB (aMF (sM rfl (aF (aI (aHf (v:=v) hs (by omega) (by omega)) (λr hr=>?_)))))
 rw [hr]
 exact cD (aA rfl)
theorem aMG (hs : m.sized) (h0 : 0<m.funcs.length) (ha : ∀ v∈args,v.s.size≤2097152) (hn : args.length≤2097152) :
 Ok (λr=>r = [.bool (decide ((args.length : Int)=iL m.funcs 0)&&args.all (cW m.funcs.length 0))]) (aEH m.pv (bI args)):=by
 rw [aMh]
 refine dY (bX (aHg (by omega) (by omega) (λf hf=>aL rfl (cL ?_))))
 have hp : f.p=iL m.funcs 0:=by unfold iL;rw [hf];rfl
 rw [hp]
 refine gC (λh=>?_) (λh=>aA (by rw [decide_eq_false h];rfl))
 rw [decide_eq_true h,Bool.true_and]
 have hfl:=hs.2.1
 have loop : ∀ i,i≤args.length→Ok (λr=>∃ j : Int,r = [.I j]∧(0≤j↔(args.drop i).all (cW m.funcs.length 0)=false))
  (dT (bI args) (.fn 168 [(.bx [.lst (m.texts.map PV.str),.lst (m.funcs.map eJ.pv)])]) (.I args.length) (.I i)):=by
  refine fQ (n:=args.length) (F:=λi=>dT (bI args) (.fn 168 [(.bx [.lst (m.texts.map PV.str),.lst (m.funcs.map eJ.pv)])]) (.I args.length) (.I i)) (P:=λi r=>∃ j : Int,r = [.I j]∧(0≤j↔(args.drop i).all (cW m.funcs.length 0)=false)) ?_ (λi hi ih=>?_)
  ·rw [iK,List.drop_length]
   refine aO (λh=>by omega) (λ_=>aA ⟨_,rfl,by simp⟩)
  ·rw [iK]
   have:=ha _ (List.getElem_mem hi)
   refine aO (λ_=>?_) (λh=>by omega)
   refine aQ hi (λ_=>rfl) (sL rfl (aQ1 (v:=args[i]) hfl (by omega)) (λr hr=>?_))
   rw [hr,List.drop_eq_getElem_cons hi,List.all_cons]
   cases hv : cW m.funcs.length 0 args[i] with
   | false=>exact bF (aA ⟨_,rfl,by simp⟩)
   | true=>
     refine bP (bS ?_)
     rw [Bool.true_and]
     exact ih
 refine aI (Q:=λr=>r = [.bool (!args.all (cW m.funcs.length 0))]) ?_ (λr hr=>?_)
 ·rw [pD]
  refine aI (Q:=λr=>∃ j : Int,r = [.I j]∧(0≤j↔args.all (cW m.funcs.length 0)=false)) ?_ (λr hr=>?_)
  ·rw [pZ]
   refine bX ?_
   have:=loop 0 (by omega)
   rw [List.drop_zero] at this
   exact this
  ·obtain ⟨j,rfl,hj⟩:=hr
   refine jN (aA ?_)
   cases ha : args.all (cW m.funcs.length 0) with
   | false=>rw [decide_eq_true (hj.2 ha)];rfl
   | true=>rw [decide_eq_false (λh=>by rw [hj.1 h] at ha;cases ha)];rfl
 ·rw [hr]
  refine eF rfl (cD (aA (by rw [Bool.not_not])))
theorem aSk (hs : m.sized) (ha : ∀ v∈args,v.s.size≤2097152) (hn : args.length≤2097152) :
 Ok (λr=>r=if lG m args then [.I 0,.I 0,.I 0,.I 0,.I 0,.str (bs []),.I 0,.bool true,.lst [(yP m.funcs 0 args).pv],.lst [],.lst []]
  else [.I 0,.I 0,.I 0,.I 0,.I 0,.str (bs []),.I 0,.bool false,.lst [],.lst [],.lst []]) (aGH m.pv (bI args)):=by
 rw [aNg]
 refine dY (aIt hs (cD ?_))
 cases hg : aBw m with
 | false=>exact bF (aA (by rw [if_neg (by simp [lG,hg])]))
 | true=>
   have g:=aAQ hs hg
   obtain ⟨f1,f2,ff⟩:=g.fit
   have h0 : (0 : Int)≤0∧(0 : Int)<m.funcs.length:=by omega
   obtain ⟨i0,hi0,he,hc,F,p1,p2,p3,p4,hlc,hpar,hins⟩:=g.code h0
   have e0 : lG m args=(decide ((args.length : Int)=iL m.funcs 0)&&args.all (cW m.funcs.length 0)):=by simp [lG,hg]
   refine bP (aI (aMG hs (by omega) ha hn) (λr hr=>?_))
   rw [hr,← e0]
   refine cD ?_
   cases hb : lG m args with
   | false=>exact bF (aA rfl)
   | true=>
     have hlen : (args.length : Int)=iL m.funcs 0:=by
      rw [e0,Bool.and_eq_true,decide_eq_true_eq] at hb
      exact hb.1
     refine bP (aME (T:=.lst (m.texts.map PV.str)) (fs:=m.funcs) (g:=0) (args:=args) (by omega) (by omega) (by omega) (by omega) (eF rfl (eF rfl (gD (iI _) (gD (iI []) (aA ?_))))))
     rfl
theorem aUb {v : mL} {fs0 : List dC} {f : dC} (G : aVb m v fs0 f) (h0 : v.st=0) (h5 : v.steps≠50000) (hst : 0≤v.steps∧v.steps≤50000) :
 Ok (λr=>r=oC (iZ m v)) (aCX (.lst (m.texts.map PV.str)) (.lst (m.funcs.map eJ.pv)) (.I v.made) (.I v.st) (.I v.tr) (.I v.val.k) (.I v.val.n) (.str v.val.s) (.I v.steps) (.lst (v.fr.map dC.pv)) (.lst (v.hp.map bQ)) (.lst (v.out.map PV.str))):=by
 rw [aFD h0 h5 G.fr,aKy]
 obtain ⟨gfr,gfi,gpc,gnc,gins,gus,gsm⟩:=G
 obtain ⟨pi,hpi⟩:=Int.eq_ofNat_of_zero_le gpc.1
 have hin : (dR m.funcs f.f)[f.pc.toNat]? = some (pG m.funcs f):=by
  unfold pG
  rw [List.getElem?_eq_getElem (by omega)];rfl
 generalize hb : f.stk.length - (bU m.funcs (pG m.funcs f)).1.toNat=b
 have hsplit : f.stk.take b++f.stk.drop b=f.stk:=List.take_append_drop b f.stk
 have hdo:=aWJ (a3:=.I v.st) (a4:=.I v.tr) (a5:=.I v.val.k) (a6:=.I v.val.n) (a7:=.str v.val.s) (a8:=.I (v.steps+1)) (gsm b) gins (by rw [List.length_drop];omega) gfi (by omega) hin
 have hnx : aDE m v fs0 f=fX m ⟨f.f,f.pc+1,f.loc,f.stk.take b⟩ (f.stk.drop b) (fs0.length+1) v.hp v.made v.out (pG m.funcs f):=by
  simp only [aDE]
  rw [hb]
 rw [← hnx,hsplit] at hdo
 have efr : v.fr.map dC.pv=fs0.map dC.pv++[f.pv]:=by rw [gfr,List.map_append];rfl
 rw [efr]
 refine bS (bJ rfl (aI hdo (λr hr=>?_)))
 cases ha : aDE m v fs0 f with
 | trap c=>
   rw [ha] at hr
   obtain ⟨hc,hr⟩:=hr
   rw [hr]
   refine dD (λ_=>bJ rfl (aA ?_)) (λh=>absurd (by simpa using h) hc)
   simp only [oC,aE5,efr]
   rfl
 | next fr hp made out=>
   rw [ha] at hr
   have hr : r=_:=hr
   subst hr
   refine dD (λh=>absurd rfl h) (λ_=>aA ?_)
   simp only [aE5,oC,List.map_append]
   rfl
 | call fr g=>
   rw [ha] at hr
   have hr : r=_:=hr
   subst hr
   refine dD (λh=>absurd rfl h) (λ_=>aA ?_)
   simp only [aE5,oC,List.map_append,List.append_assoc]
   rfl
 | ret a=>
   rw [ha] at hr
   have hr : r=_:=hr
   by_cases hf : fs0 = []
   ·rw [if_pos hf] at hr
    subst hr
    refine dD (λh=>absurd rfl h) (λ_=>aA ?_)
    simp only [aE5,if_pos hf,oC]
    rfl
   ·rw [if_neg hf] at hr
    subst hr
    refine dD (λh=>absurd rfl h) (λ_=>aA ?_)
    simp only [aE5,if_neg hf,oC]
    rfl
end
variable {q : Int}
section
variable {P : R → Prop} {k : PV → OR} {kk : IntKind} {a b : R} {x v : PV} {n : Int} {s : Nat} {g : Bool}
end
section
variable {α : Type} {f : α → PV}
def aBU (m : Int→α→α) (c : α→Nat) : Int→List α→List α
 | _,[]=>[]
 | q,z::r=>m q z::aBU m c (q+c z) r
def aIu (c : α→Nat) (l : List α) : Nat:=(l.map c).sum
def aY5 (left : Int) (B : Prop) (r : R) : Prop:=∃ z,r = [.I z]∧z≤left∧-1≤z∧(0≤z→B)
end
variable {o : OR}
section
variable {P : R → Prop} {k : PV → OR}
end
def fO.rows (m : fO) : R:=[.lst (m.texts.map PV.str),.lst (m.funcs.map eJ.pv)]
section
variable {P : R → Prop} {k : R → OR}
end
def fO.wide (m : fO) : Prop:=m.texts.length≤9223372036854775807∧m.funcs.length≤9223372036854775807∧(∀ t∈m.texts,t.size≤9223372036854775807)∧∀ f∈m.funcs,f.code.length≤9223372036854775807
end
end Go.Proofs.YtllmobkkbpdchaaGreatDoor
