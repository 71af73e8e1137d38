/-
  Own lemmas, no conditions: DwZb, DwZc, DwZd, DwZg, DwZh, DwZm, DwZn, Te, Eok, DwZi, DwZj, DwZe, DwZf.
-/
import Derived.Test.YtogifnjnpljnfaaGreatDoorGrpB
import Derived.Test.YtogifnjnpljnfaaGreatDoorChecked
import Derived.KernelRfl
import Derived.Carry
import Derived.OpenShut
import Derived.ChangeArms
import Derived.ProofKit
set_option linter.unusedVariables false
set_option linter.unusedSimpArgs false
namespace Dw
open Go Go.RowKit
theorem nz : ∀ (F : List Nat) (H : ae) (id : Nat),(freeze H F)[id]? = (H[id]?).map (fun o=>if id ∈ F then o.freeze else o)
 | [],H,id=>by simp [freeze]
 | i :: F,H,id=>by
  rw [freeze,nz F]
  cases hi : H[i]? with
  | none=>
   simp only
   by_cases hid : id = i
   ·subst hid;simp [hi]
   ·simp [hid]
  | some o=>
   simp only
   by_cases hid : id = i
   ·subst hid
    rw [List.getElem?_set_self (List.getElem?_eq_some_iff.1 hi).1,hi]
    simp only [Option.map_some,List.mem_cons,true_or,if_true]
    split
    ·congr 1
     simp only [AO.freeze]
     split<;>simp_all
    ·rfl
   ·rw [List.getElem?_set_ne (Ne.symm hid)]
    simp [hid]
theorem uu (F : List Nat) (H : ae) : (freeze H F).length = H.length:=by
 have h : ∀ id,((freeze H F)[id]?).isSome = (H[id]?).isSome:=fun id=>by rw [nz];cases H[id]?<;>rfl
 rcases Nat.lt_trichotomy (freeze H F).length H.length with hl | hl | hl
 ·have:=h (freeze H F).length
  simp [hl] at this
 ·exact hl
 ·have:=h H.length
  simp [hl] at this
theorem cM.imp {P : Program} {A C : Value -> World -> Prop} {r : Result Next} (h : cM P A r) (hm : ∀ v w,A v w -> C v w) : cM P C r:=cM.mono hm h
theorem HW {P : Program} {B : Nat} {W : World} {f : Nat} {args args' : List AV} {h H h1 : ae} {r : AV} {σ F : List Nat} {fl : Bool} (hf : uE P B W f args h r h1) (hσ : σ.Nodup) (hσF : ∀ id ∈ F,id ∉ σ) (ha : eY σ F H args args') (hh : pP σ F H σ h)
  (hfl : fl = true -> r.flat = true /\ ∀ o ∈ h1,AV.flats o.elems = true /\ o.st ≠ 1) :
  uE P B W f args' H (ren (AE σ H.length) r) (kI σ (AE σ H.length) (if fl then H else freeze H F) h1):=by
 intro w st vs hw hv
 obtain ⟨el,eg⟩:=yx hh
 have hin : ∀ (i j : Nat), σ[i]? = some j -> ∃ o o', h[i]? = some o /\ H[j]? = some o' /\ IZ σ F H o o' := by
  intro i j hij
  have hi : i < h.length:=by rw [<- el];exact (List.getElem?_eq_some_iff.1 hij).1
  obtain ⟨j', o', g1, g2, g3⟩ := eg i _ (List.getElem?_eq_getElem hi)
  rw [hij] at g1;cases g1
  exact ⟨_, o', List.getElem?_eq_getElem hi, g2, g3⟩
 have hjl : ∀ (i j : Nat),σ[i]? = some j -> j < H.length:=fun i j hij=>by
  obtain ⟨o, o', _, g, _⟩ := hin i j hij
  exact (List.getElem?_eq_some_iff.1 g).1
 have hσinj : ∀ (i i' j : Nat),σ[i]? = some j -> σ[i']? = some j -> i = i':=by
  intro i i' j h1 h2
  obtain ⟨a1,a2⟩:=List.getElem?_eq_some_iff.1 h1
  obtain ⟨b1,b2⟩:=List.getElem?_eq_some_iff.1 h2
  have hp:=List.pairwise_iff_getElem.1 hσ
  rcases Nat.lt_trichotomy i i' with hl | hl | hl
  ·exact absurd (a2.trans b2.symm) (hp i i' a1 b1 hl)
  ·exact hl
  ·exact absurd (b2.trans a2.symm) (hp i' i b1 a1 hl)
 have hmemσ : ∀ (i j : Nat),σ[i]? = some j -> j ∈ σ:=fun i j hij=>List.mem_of_getElem? hij
 let Sd : Nat -> Prop:=fun b=>st.S b \/ ∃ id,id ∈ F /\ ∃ o,H[id]? = some o /\ o.st < 2 /\ ∃ r,st.ρ id = some r /\ r.m ≠ 0 /\ r.b = b
 let Ud : Nat -> Prop:=fun b=>st.U b \/ (b < w.heap.size /\ ∀ (i j : Nat) (r : qR),σ[i]? = some j -> st.ρ j = some r -> r.m ≠ 0 -> r.b ≠ b)
 have hS : ∀ b,st.S b -> Sd b:=fun b hb=>.inl hb
 have hF : ∀ id ∈ F,∀ o,H[id]? = some o -> o.st < 2 -> ∀ r,st.ρ id = some r -> r.m ≠ 0 -> Sd r.b:=fun id hid o ho h2 r hr hm=>.inr ⟨id,hid,o,ho,h2,r,hr,hm,rfl⟩
 have hn : h.length = σ.length:=el.symm
 let stc : St:=Iv st h.length σ Sd Ud
 have hρ : ∀ (i j : Nat),σ[i]? = some j -> stc.ρ i = st.ρ j:=fun i j hij=>by simp [stc,Iv,hij]
 have hρn : ∀ (i : Nat) (r : qR),stc.ρ i = some r -> ∃ j,σ[i]? = some j /\ st.ρ j = some r:=by
  intro i r hr
  cases hij : σ[i]? with
  | none=>simp [stc,Iv,hij] at hr
  | some j=>exact ⟨j,rfl,by rw [<- hρ i j hij];exact hr⟩
 have hwc : WR B W w stc h:=by
  refine ⟨hw.below,hw.base,hw.seat.mono (fun b hb=>⟨hS b hb,rfl⟩),rfl,fun i o ho hst hg=>?_,fun i o ho hst hg=>?_,fun i r hr=>?_,fun i i' r s hi hi' hr hs hb=>?_,fun b hb=>?_,fun i r o hr ho hst hm=>?_,fun i r o hr ho hst hm=>?_,fun i hg=>?_,fun i r hr hm=>?_,fun b hb=>.inl hb,fun b hb=>?_⟩
  ·obtain ⟨j, o', g1, g2, g3, g4, g5⟩ := eg i o ho
   obtain ⟨r,r1,r2⟩:=hw.obj j o' g2 (by omega) (fun hgj=>hg ⟨j,g1,hgj⟩)
   refine ⟨r,by rw [hρ i j g1];exact r1,?_⟩
   have hlen : o.elems.length = o'.elems.length:=by
    rcases g5 with ⟨l,e1,e2⟩ | e
    ·rw [e1,e2]
    ·exact lA e
   refine ⟨by rw [r2.n,hlen],r2.m,by rw [r2.k,g3],r2.k0,fun hm=>?_⟩
   obtain ⟨b1,cs,e,fr,b2,b3,b4,b5⟩:=r2.mem hm
   refine ⟨b1,cs,e,fr,b2,b3,b4,fun n x hx=>?_⟩
   rcases g5 with ⟨l,e1,e2⟩ | ew
   ·rw [e1] at hx
    obtain ⟨us,u1,u2,u3⟩:=b5 n x (by rw [e2];exact hx)
    rw [List.getElem?_map] at hx
    obtain ⟨d,_,rfl⟩:=Option.map_eq_some_iff.1 hx
    refine ⟨us,u1,?_,u3⟩
    simp only [aC] at u2 ⊢
    exact gq (fun b hb=>⟨hS b hb,rfl⟩) d us u2
   ·obtain ⟨x', hx', hemb⟩ := sw n x ew hx
    obtain ⟨us,u1,u2,u3⟩:=b5 n x' hx'
    exact ⟨us,u1,AX hw hn hS hF x x' us hemb u2,u3⟩
  ·obtain ⟨j, o', g1, g2, g3, g4, g5⟩ := eg i o ho
   obtain ⟨r,r1,r2⟩:=hw.mobj j o' g2 (by omega) (fun hgj=>hg ⟨j,g1,hgj⟩)
   refine ⟨r,by rw [hρ i j g1];exact r1,r2.m,r2.low,?_⟩
   obtain ⟨es,e1,e2,ebn,e3⟩:=r2.at_
   rcases g5 with ⟨l,f1,f2⟩ | ew
   ·exact ⟨es,e1,by rw [e2,f1,f2],ebn,fun n x hx=>e3 n x (by rw [f2,<- f1];exact hx)⟩
   ·refine ⟨es,e1,by rw [e2,lA ew],ebn,fun n x hx=>?_⟩
    obtain ⟨x', hx', hemb⟩ := sw n x ew hx
    rcases e3 n x' hx' with rfl | ⟨a,v,e,q1,q2,q3,q4⟩
    ·cases x<;>simp [cn,bl] at hemb ⊢
    ·subst q1
     cases x<;>simp only [cn] at hemb
     case d y=>
      have:=hemb.1
      simp only [bl,Option.some.injEq] at this
      subst this
      exact .inr ⟨a,v,e,rfl,q2,q3,q4⟩
  ·obtain ⟨j,hj,hr'⟩:=hρn i r hr
   obtain ⟨o, o', g1, g2, g3, g4, _⟩ := hin i j hj
   obtain ⟨o'', d1, d2, d3⟩ := hw.dom j r hr'
   rw [g2] at d1;cases d1
   exact ⟨o, g1, by omega, fun ⟨j', e1, e2⟩ => d3 (by rw [hj] at e1; cases e1; exact e2)⟩
  ·obtain ⟨j,hj,hr'⟩:=hρn i r hi
   obtain ⟨j', hj', hs'⟩ := hρn i' s hi'
   have:=hw.inj j j' r s hr' hs' hr hs hb
   subst this
   exact hσinj i i' j hj hj'
  ·rcases hb with hb | ⟨id,hid,_,_,_,r,hr,hm,rfl⟩
   ·exact hw.stab b hb
   ·exact hw.blk_lt hr hm
  ·obtain ⟨j,hj,hr'⟩:=hρn i r hr
   obtain ⟨o1, o', g1, g2, g3, g4, _⟩ := hin i j hj
   rw [ho] at g1;cases g1
   rintro (hb | ⟨id,hid,_,_,_,s,hs,hsm,hbb⟩)
   ·exact hw.live j r o' hr' g2 (by omega) hm hb
   ·have:=hw.inj id j s r hs hr' hsm hm hbb
    subst this
    exact hσF id hid (hmemσ i id hj)
  ·obtain ⟨j,hj,hr'⟩:=hρn i r hr
   obtain ⟨o1, o', g1, g2, g3, g4, _⟩ := hin i j hj
   rw [ho] at g1;cases g1
   exact .inl (hw.frz j r o' hr' g2 (by omega) hm)
  ·obtain ⟨j,hj,_⟩:=hg
   show i < h.length
   rw [hn];exact (List.getElem?_eq_some_iff.1 hj).1
  ·obtain ⟨j,hj,hr'⟩:=hρn i r hr
   rintro (hb | ⟨_,hb⟩)
   ·exact hw.x.own j r hr' hm hb
   ·exact hb i j r hj hr' hm rfl
  ·rcases hb with hb | ⟨hb,_⟩
   ·exact hw.x.ub b hb
   ·exact hb
 refine (hf w stc vs hwc (lz hw hn hS hF args args' vs ha hv)).imp fun v w2 hpost=>?_
 obtain ⟨s2,w2r,vr,e2,g2⟩:=hpost
 -- the caller's state kn the call
 have hn2 : σ.length <= s2.n:=by have:=e2.n;show _ <= _;rw [<- hn];exact this
 have hl2:=w2r.len
 have hU2:=e2.U.1
 have hS02:=e2.U.2.1
 let H0 : ae:=if fl then H else freeze H F
 have hH0l : H0.length = H.length:=by
  simp only [H0]
  split
  ·rfl
  ·exact uu F H
 have hH0 : ∀ id o, H0[id]? = some o -> ∃ o', H[id]? = some o' /\ o.elems = o'.elems /\ o.k = o'.k /\ (o.st = o'.st \/ (o'.st = 0 /\ o.st = 1 /\ id ∈ F /\ fl = false)) /\ (fl = false -> id ∈ F -> o.st ≠ 0) := by
  intro id o ho
  simp only [H0] at ho
  cases hfl' : fl with
  | true=>rw [hfl'] at ho;exact ⟨o,ho,rfl,rfl,.inl rfl,fun h=>Bool.noConfusion h⟩
  | false=>
   rw [hfl'] at ho
   simp only [Bool.false_eq_true,if_false] at ho
   rw [nz] at ho
   obtain ⟨o', h1, h2⟩ := Option.map_eq_some_iff.1 ho
   refine ⟨o', h1, ?_⟩
   by_cases hid : id ∈ F
   ·rw [if_pos hid] at h2
    subst h2
    by_cases h0 : o'.st = 0
    ·simp [AO.freeze,h0,hid]
    ·simp [AO.freeze,h0]
   ·rw [if_neg hid] at h2
    subst h2
    exact ⟨rfl,rfl,.inl rfl,fun _ h=>absurd h hid⟩
 let τ:=AE σ H.length
 have hτin : ∀ (i j : Nat),σ[i]? = some j -> τ i = j:=fun i j hij=>by simp [τ,AE,hij]
 have hτout : ∀ (i : Nat),σ.length <= i -> τ i = H.length + (i - σ.length):=fun i hi=>by simp [τ,AE,List.getElem?_eq_none hi]
 let ρF : Nat -> Option qR:=fun id=>if id < H.length then (if id ∈ σ then (σ.idxOf? id).bind s2.ρ else st.ρ id) else s2.ρ (id - H.length + σ.length)
 let SF : Nat -> Prop:=fun b=>st.S b \/ (fl = false /\ s2.S b)
 let sF : St:=⟨H.length + (s2.n - σ.length),ρF,SF,st.G,st.U,st.S0⟩
 have hidx : ∀ (i j : Nat),σ[i]? = some j -> σ.idxOf? j = some i:=by
  intro i j hij
  cases hx : σ.idxOf? j with
  | none=>
   rw [List.idxOf?_eq_none_iff] at hx
   exact absurd (hmemσ i j hij) hx
  | some k=>
   rw [List.idxOf?_eq_some_iff] at hx
   obtain ⟨l1,l2,l3⟩:=hx
   congr 1
   exact hσinj k i j (by rw [List.getElem?_eq_getElem l1];simpa using l2) hij
 have hFin : ∀ (i j : Nat),σ[i]? = some j -> sF.ρ j = s2.ρ i:=fun i j hij=>by simp only [sF,ρF];rw [if_pos (hjl i j hij),if_pos (hmemσ i j hij),hidx i j hij];rfl
 have hFun : ∀ id,id < H.length -> id ∉ σ -> sF.ρ id = st.ρ id:=fun id h1 h2=>by simp only [sF,ρF];rw [if_pos h1,if_neg h2]
 have hFnew : ∀ i,σ.length <= i -> sF.ρ (τ i) = s2.ρ i:=fun i hi=>by
  rw [hτout i hi]
  simp only [sF,ρF]
  rw [if_neg (by omega)]
  congr 1;omega
 have hFτ : ∀ i,i < s2.n -> sF.ρ (τ i) = s2.ρ i:=fun i hi=>by
  rcases Nat.lt_or_ge i σ.length with h1 | h1
  ·have:=List.getElem?_eq_getElem h1
   rw [hτin i _ this,hFin i _ this]
  ·exact hFnew i h1
 -- where an object of the final heap comes from
 have hsplit : ∀ id r,sF.ρ id = some r -> (id < H.length /\ id ∉ σ /\ st.ρ id = some r) \/ ∃ i,id = τ i /\ s2.ρ i = some r:=by
  intro id r hr
  by_cases hid : id < H.length
  ·by_cases hm : id ∈ σ
   ·obtain ⟨i,hi⟩:=List.mem_iff_getElem?.1 hm
    rw [hFin i id hi] at hr
    exact .inr ⟨i,(hτin i id hi).symm,hr⟩
   ·rw [hFun id hid hm] at hr
    exact .inl ⟨hid,hm,hr⟩
  ·refine .inr ⟨id - H.length + σ.length,?_,by simpa [sF,ρF,hid] using hr⟩
   rw [hτout _ (by omega)];omega
 have hτinj : ∀ i i', τ i = τ i' -> i = i' := by
  intro i i' he
  rcases Nat.lt_or_ge i σ.length with a | a<;>rcases Nat.lt_or_ge i' σ.length with b | b
  ·have h1:=List.getElem?_eq_getElem a
   have h2:=List.getElem?_eq_getElem b
   rw [hτin i _ h1,hτin i' _ h2] at he
   exact hσinj i i' _ h1 (by rw [he];exact h2)
  ·have h1:=List.getElem?_eq_getElem a
   rw [hτin i _ h1,hτout i' b] at he
   have:=hjl i _ h1
   omega
  ·have h2:=List.getElem?_eq_getElem b
   rw [hτout i a,hτin i' _ h2] at he
   have:=hjl i' _ h2
   omega
  ·rw [hτout i a,hτout i' b] at he
   omega
 have hτσ : ∀ i id,id < H.length -> id ∉ σ -> τ i ≠ id:=by
  intro i id h1 h2 he
  rcases Nat.lt_or_ge i σ.length with a | a
  ·have h3:=List.getElem?_eq_getElem a
   rw [hτin i _ h3] at he
   exact h2 (he ▸ hmemσ i _ h3)
  ·rw [hτout i a] at he
   omega
 let HF : ae:=kI σ τ H0 h1
 have hsl : (cg H0 σ (h1.map (gF τ))).length = H.length:=by rw [ng,hH0l]
 have hget1 : ∀ id,id < H.length -> id ∉ σ -> HF[id]? = H0[id]?:=fun id h3 h4=>by
  simp only [HF,kI]
  rw [List.getElem?_append_left (by rw [hsl];exact h3),iF _ _ _ _ h4]
 have hget2 : ∀ i o,h1[i]? = some o -> HF[τ i]? = some (gF τ o):=by
  intro i o ho
  simp only [HF,kI]
  rcases Nat.lt_or_ge i σ.length with a | a
  ·have h3:=List.getElem?_eq_getElem a
   rw [hτin i _ h3]
   rw [List.getElem?_append_left (by rw [hsl];exact hjl i _ h3)]
   exact nb _ _ _ i _ _ hσ h3 (by simp [ho]) (by rw [hH0l];exact hjl i _ h3)
  ·rw [hτout i a,List.getElem?_append_right (by rw [hsl];omega),hsl]
   rw [List.getElem?_map,List.getElem?_drop]
   rw [show σ.length + (H.length + (i - σ.length) - H.length) = i by omega,ho]
   rfl
 have hlenF : HF.length = H.length + (s2.n - σ.length):=by
  simp only [HF,kI,List.length_append,hsl,List.length_map,List.length_drop]
  rw [hl2]
 have hget3 : ∀ id o, HF[id]? = some o -> (id < H.length /\ id ∉ σ /\ H0[id]? = some o) \/ ∃ i o', id = τ i /\ h1[i]? = some o' /\ o = gF τ o' := by
  intro id o ho
  by_cases hid : id < H.length
  ·by_cases hm : id ∈ σ
   ·obtain ⟨i,hi⟩:=List.mem_iff_getElem?.1 hm
    have hil : i < h1.length:=by
     have:=(List.getElem?_eq_some_iff.1 hi).1
     have:=hl2
     omega
    have:=hget2 i _ (List.getElem?_eq_getElem hil)
    rw [hτin i id hi,ho] at this
    exact .inr ⟨i,_,(hτin i id hi).symm,List.getElem?_eq_getElem hil,Option.some.inj this⟩
   ·rw [hget1 id hid hm] at ho
    exact .inl ⟨hid,hm,ho⟩
  ·have hidl : id < HF.length:=(List.getElem?_eq_some_iff.1 ho).1
   rw [hlenF] at hidl
   have hil : id - H.length + σ.length < h1.length:=by have:=hl2;omega
   have:=hget2 _ _ (List.getElem?_eq_getElem hil)
   have hτe : τ (id - H.length + σ.length) = id:=by rw [hτout _ (by omega)];omega
   rw [hτe,ho] at this
   exact .inr ⟨_,_,hτe.symm,List.getElem?_eq_getElem hil,Option.some.inj this⟩
 have hG2 : ∀ i,s2.G i ↔ ∃ j,σ[i]? = some j /\ st.G j:=fun i=>by rw [g2];exact Iff.rfl
 have hGτ : ∀ i,¬ s2.G i -> ¬ st.G (τ i):=by
  intro i hi hg
  rcases Nat.lt_or_ge i σ.length with a | a
  ·have h3:=List.getElem?_eq_getElem a
   rw [hτin i _ h3] at hg
   exact hi ((hG2 i).2 ⟨_,h3,hg⟩)
  ·have:=hw.gho _ hg
   rw [hw.len,hτout i a] at this
   omega
 have hGτ' : ∀ i,st.G (τ i) -> s2.G i:=fun i hg=>Classical.byContradiction fun h=>hGτ i h hg
 have hGn : ∀ i,s2.G i -> st.G (τ i):=by
  intro i hi
  obtain ⟨j,h3,h4⟩:=(hG2 i).1 hi
  rw [hτin i j h3];exact h4
 -- what lies outside is as it was
 have hout : ∀ id r,st.ρ id = some r -> id ∉ σ -> r.m ≠ 0 -> Ud r.b:=by
  intro id r hr hid hm
  refine .inr ⟨hw.blk_lt hr hm,fun i j s hj hs hsm hb=>?_⟩
  have:=hw.inj j id s r hs hr hsm hm hb
  subst this
  exact hid (hmemσ i j hj)
 have hUsame : ∀ b,Ud b -> w2.heap[b]? = w.heap[b]?:=fun b hb=>e2.U.2.2 b hb
 have hS2 : ∀ b,s2.S b -> Sd b \/ ¬ Ud b:=by
  intro b hb
  rcases w2r.x.low b hb with h3 | h3
  ·left
   rw [hS02] at h3;exact h3
  ·right
   rw [hU2] at h3;exact h3
 have hown2 : ∀ i r,s2.ρ i = some r -> r.m ≠ 0 -> ¬ Ud r.b:=by
  intro i r hr hm
  have:=w2r.x.own i r hr hm
  rw [hU2] at this;exact this
 have hSS : ∀ b,st.S b -> s2.S b:=fun b hb=>(e2.S b (hS b hb)).1
 have hExt : dO w st w2 sF:=by
  refine ⟨?_,fun id hid hg r hr=>?_,fun b hb=>⟨.inl hb,(e2.S b (hS b hb)).2⟩,fun id _ hg=>hg,rfl,rfl,fun b hb=>hUsame b (.inl hb)⟩
  ·show st.n <= H.length + _
   rw [hw.len];omega
  ·rcases hsplit id r hr with ⟨_,_,h3⟩ | ⟨i,rfl,h3⟩
   ·exact h3
   ·have hil : i < σ.length:=by
     rcases Nat.lt_or_ge i σ.length with a | a
     ·exact a
     ·rw [hw.len,hτout i a] at hid
      omega
    have h4:=List.getElem?_eq_getElem hil
    have hgi : ¬ stc.G i:=fun ⟨j,a1,a2⟩=>hg (by rw [hτin i j a1];exact a2)
    have:=e2.ρ i (by show i < h.length;omega) hgi r h3
    rw [hρ i _ h4] at this
    rw [hτin i _ h4]
    exact this
 have hback : M7 w2 s2 sF τ fl:=by
  refine ⟨fun i hi=>?_,fun i _ hg=>hGτ i hg,fun i hi r hr=>?_,fun h3 b hb=>.inr ⟨h3,hb⟩⟩
  ·show τ i < H.length + _
   rcases Nat.lt_or_ge i σ.length with a | a
   ·have h4:=List.getElem?_eq_getElem a
    rw [hτin i _ h4]
    have:=hjl i _ h4
    omega
   ·rw [hτout i a];omega
  ·rw [hFτ i hi] at hr;exact hr
 have hwF : WR B W w2 sF HF:=by
  refine ⟨w2r.below,w2r.base,hw.seat.mono hExt.S,hlenF.symm,fun id o ho hst hg=>?_,fun id o ho hst hg=>?_,fun id r hr=>?_,fun id id' r s hid hid' hr hs hb=>?_,fun b hb=>?_,fun id r o hr ho hst hm=>?_,fun id r o hr ho hst hm=>?_,fun id hg=>?_,fun id r hr hm=>?_,fun b hb=>?_,fun b hb=>?_⟩
  ·rcases hget3 id o ho with ⟨h3, h4, h5⟩ | ⟨i, o', rfl, h3, rfl⟩
   ·obtain ⟨o', k1, k2, k3, k4, _⟩ := hH0 id o h5
    obtain ⟨r,r1,r2⟩:=hw.obj id o' k1 (by rcases k4 with k4 | k4<;>omega) hg
    have r3:=r2.mono hExt (fun hm=>hUsame r.b (hout id r r1 h4 hm))
    exact ⟨r,by rw [hFun id h3 h4];exact r1,by rw [r3.n,k2],r3.m,by rw [r3.k,k3],r3.k0,fun hm=>by
     rw [k2]
     exact r3.mem hm⟩
   ·obtain ⟨r,r1,r2⟩:=w2r.obj i o' h3 hst (fun hgi=>hg (hGn i hgi))
    have hi2 : i < s2.n:=by rw [hl2];exact (List.getElem?_eq_some_iff.1 h3).1
    refine ⟨r,by rw [hFτ i hi2];exact r1,?_⟩
    refine ⟨by rw [r2.n];simp [gF],r2.m,r2.k,r2.k0,fun hm=>?_⟩
    obtain ⟨b1,cs,e,fr,b2,b3,b4,b5⟩:=r2.mem hm
    refine ⟨b1,cs,e,fr,b2,b3,b4,fun n x hx=>?_⟩
    simp only [gF,o9,List.getElem?_map] at hx
    obtain ⟨y,hy,rfl⟩:=Option.map_eq_some_iff.1 hx
    obtain ⟨us,u1,u2,u3⟩:=b5 n y hy
    refine ⟨us,u1,xq hback y us (fun h4=>?_) u2,u3⟩
    have h6:=((hfl h4).2 o' (List.mem_of_getElem? h3)).1
    have hall : ∀ (l : List AV),AV.flats l = true -> ∀ x ∈ l,x.flat = true:=by
     intro l
     induction l with
     | nil=>intro _ x hx;cases hx
     | cons z l ih=>
      intro hfs x hx
      simp only [AV.flats,Bool.and_eq_true] at hfs
      rcases List.mem_cons.1 hx with rfl | hx
      ·exact hfs.1
      ·exact ih hfs.2 x hx
    exact hall _ h6 y (List.mem_of_getElem? hy)
  ·rcases hget3 id o ho with ⟨h3, h4, h5⟩ | ⟨i, o', rfl, h3, rfl⟩
   ·obtain ⟨o', k1, k2, k3, k4, _⟩ := hH0 id o h5
    obtain ⟨r,r1,r2⟩:=hw.mobj id o' k1 (by rcases k4 with k4 | k4<;>omega) hg
    have r3:=r2.keep (hUsame r.b (hout id r r1 h4 r2.m))
    refine ⟨r,by rw [hFun id h3 h4];exact r1,r3.m,r3.low,?_⟩
    rw [k2];exact r3.at_
   ·obtain ⟨r,r1,r2⟩:=w2r.mobj i o' h3 hst (fun hgi=>hg (hGn i hgi))
    have hi2 : i < s2.n:=by rw [hl2];exact (List.getElem?_eq_some_iff.1 h3).1
    refine ⟨r,by rw [hFτ i hi2];exact r1,r2.m,r2.low,?_⟩
    obtain ⟨es,e1,e2,ebn,e3⟩:=r2.at_
    refine ⟨es,e1,by rw [e2];simp [gF],ebn,fun n x hx=>?_⟩
    simp only [gF,o9,List.getElem?_map] at hx
    obtain ⟨y,hy,rfl⟩:=Option.map_eq_some_iff.1 hx
    rcases e3 n y hy with rfl | ⟨a,v,e,q1,q2,q3,q4⟩
    ·exact .inl rfl
    ·subst q1;exact .inr ⟨a,v,e,rfl,q2,q3,q4⟩
  ·rcases hsplit id r hr with ⟨h3,h4,h5⟩ | ⟨i,rfl,h3⟩
   ·obtain ⟨o,d1,d2,d3⟩:=hw.dom id r h5
    have hid0 : id < H0.length:=by rw [hH0l];exact h3
    have ho0:=List.getElem?_eq_getElem hid0
    obtain ⟨o', k1, k2, k3, k4, _⟩ := hH0 id _ ho0
    rw [d1] at k1;cases k1
    exact ⟨_,by rw [hget1 id h3 h4];exact ho0,by rcases k4 with k4 | k4<;>omega,d3⟩
   ·obtain ⟨o,d1,d2,d3⟩:=w2r.dom i r h3
    exact ⟨_,hget2 i o d1,d2,hGτ i d3⟩
  ·rcases hsplit id r hid with ⟨h3, h4, h5⟩ | ⟨i, rfl, h3⟩ <;> rcases hsplit id' s hid' with ⟨k3, k4, k5⟩ | ⟨i', rfl, k3⟩
   ·exact hw.inj id id' r s h5 k5 hr hs hb
   ·exact absurd (hb ▸ hout id r h5 h4 hr) (hown2 i' s k3 hs)
   ·exact absurd (hb ▸ hout id' s k5 k4 hs) (hown2 i r h3 hr)
   ·rw [w2r.inj i i' r s h3 k3 hr hs hb]
  ·rcases hb with hb | ⟨_,hb⟩
   ·exact w2r.stab b (hSS b hb)
   ·exact w2r.stab b hb
  ·rcases hget3 id o ho with ⟨h3, h4, h5⟩ | ⟨i, o', rfl, h3, rfl⟩
   ·rw [hFun id h3 h4] at hr
    obtain ⟨o', k1, k2, k3, k4, k5⟩ := hH0 id o h5
    have h0 : o'.st = 0 \/ o'.st = 3:=by rcases k4 with k4 | k4<;>omega
    rintro (hb | ⟨hfl', hb⟩)
    ·exact hw.live id r o' hr k1 h0 hm hb
    ·rcases hS2 _ hb with (hb | ⟨id', hid', o2, ho2, h22, s, hs, hsm, hbb⟩) | hb
     ·exact hw.live id r o' hr k1 h0 hm hb
     ·have:=hw.inj id' id s r hs hr hsm hm hbb
      subst this
      rw [k1] at ho2;cases ho2
      have:=k5 hfl' hid'
      rcases k4 with k4 | k4<;>omega
     ·exact hb (hout id r hr h4 hm)
   ·have hi2 : i < s2.n:=by rw [hl2];exact (List.getElem?_eq_some_iff.1 h3).1
    rw [hFτ i hi2] at hr
    have:=w2r.live i r o' hr h3 hst hm
    rintro (hb | ⟨_,hb⟩)
    ·exact this (hSS _ hb)
    ·exact this hb
  ·rcases hget3 id o ho with ⟨h3, h4, h5⟩ | ⟨i, o', rfl, h3, rfl⟩
   ·rw [hFun id h3 h4] at hr
    obtain ⟨o', k1, k2, k3, k4, k5⟩ := hH0 id o h5
    rcases k4 with k4 | ⟨k4,k6,k7,k8⟩
    ·exact .inl (hw.frz id r o' hr k1 (by omega) hm)
    ·exact .inr ⟨k8,(e2.S r.b (hF id k7 o' k1 (by omega) r hr hm)).1⟩
   ·have hi2 : i < s2.n:=by rw [hl2];exact (List.getElem?_eq_some_iff.1 h3).1
    rw [hFτ i hi2] at hr
    cases hfl' : fl with
    | true=>exact absurd hst ((hfl hfl').2 o' (List.mem_of_getElem? h3)).2
    | false => exact .inr ⟨hfl', w2r.frz i r o' hr h3 hst hm⟩
  ·show id < H.length + _
   have:=hw.gho id hg
   rw [hw.len] at this
   omega
  ·rcases hsplit id r hr with ⟨h3,h4,h5⟩ | ⟨i,rfl,h3⟩
   ·exact hw.x.own id r h5 hm
   ·exact fun hu=>hown2 i r h3 hm (.inl hu)
  ·rcases hb with hb | ⟨_,hb⟩
   ·exact hw.x.low b hb
   ·rcases hS2 b hb with (hb | ⟨id', hid', _, _, _, s, hs, hsm, hbb⟩) | hb
    ·exact hw.x.low b hb
    ·exact .inr (hbb ▸ hw.x.own id' s hs hsm)
    ·exact .inr fun hu=>hb (.inl hu)
  ·have hlt:=hw.x.ub b hb
   have h3:=hUsame b (.inl hb)
   rw [Array.getElem?_eq_getElem hlt] at h3
   exact (Array.getElem?_eq_some_iff.1 h3).1
 refine ⟨sF,hwF,?_,hExt,rfl⟩
 obtain ⟨us,u1,u2⟩:=vr
 refine ⟨us,?_,xq hback r us (fun h3=>(hfl h3).1) u2⟩
 have : (ren τ r).isAgg = r.isAgg:=by cases r<;>rfl
 show (if (ren τ r).isAgg = true then _ else _)
 rw [this]
 exact u1
theorem xu {P : Program} {f : Nat} {args args' : List AV} {h H h1 : ae} {r : AV} {σ F : List Nat} {fl : Bool} (hf : bn P f args h r h1) (hσ : σ.Nodup) (hσF : ∀ id ∈ F,id ∉ σ) (ha : eY σ F H args args') (hh : pP σ F H σ h)
  (hfl : fl = true -> r.flat = true /\ ∀ o ∈ h1,AV.flats o.elems = true /\ o.st ≠ 1) :
  bn P f args' H (ren (AE σ H.length) r) (kI σ (AE σ H.length) (if fl then H else freeze H F) h1):=
 fun B W=>HW (hf B W) hσ hσF ha hh hfl
end Dw
namespace Dw
open Go Go.RowKit
section
variable {P : Program} {E : TE} (hE : gJ P E)
include hE
end
theorem run_pure {P : Program} {f : Nat} {xs : List D} {r : D} (hf : bn P f (xs.map .d) [] (.d r) []) (hr : r.flat = true) (H : ae) {args : List AV} (ha : ∃ F,eY [] F H (xs.map .d) args) : bn P f args H (.d r) H:=by
 obtain ⟨F,ha⟩:=ha
 have:=xu (σ:=[]) (F:=F) (H:=H) (fl:=true) hf List.nodup_nil (fun _ _ h=>by cases h) ha (by simp [pP]) (fun _=>⟨by simpa [AV.flat] using hr,fun o ho=>by cases ho⟩)
 simpa [ren,kI,cg] using this
end Dw
namespace Dw
open Go Go.RowKit
theorem Ei {x y : D} {h : ae} (e : x = y) : nZ [] 0 h (.d x) (.d y) []:=.inl ⟨[],rfl,rfl,⟨e,trivial⟩,trivial⟩
theorem Ej {a b : D} {y : D} {h : ae} (e : D.tup [a,b] = y) : nZ [] 0 h (.tup [.d a,.d b]) (.d y) []:=by
 subst e
 exact .inl ⟨[],rfl,rfl,⟨⟨rfl,rfl,rfl,trivial⟩,trivial⟩,trivial⟩
theorem Ek {a b c : D} {y : D} {h : ae} (e : D.tup [a,b,c] = y) : nZ [] 0 h (.tup [.d a,.d b,.d c]) (.d y) []:=by
 subst e
 exact .inl ⟨[],rfl,rfl,⟨⟨rfl,rfl,rfl,rfl,trivial⟩,trivial⟩,trivial⟩
theorem El {a : AV} {x y : D} {h : ae} (hv : bl 8 h a = some x) (e : x = y) : nZ [] 0 h a (.d y) []:=by
 subst e
 exact .inr ⟨x,hv,rfl,[],rfl,rfl,trivial,trivial⟩
theorem fh (H : ae) : ∀ (args : List AV) (xs : List D) (F : List Nat),(∀ id ∈ args.flatMap (bC 8 H),id ∈ F) -> vl (bl 8 H) args = some xs -> eY [] F H (xs.map .d) args
 | [],xs,F,_,h=>by simp [vl] at h;subst h;simp [eY]
 | a :: args,xs,F,hF,h=>by
  simp only [vl] at h
  split at h
  ·rename_i x hx
   split at h
   ·rename_i r hr
    cases h
    simp only [List.map_cons,eY,cn]
    exact ⟨⟨hx,fun id hid=>hF id (by simp [hid])⟩,fh H args r F (fun id hid=>hF id (by simp only [List.flatMap_cons,List.mem_append];exact .inr hid)) hr⟩
   ·cases h
  ·cases h
section
variable {P : Program} {f : Nat} {xs : List D} {r : D} (hf : bn P f (xs.map .d) [] (.d r) []) {H : ae} {args : List AV}
include hf
theorem ah (hr : r.flat = true) (hv : vl (bl 8 H) args = some xs) : bn P f args H (.d r) H:=
 run_pure hf hr H ⟨_,fh H args xs (args.flatMap (bC 8 H)) (fun _ h=>h) hv⟩
theorem aA (hv : vl (bl 8 H) args = some xs) : bn P f args H (.d r) (freeze H (args.flatMap (bC 8 H))):=by
 have:=xu (σ:=[]) (F:=args.flatMap (bC 8 H)) (H:=H) (fl:=false) hf List.nodup_nil (fun _ _ h=>by cases h) (fh H args xs _ (fun _ h=>h) hv) (by simp [pP]) (fun h=>by cases h)
 simpa [ren,kI,cg] using this
end
theorem aa {P : Program} {f : Nat} {args : List AV} {h h' : ae} {r : AV} {K : KV} (hR : bn P f args h r h') (k : K r h') : ∃ r h', bn P f args h r h' /\ K r h' := ⟨r, h', hR, k⟩
theorem gg {P : Program} {f : Nat} {args args' : List AV} {h H h1 H' : ae} {r r' : AV} {σ F : List Nat} {fl : Bool} (hf : bn P f args h r h1) (hσ : σ.Nodup) (hσF : ∀ id ∈ F,id ∉ σ) (ha : eY σ F H args args') (hh : pP σ F H σ h)
  (hfl : fl = true -> r.flat = true /\ ∀ o ∈ h1,AV.flats o.elems = true /\ o.st ≠ 1) (hr : ren (AE σ H.length) r = r') (hH : kI σ (AE σ H.length) (if fl then H else freeze H F) h1 = H') : bn P f args' H r' H':=by
 subst hr;subst hH
 exact xu hf hσ hσF ha hh hfl
theorem jS : ∀ (l : List D),(∀ x ∈ l,x.flat = true) -> AV.flats (l.map .d) = true
 | [],_=>rfl
 | x :: l,h=>by
  simp only [List.map_cons,AV.flats,AV.flat,Bool.and_eq_true]
  exact ⟨h x (by simp),jS l fun y hy=>h y (by simp [hy])⟩
theorem d5 (H : ae) : ∀ (xs : List D),vl (bl 8 H) (xs.map .d) = some xs
 | []=>rfl
 | x :: xs=>by
  have hv : bl 8 H (.d x) = some x:=rfl
  simp only [List.map_cons,vl,hv,d5 H xs]
theorem ue (n : Nat) (H : ae) : ∀ (l : List D),vl (bl (n + 1) H) (l.map .d) = some l
 | []=>rfl
 | x :: xs=>by
  have hv : bl (n + 1) H (.d x) = some x:=rfl
  simp only [List.map_cons,vl,hv,ue n H xs]
theorem Id {H : ae} {id s len k k' st n : Nat} {cap : Option Nat} {l : List D} (h : H[id]? = some ⟨l.map .d,k,st⟩) (hst : st < 2) (hs : s + len <= l.length) : bl (n + 2) H (.sl id s len k' cap) = some (.fs ((l.drop s).take len)):=by
 have e : (l.map AV.d).drop s = (l.drop s).map .d:=by rw [List.map_drop]
 have e2 : ((l.drop s).map AV.d).take len = ((l.drop s).take len).map .d:=by rw [List.map_take]
 have hv:=ue n H ((l.drop s).take len)
 show (match H[id]? with
  | some o=>if o.st < 2 then (if s + len <= o.elems.length then (vl (bl (n + 1) H) ((o.elems.drop s).take len)).map D.fs else none) else none
  | none=>none) = _
 simp only [h,if_pos hst,List.length_map,if_pos hs,e,e2,hv,Option.map_some]
theorem ud {H : ae} {id k k' st n : Nat} {cap : Option Nat} {l : List D} (h : H[id]? = some ⟨l.map .d,k,st⟩) (hst : st < 2) : bl (n + 2) H (.sl id 0 l.length k' cap) = some (.fs l):=by
 rw [Id h hst (by omega)]
 simp
theorem B0 {H : ae} {id k k' st n : Nat} {cap : Option Nat} {l : List UInt8} (h : H[id]? = some ⟨l.map fR,k,st⟩) (hst : st < 2) : bl (n + 2) H (.sl id 0 l.length k' cap) = some (.fs (l.map fun b=>.int .u8 b.toNat)):=by
 have e : l.map fR = (l.map fun b=>D.int .u8 b.toNat).map .d:=by rw [List.map_map];rfl
 rw [e] at h
 have:=ud (n:=n) (k':=k') (cap:=cap) h hst
 simpa using this
theorem Vp {f : AV -> Option D} {a : AV} {x : D} (h : f a = some x) : vl f [a] = some [x]:=by simp [vl,h]
theorem TN {f : AV -> Option D} {a b : AV} {x y : D} (h : f a = some x) (g : f b = some y) : vl f [a,b] = some [x,y]:=by simp [vl,h,g]
theorem af {P : Program} {f : Nat} {xs : List D} {r : D} (hf : bn P f (xs.map .d) [] (.d r) []) (H : ae) : bn P f (xs.map .d) H (.d r) H:=by
 have:=aA hf (d5 H xs)
 have hre : (xs.map AV.d).flatMap (bC 8 H) = []:=by
  induction xs with
  | nil=>rfl
  | cons x xs ih=>simp [bC]
 rw [hre] at this
 exact this
end Dw
namespace Dw
open Go Go.RowKit
inductive TT where
 | nil
 | leaf (n : Nat) (t : TI)
 | node (p : Nat) (l r : TT)
def TT.get : TT -> Nat -> TI
 | .nil,_=>PJ
 | .leaf n t,m=>match Nat.beq n m with
  | true=>t
  | false=>PJ
 | .node p l r,m=>match Nat.ble p m with
  | true=>r.get m
  | false=>l.get m
def xU (P : Program) : TT -> Bool
 | .nil=>true
 | .leaf n t=>BZ P n t
 | .node _ l r=>xU P l && xU P r
theorem ns {P : Program} : ∀ (x : TT),xU P x = true -> ∀ t,(x.get t).kind ≠ 0 -> BZ P t (x.get t) = true
 | .nil,_,t,h=>absurd rfl h
 | .leaf n ti,h,t,hk=>by
  simp only [TT.get] at hk ⊢
  cases hb : Nat.beq n t
  ·rw [hb] at hk;exact absurd rfl hk
  ·have:=Nat.eq_of_beq_eq_true hb
   subst this
   exact h
 | .node p l r,h,t,hk=>by
  simp only [xU,Bool.and_eq_true] at h
  simp only [TT.get] at hk ⊢
  cases hb : Nat.ble p t
  ·rw [hb] at hk;exact ns l h.1 t hk
  ·rw [hb] at hk;exact ns r h.2 t hk
theorem GC {P : Program} {P7 : TT} (h1 : P.follows .mixedOrders = true) (h2 : xU P P7 = true) : gJ P P7.get:=
 ⟨h1,fun t hk=>ns P7 h2 t hk⟩
abbrev bL:=List (Nat × AV)
def bX : bL -> Nat -> AV
 | [],_=>.junk
 | (m,v) :: A,n=>match Nat.beq m n with
  | true=>v
  | false=>bX A n
def nh : bL -> Nat -> (AV -> Prop) -> Prop
 | [],_,K=>K .junk
 | (m,v) :: A,n,K=>match Nat.beq m n with
  | true=>K v
  | false=>nh A n K
theorem jY : ∀ (A : bL) (n : Nat) (K : AV -> Prop),nh A n K = K (bX A n)
 | [],n,K=>rfl
 | (m,v) :: A,n,K=>by
  simp only [nh,bX]
  cases Nat.beq m n
  ·exact jY A n K
  ·rfl
abbrev OG:=Operand -> (AV -> Prop) -> Prop
def lW (A : bL) : OG:=fun x K=>
 match x with
 | .tmp t=>nh A t K
 | .const v=>GU (PK v) K
 | .global g=>K (z8 g)
 | .func f=>K (.d (.fn f [] []))
def nJ (G : OG) : List Operand -> (List AV -> Prop) -> Prop
 | [],K=>K []
 | x :: l,K=>G x (fun a=>nJ G l (fun r=>K (a :: r)))
def yM (E : TE) (t : TI) (G : OG) : List (Nat × Operand) -> List AV -> (List AV -> Prop) -> Prop
 | [],cs,K=>K cs
 | (i,x) :: l,cs,K=>G x (fun v=>
   aR (t.kind == 5)
    (cX t.fields i (fun p=>a8 (decide (p.1 + (E p.2).size <= cs.length) && (gQ (E p.2) v && (E p.2).kind != 0)) (xo cs p.1 v.cells (fun cs'=>yM E t G l cs' K))))
    (a8 ((t.kind == 6 && (E t.elem).kind != 0) && (decide (i * (E t.elem).size + (E t.elem).size <= cs.length) && gQ (E t.elem) v)) (xo cs (i * (E t.elem).size) v.cells (fun cs'=>yM E t G l cs' K))))
def JM (t : TI) (G : OG) : List (Nat × Operand) -> List AV -> (List AV -> Prop) -> Prop
 | [],es,K=>K es
 | (i,x) :: l,es,K=>G x (fun v=>a8 (gQ t v && decide (i < es.length)) (fb es i v (fun es'=>JM t G l es' K)))
def Jz (G : OG) : Option Operand -> (Option AV -> Prop) -> Prop
 | none,K=>K none
 | some x,K=>G x (fun a=>K (some a))
inductive Stop : Prop where
 | mk
structure la (k : IntKind) (x : Int) (K : Int -> Prop) : Prop where
 stop : Stop
 out : K (k.wrap x)
theorem kg (k : IntKind) (x : Int) (K : Int -> Prop) : la k x K = (K (k.wrap x)):=propext ⟨fun h=>h.out,fun h=>⟨.mk,h⟩⟩
structure OM (k : IntKind) (a b : Int) (K : Int -> Prop) : Prop where
 stop : Stop
 out : a8 (!decide (b = 0)) (K (k.wrap (a.tdiv b)))
theorem IW (k : IntKind) (a b : Int) (K : Int -> Prop) : OM k a b K = (a8 (!decide (b = 0)) (K (k.wrap (a.tdiv b)))):=propext ⟨fun h=>h.out,fun h=>⟨.mk,h⟩⟩
structure PU (a b : Int) (K : Int -> Prop) : Prop where
 stop : Stop
 out : a8 (!decide (b = 0)) (K (a.tmod b))
theorem JK (a b : Int) (K : Int -> Prop) : PU a b K = (a8 (!decide (b = 0)) (K (a.tmod b))):=propext ⟨fun h=>h.out,fun h=>⟨.mk,h⟩⟩
structure xY (op : BinOp) (k : IntKind) (a b : Int) (K : Int -> Prop) : Prop where
 stop : Stop
 out : K (da op k a b)
theorem wj (op : BinOp) (k : IntKind) (a b : Int) (K : Int -> Prop) : xY op k a b K = (K (da op k a b)):=propext ⟨fun h=>h.out,fun h=>⟨.mk,h⟩⟩
structure JQ (k : IntKind) (a b : Int) (K : Int -> Prop) : Prop where
 stop : Stop
 out : a8 (decide (0 <= b)) (K (k.wrap (a * 2 ^ (min b.toNat k.bits))))
theorem Dx (k : IntKind) (a b : Int) (K : Int -> Prop) : JQ k a b K = (a8 (decide (0 <= b)) (K (k.wrap (a * 2 ^ (min b.toNat k.bits))))):=propext ⟨fun h=>h.out,fun h=>⟨.mk,h⟩⟩
structure P4 (k : IntKind) (a b : Int) (K : Int -> Prop) : Prop where
 stop : Stop
 out : a8 (decide (0 <= b)) (K (a.fdiv (2 ^ (min b.toNat k.bits))))
theorem JS (k : IntKind) (a b : Int) (K : Int -> Prop) : P4 k a b K = (a8 (decide (0 <= b)) (K (a.fdiv (2 ^ (min b.toNat k.bits))))):=propext ⟨fun h=>h.out,fun h=>⟨.mk,h⟩⟩
def L3 (op : BinOp) (k : IntKind) (a b : Int) (K : AV -> Prop) : Prop:=
 match op with
 | .add=>la k (a + b) (fun n=>K (.d (.int k n)))
 | .sub=>la k (a - b) (fun n=>K (.d (.int k n)))
 | .mul=>la k (a * b) (fun n=>K (.d (.int k n)))
 | .quo=>OM k a b (fun n=>K (.d (.int k n)))
 | .rem=>PU a b (fun n=>K (.d (.int k n)))
 | .and=>xY .and k a b (fun n=>K (.d (.int k n)))
 | .or=>xY .or k a b (fun n=>K (.d (.int k n)))
 | .xor=>xY .xor k a b (fun n=>K (.d (.int k n)))
 | .andNot=>xY .andNot k a b (fun n=>K (.d (.int k n)))
 | .eql=>K (.d (.bool (decide (a = b))))
 | .neq=>K (.d (.bool (!decide (a = b))))
 | .lss=>K (.d (.bool (decide (a < b))))
 | .leq=>K (.d (.bool (decide (a <= b))))
 | .gtr=>K (.d (.bool (decide (b < a))))
 | .geq=>K (.d (.bool (decide (b <= a))))
 | _=>False
def IB (E : TE) (op : BinOp) (t : Nat) (x y : AV) (K : AV -> Prop) : Prop:=
 match x,y with
 | .d (.int k a),.d (.int k' b)=>
  match op with
  | .shl=>JQ k a b (fun n=>K (.d (.int k n)))
  | .shr=>P4 k a b (fun n=>K (.d (.int k n)))
  | _=>a8 (k == k') (L3 op k a b K)
 | .d (.str a),.d (.str b)=>Al op a b K
 | .d (.bool a),.d (.bool b)=>a8 ((E t).kind == 2) (xL op (a == b) K)
 | .d (.fp _ _),.raw (.pointer none)=>a8 ((E t).kind == 7) (xL op false K)
 | .ptr _ _ _,.raw (.pointer none)=>a8 ((E t).kind == 7) (xL op false K)
 | _,_=>
  a8 (x.isAgg && y.isAgg && ((E t).kind == 5)) (
   match ev x.cells with
   | some l=>match ev y.cells with
    | some r=>a8 (!(E t).leaf.isEmpty && er (E t).leaf l r) (xL op (dD l r) K)
    | none=>False
   | none=>False)
def TM (op : UnOp) (x : AV) (K : AV -> Prop) : Prop:=
 match op,x with
 | .not,.d (.bool b)=>K (.d (.bool (!b)))
 | .neg,.d (.int k n)=>la k (0 - n) (fun n=>K (.d (.int k n)))
 | _,_=>False
def Gp (E : TE) (src dst : Nat) (x : AV) (h : ae) (K : KV) : Prop:=
 match x with
 | .d (.int _ n)=>a8 ((E dst).kind == 1 && !((E src).kind == 0)) (la (E dst).ik n (fun n=>K (.d (.int (E dst).ik n)) h))
 | _=>jQ E src dst x h K
structure Du (x : List D) (lo hi : Int) (sz : Nat) (K : List D -> Prop) : Prop where
 stop : Stop
 out : (0 <= lo /\ lo <= hi /\ hi <= x.length /\ ∀ y ∈ x,y.cells.length = sz) /\ K ((x.take hi.toNat).drop lo.toNat)
theorem zR (x : List D) (lo hi : Int) (sz : Nat) (K : List D -> Prop) : Du x lo hi sz K = ((0 <= lo /\ lo <= hi /\ hi <= x.length /\ ∀ y ∈ x,y.cells.length = sz) /\ K ((x.take hi.toNat).drop lo.toNat)):=propext ⟨fun h=>h.out,fun h=>⟨.mk,h⟩⟩
structure Am (s : List UInt8) (lo hi : Int) (K : List UInt8 -> Prop) : Prop where
 stop : Stop
 out : (0 <= lo /\ lo <= hi /\ hi <= s.length) /\ K ((s.take hi.toNat).drop lo.toNat)
theorem An (s : List UInt8) (lo hi : Int) (K : List UInt8 -> Prop) : Am s lo hi K = ((0 <= lo /\ lo <= hi /\ hi <= s.length) /\ K ((s.take hi.toNat).drop lo.toNat)):=propext ⟨fun h=>h.out,fun h=>⟨.mk,h⟩⟩
structure Hy (h : ae) (id s len k : Nat) (cap : Option Nat) (lo hi : Int) (K : AV -> Prop) : Prop where
 stop : Stop
 out : (0 <= lo /\ lo <= hi /\ w6 h id s len cap hi) /\ K (.sl id (s + lo.toNat) (hi.toNat - lo.toNat) k (match cap with | some c=>some (c - lo.toNat) | none=>none))
theorem Hz (h : ae) (id s len k : Nat) (cap : Option Nat) (lo hi : Int) (K : AV -> Prop) : Hy h id s len k cap lo hi K = ((0 <= lo /\ lo <= hi /\ w6 h id s len cap hi) /\ K (.sl id (s + lo.toNat) (hi.toNat - lo.toNat) k (match cap with | some c=>some (c - lo.toNat) | none=>none))):=propext ⟨fun h=>h.out,fun h=>⟨.mk,h⟩⟩
def BV (E : TE) (t : Nat) (x : AV) (lo hi mx : Option AV) (h : ae) (K : AV -> Prop) : Prop:=
 match x with
 | .d (.str s)=>a8 ((E t).kind == 3 && mx.isNone) (db 0 lo (fun l=>db s.length hi (fun u=>Am s l u (fun r=>K (.d (.str r))))))
 | .d (.fs y)=>match mx with
  | none=>a8 ((E t).kind == 4 && (E (E t).elem).kind != 0) (db 0 lo (fun l=>db y.length hi (fun u=>Du y l u (E (E t).elem).size (fun r=>K (.d (.fs r))))))
  | some m=>ei E t (.d (.fs y)) lo hi (some m) h K
 | .sl id s len k cap=>match mx with
  | none=>a8 ((E t).kind == 4 && (k == (E (E t).elem).size && (E (E t).elem).kind != 0)) (db 0 lo (fun l=>db len hi (fun u=>Hy h id s len k cap l u K)))
  | some m=>ei E t (.sl id s len k cap) lo hi (some m) h K
 | _=>ei E t x lo hi mx h K
theorem Fq (E : TE) (t : Nat) (x : AV) (lo hi mx : Option AV) (h : ae) (K : AV -> Prop) : BV E t x lo hi mx h K = ei E t x lo hi mx h K:=by
 unfold BV
 split
 ·simp only [An,ei]
 ·split
  ·simp only [zR,ei]
  ·rfl
 ·split
  ·rename_i cap _
   simp only [Hz,ei]
   cases cap<;>rfl
  ·rfl
 ·rfl
theorem jH {h : ae} {id s len k : Nat} {cap : Option Nat} {lo hi : Int} {K : AV -> Prop} (a b : Nat) (ha : lo = a) (hb : hi = b) (hab : a <= b /\ b <= len) (hk : K (.sl id (s + a) (b - a) k (match cap with | some c=>some (c - a) | none=>none))) : Hy h id s len k cap lo hi K:=by
 subst ha;subst hb
 exact ⟨.mk,⟨by omega,by omega,.inl (by omega)⟩,hk⟩
theorem Jh (op : BinOp) (k : IntKind) (a b : Int) (K : AV -> Prop) : L3 op k a b K = w9 op k a b K:=by
 cases op<;>simp only [L3,w9,kg,IW,JK,wj]
theorem IC (E : TE) (op : BinOp) (t : Nat) (x y : AV) (K : AV -> Prop) : IB E op t x y K = ul E op t x y K:=by
 unfold ul
 split
 ·cases op<;>simp only [IB,Dx,JS,Jh]
 ·rfl
 ·rfl
 ·rfl
 ·rfl
 ·rename_i h1 h2 h3 h4 h5
  unfold IB
  split
  ·exact (h1 _ _ _ _ rfl rfl).elim
  ·exact (h2 _ _ rfl rfl).elim
  ·exact (h3 _ _ rfl rfl).elim
  ·exact (h4 _ _ rfl rfl).elim
  ·exact (h5 _ _ _ rfl rfl).elim
  ·rfl
theorem MT (op : UnOp) (x : AV) (K : AV -> Prop) : TM op x K = Ka op x K:=by
 unfold TM Ka
 split<;>simp only [kg]
theorem Gq (E : TE) (src dst : Nat) (x : AV) (h : ae) (K : KV) : Gp E src dst x h K = jQ E src dst x h K:=by
 unfold Gp
 split
 ·simp only [kg,jQ]
 ·rfl
theorem vA (T : List AV) : ∀ (l : List Operand) (K : List AV -> Prop),kH T l K = nJ (bB T) l K
 | [],K=>rfl
 | x :: l,K=>by simp only [kH,nJ,vA T l]
theorem yN (E : TE) (t : TI) (T : List AV) : ∀ (l : List (Nat × Operand)) (cs : List AV) (K : List AV -> Prop),fG E t T l cs K = yM E t (bB T) l cs K
 | [],cs,K=>rfl
 | (i,x) :: l,cs,K=>by simp only [fG,yM,yN E t T l]
theorem Ds (t : TI) (T : List AV) : ∀ (l : List (Nat × Operand)) (es : List AV) (K : List AV -> Prop),iV t T l es K = JM t (bB T) l es K
 | [],es,K=>rfl
 | (i,x) :: l,es,K=>by simp only [iV,JM,Ds t T l]
theorem JA (T : List AV) (o : Option Operand) (K : Option AV -> Prop) : iU T o K = Jz (bB T) o K:=by cases o<;>rfl
def Mo (E : TE) (R : ep) (G : OG) (h : ae) (o : Op) (K : KV) : Prop:=
 match o with
 | .move x=>G x (fun a=>K a h)
 | .assign x=>G x (fun a=>K a h)
 | .pick c a b=>G c (fun c=>match c with
   | .d (.bool c)=>aR c (G a (fun a=>K a h)) (G b (fun b=>K b h))
   | _=>False)
 | .alloc t=>a8 ((E t).kind != 0) (eR h { elems:=[(E t).zero],k:=(E t).size,st:=0 } (fun id h'=>K (.ptr id 0 0) h'))
 | .box t x=>G x (fun v=>a8 ((E t).kind != 0 && gQ (E t) v) (eR h { elems:=[v],k:=(E t).size,st:=0 } (fun id h'=>K (.ptr id 0 0) h')))
 | .build t ps=>a8 ((E t).kind == 5 || ((E t).kind == 6 && (E (E t).elem).kind != 0)) (yM E (E t) G ps.toList (E t).zero.cells (fun cs=>K (.agg cs) h))
 | .buildSlice t n ps=>a8 ((E t).kind == 4 && (decide (n * (E (E t).elem).size <= 16777216) && (E (E t).elem).kind != 0)) (
   aR (n == 0) (a8 ps.toList.isEmpty (K .nilS h))
    (tG n (E (E t).elem).zero (fun es=>JM (E (E t).elem) G ps.toList es (fun es=>aR ((E t).len == 0) (eR h { elems:=es,k:=(E (E t).elem).size,st:=0 } (fun id h'=>K (.sl id 0 n (E (E t).elem).size (some n)) h')) (kS es (fun ds=>K (.d (.fs ds)) h))))))
 | .load t a=>G a (fun a=>jX (E t) a h (fun v=>K v h))
 | .store t a v=>G a (fun a=>G v (fun v=>iP (E t) a v h (fun h'=>K .und h')))
 | .nilCheck x=>G x (fun a=>match a with
   | .ptr ..=>K a h
   | .fn ..=>K a h
   | .d (.fp ..)=>K a h
   | .d (.fn ..)=>K a h
   | _=>False)
 | .binOp op t x y _=>G x (fun a=>aR (xa y) (xe E op t a (fun v=>K v h)) (G y (fun b=>IB E op t a b (fun v=>K v h))))
 | .unOp op _ x=>G x (fun a=>TM op a (fun v=>K v h))
 | .convert src dst x=>G x (fun a=>Gp E src dst a h K)
 | .makeFunc fn first cap=>match fn with
  | .func f=>nJ G first.toList (fun a=>nJ G cap.toList (fun c=>K (.fn f a c) h))
  | _=>False
 | .makeSlice t l c=>G l (fun l=>G c (fun c=>match l,c with
   | .d (.int _ l),.d (.int _ c)=>a8 ((E t).kind == 4 && (E (E t).elem).kind != 0) ((0 <= l /\ l <= c /\ c < 9223372036854775808 /\ c * (E (E t).elem).bytes <= 140737488355328) /\
     eR h { elems:=List.replicate c.toNat (E (E t).elem).zero,k:=(E (E t).elem).size,st:=0 } (fun id h'=>K (.sl id 0 l.toNat (E (E t).elem).size (some c.toNat)) h'))
   | _,_=>False))
 | .makeMap t r=>a8 ((E t).kind == 9 && r.isNone) (eR h { elems:=[],k:=1,st:=3 } (fun id h'=>K (.mp id) h'))
 | .lookup t x i c=>a8 (!c) <| G x (fun a=>G i (fun i=>gu E t a i h (fun v=>K v h)))
 | .mapUpdate t m i v=>G m (fun a=>G i (fun i=>G v (fun v=>eN E t a i v h (fun h'=>K .und h'))))
 | .insert t m i v=>G m (fun a=>G i (fun i=>G v (fun v=>eN E t a i v h (fun h'=>K .und h'))))
 | .slice t x lo hi mx=>G x (fun a=>Jz G lo (fun lo=>Jz G hi (fun hi=>Jz G mx (fun mx=>BV E t a lo hi mx h (fun v=>K v h)))))
 | .fieldAddr s x f=>G x (fun a=>ez E s a f (fun v=>K v h))
 | .field s x f=>G x (fun a=>pW E s a f (fun v=>K v h))
 | .indexAddr t x i=>G x (fun a=>G i (fun i=>dV E t a i (fun v=>K v h)))
 | .index t x i=>G x (fun a=>G i (fun i=>jx E t a i (fun v=>K v h)))
 | .extract x i=>G x (fun a=>match a with
   | .tup l=>cX l i (fun v=>K v h)
   | .d (.tup l)=>cX l i (fun v=>K (.d v) h)
   | _=>False)
 | .call c=>match c.callee with
  | .value f=>G f (fun f=>nJ G c.args.toList (fun args=>om R f args h K))
  | .builtin b=>nJ G c.args.toList (fun args=>et E b c.argTypes.toList args h K)
  | _=>False
 | _=>False
theorem Mp (E : TE) (R : ep) (T : List AV) (h : ae) (o : Op) (K : KV) : kG E R T h o K = Mo E R (bB T) h o K:=by
 cases o<;>simp only [kG,Mo,vA,yN,Ds,JA,IC,MT,Gq,Fq]<;>rfl
def p7 (all : List Oper) (A : bL) (g : Option (Nat × Bool)) (P Q : bL -> Prop) : Prop:=
 match g with
 | none=>P A
 | some (j,want)=>
  match lw all j with
  | some t=>nh A t (fun a=>match a with
   | .d (.bool b)=>aR b (aR want (P ((t,.d (.bool true)) :: A)) (Q ((t,.d (.bool true)) :: A))) (aR want (Q ((t,.d (.bool false)) :: A)) (P ((t,.d (.bool false)) :: A)))
   | .und=>Q A
   | _=>False)
  | none=>False
def wE (dst : Option Nat) (v : AV) (A : bL) (K : bL -> Prop) : Prop:=
 match dst with
 | some t=>K ((t,v) :: A)
 | none=>K A
/- By the recursor itself: what is left of a walk is then spelled er, whoever unfolds it. -/
noncomputable def HK (E : TE) (R : ep) (all : List Oper) (l : List Oper) : bL -> ae -> (bL -> ae -> Prop) -> Prop:=
 List.rec (motive:=fun _=>bL -> ae -> (bL -> ae -> Prop) -> Prop)
  (fun A h K=>K A h)
  (fun o _ ih A h K=>p7 all A o.guard
   (fun A=>Mo E R (lW A) h o.op (fun v h'=>wE o.dst v A (fun A'=>ih A' h' K)))
   (fun A=>wE o.dst .und A (fun A'=>ih A' h K)))
  l
theorem E9 {E : TE} {R : ep} {all : List Oper} {o : Oper} {rest : List Oper} {A : bL} {h : ae} {K : bL -> ae -> Prop} : HK E R all (o :: rest) A h K = p7 all A o.guard
      (fun A=>Mo E R (lW A) h o.op (fun v h'=>wE o.dst v A (fun A'=>HK E R all rest A' h' K)))
      (fun A=>wE o.dst .und A (fun A'=>HK E R all rest A' h K)):=rfl
def BR (G : OG) (o : Op) (K : Option Nat -> Prop) : Prop:=
 match o with
 | .load _ a=>G a (fun v=>match v with | .ptr id _ _=>K (some id) | _=>K none)
 | .convert _ _ a=>G a (fun v=>match v with | .sl id _ _ _ _=>K (some id) | _=>K none)
 | .slice _ a _ _ _=>G a (fun v=>match v with | .sl id _ _ _ _=>K (some id) | _=>K none)
 | .lookup _ a _ _=>G a (fun v=>match v with | .mp id=>K (some id) | _=>K none)
 | _=>K none
theorem E6 (T : List AV) (o : Op) (K : Option Nat -> Prop) : gY T o K = BR (bB T) o K:=by cases o<;>rfl
noncomputable def mZ (E : TE) (R : ep) (all : List Oper) (ps : List (Nat × Nat)) (l : List (Nat × Oper)) : List Ev -> bL -> ae -> (bL -> ae -> Prop) -> Prop:=
 List.rec (motive:=fun _=>List Ev -> bL -> ae -> (bL -> ae -> Prop) -> Prop)
  (fun _ A h K=>K A h)
  (fun x _ ih L A h K=>p7 all A x.2.guard
   (fun A=>Mo E R (lW A) h x.2.op (fun v h'=>wE x.2.dst v A (fun A'=>
    match d6 E x.2.op with
    | 0=>ih L A' h' K
    | 1=>BR (lW A) x.2.op (fun r=>match r with
     | some id=>iC ps (.read x.1 id) L (ih (.read x.1 id :: L) A' h' K)
     | none=>ih L A' h' K)
    | 2=>match v with
     | .ptr id _ _=>ih (.made x.1 id :: L) A' h' K
     | _=>False
    | _=>iC ps (.heap x.1 h h') L (ih (.heap x.1 h h' :: L) A' h' K))))
   (fun A=>wE x.2.dst .und A (fun A'=>ih L A' h K)))
  l
theorem AW {E : TE} {R : ep} {all : List Oper} {ps : List (Nat × Nat)} {i : Nat} {o : Oper} {rest : List (Nat × Oper)} {L : List Ev} {A : bL} {h : ae} {K : bL -> ae -> Prop} : mZ E R all ps ((i, o) :: rest) L A h K = p7 all A o.guard
      (fun A=>Mo E R (lW A) h o.op (fun v h'=>wE o.dst v A (fun A'=>
        match d6 E o.op with
        | 0=>mZ E R all ps rest L A' h' K
        | 1=>BR (lW A) o.op (fun r=>match r with
          | some id=>iC ps (.read i id) L (mZ E R all ps rest (.read i id :: L) A' h' K)
          | none=>mZ E R all ps rest L A' h' K)
        | 2=>match v with
          | .ptr id _ _=>mZ E R all ps rest (.made i id :: L) A' h' K
          | _=>False
        | _=>iC ps (.heap i h h') L (mZ E R all ps rest (.heap i h h' :: L) A' h' K))))
      (fun A=>wE o.dst .und A (fun A'=>mZ E R all ps rest L A' h K)):=rfl
def TO (μ : List Mu) (A : bL) : bL -> Prop
 | []=>True
 | (n,v) :: A1=>wk μ (bX A n) v /\ TO μ A A1
def xP (V : List Nat) (n0 : Nat) (A : bL) (h : ae) (A1 : bL) (h1 : ae) : Prop:=
 ∃ μ : List Mu,iE V n0 0 μ = true /\ tf (lV μ) = true /\ TO μ A A1 /\ Kl μ h μ h1
def zW (A : bL) : bL -> Prop
 | []=>True
 | (n,v) :: A1=>bX A n = v /\ zW A A1
def DY (V : List Nat) (n0 : Nat) (A : bL) (h : ae) (A1 : bL) (h1 : ae) : Prop:=(h1 = h /\ zW A A1) \/ xP V n0 A h A1 h1
def gC (V : List Nat) (n0 : Nat) (W : bL -> ae -> (Ex -> bL -> ae -> Prop) -> Prop) (K : Ex -> bL -> ae -> Prop) : Nat -> bL -> ae -> Prop
 | 0,_,_=>False
 | n + 1,A,h=>∃ A1 h1,DY V n0 A h A1 h1 /\ W A1 h1 (fun ex A' h'=>match ex with
   | .normal=>gC V n0 W K n A' h'
   | .exit id=>K (.exit id) A' h'
   | .ret=>K .ret A' h')
def CA (A : bL) (c : Operand) (P Q : bL -> Prop) : Prop:=
 match c with
 | .tmp t=>nh A t (fun a=>match a with
  | .d (.bool b)=>aR b (P ((t,.d (.bool true)) :: A)) (Q ((t,.d (.bool false)) :: A))
  | _=>False)
 | .const (.bool b)=>aR b (P A) (Q A)
 | _=>False
def LQ (C V : List Nat) (n0 id : Nat) (A : bL) (h : ae) (K : bL -> ae -> Prop) : Prop:=
 match C.any (Nat.beq id) with
 | true=>∃ A1 h1,xP V n0 A h A1 h1 /\ K A1 h1
 | false=>K A h
noncomputable def qw (E : TE) (R : ep) (C V : List Nat) (n0 : Nat) (c : Code) : bL -> ae -> (Ex -> bL -> ae -> Prop) -> Prop:=
 Code.rec (motive:=fun _=>bL -> ae -> (Ex -> bL -> ae -> Prop) -> Prop)
  (skip:=fun A h K=>K .normal A h)
  (region:=fun id ops d A h K=>LQ C V n0 id A h (fun A h=>match d with
   | false=>HK E R ops.toList ops.toList A h (K .normal)
   | true=>∃ fl ps,wD (kT E fl) ops.toList ps = true /\ mZ (kT E fl) R.mute ops.toList ps (bQ ops.toList) [] A h (K .normal)))
  (seq:=fun _ _ x y A h K=>x A h (fun ex A h=>match ex with
   | .normal=>y A h K
   | .exit id=>K (.exit id) A h
   | .ret=>K .ret A h))
  (cond:=fun c _ _ x y A h K=>CA A c (fun A=>x A h K) (fun A=>y A h K))
  (block:=fun id _ x A h K=>x A h (fun ex A h=>match ex with
   | .normal=>K .normal A h
   | .exit i=>aR (Nat.beq i id) (K .normal A h) (K (.exit i) A h)
   | .ret=>K .ret A h))
  (loop:=fun _ x A h K=>∃ n,gC V n0 x K n A h)
  (rangeFunc:=fun _ _ _ _ _ _ _ _ _=>False)
  (exit:=fun id A h K=>K (.exit id) A h)
  (scope:=fun _ _ _ _ _=>False)
  (label:=fun _ _ _ _=>False)
  (goto:=fun _ _ _ _=>False)
  (ret:=fun A h K=>K .ret A h)
  (refuse:=fun _ _ _ _=>False)
  c
noncomputable def zM (E : TE) (h : ae) (A : bL) (l : List ResultVar) : (List AV -> Prop) -> Prop:=
 List.rec (motive:=fun _=>(List AV -> Prop) -> Prop)
  (fun K=>K [])
  (fun x _ ih K=>match x with
   | .tmp t=>nh A t (fun v=>ih (fun r=>K (v :: r)))
   | .cell a t=>nh A a (fun a=>jX (E t) a h (fun v=>ih (fun r=>K (v :: r)))))
  l
structure nq (V : List Nat) (n0 : Nat) (h : ae) (a r : AV) (h1 : ae) : Prop where
 stop : Stop
 out : nZ V n0 h a r h1 \/ (a = r /\ h = h1)
theorem vZ (V : List Nat) (n0 : Nat) (h : ae) (a r : AV) (h1 : ae) : nq V n0 h a r h1 = (nZ V n0 h a r h1 \/ (a = r /\ h = h1)):=propext ⟨fun h=>h.out,fun h=>⟨.mk,h⟩⟩
noncomputable def OO (E : TE) (V : List Nat) (n0 : Nat) (rs : List ResultVar) (r : AV) (h1 : ae) : Ex -> bL -> ae -> Prop
 | .exit _,_,_=>False
 | .normal,A,h=>zM E h A rs (fun l=>nq V n0 h (gj l) r h1)
 | .ret,A,h=>zM E h A rs (fun l=>nq V n0 h (gj l) r h1)
def jL (N : Nat) (T : List AV) (A : bL) : Prop:=T.length = N /\ ∀ n,bX A n = g9 T n
theorem jL.opnd {N : Nat} {T : List AV} {A : bL} (h : jL N T A) : lW A = bB T:=by
 funext x K
 cases x<;>simp [lW,bB,jY,cF,h.2]
theorem mA (m : Nat) (v : AV) (A : bL) (n : Nat) : bX ((m,v) :: A) n = if n = m then v else bX A n:=by
 simp only [bX]
 cases hb : Nat.beq m n
 ·rw [if_neg (fun e=>by subst e;simp [Nat.beq_refl] at hb)]
 ·rw [if_pos (Nat.eq_of_beq_eq_true hb).symm]
theorem jL.set {N : Nat} {T : List AV} {A : bL} (h : jL N T A) {t : Nat} (ht : t < N) (v : AV) : jL N (T.set t v) ((t,v) :: A):=by
 refine ⟨by simp [h.1],fun n=>?_⟩
 rw [mA,xj,h.2,h.1]
 by_cases e : n = t
 ·rw [if_pos e,if_pos ⟨e,ht⟩]
 ·rw [if_neg e,if_neg (fun x=>e x.1)]
def D2 (N : Nat) (o : Oper) : Bool:=
 match o.dst with
 | some t=>Nat.blt t N
 | none=>true
def jt (N : Nat) : Code -> Bool
 | .region _ ops _=>ops.toList.all (D2 N)
 | .seq a b=>jt N a && jt N b
 | .cond _ a b=>jt N a && jt N b
 | .block _ c=>jt N c
 | .loop c=>jt N c
 | _=>true
section
variable {N : Nat} {E : TE} {R : ep}
theorem kq {T : List AV} {A : bL} {o : Oper} {v : AV} {K : List AV -> Prop} {K' : bL -> Prop} (hr : jL N T A) (hb : D2 N o = true) (hK : ∀ T' A', jL N T' A' -> K' A' -> K T') (hk : wE o.dst v A K') : mQ o.dst v T K := by
 rw [eH]
 unfold D2 at hb
 cases hd : o.dst with
 | none=>rw [hd] at hk;exact hK _ _ hr hk
 | some t=>
  rw [hd] at hk hb
  exact hK _ _ (hr.set (by simpa using hb) v) hk
theorem Hp {T : List AV} {t : Nat} {x : AV} (h : g9 T t = x) (hx : x ≠ .junk) : t < T.length:=by
 rw [cG] at h
 by_cases hl : t < T.length
 ·exact hl
 ·rw [List.getElem?_eq_none (by omega)] at h
  exact absurd h.symm hx
theorem oL {all : List Oper} {T : List AV} {A : bL} {g : Option (Nat × Bool)} {P Q : List AV -> Prop} {P' Q' : bL -> Prop} (hr : jL N T A) (hP : ∀ T' A', jL N T' A' -> P' A' -> P T') (hQ : ∀ T' A', jL N T' A' -> Q' A' -> Q T') (hk : p7 all A g P' Q') : iG all T g P Q := by
 unfold p7 at hk
 unfold iG
 split at hk
 ·exact hP _ _ hr hk
 ·rename_i j want
  split at hk
  ·rename_i t ht
   simp only [ht]
   rw [cF]
   rw [jY,hr.2] at hk
   split at hk
   ·rename_i b hb
    have hl:=Hp hb (by simp)
    rw [hr.1] at hl
    simp only [hb,aU]
    rcases aq hk with ⟨h1,h2⟩ | ⟨h1,h2⟩<;>rcases aq h2 with ⟨h3,h4⟩ | ⟨h3,h4⟩<;>subst h1<;>subst h3<;>simp only [aR]
    ·exact hP _ _ (hr.set hl _) h4
    ·exact hQ _ _ (hr.set hl _) h4
    ·exact hQ _ _ (hr.set hl _) h4
    ·exact hP _ _ (hr.set hl _) h4
   ·rename_i hb
    simp only [hb]
    exact hQ _ _ hr hk
   ·exact hk.elim
  ·exact hk.elim
theorem vz {T : List AV} {A : bL} {h : ae} {o : Op} {K K' : KV} (hr : jL N T A) (hK : ∀ v h', K' v h' -> K v h') (hk : Mo E R (lW A) h o K') : kG E R T h o K := by
 rw [hr.opnd,<- Mp] at hk
 obtain ⟨v, h', h1, h2⟩ := jj hk
 exact h2 K (hK v h' h1)
theorem nP {all : List Oper} : ∀ (l : List Oper) (T : List AV) (A : bL) (h : ae) (K : List AV -> ae -> Prop) (K' : bL -> ae -> Prop), l.all (D2 N) = true -> jL N T A -> (∀ T' A' h', jL N T' A' -> K' A' h' -> K T' h') ->
  HK E R all l A h K' -> iL E R all l T h K
 | [], T, A, h, K, K', _, hr, hK, hk => hK T A h hr hk
 | o :: l, T, A, h, K, K', hb, hr, hK, hk => by
  simp only [List.all_cons,Bool.and_eq_true] at hb
  rw [E9] at hk
  simp only [iL]
  refine oL hr (fun T' A' hr' hk'=>?_) (fun T' A' hr' hk'=>?_) hk
  ·exact vz hr' (fun v h' hk=>kq hr' hb.1 (fun T2 A2 hr2 hk2=>nP l T2 A2 h' K K' hb.2 hr2 hK hk2) hk) hk'
  ·exact kq hr' hb.1 (fun T2 A2 hr2 hk2=>nP l T2 A2 h K K' hb.2 hr2 hK hk2) hk'
theorem dq {ps : List (Nat × Nat)} {K K' : Prop} (hK : K' -> K) : ∀ (e : Ev) (L : List Ev),iC ps e L K' -> iC ps e L K
 | e,[],h=>by simp only [iC] at h ⊢;exact hK h
 | .read i id,.heap j h h' :: l,hk=>by
  simp only [iC] at hk ⊢
  cases hb : mT ps i j<;>simp only [hb,aR] at hk ⊢
  ·exact dq hK _ l hk
  ·exact ⟨hk.1,dq hK _ l hk.2⟩
 | .heap j h h', .read i id :: l, hk => by
  simp only [iC] at hk ⊢
  cases hb : mT ps i j<;>simp only [hb,aR] at hk ⊢
  ·exact dq hK _ l hk
  ·exact ⟨hk.1,dq hK _ l hk.2⟩
 | .heap j h h', .made i id :: l, hk => by
  simp only [iC] at hk ⊢
  cases hb : mT ps i j<;>simp only [hb,aR] at hk ⊢
  ·exact dq hK _ l hk
  ·exact ⟨hk.1,dq hK _ l hk.2⟩
 | .read i id,.read j jd :: l,hk=>by simp only [iC] at hk ⊢;exact dq hK _ l hk
 | .read i id,.made j jd :: l,hk=>by simp only [iC] at hk ⊢;exact dq hK _ l hk
 | .made i id,.read j jd :: l,hk=>by simp only [iC] at hk ⊢;exact dq hK _ l hk
 | .made i id,.made j jd :: l,hk=>by simp only [iC] at hk ⊢;exact dq hK _ l hk
 | .made i id,.heap j h h' :: l,hk=>by simp only [iC] at hk ⊢;exact dq hK _ l hk
 | .heap i g g', .heap j h h' :: l, hk => by simp only [iC] at hk ⊢; exact dq hK _ l hk
theorem lu {all : List Oper} {ps : List (Nat × Nat)} : ∀ (l : List (Nat × Oper)) (L : List Ev) (T : List AV) (A : bL) (h : ae) (K : List AV -> ae -> Prop) (K' : bL -> ae -> Prop), l.all (fun p => D2 N p.2) = true -> jL N T A ->
    (∀ T' A' h', jL N T' A' -> K' A' h' -> K T' h') -> mZ E R all ps l L A h K' -> dg E R all ps l L T h K
  | [], L, T, A, h, K, K', _, hr, hK, hk => hK T A h hr hk
  | (i, o) :: l, L, T, A, h, K, K', hb, hr, hK, hk => by
    simp only [List.all_cons,Bool.and_eq_true] at hb
    rw [AW] at hk
    simp only [dg]
    refine oL hr (fun T' A' hr' hk'=>?_) (fun T' A' hr' hk'=>?_) hk
    . refine vz hr' (fun v h' hk=>kq hr' hb.1 (fun T2 A2 hr2 hk2=>?_) hk) hk'
      have ih:=fun (L : List Ev) (hk : mZ E R all ps l L A2 h' K')=>lu (all:=all) (ps:=ps) l L T2 A2 h' K K' hb.2 hr2 hK hk
      revert hk2
      cases d6 E o.op with
      | zero=>exact fun hk2=>ih _ hk2
      | succ c=>
        cases c with
        | zero=>
          intro hk2
          simp only [hr'.opnd,<- E6] at hk2
          show gY T' o.op _
          cases hop : o.op<;>rw [hop] at hk2<;>simp only [gY,aG] at hk2 ⊢<;>first
            | exact ih _ hk2
            | (split at hk2
               . exact dq (ih _) _ _ hk2
               . exact ih _ hk2)
        | succ c=>
          cases c with
          | zero=>
            cases v<;>intro hk2<;>first
              | exact ih _ hk2
              | exact hk2.elim
          | succ c=>exact fun hk2=>dq (ih _) _ _ hk2
    . exact kq hr' hb.1 (fun T2 A2 hr2 hk2=>lu l L T2 A2 h K K' hb.2 hr2 hK hk2) hk'
theorem uf {μ : List Mu} {A : bL} : ∀ {A1 : bL},TO μ A A1 -> ∀ n,wk μ (bX A n) (bX A1 n)
 | [],_,n=>by simp only [bX];unfold wk;trivial
 | (m,v) :: A1,h,n=>by
  rw [mA]
  by_cases e : n = m
  ·rw [if_pos e,e];exact h.1
  ·rw [if_neg e];exact uf h.2 n
theorem DS {μ : List Mu} (f : Nat -> AV) : ∀ (T : List AV) (k : Nat),(∀ n,n < T.length -> wk μ (g9 T n) (f (k + n))) -> io μ T ((List.range' k T.length).map f)
 | [],k,h=>by simp [io]
 | a :: T,k,h=>by
  simp only [List.length_cons,List.range'_succ,List.map_cons,io]
  refine ⟨by have:=h 0 (by simp);simpa [g9] using this,DS f T (k + 1) fun n hn=>?_⟩
  have:=h (n + 1) (by simpa using hn)
  rw [show k + (n + 1) = k + 1 + n by omega] at this
  simpa [g9] using this
theorem xi (f : Nat -> AV) (N n : Nat) : g9 ((List.range' 0 N).map f) n = if n < N then f n else .junk:=by
 rw [cG]
 by_cases h : n < N
 ·simp [h]
 ·simp [h]
theorem xP.to {n0 : Nat} {V : List Nat} {T : List AV} {A A1 : bL} {h h1 : ae} (hr : jL N T A) (hk : xP V n0 A h A1 h1) : ∃ T1,jL N T1 A1 /\ Wk V n0 T h T1 h1:=by
 obtain ⟨μ,h1,h2,h3,h4⟩:=hk
 refine ⟨(List.range' 0 T.length).map (bX A1),⟨by simp [hr.1],fun n=>?_⟩,μ,h1,h2,DS _ _ _ fun n hn=>?_,h4⟩
 ·rw [xi]
  by_cases hn : n < T.length
  ·rw [if_pos hn]
  ·rw [if_neg hn]
   have:=uf h3 n
   rw [hr.2,cG,List.getElem?_eq_none (by omega)] at this
   simp only [Option.getD_none] at this
   revert this
   cases bX A1 n<;>simp [wk]
 ·have:=uf h3 n
  rw [hr.2] at this
  simpa using this
theorem tS {A : bL} : ∀ {A1 : bL},zW A A1 -> ∀ n,bX A1 n = .junk \/ bX A1 n = bX A n
 | [],_,n=>.inl rfl
 | (m,v) :: A1,h,n=>by
  rw [mA]
  by_cases e : n = m
  ·rw [if_pos e,e];exact .inr h.1.symm
  ·rw [if_neg e];exact tS h.2 n
theorem DY.to {n0 : Nat} {V : List Nat} {T : List AV} {A A1 : bL} {h h1 : ae} (hr : jL N T A) (hk : DY V n0 A h A1 h1) : ∃ T1,jL N T1 A1 /\ DX V n0 T h T1 h1:=by
 rcases hk with ⟨rfl,hs⟩ | hk
 ·have hs':=tS hs
  refine ⟨(List.range' 0 T.length).map (bX A1),⟨by simp [hr.1],fun n=>?_⟩,.inl ⟨rfl,by simp,fun n=>?_⟩⟩
  ·rw [xi]
   by_cases hn : n < T.length
   ·rw [if_pos hn]
   ·rw [if_neg hn]
    rcases hs' n with e | e
    ·exact e
    ·rw [e,hr.2,cG,List.getElem?_eq_none (by omega)];rfl
  ·rw [xi]
   by_cases hn : n < T.length
   ·rw [if_pos hn,<- hr.2];exact hs' n
   ·rw [if_neg hn];exact .inl rfl
 ·obtain ⟨T1,r1,r2⟩:=hk.to hr
  exact ⟨T1,r1,.inr r2⟩
theorem qx {T : List AV} {A : bL} {c : Operand} {P Q : List AV -> Prop} {P' Q' : bL -> Prop} (hr : jL N T A) (hP : ∀ T' A', jL N T' A' -> P' A' -> P T') (hQ : ∀ T' A', jL N T' A' -> Q' A' -> Q T') (hk : CA A c P' Q') : ow T c P Q := by
 unfold CA at hk
 unfold ow
 split at hk
 ·rename_i t
  simp only [cF]
  rw [jY,hr.2] at hk
  split at hk
  ·rename_i b hb
   have hl:=Hp hb (by simp)
   rw [hr.1] at hl
   simp only [hb,aU]
   rcases aq hk with ⟨h1,h2⟩ | ⟨h1,h2⟩<;>subst h1<;>simp only [aR]
   ·exact hP _ _ (hr.set hl _) h2
   ·exact hQ _ _ (hr.set hl _) h2
  ·exact hk.elim
 ·rename_i b
  simp only
  rcases aq hk with ⟨h1,h2⟩ | ⟨h1,h2⟩<;>subst h1<;>simp only [aR]
  ·exact hP _ _ hr h2
  ·exact hQ _ _ hr h2
 ·exact hk.elim
theorem uj {p : Oper -> Bool} {ops : List Oper} (h : ops.all p = true) : (bQ ops).all (fun x=>p x.2) = true:=by
 have hn : ∀ (l : List Oper) (n : Nat),l.all p = true -> ∀ x ∈ gb l n,p x.2 = true:=by
  intro l
  induction l with
  | nil=>intro n _ x hx;simp [gb] at hx
  | cons o l ih=>
   intro n hl x hx
   simp only [List.all_cons,Bool.and_eq_true] at hl
   simp only [gb,List.mem_cons] at hx
   rcases hx with rfl | hx
   ·exact hl.1
   ·exact ih _ hl.2 x hx
 rw [List.all_eq_true]
 intro x hx
 simp only [bQ,List.mem_append,List.mem_filter] at hx
 rcases hx with hx | hx
 ·exact hn ops 0 h x hx.1
 ·exact hn ops 0 h x hx.1
theorem sj {n0 id : Nat} {C V : List Nat} {T : List AV} {A : bL} {h : ae} {K : List AV -> ae -> Prop} {K' : bL -> ae -> Prop} (hr : jL N T A) (hK : ∀ T A h,jL N T A -> K' A h -> K T h) (hk : LQ C V n0 id A h K') : uq C V n0 id T h K:=by
 unfold LQ at hk
 unfold uq
 split at hk
 ·rename_i hc
  simp only [hc]
  obtain ⟨A1,h1,k1,k2⟩:=hk
  obtain ⟨T1,r1,r2⟩:=k1.to hr
  exact ⟨T1,h1,r2,hK _ _ _ r1 k2⟩
 ·rename_i hc
  simp only [hc]
  exact hK _ _ _ hr hk
theorem bY {n0 : Nat} {C V : List Nat} : ∀ (c : Code) (T : List AV) (A : bL) (h : ae) (K : Ex -> List AV -> ae -> Prop) (K' : Ex -> bL -> ae -> Prop), jt N c = true -> jL N T A -> (∀ ex T' A' h', jL N T' A' -> K' ex A' h' -> K ex T' h') ->
  qw E R C V n0 c A h K' -> a7 E R C V n0 c T h K
 | .skip, T, A, h, K, K', _, hr, hK, hk => by
  simp only [a7]
  exact hK _ _ _ _ hr hk
 | .region id ops false, T, A, h, K, K', hb, hr, hK, hk => by
  simp only [a7]
  refine sj (C:=C) (V:=V) (n0:=n0) (id:=id) hr (fun T A h hr hk=>?_) hk
  exact nP _ T A h _ _ (by simpa only [jt] using hb) hr (fun T' A' h' hr' hk'=>hK _ T' A' h' hr' hk') hk
 | .region id ops true, T, A, h, K, K', hb, hr, hK, hk => by
  simp only [a7,mY]
  refine sj (C:=C) (V:=V) (n0:=n0) (id:=id) hr (fun T A h hr hk=>?_) hk
  obtain ⟨fl,ps,h1,h2⟩:=hk
  exact ⟨fl,ps,h1,lu _ _ T A h _ _ (uj (by simpa only [jt] using hb)) hr (fun T' A' h' hr' hk'=>hK _ T' A' h' hr' hk') h2⟩
 | .seq x y, T, A, h, K, K', hb, hr, hK, hk => by
  simp only [jt,Bool.and_eq_true] at hb
  simp only [a7]
  refine bY x T A h _ _ hb.1 hr (fun ex T' A' h' hr' hk'=>?_) hk
  cases ex with
  | normal=>exact bY y T' A' h' K K' hb.2 hr' hK hk'
  | exit id=>exact hK _ _ _ _ hr' hk'
  | ret=>exact hK _ _ _ _ hr' hk'
 | .cond c x y, T, A, h, K, K', hb, hr, hK, hk => by
  simp only [jt,Bool.and_eq_true] at hb
  simp only [a7]
  exact qx hr (fun T' A' hr' hk'=>bY x T' A' h K K' hb.1 hr' hK hk') (fun T' A' hr' hk'=>bY y T' A' h K K' hb.2 hr' hK hk') hk
 | .block id c, T, A, h, K, K', hb, hr, hK, hk => by
  simp only [jt] at hb
  simp only [a7]
  refine bY c T A h _ _ hb hr (fun ex T' A' h' hr' hk'=>?_) hk
  cases ex with
  | normal=>exact hK _ _ _ _ hr' hk'
  | exit i=>
   rcases aq hk' with ⟨h1,h2⟩ | ⟨h1,h2⟩
   ·exact bO h1 (hK _ _ _ _ hr' h2)
   ·exact bA h1 (hK _ _ _ _ hr' h2)
  | ret=>exact hK _ _ _ _ hr' hk'
 | .loop c, T, A, h, K, K', hb, hr, hK, hk => by
  simp only [jt] at hb
  simp only [a7]
  obtain ⟨n,hk⟩:=hk
  refine ⟨n,?_⟩
  have key : ∀ n T A h,jL N T A -> gC V n0 (qw E R C V n0 c) K' n A h -> qF V n0 (a7 E R C V n0 c) K n T h:=by
   intro n
   induction n with
   | zero=>intro T A h _ hk;exact hk.elim
   | succ n ih=>
    rintro T A h hr ⟨A1,h1,k1,k2⟩
    obtain ⟨T1,r1,r2⟩:=k1.to hr
    refine ⟨T1,h1,r2,bY c T1 A1 h1 _ _ hb r1 (fun ex T' A' h' hr' hk'=>?_) k2⟩
    cases ex with
    | normal=>exact ih _ _ _ hr' hk'
    | exit id=>exact hK _ _ _ _ hr' hk'
    | ret=>exact hK _ _ _ _ hr' hk'
  exact key n T A h hr hk
 | .exit id, T, A, h, K, K', _, hr, hK, hk => by
  simp only [a7]
  exact hK _ _ _ _ hr hk
 | .ret, T, A, h, K, K', _, hr, hK, hk => by
  simp only [a7]
  exact hK _ _ _ _ hr hk
 | .rangeFunc ..,_,_,_,_,_,_,_,_,hk=>hk.elim
 | .scope ..,_,_,_,_,_,_,_,_,hk=>hk.elim
 | .label ..,_,_,_,_,_,_,_,_,hk=>hk.elim
 | .goto ..,_,_,_,_,_,_,_,_,hk=>hk.elim
 | .refuse ..,_,_,_,_,_,_,_,_,hk=>hk.elim
theorem nR {h : ae} {T : List AV} {A : bL} (hr : jL N T A) : ∀ (rs : List ResultVar) (K : List AV -> Prop),zM E h A rs K -> ij E h T rs K
 | [],K,hk=>hk
 | .tmp t :: l,K,hk=>by
  have hk : nh A t (fun v=>zM E h A l (fun r=>K (v :: r))):=hk
  rw [jY,hr.2] at hk
  simp only [ij,cF]
  exact nR hr l _ hk
 | .cell a t :: l,K,hk=>by
  have hk : nh A a (fun a=>jX (E t) a h (fun v=>zM E h A l (fun r=>K (v :: r)))):=hk
  rw [jY,hr.2] at hk
  simp only [ij,cF]
  obtain ⟨v,k1,k2⟩:=mD _ _ _ _ hk
  exact k2 _ (nR hr l _ k1)
end
theorem ey {N : Nat} {E : TE} {h : ae} {T : List AV} {A : bL} (hr : jL N T A) {rs : List ResultVar} {n0 : Nat} {V : List Nat} {r : AV} {h1 : ae} (hk : zM E h A rs (fun l=>nq V n0 h (gj l) r h1)) : ij E h T rs (fun l=>nZ V n0 h (gj l) r h1 \/ (gj l = r /\ h = h1)):=by
 simp only [vZ] at hk
 exact nR hr _ _ hk
def iO : Nat -> List AV -> bL
 | _,[]=>[]
 | k,a :: l=>(k,a) :: iO (k + 1) l
theorem fq : ∀ (l : List AV) (k n : Nat),bX (iO k l) n = if k <= n then g9 l (n - k) else .junk
 | [],k,n=>by simp [iO,bX,g9]
 | a :: l,k,n=>by
  simp only [iO]
  rw [mA,fq l]
  by_cases e : n = k
  ·subst e;simp [g9]
  ·rw [if_neg e]
   by_cases h : k <= n
   ·rw [if_pos h,if_pos (by omega),show n - k = (n - (k + 1)) + 1 by omega];rfl
   ·rw [if_neg h,if_neg (by omega)]
def mS : Nat -> AV -> Nat -> Bool
 | 0,_,_=>false
 | _ + 1,.ptr i _ _,j=>Nat.beq i j
 | _ + 1,.sl i _ _ _ _,j=>Nat.beq i j
 | _ + 1,.mp i,j=>Nat.beq i j
 | n + 1,.agg l,j=>l.any (fun x=>mS n x j)
 | n + 1,.fn _ a c,j=>a.any (fun x=>mS n x j) || c.any (fun x=>mS n x j)
 | n + 1,.tup l,j=>l.any (fun x=>mS n x j)
 | _,_,_=>false
def tW (h : ae) (args : List AV) : List Nat -> List Nat -> Bool
 | _,[]=>true
 | acc,j :: l=>(args.any (fun a=>mS 4 a j) || acc.any (fun i=>match h[i]? with
  | some o=>Nat.blt o.st 2 && o.elems.any (fun x=>mS 4 x j)
  | none=>false)) && tW h args (acc ++ [j]) l
theorem B9 {w : World} {st : St} : ∀ {l : List AV} {us : List Value} {x : AV},fO w st l us -> x ∈ l -> ∃ v,aC w st x [v]
 | [],_,_,_,hx=>by cases hx
 | y :: l,us,x,h,hx=>by
  simp only [fO] at h
  obtain ⟨v,r,_,_,h3,h4⟩:=h
  rcases List.mem_cons.1 hx with rfl | hx
  ·exact ⟨v,h3⟩
  ·exact B9 h4 hx
theorem n8 {w : World} {st : St} : ∀ {l : List AV} {us : List Value} {x : AV},cS w st l us -> x ∈ l -> ∃ vs,aC w st x vs
 | [],_,_,_,hx=>by cases hx
 | y :: l,us,x,h,hx=>by
  simp only [cS] at h
  obtain ⟨v,r,ws,_,_,h3,h4⟩:=h
  rcases List.mem_cons.1 hx with rfl | hx
  ·exact ⟨ws,h3⟩
  ·exact n8 h4 hx
theorem fZ {w : World} {st : St} {j : Nat} : ∀ (n : Nat) (x : AV) (us : List Value),mS n x j = true -> aC w st x us -> ¬ st.G j
 | 0,x,us,h,_=>by simp [mS] at h
 | n + 1,.ptr i e o,us,h,hc=>by
  have:=Nat.eq_of_beq_eq_true h
  subst this
  simp only [aC] at hc
  obtain ⟨b, o', _, _, h4, _⟩ := hc
  exact h4
 | n + 1,.sl i s l k c,us,h,hc=>by
  have:=Nat.eq_of_beq_eq_true h
  subst this
  simp only [aC] at hc
  obtain ⟨a,c,_,_,h4,_⟩:=hc
  exact h4
 | n + 1,.mp i,us,h,hc=>by
  have:=Nat.eq_of_beq_eq_true h
  subst this
  simp only [aC] at hc
  obtain ⟨b,_,_,h4,_⟩:=hc
  exact h4
 | n + 1,.agg l,us,h,hc=>by
  simp only [mS,List.any_eq_true] at h
  obtain ⟨x,hx,hj⟩:=h
  simp only [aC] at hc
  obtain ⟨v,hv⟩:=B9 hc hx
  exact fZ n x _ hj hv
 | n + 1,.fn f a c,us,h,hc=>by
  simp only [mS,Bool.or_eq_true,List.any_eq_true] at h
  simp only [aC] at hc
  obtain ⟨u,t,_,h2,h3⟩:=hc
  rcases h with ⟨x,hx,hj⟩ | ⟨x,hx,hj⟩
  ·obtain ⟨v,hv⟩:=n8 h2 hx
   exact fZ n x _ hj hv
  ·obtain ⟨v,hv⟩:=n8 h3 hx
   exact fZ n x _ hj hv
 | n + 1,.tup l,us,h,hc=>by
  simp only [mS,List.any_eq_true] at h
  obtain ⟨x,hx,hj⟩:=h
  simp only [aC] at hc
  obtain ⟨u,_,h2⟩:=hc
  obtain ⟨v,hv⟩:=n8 h2 hx
  exact fZ n x _ hj hv
 | n + 1,.d _,us,h,_=>by simp [mS] at h
 | n + 1,.nilS,us,h,_=>by simp [mS] at h
 | n + 1,.raw _,us,h,_=>by simp [mS] at h
 | n + 1,.und,us,h,_=>by simp [mS] at h
 | n + 1,.junk,us,h,_=>by simp [mS] at h
theorem l8 {B : Nat} {W w : World} {st : St} {h : ae} {args : List AV} {vs : List Value} (hw : WR B W w st h) (ha : cS w st args vs) : ∀ (l acc : List Nat),(∀ i ∈ acc,¬ st.G i) -> tW h args acc l = true -> ∀ i ∈ l,¬ st.G i
 | [],_,_,_,i,hi=>by cases hi
 | j :: l,acc,hacc,hs,i,hi=>by
  simp only [tW,Bool.and_eq_true,Bool.or_eq_true,List.any_eq_true] at hs
  obtain ⟨h1,h2⟩:=hs
  have hj : ¬ st.G j:=by
   rcases h1 with ⟨a,ha1,ha2⟩ | ⟨k,hk1,hk2⟩
   ·obtain ⟨us,hus⟩:=n8 ha ha1
    exact fZ 4 a us ha2 hus
   ·split at hk2
    ·rename_i o ho
     simp only [Bool.and_eq_true,List.any_eq_true,Nat.blt_eq] at hk2
     obtain ⟨hst,x,hx,hxj⟩:=hk2
     obtain ⟨r,r1,r2⟩:=hw.obj k o ho hst (hacc k hk1)
     obtain ⟨n,hn,hnx⟩:=List.getElem_of_mem hx
     have hm : r.m ≠ 0:=by have:=r2.n;have:=r2.m;omega
     obtain ⟨_,_,_,_,_,_,_,b5⟩:=r2.mem hm
     obtain ⟨us,_,u2,_⟩:=b5 n x (by rw [List.getElem?_eq_getElem hn,hnx])
     exact fZ 4 x us hxj u2
    ·cases hk2
  rcases List.mem_cons.1 hi with rfl | hi
  ·exact hj
  ·exact l8 hw ha l (acc ++ [j]) (fun i hi=>by
    rcases List.mem_append.1 hi with h | h
    ·exact hacc i h
    ·simp at h;subst h;exact hj) h2 i hi
noncomputable def qq (E : TE) (R : ep) (C V : List Nat) (fn : Func) (args : List AV) (h : ae) (r : AV) (h1 : ae) : Prop:=
 match fn.body with
 | some c=>qw E R C V h.length c (iO 0 args) h (OO E V h.length fn.results.toList r h1)
 | none=>False
def Io (fn : Func) : Bool:=
 match fn.body with
 | some c=>jt fn.ntmps c
 | none=>false
section
variable {P : Program} {E : TE} (hE : gJ P E)
include hE
theorem xZ {f : Nat} {fn : Func} (hf : P.funcs[f]? = some fn) (hbd : Io fn = true) {args : List AV} {h h1 : ae} {r : AV} {C V : List Nat} (hV : tW h args [] V = true) {B : Nat} {W : World} {R : ep} (hR : pv P B W R) (hk : qq E R C V fn args h r h1)
  {w : World} {st : St} {vs : List Value} (hw : WR B W w st h) (ha : cS w st args vs) : Calls P f vs.toArray w (fun e w'=>∃ v,e = .returned v /\ iW B W w st r h1 v w'):=by
 unfold qq at hk
 unfold Io at hbd
 split at hk
 ·rename_i c hc
  simp only [hc] at hbd
  refine calls_of_wp hf hc ?_
  have hl:=((dS _ _).1 ha).1
  have hg0 : ∀ i,st.G i -> i < st.n:=hw.gho
  have hlen:=hw.len
  have hv0 : ∀ i ∈ V,¬ st.G i:=l8 hw ha V [] (fun _ h=>by cases h) hV
  have hT : aT w st (args ++ List.replicate (fn.ntmps - args.length) .junk) (vs.toArray ++ Array.replicate (fn.ntmps - vs.toArray.size) undef):=by
   refine ⟨⟨by simp [hl],hw.seat⟩,fun i=>?_⟩
   rw [cG]
   by_cases hi : i < args.length
   ·have h1 : (args ++ List.replicate (fn.ntmps - args.length) AV.junk)[i]? = some args[i]:=by rw [List.getElem?_append_left hi];exact List.getElem?_eq_getElem hi
    have h2 : (vs.toArray ++ Array.replicate (fn.ntmps - vs.toArray.size) undef).getD i undef = vs[i]:=by
     simp [Array.getElem?_append,hl,hi]
    rw [h1,h2]
    exact ((dS _ _).1 ha).2 i _ _ (List.getElem?_eq_getElem hi) (List.getElem?_eq_getElem (by omega))
   ·have h1 : ((args ++ List.replicate (fn.ntmps - args.length) AV.junk)[i]?).getD .junk = .junk:=by
     rw [List.getElem?_append_right (by omega),List.getElem?_replicate]
     split<;>rfl
    rw [h1]
    exact ig _ _ _
  by_cases hN : args.length <= fn.ntmps
  ·have hr : jL fn.ntmps (args ++ List.replicate (fn.ntmps - args.length) .junk) (iO 0 args):=by
    refine ⟨by simp;omega,fun n=>?_⟩
    rw [fq,if_pos (Nat.zero_le _),Nat.sub_zero,cG,cG]
    by_cases hi : n < args.length
    ·rw [List.getElem?_append_left hi]
    ·rw [List.getElem?_append_right (by omega),List.getElem?_eq_none (by omega),List.getElem?_replicate]
     split<;>rfl
   have hk:=bY (N:=fn.ntmps) c _ _ h (wF E V h.length fn.results.toList r h1) _ hbd hr (fun ex T' A' h' hr' hk'=>by
    cases ex with
    | normal=>exact ey hr' hk'
    | exit id=>exact hk'.elim
    | ret=>exact ey hr' hk') hk
   refine dR hE (pO hE) hR (B:=B) (W:=W) (w0:=w) (st0:=st) (n0:=h.length) (C:=C) (V:=V) hg0 (by omega) hv0 c _ h _ w _ _ ?_ ⟨rfl,st,hw,hT,dO.refl _ _,rfl⟩ hk
   intro ex T h' a w' hk hI
   cases ex with
   | exit id=>exact hk.elim
   | normal=>
    simp only [wF] at hk
    rw [<- hlen] at hk
    obtain ⟨hd,v,h1,h2⟩:=fi hE hI hg0 hv0 hk
    exact ⟨hd,v,h1,v,rfl,h2⟩
   | ret=>
    simp only [wF] at hk
    rw [<- hlen] at hk
    obtain ⟨hd,v,h1,h2⟩:=fi hE hI hg0 hv0 hk
    exact ⟨hd,v,h1,v,rfl,h2⟩
  ·have hr : jL args.length (args ++ List.replicate (fn.ntmps - args.length) .junk) (iO 0 args):=by
    have h0 : fn.ntmps - args.length = 0:=by omega
    rw [h0]
    refine ⟨by simp,fun n=>?_⟩
    rw [fq,if_pos (Nat.zero_le _),Nat.sub_zero]
    simp
   have hbd' : jt args.length c = true:=by
    have hm : ∀ (o : Oper),D2 fn.ntmps o = true -> D2 args.length o = true:=by
     intro o ho
     cases hd : o.dst with
     | none=>simp [D2,hd]
     | some t=>
      simp only [D2,hd,Nat.blt_eq] at ho ⊢
      omega
    have hc : ∀ (c : Code),jt fn.ntmps c = true -> jt args.length c = true:=by
     intro c
     induction c using jt.induct with
     | case1 _ ops _=>intro h;simp only [jt,List.all_eq_true] at h ⊢;exact fun o ho=>hm o (h o ho)
     | case2 a b iha ihb=>intro h;simp only [jt,Bool.and_eq_true] at h ⊢;exact ⟨iha h.1,ihb h.2⟩
     | case3 _ a b iha ihb=>intro h;simp only [jt,Bool.and_eq_true] at h ⊢;exact ⟨iha h.1,ihb h.2⟩
     | case4 _ c ih=>intro h;simp only [jt] at h ⊢;exact ih h
     | case5 c ih=>intro h;simp only [jt] at h ⊢;exact ih h
     | case6=>intro h;simp_all [jt]
    exact hc c hbd
   have hk:=bY (N:=args.length) c _ _ h (wF E V h.length fn.results.toList r h1) _ hbd' hr (fun ex T' A' h' hr' hk'=>by
    cases ex with
    | normal=>exact ey hr' hk'
    | exit id=>exact hk'.elim
    | ret=>exact ey hr' hk') hk
   refine dR hE (pO hE) hR (B:=B) (W:=W) (w0:=w) (st0:=st) (n0:=h.length) (C:=C) (V:=V) hg0 (by omega) hv0 c _ h _ w _ _ ?_ ⟨rfl,st,hw,hT,dO.refl _ _,rfl⟩ hk
   intro ex T h' a w' hk hI
   cases ex with
   | exit id=>exact hk.elim
   | normal=>
    simp only [wF] at hk
    rw [<- hlen] at hk
    obtain ⟨hd,v,h1,h2⟩:=fi hE hI hg0 hv0 hk
    exact ⟨hd,v,h1,v,rfl,h2⟩
   | ret=>
    simp only [wF] at hk
    rw [<- hlen] at hk
    obtain ⟨hd,v,h1,h2⟩:=fi hE hI hg0 hv0 hk
    exact ⟨hd,v,h1,v,rfl,h2⟩
 ·exact hk.elim
theorem Fk {f : Nat} {fn : Func} (hf : P.funcs[f]? = some fn) (hn : (fn.name == "runtime.NumGoroutine") = false) (hbd : Io fn = true) {args : List AV} {h h1 : ae} {r : AV} (V : List Nat) (hV : tW h args [] V = true) (C : List Nat) {B : Nat} {W : World} {R : ep} (hR : pv P B W R) (hk : qq E R C V fn args h r h1) : uE P B W f args h r h1 := by
 intro w st vs hw ha
 have hb : fn.body.isNone = false:=by
  unfold Io at hbd
  split at hbd
  ·rename_i c hc;simp [hc]
  ·cases hbd
 have hc : (callFunc f vs.toArray).run P w = .ok (.enter f vs.toArray) w:=by
  simp only [callFunc,Sem.run_bind,run_program,Result.andThen_ok,hf,hn,hb,Bool.false_eq_true,if_false,Sem.run_pure]
 rw [hc]
 exact xZ hE hf hbd hV hR hk hw ha
theorem cd {f : Nat} {fn : Func} (hf : P.funcs[f]? = some fn) (hn : (fn.name == "runtime.NumGoroutine") = false) (hbd : Io fn = true) {args : List AV} {h h1 : ae} {r : AV} (V : List Nat) (hV : tW h args [] V = true) (C : List Nat) (hk : qq E (bn P) C V fn args h r h1) : bn P f args h r h1 :=
 fun _ _=>Fk hE hf hn hbd V hV C bn.sub hk
end
theorem ac {P : Program} {E : TE} (hE : gJ P E) {f : Nat} {fn : Func} (hf : P.funcs[f]? = some fn) (hn : (fn.name == "runtime.NumGoroutine") = false) (hbd : Io fn = true) {args : List AV} {h h1 : ae} {r : AV} (hk : qq E (bn P) [] [] fn args h r h1) : bn P f args h r h1 :=
 cd hE hf hn hbd [] rfl [] hk
theorem zj {σ : Type} {n0 : Nat} {V : List Nat} {W : bL -> ae -> (Ex -> bL -> ae -> Prop) -> Prop} {K : Ex -> bL -> ae -> Prop} {A : bL} {h : ae} (m : σ -> Nat) (I : σ -> Prop) (As : σ -> bL) (hs : σ -> ae) (s0 : σ)
  (h0 : I s0) (hw : xP V n0 A h (As s0) (hs s0))
  (step : ∀ (s : σ) (C : bL -> ae -> Prop), I s -> (∀ s' A' h', I s' -> m s' < m s -> xP V n0 A' h' (As s') (hs s') -> C A' h') ->
   W (As s) (hs s) (fun ex A' h'=>match ex with
    | .normal=>C A' h'
    | .exit id=>K (.exit id) A' h'
    | .ret=>K .ret A' h')) : ∃ n,gC V n0 W K n A h:=by
 have key : ∀ n A h s,m s < n -> I s -> xP V n0 A h (As s) (hs s) -> gC V n0 W K n A h:=by
  intro n
  induction n with
  | zero=>intro A h s hm;omega
  | succ n ih=>
   intro A h s hm hI hk
   exact ⟨As s,hs s,.inr hk,step s (gC V n0 W K n) hI fun s' A' h' hI' hm' hk'=>ih A' h' s' (by omega) hI' hk'⟩
 exact ⟨m s0 + 1,key _ A h s0 (Nat.lt_succ_self _) h0 hw⟩
theorem DT {k : IntKind} {x : Int} {K : Int -> Prop} (h : k.wrap x = x) (hk : K x) : la k x K:=by
 rw [kg];rw [h];exact hk
theorem ax {x : Int} {K : Int -> Prop} (h : -9223372036854775808 <= x /\ x <= 9223372036854775807) (hk : K x) : la .i64 x K:=DT (Go.IntWalk.i64_in _ (by omega)) hk
theorem MW {x : Int} {K : Int -> Prop} (h : 0 <= x /\ x <= 255) (hk : K x) : la .u8 x K:=DT (by simp only [IntKind.wrap,IntKind.bits,IntKind.signed,Bool.false_and,Bool.false_eq_true,if_false];omega) hk
theorem oh {op : BinOp} {k : IntKind} {a b : Int} {K : Int -> Prop} (hk : K (da op k a b)) : xY op k a b K:=by
 rw [wj];exact hk
theorem MA {k : IntKind} {a b : Int} {K : Int -> Prop} (p : Int) (h0 : decide (0 <= b) = true) (h : (2 : Int) ^ (min b.toNat k.bits) = p) (hk : la k (a * p) K) : JQ k a b K:=by
 rw [Dx];rw [kg] at hk
 refine aH h0 ?_
 rw [h];exact hk
theorem aB {p : Prop} [Decidable p] {A B : Prop} (ht : p -> A) (hf : ¬ p -> B) : aR (decide p) A B:=
 ao (fun h=>ht (of_decide_eq_true h)) (fun h=>hf (of_decide_eq_false h))
theorem bP {p : Prop} [Decidable p] {A B : Prop} (hp : p) (ha : A) : aR (decide p) A B:=bO (decide_eq_true hp) ha
theorem aJ {p : Prop} [Decidable p] {A B : Prop} (hp : ¬ p) (hb : B) : aR (decide p) A B:=bA (decide_eq_false hp) hb
theorem bu {p : Prop} [Decidable p] {A B : Prop} (ht : ¬ p -> A) (hf : p -> B) : aR (!decide p) A B:=
 ao (fun h=>ht (by simpa using h)) (fun h=>hf (by simpa using h))
theorem dj {b : Bool} {A B : Prop} (ht : b = false -> A) (hf : b = true -> B) : aR (!b) A B:=
 ao (fun h=>ht (by simpa using h)) (fun h=>hf (by simpa using h))
theorem bf {α : Type} {f : α -> D} {l : List α} {k : Nat} {K : D -> Prop} (h : k < l.length) (hk : K (f l[k])) : 0 <= (k : Int) /\ cX (l.map f) ((k : Int).toNat) K:=
 ⟨by omega,cj (x:=f l[k]) (by simp [h]) hk⟩
theorem qc {s : List UInt8} {k : Nat} {K : UInt8 -> Prop} (h : k < s.length) (hk : K s[k]) : 0 <= (k : Int) /\ cX s ((k : Int).toNat) K:=
 ⟨by omega,cj (x:=s[k]) (by simp [h]) hk⟩
theorem zd {α : Type} {f : α -> D} {l : List α} {n : Int} (k : Nat) (hn : n = k) {K : D -> Prop} (h : k < l.length) (hk : K (f l[k])) : 0 <= n /\ cX (l.map f) n.toNat K:=by
 subst hn;exact bf h hk
theorem bR {V : List Nat} {n0 : Nat} {h : ae} {a r : AV} {h1 : ae} (hk : nZ V n0 h a r h1) : nq V n0 h a r h1:=by
 rw [vZ];exact .inl hk
theorem pQ {V : List Nat} {n0 : Nat} {h : ae} {a r : AV} {h1 : ae} (e : a = r) (e2 : h = h1) : nq V n0 h a r h1:=by
 rw [vZ];exact .inr ⟨e,e2⟩
theorem aD {x y : D} {h : ae} (e : x = y) : nq [] 0 h (.d x) (.d y) []:=bR (Ei e)
theorem dy {a b : D} {y : D} {h : ae} (e : D.tup [a,b] = y) : nq [] 0 h (.tup [.d a,.d b]) (.d y) []:=bR (Ej e)
theorem CF {a b c : D} {y : D} {h : ae} (e : D.tup [a,b,c] = y) : nq [] 0 h (.tup [.d a,.d b,.d c]) (.d y) []:=bR (Ek e)
theorem aP {a : AV} {x y : D} {h : ae} (hv : bl 8 h a = some x) (e : x = y) : nq [] 0 h a (.d y) []:=bR (El hv e)
theorem bh {α : Type} {n0 : Nat} {V : List Nat} {W : bL -> ae -> (Ex -> bL -> ae -> Prop) -> Prop} {K : Ex -> bL -> ae -> Prop} {A : bL} {h : ae} (m : α -> Nat) (I : α -> Prop) (As : α -> bL) (hs : α -> ae) (a0 : α)
  (h0 : I a0) (hw : xP V n0 A h (As a0) (hs a0))
  (step : ∀ (a : α) (C : bL -> ae -> Prop), I a -> (∀ (a' : α) A' h', I a' -> m a' < m a -> xP V n0 A' h' (As a') (hs a') -> C A' h') ->
   W (As a) (hs a) (fun ex A' h'=>match ex with
    | .normal=>C A' h'
    | .exit id=>K (.exit id) A' h'
    | .ret=>K .ret A' h')) : ∃ n,gC V n0 W K n A h:=
 zj (σ:=α) (fun s=>m s) (fun s=>I s) (fun s=>As s) (fun s=>hs s) (a0) h0 hw (fun s C hI hC=>step s C hI (fun a' A' h' h1 h2 h3=>hC (a') A' h' h1 h2 h3))
theorem ni {α β : Type} {n0 : Nat} {V : List Nat} {W : bL -> ae -> (Ex -> bL -> ae -> Prop) -> Prop} {K : Ex -> bL -> ae -> Prop} {A : bL} {h : ae} (m : α -> β -> Nat) (I : α -> β -> Prop) (As : α -> β -> bL) (hs : α -> β -> ae) (a0 : α) (b0 : β)
  (h0 : I a0 b0) (hw : xP V n0 A h (As a0 b0) (hs a0 b0))
  (step : ∀ (a : α) (b : β) (C : bL -> ae -> Prop), I a b -> (∀ (a' : α) (b' : β) A' h', I a' b' -> m a' b' < m a b -> xP V n0 A' h' (As a' b') (hs a' b') -> C A' h') ->
   W (As a b) (hs a b) (fun ex A' h'=>match ex with
    | .normal=>C A' h'
    | .exit id=>K (.exit id) A' h'
    | .ret=>K .ret A' h')) : ∃ n,gC V n0 W K n A h:=
 zj (σ := α × β) (fun s => m s.1 s.2) (fun s => I s.1 s.2) (fun s => As s.1 s.2) (fun s => hs s.1 s.2) (a0, b0) h0 hw (fun s C hI hC => step s.1 s.2 C hI (fun a' b' A' h' h1 h2 h3 => hC (a', b') A' h' h1 h2 h3))
theorem Dh {α β γ : Type} {n0 : Nat} {V : List Nat} {W : bL -> ae -> (Ex -> bL -> ae -> Prop) -> Prop} {K : Ex -> bL -> ae -> Prop} {A : bL} {h : ae} (m : α -> β -> γ -> Nat) (I : α -> β -> γ -> Prop) (As : α -> β -> γ -> bL) (hs : α -> β -> γ -> ae) (a0 : α) (b0 : β) (c0 : γ)
  (h0 : I a0 b0 c0) (hw : xP V n0 A h (As a0 b0 c0) (hs a0 b0 c0))
  (step : ∀ (a : α) (b : β) (c : γ) (C : bL -> ae -> Prop), I a b c -> (∀ (a' : α) (b' : β) (c' : γ) A' h', I a' b' c' -> m a' b' c' < m a b c -> xP V n0 A' h' (As a' b' c') (hs a' b' c') -> C A' h') ->
   W (As a b c) (hs a b c) (fun ex A' h'=>match ex with
    | .normal=>C A' h'
    | .exit id=>K (.exit id) A' h'
    | .ret=>K .ret A' h')) : ∃ n,gC V n0 W K n A h:=
 zj (σ := α × β × γ) (fun s => m s.1 s.2.1 s.2.2) (fun s => I s.1 s.2.1 s.2.2) (fun s => As s.1 s.2.1 s.2.2) (fun s => hs s.1 s.2.1 s.2.2) (a0, b0, c0) h0 hw (fun s C hI hC => step s.1 s.2.1 s.2.2 C hI (fun a' b' c' A' h' h1 h2 h3 => hC (a', b', c') A' h' h1 h2 h3))
theorem PB {α β γ δ : Type} {n0 : Nat} {V : List Nat} {W : bL -> ae -> (Ex -> bL -> ae -> Prop) -> Prop} {K : Ex -> bL -> ae -> Prop} {A : bL} {h : ae} (m : α -> β -> γ -> δ -> Nat) (I : α -> β -> γ -> δ -> Prop) (As : α -> β -> γ -> δ -> bL) (hs : α -> β -> γ -> δ -> ae) (a0 : α) (b0 : β) (c0 : γ) (d0 : δ)
  (h0 : I a0 b0 c0 d0) (hw : xP V n0 A h (As a0 b0 c0 d0) (hs a0 b0 c0 d0))
  (step : ∀ (a : α) (b : β) (c : γ) (d : δ) (C : bL -> ae -> Prop), I a b c d -> (∀ (a' : α) (b' : β) (c' : γ) (d' : δ) A' h', I a' b' c' d' -> m a' b' c' d' < m a b c d -> xP V n0 A' h' (As a' b' c' d') (hs a' b' c' d') -> C A' h') ->
   W (As a b c d) (hs a b c d) (fun ex A' h'=>match ex with
    | .normal=>C A' h'
    | .exit id=>K (.exit id) A' h'
    | .ret=>K .ret A' h')) : ∃ n,gC V n0 W K n A h:=
 zj (σ := α × β × γ × δ) (fun s => m s.1 s.2.1 s.2.2.1 s.2.2.2) (fun s => I s.1 s.2.1 s.2.2.1 s.2.2.2) (fun s => As s.1 s.2.1 s.2.2.1 s.2.2.2) (fun s => hs s.1 s.2.1 s.2.2.1 s.2.2.2) (a0, b0, c0, d0) h0 hw (fun s C hI hC => step s.1 s.2.1 s.2.2.1 s.2.2.2 C hI (fun a' b' c' d' A' h' h1 h2 h3 => hC (a', b', c', d') A' h' h1 h2 h3))
theorem Di {α β γ δ ε : Type} {n0 : Nat} {V : List Nat} {W : bL -> ae -> (Ex -> bL -> ae -> Prop) -> Prop} {K : Ex -> bL -> ae -> Prop} {A : bL} {h : ae} (m : α -> β -> γ -> δ -> ε -> Nat) (I : α -> β -> γ -> δ -> ε -> Prop) (As : α -> β -> γ -> δ -> ε -> bL) (hs : α -> β -> γ -> δ -> ε -> ae) (a0 : α) (b0 : β) (c0 : γ) (d0 : δ) (e0 : ε)
  (h0 : I a0 b0 c0 d0 e0) (hw : xP V n0 A h (As a0 b0 c0 d0 e0) (hs a0 b0 c0 d0 e0))
  (step : ∀ (a : α) (b : β) (c : γ) (d : δ) (e : ε) (C : bL -> ae -> Prop), I a b c d e -> (∀ (a' : α) (b' : β) (c' : γ) (d' : δ) (e' : ε) A' h', I a' b' c' d' e' -> m a' b' c' d' e' < m a b c d e -> xP V n0 A' h' (As a' b' c' d' e') (hs a' b' c' d' e') -> C A' h') ->
   W (As a b c d e) (hs a b c d e) (fun ex A' h'=>match ex with
    | .normal=>C A' h'
    | .exit id=>K (.exit id) A' h'
    | .ret=>K .ret A' h')) : ∃ n,gC V n0 W K n A h:=
 zj (σ := α × β × γ × δ × ε) (fun s => m s.1 s.2.1 s.2.2.1 s.2.2.2.1 s.2.2.2.2) (fun s => I s.1 s.2.1 s.2.2.1 s.2.2.2.1 s.2.2.2.2) (fun s => As s.1 s.2.1 s.2.2.1 s.2.2.2.1 s.2.2.2.2) (fun s => hs s.1 s.2.1 s.2.2.1 s.2.2.2.1 s.2.2.2.2) (a0, b0, c0, d0, e0) h0 hw (fun s C hI hC => step s.1 s.2.1 s.2.2.1 s.2.2.2.1 s.2.2.2.2 C hI (fun a' b' c' d' e' A' h' h1 h2 h3 => hC (a', b', c', d', e') A' h' h1 h2 h3))
theorem vu {n : Nat} (h : n < 9223372036854775808) : (BitVec.ofInt 64 (n : Int)).toNat = n:=by
 rw [BitVec.toNat_ofInt];omega
theorem Je {n : Nat} (h : n < 9223372036854775808) : IntKind.i64.wrap (n : Int) = n:=Go.IntWalk.i64_in _ (by omega)
theorem JB {a b : Nat} (ha : a < 9223372036854775808) (hb : b < 9223372036854775808) : a ||| b < 9223372036854775808:=Nat.or_lt_two_pow (n:=63) ha hb
theorem ID {a b : Nat} (ha : a < 9223372036854775808) (hb : b < 9223372036854775808) : da .or .i64 a b = ((a ||| b : Nat) : Int):=by
 simp only [da]
 show IntKind.i64.wrap ((BitVec.ofInt 64 (a : Int) ||| BitVec.ofInt 64 (b : Int)).toNat : Int) = _
 rw [BitVec.toNat_or,vu ha,vu hb,Je (JB ha hb)]
theorem Lp {a b : Int} {K : Int -> Prop} (h : (0 <= a /\ a < 9223372036854775808) /\ 0 <= b /\ b < 9223372036854775808) (hk : K ((a.toNat ||| b.toNat : Nat) : Int)) : xY .or .i64 a b K:=by
 rw [wj]
 have:=ID (a:=a.toNat) (b:=b.toNat) (by omega) (by omega)
 rw [Int.toNat_of_nonneg h.1.1,Int.toNat_of_nonneg h.2.1] at this
 rw [this];exact hk
theorem dH {a b : D} {y : D} {o o' : AO} {h : ae} {l : List D} (e : D.tup [a,b] = y) (h1 : o.elems = l.map .d) (h2 : o'.elems = l.map .d) (hk : o.k = o'.k) (hs : o.st = o'.st) : nq [] 1 (o :: h) (.tup [.d a,.d b]) (.d y) [o']:=by
 subst e
 exact bR (.inl ⟨[.old 0],rfl,rfl,⟨⟨rfl,rfl,rfl,trivial⟩,trivial⟩,⟨⟨hk,hs,.inl ⟨l,h1,h2⟩⟩,trivial⟩⟩)
end Dw
namespace Dw
open Go
theorem gI {H : ae} {id k k' st n : Nat} {cap : Option Nat} {l : List D} (h : H[id]? = some ⟨l.map .d,k,st⟩) (hst : st < 2) : bl (n + 2) H (.sl id 0 (l.map AV.d).length k' cap) = some (.fs l):=by
 rw [List.length_map];exact ud h hst
theorem cm {n b : Nat} (h : n <= 10000000) (hb : Nat.ble (10000000 * b) 140737488355328 = true) : n * b <= 140737488355328:=
 Nat.le_trans (Nat.mul_le_mul_right b h) (Nat.le_of_ble_eq_true hb)
theorem aK {f : AV -> Option D} {a : AV} {x : D} {l : List AV} {r : List D} (h : f a = some x) (g : vl f l = some r) : vl f (a :: l) = some (x :: r):=by simp [vl,h,g]
theorem bM {f : AV -> Option D} : vl f [] = some []:=rfl
theorem be {n : Nat} {h : ae} {l : List AV} {r : List D} (e : vl (bl n h) l = some r) : bl (n + 1) h (.agg l) = some (.agg r):=by
 simp only [bl,e,Option.map_some]
theorem aY {n : Nat} {h : ae} {l : List AV} {r : List D} (e : vl (bl n h) l = some r) : bl (n + 1) h (.tup l) = some (.tup r):=by
 simp only [bl,e,Option.map_some]
theorem Jv {p : D -> Prop} {x : D} (h : p x) : ∀ y ∈ [x],p y:=by
 intro y hy
 rcases List.mem_singleton.1 hy with rfl
 exact h
theorem MJ {α : Type} {f : α -> D} {l : List α} {lo hi : Int} {sz : Nat} {K : List D -> Prop} (a b : Nat) (ha : lo = a) (hb : hi = b) (h : a <= b /\ b <= l.length) (hc : ∀ x,(f x).cells.length = sz) (hk : K (((l.take b).drop a).map f)) : Du (l.map f) lo hi sz K:=by
 subst ha;subst hb
 rw [zR]
 refine ⟨⟨by omega,by omega,by simp;omega,fun y hy=>?_⟩,?_⟩
 ·obtain ⟨x,_,rfl⟩:=List.mem_map.1 hy;exact hc x
 ·simp only [Int.toNat_natCast,<- List.map_take,<- List.map_drop];exact hk
theorem eh {s : List UInt8} {lo hi : Int} {K : List UInt8 -> Prop} (a b : Nat) (ha : lo = a) (hb : hi = b) (h : a <= b /\ b <= s.length) (hk : K ((s.take b).drop a)) : Am s lo hi K:=by
 subst ha;subst hb
 rw [An]
 exact ⟨⟨by omega,by omega,by omega⟩,by simpa using hk⟩
theorem em (μ : List Mu) : ∀ (l : List D),io μ (l.map .d) (l.map .d)
 | []=>trivial
 | _ :: l=>⟨rfl,em μ l⟩
theorem DQ {μ : List Mu} : ∀ {l r l' r' : List AV},io μ l r -> io μ l' r' -> io μ (l ++ l') (r ++ r')
 | [],[],_,_,_,h=>h
 | _ :: _,_ :: _,_,_,h,h'=>⟨h.1,DQ h.2 h'⟩
 | [],_ :: _,_,_,h,_=>h.elim
 | _ :: _,[],_,_,h,_=>h.elim
theorem fg {α : Type} {f : α -> D} {μ : List Mu} {l : List AV} {r : List α} {a : AV} {x : α} (h : io μ l ((r.map f).map .d)) (ha : wk μ a (.d (f x))) : io μ (l ++ [a]) (((r ++ [x]).map f).map .d):=by
 rw [List.map_append,List.map_append]
 exact DQ h ⟨ha,trivial⟩
theorem ca {α : Type} {f : α -> D} {l : List α} {H : ae} {id k k' st n : Nat} {cap : Option Nat} (h : H[id]? = some ⟨(l.map f).map .d,k,st⟩) (hst : st < 2) : bl (n + 2) H (.sl id 0 l.length k' cap) = some (.fs (l.map f)):=by
 have:=ud (n:=n) (k':=k') (cap:=cap) h hst
 rwa [List.length_map] at this
theorem If {f : AV -> Option D} : ∀ {l l' : List AV} {r r' : List D},vl f l = some r -> vl f l' = some r' -> vl f (l ++ l') = some (r ++ r')
 | [], l', r, r', h, h' => by simp [vl] at h; subst h; simpa using h'
 | a :: l, l', r, r', h, h' => by
  simp only [vl] at h
  split at h
  ·rename_i x hx
   split at h
   ·rename_i t ht
    cases h
    have:=If (l:=l) ht h'
    simp only [List.cons_append,vl,hx,this]
   ·cases h
  ·cases h
theorem FH {α : Type} {f : α -> D} {l : List α} {H : ae} {id k k' st n : Nat} {cap : Option Nat} {a : AV} {x : D} (h : H[id]? = some ⟨(l.map f).map .d ++ [a],k,st⟩) (hst : st < 2) (ha : bl (n + 1) H a = some x) : bl (n + 2) H (.sl id 0 (l.length + [a].length) k' cap) = some (.fs (l.map f ++ [x])):=by
 have hv:=If (f:=bl (n + 1) H) (ue n H (l.map f)) (Vp ha)
 have hlen : l.length + [a].length = ((l.map f).map AV.d ++ [a]).length:=by simp
 show (match H[id]? with
  | some o=>if o.st < 2 then (if 0 + (l.length + [a].length) <= o.elems.length then (vl (bl (n + 1) H) ((o.elems.drop 0).take (l.length + [a].length))).map D.fs else none) else none
  | none=>none) = _
 simp only [h,if_pos hst]
 rw [if_pos (by omega),hlen,List.drop_zero,List.take_length,hv]
 rfl
end Dw
namespace Dw
open Go
theorem ag {V : List Nat} {n0 : Nat} {h : ae} {a r : AV} {h1 : ae} (e : nq V n0 h a r h1) : nq V n0 h a r h1:=e
theorem ak {P : Program} {f : Nat} {args : List AV} {h : ae} {K : KV} (e : ∃ r h', bn P f args h r h' /\ K r h') : ∃ r h', bn P f args h r h' /\ K r h' := e
theorem aO {V : List Nat} {n0 : Nat} {W : bL -> ae -> (Ex -> bL -> ae -> Prop) -> Prop} {K : Ex -> bL -> ae -> Prop} {A : bL} {h : ae} (e : ∃ n,gC V n0 W K n A h) : ∃ n,gC V n0 W K n A h:=e
theorem Hr {b : Bool} {A B : Prop} (h : b = true) (k : B) : aR (!b) A B:=by subst h;exact k
theorem zw {b : Bool} {A B : Prop} (h : b = false) (k : A) : aR (!b) A B:=by subst h;exact k
theorem cY {p : Prop} [Decidable p] {A B : Prop} (h : p) (k : B) : aR (!decide p) A B:=Hr (decide_eq_true h) k
theorem co {p : Prop} [Decidable p] {A B : Prop} (h : ¬ p) (k : A) : aR (!decide p) A B:=zw (decide_eq_false h) k
theorem AA {b : UInt8} {K : Int -> Prop} (hk : K (b.toNat : Int)) : la .i64 (b.toNat : Int) K:=
 ax (by have:=UInt8.toNat_lt b;omega) hk
end Dw
namespace Dw
open Go
theorem Tn {n : Int} {b : Nat} (h : 0 <= n /\ n <= 10000000) (hb : Nat.ble (10000000 * b) 140737488355328 = true) : 0 <= n /\ n < 9223372036854775808 /\ n * (b : Int) <= 140737488355328:=by
 have h1 : 10000000 * b <= 140737488355328:=Nat.le_of_ble_eq_true hb
 have h2 : n * (b : Int) <= 10000000 * (b : Int):=Int.mul_le_mul_of_nonneg_right h.2 (by omega)
 omega
theorem J0 {a b : List UInt8} {K : Prop} (h : a.length <= 10000000 /\ b.length <= 10000000) (hk : K) : a.length + b.length < 9223372036854775808 /\ K:=⟨by omega,hk⟩
end Dw
namespace Go.Proofs.YtogifnjnpljnfaaGreatDoor
open Go Dw
def P7 : TT:=
 .node 122
  (.node 51
   (.node 23
    (.node 11
     (.node 6
      (.node 4
       (.node 3
        (.node 2
         (.leaf 1 ⟨8,1,8,.raw .nilFunc,.i64,[],0,0,[]⟩)
         (.leaf 2 ⟨1,1,8,.d (.int .i64 0),.i64,[],0,0,[]⟩))
        (.leaf 3 ⟨1,1,8,.d (.int .i64 0),.i64,[],0,0,[]⟩))
       (.node 5
        (.leaf 4 ⟨2,1,1,.d (.bool false),.i64,[],0,0,[]⟩)
        (.leaf 5 ⟨1,1,1,.d (.int .u8 0),.u8,[],0,0,[]⟩)))
      (.node 9
       (.node 8
        (.node 7
         (.leaf 6 ⟨1,1,1,.d (.int .u8 0),.u8,[],0,0,[]⟩)
         (.leaf 7 ⟨5,4,24,.agg [.d (.int .i64 0),.d (.int .i64 0),.d (.bool false),.d (.int .u8 0)],.i64,[(0,2),(1,3),(2,4),(3,6)],0,0,[1,1,2,1]⟩))
        (.leaf 8 ⟨5,4,24,.agg [.d (.int .i64 0),.d (.int .i64 0),.d (.bool false),.d (.int .u8 0)],.i64,[(0,2),(1,3),(2,4),(3,6)],0,0,[1,1,2,1]⟩))
       (.node 10
        (.leaf 9 ⟨3,1,16,.d (.str []),.i64,[],0,0,[]⟩)
        (.leaf 10 ⟨3,1,16,.d (.str []),.i64,[],0,0,[]⟩))))
     (.node 16
      (.node 14
       (.node 13
        (.node 12
         (.leaf 11 ⟨3,1,16,.d (.str []),.i64,[],0,0,[]⟩)
         (.leaf 12 ⟨1,1,8,.d (.int .u64 0),.u64,[],0,0,[]⟩))
        (.leaf 13 ⟨5,2,24,.agg [.d (.str []),.d (.int .u64 0)],.i64,[(0,9),(1,12)],0,0,[]⟩))
       (.node 15
        (.leaf 14 ⟨5,2,24,.agg [.d (.str []),.d (.int .u64 0)],.i64,[(0,9),(1,12)],0,0,[]⟩)
        (.leaf 15 ⟨7,1,8,.raw (.pointer none),.i64,[],365,0,[]⟩)))
      (.node 21
       (.node 17
        (.leaf 16 ⟨7,1,8,.raw (.pointer none),.i64,[],368,0,[]⟩)
        (.leaf 17 ⟨7,1,8,.raw (.pointer none),.i64,[],375,0,[]⟩))
       (.node 22
        (.leaf 21 ⟨1,1,4,.d (.int .i32 0),.i32,[],0,0,[]⟩)
        (.leaf 22 ⟨4,1,24,.nilS,.i64,[],46,0,[]⟩)))))
    (.node 40
     (.node 31
      (.node 28
       (.node 27
        (.node 25
         (.leaf 23 ⟨4,1,24,.nilS,.i64,[],148,0,[]⟩)
         (.leaf 25 ⟨5,3,56,.agg [.nilS,.nilS,.d (.int .i64 0)],.i64,[(0,22),(1,23),(2,3)],0,0,[]⟩))
        (.leaf 27 ⟨8,1,8,.raw .nilFunc,.i64,[],0,0,[]⟩))
       (.node 29
        (.leaf 28 ⟨4,1,24,.nilS,.i64,[],81,0,[]⟩)
        (.leaf 29 ⟨1,1,8,.d (.int .i64 0),.i64,[],0,0,[]⟩)))
      (.node 34
       (.node 33
        (.node 32
         (.leaf 31 ⟨8,1,8,.raw .nilFunc,.i64,[],0,0,[]⟩)
         (.leaf 32 ⟨8,1,8,.raw .nilFunc,.i64,[],0,0,[]⟩))
        (.leaf 33 ⟨4,1,24,.nilS,.i64,[],3,0,[]⟩))
       (.node 35
        (.leaf 34 ⟨5,6,80,.agg [.d (.int .i64 0),.d (.int .i64 0),.d (.str []),.d (.str []),.d (.int .i64 0),.nilS],.i64,[(0,3),(1,3),(2,9),(3,9),(4,3),(5,33)],0,0,[]⟩)
        (.leaf 35 ⟨5,6,80,.agg [.d (.int .i64 0),.d (.int .i64 0),.d (.str []),.d (.str []),.d (.int .i64 0),.nilS],.i64,[(0,3),(1,3),(2,9),(3,9),(4,3),(5,33)],0,0,[]⟩))))
     (.node 47
      (.node 44
       (.node 42
        (.node 41
         (.leaf 40 ⟨4,1,24,.nilS,.i64,[],93,0,[]⟩)
         (.leaf 41 ⟨4,1,24,.nilS,.i64,[],157,0,[]⟩))
        (.leaf 42 ⟨4,1,24,.nilS,.i64,[],218,0,[]⟩))
       (.node 46
        (.leaf 44 ⟨5,6,72,.agg [.d (.int .i64 0),.d (.int .i64 0),.d (.bool false),.d (.bool false),.nilS,.nilS],.i64,[(0,3),(1,3),(2,4),(3,4),(4,42),(5,42)],0,0,[]⟩)
        (.leaf 46 ⟨5,13,176,.agg [.d (.int .i64 0),.nilS,.d (.str []),.d (.str []),.nilS,.d (.int .i64 0),.d (.int .i64 0),.d (.bool false),.d (.bool false),.nilS,.nilS,.d (.int .i64 0),.d (.int .i64 0)],.i64,[(0,3),(1,40),(2,9),(3,9),(4,41),(5,44),(11,3),(12,3)],0,0,[]⟩)))
      (.node 49
       (.node 48
        (.leaf 47 ⟨5,3,40,.agg [.d (.int .i64 0),.nilS,.d (.int .i64 0)],.i64,[(0,3),(1,33),(2,3)],0,0,[]⟩)
        (.leaf 48 ⟨5,3,40,.agg [.d (.int .i64 0),.nilS,.d (.int .i64 0)],.i64,[(0,3),(1,33),(2,3)],0,0,[]⟩))
       (.node 50
        (.leaf 49 ⟨5,17,200,.agg [.d (.int .i64 0),.d (.int .i64 0),.nilS,.d (.int .i64 0),.d (.int .i64 0),.d (.str []),.d (.str []),.d (.int .i64 0),.d (.int .i64 0),.d (.str []),.d (.int .i64 0),.d (.int .i64 0),.d (.bool false),.d (.bool false),.nilS,.nilS,.d (.int .i64 0)],.i64,[(0,3),(1,48),(4,3),(5,9),(6,9),(7,3),(8,3),(9,9),(10,44),(16,3)],0,0,[]⟩)
        (.leaf 50 ⟨5,17,200,.agg [.d (.int .i64 0),.d (.int .i64 0),.nilS,.d (.int .i64 0),.d (.int .i64 0),.d (.str []),.d (.str []),.d (.int .i64 0),.d (.int .i64 0),.d (.str []),.d (.int .i64 0),.d (.int .i64 0),.d (.bool false),.d (.bool false),.nilS,.nilS,.d (.int .i64 0)],.i64,[(0,3),(1,48),(4,3),(5,9),(6,9),(7,3),(8,3),(9,9),(10,44),(16,3)],0,0,[]⟩))))))
   (.node 89
    (.node 70
     (.node 61
      (.node 57
       (.node 55
        (.node 53
         (.leaf 51 ⟨4,1,24,.nilS,.i64,[],9,0,[]⟩)
         (.leaf 53 ⟨5,6,48,.agg [.d (.int .i64 0),.d (.int .i64 0),.d (.int .i64 0),.d (.int .i64 0),.d (.int .i64 0),.d (.int .i64 0)],.i64,[(0,3),(1,3),(2,3),(3,3),(4,3),(5,3)],0,0,[1,1,1,1,1,1]⟩))
        (.leaf 55 ⟨5,9,96,.agg [.d (.int .i64 0),.d (.str []),.nilS,.d (.int .i64 0),.d (.int .i64 0),.d (.int .i64 0),.d (.int .i64 0),.d (.int .i64 0),.d (.int .i64 0)],.i64,[(0,29),(1,9),(2,51),(3,53)],0,0,[]⟩))
       (.node 58
        (.leaf 57 ⟨8,1,8,.raw .nilFunc,.i64,[],0,0,[]⟩)
        (.leaf 58 ⟨8,1,8,.raw .nilFunc,.i64,[],0,0,[]⟩)))
      (.node 65
       (.node 63
        (.node 62
         (.leaf 61 ⟨8,1,8,.raw .nilFunc,.i64,[],0,0,[]⟩)
         (.leaf 62 ⟨5,3,48,.agg [.d (.bool false),.nilS,.d (.str [])],.i64,[(0,4),(1,51),(2,9)],0,0,[]⟩))
        (.leaf 63 ⟨5,3,48,.agg [.d (.bool false),.nilS,.d (.str [])],.i64,[(0,4),(1,51),(2,9)],0,0,[]⟩))
       (.node 68
        (.leaf 65 ⟨8,1,8,.raw .nilFunc,.i64,[],0,0,[]⟩)
        (.leaf 68 ⟨8,1,8,.raw .nilFunc,.i64,[],0,0,[]⟩))))
     (.node 80
      (.node 76
       (.node 73
        (.node 71
         (.leaf 70 ⟨8,1,8,.raw .nilFunc,.i64,[],0,0,[]⟩)
         (.leaf 71 ⟨8,1,8,.raw .nilFunc,.i64,[],0,0,[]⟩))
        (.leaf 73 ⟨7,1,8,.raw (.pointer none),.i64,[],85,0,[]⟩))
       (.node 79
        (.leaf 76 ⟨8,1,8,.raw .nilFunc,.i64,[],0,0,[]⟩)
        (.leaf 79 ⟨8,1,8,.raw .nilFunc,.i64,[],0,0,[]⟩)))
      (.node 83
       (.node 81
        (.leaf 80 ⟨5,3,48,.agg [.d (.int .i64 0),.nilS,.d (.str [])],.i64,[(0,3),(1,40),(2,9)],0,0,[]⟩)
        (.leaf 81 ⟨5,3,48,.agg [.d (.int .i64 0),.nilS,.d (.str [])],.i64,[(0,3),(1,40),(2,9)],0,0,[]⟩))
       (.node 85
        (.leaf 83 ⟨8,1,8,.raw .nilFunc,.i64,[],0,0,[]⟩)
        (.leaf 85 ⟨5,3,56,.agg [.nilS,.nilS,.d (.int .i64 0)],.i64,[(0,25)],0,0,[]⟩)))))
    (.node 110
     (.node 100
      (.node 95
       (.node 93
        (.node 92
         (.leaf 89 ⟨4,1,24,.nilS,.i64,[],81,0,[]⟩)
         (.leaf 92 ⟨5,2,24,.agg [.d (.str []),.d (.int .i64 0)],.i64,[(0,9),(1,3)],0,0,[3,1]⟩))
        (.leaf 93 ⟨5,2,24,.agg [.d (.str []),.d (.int .i64 0)],.i64,[(0,9),(1,3)],0,0,[3,1]⟩))
       (.node 99
        (.leaf 95 ⟨8,1,8,.raw .nilFunc,.i64,[],0,0,[]⟩)
        (.leaf 99 ⟨8,1,8,.raw .nilFunc,.i64,[],0,0,[]⟩)))
      (.node 108
       (.node 102
        (.node 101
         (.leaf 100 ⟨8,1,8,.raw .nilFunc,.i64,[],0,0,[]⟩)
         (.leaf 101 ⟨8,1,8,.raw .nilFunc,.i64,[],0,0,[]⟩))
        (.leaf 102 ⟨8,1,8,.raw .nilFunc,.i64,[],0,0,[]⟩))
       (.node 109
        (.leaf 108 ⟨8,1,8,.raw .nilFunc,.i64,[],0,0,[]⟩)
        (.leaf 109 ⟨8,1,8,.raw .nilFunc,.i64,[],0,0,[]⟩))))
     (.node 116
      (.node 114
       (.node 113
        (.node 112
         (.leaf 110 ⟨8,1,8,.raw .nilFunc,.i64,[],0,0,[]⟩)
         (.leaf 112 ⟨8,1,8,.raw .nilFunc,.i64,[],0,0,[]⟩))
        (.leaf 113 ⟨7,1,8,.raw (.pointer none),.i64,[],115,0,[]⟩))
       (.node 115
        (.leaf 114 ⟨5,2,32,.agg [.nilS,.d (.int .i64 0)],.i64,[(0,89),(1,3)],0,0,[]⟩)
        (.leaf 115 ⟨5,2,32,.agg [.nilS,.d (.int .i64 0)],.i64,[(0,89),(1,3)],0,0,[]⟩)))
      (.node 119
       (.node 117
        (.leaf 116 ⟨8,1,8,.raw .nilFunc,.i64,[],0,0,[]⟩)
        (.leaf 117 ⟨7,1,8,.raw (.pointer none),.i64,[],119,0,[]⟩))
       (.node 121
        (.leaf 119 ⟨5,33,384,.agg [.raw (.pointer none),.d (.int .i64 0),.d (.int .i64 0),.nilS,.d (.int .i64 0),.d (.int .i64 0),.d (.str []),.d (.str []),.d (.int .i64 0),.d (.int .i64 0),.d (.str []),.d (.int .i64 0),.d (.int .i64 0),.d (.bool false),.d (.bool false),.nilS,.nilS,.d (.int .i64 0),.d (.int .i64 0),.d (.int .i64 0),.d (.str []),.d (.str []),.d (.int .i64 0),.nilS,.d (.int .i64 0),.d (.str []),.nilS,.d (.int .i64 0),.d (.int .i64 0),.d (.int .i64 0),.d (.int .i64 0),.d (.int .i64 0),.d (.int .i64 0)],.i64,[(0,73),(1,50),(18,35),(24,55)],0,0,[]⟩)
        (.leaf 121 ⟨5,10,32,.agg [.d (.str []),.d (.bool false),.d (.bool false),.d (.bool false),.d (.bool false),.d (.bool false),.d (.bool false),.d (.bool false),.d (.bool false),.d (.bool false)],.i64,[(0,9),(1,4),(2,4),(3,4),(4,4),(5,4),(6,4),(7,4),(8,4),(9,4)],0,0,[3,2,2,2,2,2,2,2,2,2]⟩)))))))
  (.node 228
   (.node 173
    (.node 149
     (.node 138
      (.node 126
       (.node 125
        (.node 124
         (.leaf 122 ⟨6,160,512,.agg [.d (.str []),.d (.bool false),.d (.bool false),.d (.bool false),.d (.bool false),.d (.bool false),.d (.bool false),.d (.bool false),.d (.bool false),.d (.bool false),.d (.str []),.d (.bool false),.d (.bool false),.d (.bool false),.d (.bool false),.d (.bool false),.d (.bool false),.d (.bool false),.d (.bool false),.d (.bool false),.d (.str []),.d (.bool false),.d (.bool false),.d (.bool false),.d (.bool false),.d (.bool false),.d (.bool false),.d (.bool false),.d (.bool false),.d (.bool false),.d (.str []),.d (.bool false),.d (.bool false),.d (.bool false),.d (.bool false),.d (.bool false),.d (.bool false),.d (.bool false),.d (.bool false),.d (.bool false),.d (.str []),.d (.bool false),.d (.bool false),.d (.bool false),.d (.bool false),.d (.bool false),.d (.bool false),.d (.bool false),.d (.bool false),.d (.bool false),.d (.str []),.d (.bool false),.d (.bool false),.d (.bool false),.d (.bool false),.d (.bool false),.d (.bool false),.d (.bool false),.d (.bool false),.d (.bool false),.d (.str []),.d (.bool false),.d (.bool false),.d (.bool false),.d (.bool false),.d (.bool false),.d (.bool false),.d (.bool false),.d (.bool false),.d (.bool false),.d (.str []),.d (.bool false),.d (.bool false),.d (.bool false),.d (.bool false),.d (.bool false),.d (.bool false),.d (.bool false),.d (.bool false),.d (.bool false),.d (.str []),.d (.bool false),.d (.bool false),.d (.bool false),.d (.bool false),.d (.bool false),.d (.bool false),.d (.bool false),.d (.bool false),.d (.bool false),.d (.str []),.d (.bool false),.d (.bool false),.d (.bool false),.d (.bool false),.d (.bool false),.d (.bool false),.d (.bool false),.d (.bool false),.d (.bool false),.d (.str []),.d (.bool false),.d (.bool false),.d (.bool false),.d (.bool false),.d (.bool false),.d (.bool false),.d (.bool false),.d (.bool false),.d (.bool false),.d (.str []),.d (.bool false),.d (.bool false),.d (.bool false),.d (.bool false),.d (.bool false),.d (.bool false),.d (.bool false),.d (.bool false),.d (.bool false),.d (.str []),.d (.bool false),.d (.bool false),.d (.bool false),.d (.bool false),.d (.bool false),.d (.bool false),.d (.bool false),.d (.bool false),.d (.bool false),.d (.str []),.d (.bool false),.d (.bool false),.d (.bool false),.d (.bool false),.d (.bool false),.d (.bool false),.d (.bool false),.d (.bool false),.d (.bool false),.d (.str []),.d (.bool false),.d (.bool false),.d (.bool false),.d (.bool false),.d (.bool false),.d (.bool false),.d (.bool false),.d (.bool false),.d (.bool false),.d (.str []),.d (.bool false),.d (.bool false),.d (.bool false),.d (.bool false),.d (.bool false),.d (.bool false),.d (.bool false),.d (.bool false),.d (.bool false)],.i64,[],121,16,[]⟩)
         (.leaf 124 ⟨8,1,8,.raw .nilFunc,.i64,[],0,0,[]⟩))
        (.leaf 125 ⟨8,1,8,.raw .nilFunc,.i64,[],0,0,[]⟩))
       (.node 128
        (.leaf 126 ⟨8,1,8,.raw .nilFunc,.i64,[],0,0,[]⟩)
        (.leaf 128 ⟨4,1,24,.nilS,.i64,[],29,0,[]⟩)))
      (.node 146
       (.node 143
        (.node 140
         (.leaf 138 ⟨4,1,24,.nilS,.i64,[],51,0,[]⟩)
         (.leaf 140 ⟨9,1,8,.raw (.map none),.i64,[],9,9,[]⟩))
        (.leaf 143 ⟨8,1,8,.raw .nilFunc,.i64,[],0,0,[]⟩))
       (.node 148
        (.leaf 146 ⟨8,1,8,.raw .nilFunc,.i64,[],0,0,[]⟩)
        (.leaf 148 ⟨5,2,16,.agg [.d (.int .i64 0),.d (.int .i64 0)],.i64,[(0,3),(1,3)],0,0,[1,1]⟩))))
     (.node 158
      (.node 153
       (.node 151
        (.node 150
         (.leaf 149 ⟨8,1,8,.raw .nilFunc,.i64,[],0,0,[]⟩)
         (.leaf 150 ⟨8,1,8,.raw .nilFunc,.i64,[],0,0,[]⟩))
        (.leaf 151 ⟨8,1,8,.raw .nilFunc,.i64,[],0,0,[]⟩))
       (.node 157
        (.leaf 153 ⟨8,1,8,.raw .nilFunc,.i64,[],0,0,[]⟩)
        (.leaf 157 ⟨5,2,32,.agg [.d (.str []),.d (.str [])],.i64,[(0,9),(1,9)],0,0,[3,3]⟩)))
      (.node 161
       (.node 160
        (.leaf 158 ⟨8,1,8,.raw .nilFunc,.i64,[],0,0,[]⟩)
        (.leaf 160 ⟨8,1,8,.raw .nilFunc,.i64,[],0,0,[]⟩))
       (.node 162
        (.leaf 161 ⟨4,1,24,.nilS,.i64,[],4,0,[]⟩)
        (.leaf 162 ⟨8,1,8,.raw .nilFunc,.i64,[],0,0,[]⟩)))))
    (.node 203
     (.node 186
      (.node 179
       (.node 178
        (.node 176
         (.leaf 173 ⟨8,1,8,.raw .nilFunc,.i64,[],0,0,[]⟩)
         (.leaf 176 ⟨8,1,8,.raw .nilFunc,.i64,[],0,0,[]⟩))
        (.leaf 178 ⟨5,2,24,.agg [.d (.int .i64 0),.d (.str [])],.i64,[(0,3),(1,9)],0,0,[1,3]⟩))
       (.node 182
        (.leaf 179 ⟨4,1,24,.nilS,.i64,[],178,0,[]⟩)
        (.leaf 182 ⟨1,1,8,.d (.int .u64 0),.u64,[],0,0,[]⟩)))
      (.node 194
       (.node 193
        (.node 192
         (.leaf 186 ⟨7,1,8,.raw (.pointer none),.i64,[],9,0,[]⟩)
         (.leaf 192 ⟨8,1,8,.raw .nilFunc,.i64,[],0,0,[]⟩))
        (.leaf 193 ⟨7,1,8,.raw (.pointer none),.i64,[],196,0,[]⟩))
       (.node 196
        (.leaf 194 ⟨4,1,24,.nilS,.i64,[],5,0,[]⟩)
        (.leaf 196 ⟨5,2,32,.agg [.raw (.pointer none),.nilS],.i64,[(0,193),(1,194)],0,0,[]⟩))))
     (.node 218
      (.node 214
       (.node 212
        (.node 210
         (.leaf 203 ⟨9,1,8,.raw (.map none),.i64,[],9,3,[]⟩)
         (.leaf 210 ⟨8,1,8,.raw .nilFunc,.i64,[],0,0,[]⟩))
        (.leaf 212 ⟨8,1,8,.raw .nilFunc,.i64,[],0,0,[]⟩))
       (.node 216
        (.leaf 214 ⟨8,1,8,.raw .nilFunc,.i64,[],0,0,[]⟩)
        (.leaf 216 ⟨8,1,8,.raw .nilFunc,.i64,[],0,0,[]⟩)))
      (.node 224
       (.node 220
        (.leaf 218 ⟨5,4,32,.agg [.d (.int .i64 0),.d (.int .i64 0),.d (.int .i64 0),.d (.int .i64 0)],.i64,[(0,3),(1,3),(2,3),(3,3)],0,0,[1,1,1,1]⟩)
        (.leaf 220 ⟨8,1,8,.raw .nilFunc,.i64,[],0,0,[]⟩))
       (.node 225
        (.leaf 224 ⟨8,1,8,.raw .nilFunc,.i64,[],0,0,[]⟩)
        (.leaf 225 ⟨8,1,8,.raw .nilFunc,.i64,[],0,0,[]⟩))))))
   (.node 327
    (.node 288
     (.node 260
      (.node 254
       (.node 246
        (.node 230
         (.leaf 228 ⟨8,1,8,.raw .nilFunc,.i64,[],0,0,[]⟩)
         (.leaf 230 ⟨7,1,8,.raw (.pointer none),.i64,[],46,0,[]⟩))
        (.leaf 246 ⟨1,1,8,.d (.int .i64 0),.i64,[],0,0,[]⟩))
       (.node 256
        (.leaf 254 ⟨1,1,4,.d (.int .u32 0),.u32,[],0,0,[]⟩)
        (.leaf 256 ⟨1,1,8,.d (.int .u64 0),.u64,[],0,0,[]⟩)))
      (.node 281
       (.node 278
        (.node 265
         (.leaf 260 ⟨7,1,8,.raw (.pointer none),.i64,[],5,0,[]⟩)
         (.leaf 265 ⟨4,1,24,.nilS,.i64,[],42,0,[]⟩))
        (.leaf 278 ⟨5,3,40,.agg [.d (.int .i64 0),.nilS,.d (.int .i64 0)],.i64,[(0,48)],0,0,[]⟩))
       (.node 287
        (.leaf 281 ⟨5,6,72,.agg [.d (.int .i64 0),.d (.int .i64 0),.d (.bool false),.d (.bool false),.nilS,.nilS],.i64,[(0,44)],0,0,[]⟩)
        (.leaf 287 ⟨1,1,8,.d (.int .u64 0),.u64,[],0,0,[]⟩))))
     (.node 310
      (.node 303
       (.node 295
        (.node 291
         (.leaf 288 ⟨8,1,8,.raw .nilFunc,.i64,[],0,0,[]⟩)
         (.leaf 291 ⟨7,1,8,.raw (.pointer none),.i64,[],3,0,[]⟩))
        (.leaf 295 ⟨8,1,8,.raw .nilFunc,.i64,[],0,0,[]⟩))
       (.node 307
        (.leaf 303 ⟨3,1,16,.d (.str []),.i64,[],0,0,[]⟩)
        (.leaf 307 ⟨8,1,8,.raw .nilFunc,.i64,[],0,0,[]⟩)))
      (.node 319
       (.node 312
        (.leaf 310 ⟨8,1,8,.raw .nilFunc,.i64,[],0,0,[]⟩)
        (.leaf 312 ⟨7,1,8,.raw (.pointer none),.i64,[],287,0,[]⟩))
       (.node 326
        (.leaf 319 ⟨6,24,24,.agg [.d (.int .u8 0),.d (.int .u8 0),.d (.int .u8 0),.d (.int .u8 0),.d (.int .u8 0),.d (.int .u8 0),.d (.int .u8 0),.d (.int .u8 0),.d (.int .u8 0),.d (.int .u8 0),.d (.int .u8 0),.d (.int .u8 0),.d (.int .u8 0),.d (.int .u8 0),.d (.int .u8 0),.d (.int .u8 0),.d (.int .u8 0),.d (.int .u8 0),.d (.int .u8 0),.d (.int .u8 0),.d (.int .u8 0),.d (.int .u8 0),.d (.int .u8 0),.d (.int .u8 0)],.i64,[],5,24,[]⟩)
        (.leaf 326 ⟨8,1,8,.raw .nilFunc,.i64,[],0,0,[]⟩)))))
    (.node 358
     (.node 351
      (.node 339
       (.node 338
        (.node 333
         (.leaf 327 ⟨8,1,8,.raw .nilFunc,.i64,[],0,0,[]⟩)
         (.leaf 333 ⟨8,1,8,.raw .nilFunc,.i64,[],0,0,[]⟩))
        (.leaf 338 ⟨6,20,160,.agg [.d (.int .u64 0),.d (.int .u64 0),.d (.int .u64 0),.d (.int .u64 0),.d (.int .u64 0),.d (.int .u64 0),.d (.int .u64 0),.d (.int .u64 0),.d (.int .u64 0),.d (.int .u64 0),.d (.int .u64 0),.d (.int .u64 0),.d (.int .u64 0),.d (.int .u64 0),.d (.int .u64 0),.d (.int .u64 0),.d (.int .u64 0),.d (.int .u64 0),.d (.int .u64 0),.d (.int .u64 0)],.i64,[],256,20,[]⟩))
       (.node 349
        (.leaf 339 ⟨6,65,65,.agg [.d (.int .u8 0),.d (.int .u8 0),.d (.int .u8 0),.d (.int .u8 0),.d (.int .u8 0),.d (.int .u8 0),.d (.int .u8 0),.d (.int .u8 0),.d (.int .u8 0),.d (.int .u8 0),.d (.int .u8 0),.d (.int .u8 0),.d (.int .u8 0),.d (.int .u8 0),.d (.int .u8 0),.d (.int .u8 0),.d (.int .u8 0),.d (.int .u8 0),.d (.int .u8 0),.d (.int .u8 0),.d (.int .u8 0),.d (.int .u8 0),.d (.int .u8 0),.d (.int .u8 0),.d (.int .u8 0),.d (.int .u8 0),.d (.int .u8 0),.d (.int .u8 0),.d (.int .u8 0),.d (.int .u8 0),.d (.int .u8 0),.d (.int .u8 0),.d (.int .u8 0),.d (.int .u8 0),.d (.int .u8 0),.d (.int .u8 0),.d (.int .u8 0),.d (.int .u8 0),.d (.int .u8 0),.d (.int .u8 0),.d (.int .u8 0),.d (.int .u8 0),.d (.int .u8 0),.d (.int .u8 0),.d (.int .u8 0),.d (.int .u8 0),.d (.int .u8 0),.d (.int .u8 0),.d (.int .u8 0),.d (.int .u8 0),.d (.int .u8 0),.d (.int .u8 0),.d (.int .u8 0),.d (.int .u8 0),.d (.int .u8 0),.d (.int .u8 0),.d (.int .u8 0),.d (.int .u8 0),.d (.int .u8 0),.d (.int .u8 0),.d (.int .u8 0),.d (.int .u8 0),.d (.int .u8 0),.d (.int .u8 0),.d (.int .u8 0)],.i64,[],5,65,[]⟩)
        (.leaf 349 ⟨6,256,256,.agg [.d (.int .u8 0),.d (.int .u8 0),.d (.int .u8 0),.d (.int .u8 0),.d (.int .u8 0),.d (.int .u8 0),.d (.int .u8 0),.d (.int .u8 0),.d (.int .u8 0),.d (.int .u8 0),.d (.int .u8 0),.d (.int .u8 0),.d (.int .u8 0),.d (.int .u8 0),.d (.int .u8 0),.d (.int .u8 0),.d (.int .u8 0),.d (.int .u8 0),.d (.int .u8 0),.d (.int .u8 0),.d (.int .u8 0),.d (.int .u8 0),.d (.int .u8 0),.d (.int .u8 0),.d (.int .u8 0),.d (.int .u8 0),.d (.int .u8 0),.d (.int .u8 0),.d (.int .u8 0),.d (.int .u8 0),.d (.int .u8 0),.d (.int .u8 0),.d (.int .u8 0),.d (.int .u8 0),.d (.int .u8 0),.d (.int .u8 0),.d (.int .u8 0),.d (.int .u8 0),.d (.int .u8 0),.d (.int .u8 0),.d (.int .u8 0),.d (.int .u8 0),.d (.int .u8 0),.d (.int .u8 0),.d (.int .u8 0),.d (.int .u8 0),.d (.int .u8 0),.d (.int .u8 0),.d (.int .u8 0),.d (.int .u8 0),.d (.int .u8 0),.d (.int .u8 0),.d (.int .u8 0),.d (.int .u8 0),.d (.int .u8 0),.d (.int .u8 0),.d (.int .u8 0),.d (.int .u8 0),.d (.int .u8 0),.d (.int .u8 0),.d (.int .u8 0),.d (.int .u8 0),.d (.int .u8 0),.d (.int .u8 0),.d (.int .u8 0),.d (.int .u8 0),.d (.int .u8 0),.d (.int .u8 0),.d (.int .u8 0),.d (.int .u8 0),.d (.int .u8 0),.d (.int .u8 0),.d (.int .u8 0),.d (.int .u8 0),.d (.int .u8 0),.d (.int .u8 0),.d (.int .u8 0),.d (.int .u8 0),.d (.int .u8 0),.d (.int .u8 0),.d (.int .u8 0),.d (.int .u8 0),.d (.int .u8 0),.d (.int .u8 0),.d (.int .u8 0),.d (.int .u8 0),.d (.int .u8 0),.d (.int .u8 0),.d (.int .u8 0),.d (.int .u8 0),.d (.int .u8 0),.d (.int .u8 0),.d (.int .u8 0),.d (.int .u8 0),.d (.int .u8 0),.d (.int .u8 0),.d (.int .u8 0),.d (.int .u8 0),.d (.int .u8 0),.d (.int .u8 0),.d (.int .u8 0),.d (.int .u8 0),.d (.int .u8 0),.d (.int .u8 0),.d (.int .u8 0),.d (.int .u8 0),.d (.int .u8 0),.d (.int .u8 0),.d (.int .u8 0),.d (.int .u8 0),.d (.int .u8 0),.d (.int .u8 0),.d (.int .u8 0),.d (.int .u8 0),.d (.int .u8 0),.d (.int .u8 0),.d (.int .u8 0),.d (.int .u8 0),.d (.int .u8 0),.d (.int .u8 0),.d (.int .u8 0),.d (.int .u8 0),.d (.int .u8 0),.d (.int .u8 0),.d (.int .u8 0),.d (.int .u8 0),.d (.int .u8 0),.d (.int .u8 0),.d (.int .u8 0),.d (.int .u8 0),.d (.int .u8 0),.d (.int .u8 0),.d (.int .u8 0),.d (.int .u8 0),.d (.int .u8 0),.d (.int .u8 0),.d (.int .u8 0),.d (.int .u8 0),.d (.int .u8 0),.d (.int .u8 0),.d (.int .u8 0),.d (.int .u8 0),.d (.int .u8 0),.d (.int .u8 0),.d (.int .u8 0),.d (.int .u8 0),.d (.int .u8 0),.d (.int .u8 0),.d (.int .u8 0),.d (.int .u8 0),.d (.int .u8 0),.d (.int .u8 0),.d (.int .u8 0),.d (.int .u8 0),.d (.int .u8 0),.d (.int .u8 0),.d (.int .u8 0),.d (.int .u8 0),.d (.int .u8 0),.d (.int .u8 0),.d (.int .u8 0),.d (.int .u8 0),.d (.int .u8 0),.d (.int .u8 0),.d (.int .u8 0),.d (.int .u8 0),.d (.int .u8 0),.d (.int .u8 0),.d (.int .u8 0),.d (.int .u8 0),.d (.int .u8 0),.d (.int .u8 0),.d (.int .u8 0),.d (.int .u8 0),.d (.int .u8 0),.d (.int .u8 0),.d (.int .u8 0),.d (.int .u8 0),.d (.int .u8 0),.d (.int .u8 0),.d (.int .u8 0),.d (.int .u8 0),.d (.int .u8 0),.d (.int .u8 0),.d (.int .u8 0),.d (.int .u8 0),.d (.int .u8 0),.d (.int .u8 0),.d (.int .u8 0),.d (.int .u8 0),.d (.int .u8 0),.d (.int .u8 0),.d (.int .u8 0),.d (.int .u8 0),.d (.int .u8 0),.d (.int .u8 0),.d (.int .u8 0),.d (.int .u8 0),.d (.int .u8 0),.d (.int .u8 0),.d (.int .u8 0),.d (.int .u8 0),.d (.int .u8 0),.d (.int .u8 0),.d (.int .u8 0),.d (.int .u8 0),.d (.int .u8 0),.d (.int .u8 0),.d (.int .u8 0),.d (.int .u8 0),.d (.int .u8 0),.d (.int .u8 0),.d (.int .u8 0),.d (.int .u8 0),.d (.int .u8 0),.d (.int .u8 0),.d (.int .u8 0),.d (.int .u8 0),.d (.int .u8 0),.d (.int .u8 0),.d (.int .u8 0),.d (.int .u8 0),.d (.int .u8 0),.d (.int .u8 0),.d (.int .u8 0),.d (.int .u8 0),.d (.int .u8 0),.d (.int .u8 0),.d (.int .u8 0),.d (.int .u8 0),.d (.int .u8 0),.d (.int .u8 0),.d (.int .u8 0),.d (.int .u8 0),.d (.int .u8 0),.d (.int .u8 0),.d (.int .u8 0),.d (.int .u8 0),.d (.int .u8 0),.d (.int .u8 0),.d (.int .u8 0),.d (.int .u8 0),.d (.int .u8 0),.d (.int .u8 0),.d (.int .u8 0),.d (.int .u8 0),.d (.int .u8 0),.d (.int .u8 0),.d (.int .u8 0),.d (.int .u8 0),.d (.int .u8 0),.d (.int .u8 0),.d (.int .u8 0),.d (.int .u8 0),.d (.int .u8 0),.d (.int .u8 0)],.i64,[],5,256,[]⟩)))
      (.node 356
       (.node 352
        (.leaf 351 ⟨5,2,2,.agg [.d (.int .u8 0),.d (.int .u8 0)],.i64,[(0,5),(1,5)],0,0,[1,1]⟩)
        (.leaf 352 ⟨6,32,32,.agg [.d (.int .u8 0),.d (.int .u8 0),.d (.int .u8 0),.d (.int .u8 0),.d (.int .u8 0),.d (.int .u8 0),.d (.int .u8 0),.d (.int .u8 0),.d (.int .u8 0),.d (.int .u8 0),.d (.int .u8 0),.d (.int .u8 0),.d (.int .u8 0),.d (.int .u8 0),.d (.int .u8 0),.d (.int .u8 0),.d (.int .u8 0),.d (.int .u8 0),.d (.int .u8 0),.d (.int .u8 0),.d (.int .u8 0),.d (.int .u8 0),.d (.int .u8 0),.d (.int .u8 0),.d (.int .u8 0),.d (.int .u8 0),.d (.int .u8 0),.d (.int .u8 0),.d (.int .u8 0),.d (.int .u8 0),.d (.int .u8 0),.d (.int .u8 0)],.i64,[],351,16,[]⟩))
       (.node 357
        (.leaf 356 ⟨5,2,16,.agg [.d (.int .i64 0),.d (.int .i64 0)],.i64,[(0,3),(1,3)],0,0,[1,1]⟩)
        (.leaf 357 ⟨6,6,48,.agg [.d (.int .i64 0),.d (.int .i64 0),.d (.int .i64 0),.d (.int .i64 0),.d (.int .i64 0),.d (.int .i64 0)],.i64,[],356,3,[]⟩))))
     (.node 371
      (.node 369
       (.node 365
        (.node 359
         (.leaf 358 ⟨6,32,32,.agg [.d (.int .u8 0),.d (.int .u8 0),.d (.int .u8 0),.d (.int .u8 0),.d (.int .u8 0),.d (.int .u8 0),.d (.int .u8 0),.d (.int .u8 0),.d (.int .u8 0),.d (.int .u8 0),.d (.int .u8 0),.d (.int .u8 0),.d (.int .u8 0),.d (.int .u8 0),.d (.int .u8 0),.d (.int .u8 0),.d (.int .u8 0),.d (.int .u8 0),.d (.int .u8 0),.d (.int .u8 0),.d (.int .u8 0),.d (.int .u8 0),.d (.int .u8 0),.d (.int .u8 0),.d (.int .u8 0),.d (.int .u8 0),.d (.int .u8 0),.d (.int .u8 0),.d (.int .u8 0),.d (.int .u8 0),.d (.int .u8 0),.d (.int .u8 0)],.i64,[],5,32,[]⟩)
         (.leaf 359 ⟨6,64,64,.agg [.d (.int .u8 0),.d (.int .u8 0),.d (.int .u8 0),.d (.int .u8 0),.d (.int .u8 0),.d (.int .u8 0),.d (.int .u8 0),.d (.int .u8 0),.d (.int .u8 0),.d (.int .u8 0),.d (.int .u8 0),.d (.int .u8 0),.d (.int .u8 0),.d (.int .u8 0),.d (.int .u8 0),.d (.int .u8 0),.d (.int .u8 0),.d (.int .u8 0),.d (.int .u8 0),.d (.int .u8 0),.d (.int .u8 0),.d (.int .u8 0),.d (.int .u8 0),.d (.int .u8 0),.d (.int .u8 0),.d (.int .u8 0),.d (.int .u8 0),.d (.int .u8 0),.d (.int .u8 0),.d (.int .u8 0),.d (.int .u8 0),.d (.int .u8 0),.d (.int .u8 0),.d (.int .u8 0),.d (.int .u8 0),.d (.int .u8 0),.d (.int .u8 0),.d (.int .u8 0),.d (.int .u8 0),.d (.int .u8 0),.d (.int .u8 0),.d (.int .u8 0),.d (.int .u8 0),.d (.int .u8 0),.d (.int .u8 0),.d (.int .u8 0),.d (.int .u8 0),.d (.int .u8 0),.d (.int .u8 0),.d (.int .u8 0),.d (.int .u8 0),.d (.int .u8 0),.d (.int .u8 0),.d (.int .u8 0),.d (.int .u8 0),.d (.int .u8 0),.d (.int .u8 0),.d (.int .u8 0),.d (.int .u8 0),.d (.int .u8 0),.d (.int .u8 0),.d (.int .u8 0),.d (.int .u8 0),.d (.int .u8 0)],.i64,[],5,64,[]⟩))
        (.leaf 365 ⟨5,4,40,.agg [.raw (.pointer none),.raw (.pointer none),.raw (.pointer none),.d (.str [])],.i64,[(0,17),(1,17),(2,17),(3,9)],0,0,[]⟩))
       (.node 370
        (.leaf 369 ⟨1,1,1,.d (.int .u8 0),.u8,[],0,0,[]⟩)
        (.leaf 370 ⟨1,1,1,.d (.int .u8 0),.u8,[],0,0,[]⟩)))
      (.node 373
       (.node 372
        (.leaf 371 ⟨8,1,8,.raw .nilFunc,.i64,[],0,0,[]⟩)
        (.leaf 372 ⟨1,1,4,.d (.int .i32 0),.i32,[],0,0,[]⟩))
       (.node 375
        (.leaf 373 ⟨1,1,4,.d (.int .i32 0),.i32,[],0,0,[]⟩)
        (.leaf 375 ⟨5,11,48,.agg [.d (.int .u64 0),.d (.int .u64 0),.d (.int .u32 0),.d (.int .u8 0),.d (.int .u8 0),.d (.int .u8 0),.d (.int .u8 0),.raw .nilFunc,.raw (.pointer none),.d (.int .i32 0),.d (.int .i32 0)],.i64,[(0,12),(1,12),(2,254),(3,369),(4,5),(5,5),(6,370),(7,371),(8,260),(9,372),(10,373)],0,0,[]⟩)))))))
def E : TE:=P7.get
end Go.Proofs.YtogifnjnpljnfaaGreatDoor
namespace Go.Proofs.YtogifnjnpljnfaaGreatDoor
open Go Dw
theorem aZ : gJ Tryz.prog E:=GC (by kernel_rfl) (by kernel_rfl)
end Go.Proofs.YtogifnjnpljnfaaGreatDoor
namespace Dw
open Go Go.RowKit
theorem nI {b : Bool} {A B : Prop} : aR b A B ↔ (b = true /\ A) \/ (b = false /\ B):=by cases b<;>simp [aR]
theorem iI {b : Bool} {K : Prop} : a8 b K ↔ b = true /\ K:=by cases b<;>simp [a8]
def I7 {α : Type} (n : Nat) (K : Nat -> α) : α:=match n with
 | 0=>K 0
 | m + 1=>K (m + 1)
theorem CT {α : Type} (n : Nat) (K : Nat -> α) : I7 n K = K n:=by cases n<;>rfl
def GX {α : Type} (n : Int) (K : Int -> α) : α:=match n with
 | .ofNat m=>I7 m (fun m=>K (.ofNat m))
 | .negSucc m=>I7 m (fun m=>K (.negSucc m))
theorem wW {α : Type} (n : Int) (K : Int -> α) : GX n K = K n:=by cases n<;>simp [GX,CT]
def fF (k : IntKind) (n : Int) : Option AV:=GX n (fun n=>some (.d (.int k n)))
theorem iD (k : IntKind) (n : Int) : fF k n = some (.d (.int k n)):=by simp [fF,wW]
def eP (b : Bool) : Option AV:=match b with
 | true=>some (.d (.bool true))
 | false=>some (.d (.bool false))
theorem mn (b : Bool) : eP b = some (.d (.bool b)):=by cases b<;>rfl
def yF (t : TI) (x : AV) (off : Nat) : Option AV:=
 if t.agg then
  if (off == 0) && (x.isAgg && (x.cells.length == t.size)) then some x
  else if x.isAgg && decide (off + t.size <= x.cells.length) then some (.agg ((x.cells.drop off).take t.size)) else none
 else if t.kind != 0 then x.cells[off]? else none
theorem sC {t : TI} {x : AV} {off : Nat} {v : AV} {K : AV -> Prop} (h : yF t x off = some v) (k : K v) : Bq t x off K:=by
 unfold yF at h
 unfold Bq
 simp only [nI,iI,aE,cO,dM]
 repeat' split at h
 all_goals simp_all
def GJ (t : TI) (x : D) (off : Nat) : Option AV:=
 if t.agg then
  if (off == 0) && (x.isAgg && (x.cells.length == t.size)) then some (.d x)
  else if x.isAgg && decide (off + t.size <= x.cells.length) then some (.d (.agg ((x.cells.drop off).take t.size))) else none
 else if t.kind != 0 then (match x.cells[off]? with | some y=>some (.d y) | none=>none) else none
theorem GK {t : TI} {x : D} {off : Nat} {v : AV} {K : AV -> Prop} (h : GJ t x off = some v) (k : K v) : Jq t x off K:=by
 unfold GJ at h
 unfold Jq
 simp only [nI,iI,aE,cO,dM]
 repeat' split at h
 all_goals simp_all
def pV (h : ae) (id : Nat) : Option AO:=match h[id]? with
 | some o=>if Nat.blt o.st 2 then some o else none
 | none=>none
def sG (h : ae) (id : Nat) : Option AO:=match h[id]? with
 | some o=>if Nat.beq o.st 0 then some o else none
 | none=>none
theorem mq {h : ae} {id : Nat} {o : AO} {K : AO -> Prop} (e : pV h id = some o) (k : K o) : oO h id K:=by
 unfold pV at e
 unfold oO
 simp only [aE,iI]
 repeat' split at e
 all_goals simp_all
theorem lE {h : ae} {id : Nat} {o : AO} {K : AO -> Prop} (e : sG h id = some o) (k : K o) : zp h id K:=by
 unfold sG at e
 unfold zp
 simp only [aE,iI]
 repeat' split at e
 all_goals simp_all
def wQ (t : TI) (a : AV) (h : ae) : Option AV:=
 match a with
 | .ptr id e off=>match pV h id with
  | some o=>match o.elems[e]? with
   | some x=>yF t x off
   | none=>none
  | none=>none
 | .d (.fp x off)=>GJ t x off
 | _=>none
theorem uR {t : TI} {a : AV} {h : ae} {v : AV} {K : AV -> Prop} (e : wQ t a h = some v) (k : K v) : jX t a h K:=by
 unfold wQ at e
 unfold jX
 split at e
 ·split at e
  ·rename_i o ho
   split at e
   ·rename_i x hx
    exact mq ho (cj hx (sC e k))
   ·cases e
  ·cases e
 ·exact GK e k
 ·cases e
def wT (t : TI) (a v : AV) (h : ae) : Option ae:=
 match a with
 | .ptr id e off=>match sG h id with
  | some o=>match o.elems[e]? with
   | some x=>
    if gQ t v && t.kind != 0 then
     if (off == 0) && ((t.size == o.k) && ((x.isAgg == t.agg) || x.isJunk)) then some (h.set id { o with elems:=o.elems.set e v })
     else if x.isAgg && decide (off + t.size <= x.cells.length) then some (h.set id { o with elems:=o.elems.set e (.agg (o6 x.cells off v.cells)) }) else none
    else none
   | none=>none
  | none=>none
 | _=>none
theorem Bd {t : TI} {a v : AV} {h h' : ae} {K : ae -> Prop} (e : wT t a v h = some h') (k : K h') : iP t a v h K:=by
 unfold wT at e
 unfold iP
 split at e
 ·split at e
  ·rename_i o ho
   split at e
   ·rename_i x hx
    refine lE ho (cj hx ?_)
    simp only [nI,iI,aU,gw]
    repeat' split at e
    all_goals simp_all
   ·cases e
  ·cases e
 ·cases e
def rm (op : BinOp) (k : IntKind) (a b : Int) : Option AV:=
 match op with
 | .add=>fF k (k.wrap (a + b))
 | .sub=>fF k (k.wrap (a - b))
 | .mul=>fF k (k.wrap (a * b))
 | .quo=>if decide (b = 0) then none else fF k (k.wrap (a.tdiv b))
 | .rem=>if decide (b = 0) then none else fF k (a.tmod b)
 | .and=>fF k (da .and k a b)
 | .or=>fF k (da .or k a b)
 | .xor=>fF k (da .xor k a b)
 | .andNot=>fF k (da .andNot k a b)
 | .eql=>eP (decide (a = b))
 | .neq=>eP (!decide (a = b))
 | .lss=>eP (decide (a < b))
 | .leq=>eP (decide (a <= b))
 | .gtr=>eP (decide (b < a))
 | .geq=>eP (decide (b <= a))
 | _=>none
theorem A9 {op : BinOp} {k : IntKind} {a b : Int} {v : AV} {K : AV -> Prop} (e : rm op k a b = some v) (hk : K v) : w9 op k a b K:=by
  cases op<;>simp only [rm,iD,mn,Option.some.injEq,reduceCtorEq] at e<;>first
    | (subst e;exact hk)
    | (split at e
       . cases e
       . rename_i h;cases e;exact aH (by simpa using h) hk)
def wU (op : BinOp) (a b : List UInt8) : Option AV:=
 match op with
 | .add=>if decide (a.length + b.length < 9223372036854775808) then some (.d (.str (a ++ b))) else none
 | .eql=>eP (decide (a = b))
 | .neq=>eP (!decide (a = b))
 | .lss=>eP (Op.bytesLess a b)
 | .leq=>eP (Op.bytesLess a b || decide (a = b))
 | .gtr=>eP (!(Op.bytesLess a b || decide (a = b)))
 | .geq=>eP (!Op.bytesLess a b)
 | _=>none
theorem Be {op : BinOp} {a b : List UInt8} {v : AV} {K : AV -> Prop} (e : wU op a b = some v) (hk : K v) : Al op a b K:=by
  cases op<;>simp only [wU,mn,Option.some.injEq,reduceCtorEq] at e<;>first
    | (subst e;exact hk)
    | (split at e
       . rename_i h;cases e;exact ⟨by simpa using h,hk⟩
       . cases e)
def GI (op : BinOp) (b : Bool) : Option AV:=
 match op with
 | .eql=>eP b
 | .neq=>eP (!b)
 | _=>none
theorem wM {op : BinOp} {b : Bool} {v : AV} {K : AV -> Prop} (e : GI op b = some v) (hk : K v) : xL op b K:=by
 cases op<;>simp only [GI,mn,Option.some.injEq,reduceCtorEq] at e<;>(subst e;exact hk)
def CO (E : TE) (op : BinOp) (t : Nat) (x y : AV) : Option AV:=
 if x.isAgg && y.isAgg && ((E t).kind == 5) then
  match ev x.cells with
  | some l=>match ev y.cells with
   | some r=>if !(E t).leaf.isEmpty && er (E t).leaf l r then GI op (dD l r) else none
   | none=>none
  | none=>none
 else none
def GD (E : TE) (op : BinOp) (t : Nat) (x y : AV) : Option AV:=
 match x,y with
 | .d (.int k a),.d (.int k' b)=>
  match op with
  | .shl=>if decide (0 <= b) then fF k (k.wrap (a * 2 ^ (min b.toNat k.bits))) else none
  | .shr=>if decide (0 <= b) then fF k (a.fdiv (2 ^ (min b.toNat k.bits))) else none
  | op=>if k == k' then rm op k a b else none
 | .d (.str a),.d (.str b)=>wU op a b
 | .d (.bool a),.d (.bool b)=>if (E t).kind == 2 then GI op (a == b) else none
 | x,y=>CO E op t x y
theorem GE {E : TE} {op : BinOp} {t : Nat} {x y v : AV} {K : AV -> Prop} (e : GD E op t x y = some v) (hk : K v) : ul E op t x y K:=by
 unfold GD at e
 split at e
 ·rename_i k a k' b
  by_cases h1 : op = .shl
  ·subst h1
   simp only [iD] at e
   split at e
   ·rename_i h;cases e;exact aH h hk
   ·cases e
  ·by_cases h2 : op = .shr
   ·subst h2
    simp only [iD] at e
    split at e
    ·rename_i h;cases e;exact aH h hk
    ·cases e
   ·have e' : (if k == k' then rm op k a b else none) = some v:=by
     cases op<;>first | exact e | exact (h1 rfl).elim | exact (h2 rfl).elim
    split at e'
    ·rename_i h
     have:=A9 e' hk
     cases op<;>first | exact aH h this | exact (h1 rfl).elim | exact (h2 rfl).elim
    ·cases e'
 ·exact Be e hk
 ·split at e
  ·rename_i h;exact aH h (wM e hk)
  ·cases e
 ·rename_i h1 h2 h3
  unfold ul
  split
  ·exact (h1 _ _ _ _ rfl rfl).elim
  ·exact (h2 _ _ rfl rfl).elim
  ·exact (h3 _ _ rfl rfl).elim
  ·unfold CO at e;simp [AV.isAgg,D.isAgg] at e
  ·unfold CO at e;simp [AV.isAgg] at e
  ·unfold CO at e
   split at e
   ·rename_i hc
    refine aH hc ?_
    split at e
    ·rename_i l hl
     split at e
     ·rename_i r hr
      split at e
      ·rename_i h;simp only [hl,hr];exact aH h (wM e hk)
      ·cases e
     ·cases e
    ·cases e
   ·cases e
def Ba (E : TE) (op : BinOp) (t : Nat) (x : AV) : Option AV:=
 match BF x with
 | some b=>if (E t).kind == 4 then GI op b else none
 | none=>none
theorem En {E : TE} {op : BinOp} {t : Nat} {x v : AV} {K : AV -> Prop} (e : Ba E op t x = some v) (hk : K v) : xe E op t x K:=by
 unfold Ba at e
 unfold xe
 split at e
 ·rename_i b hb
  simp only [hb]
  split at e
  ·rename_i h;exact aH h (wM e hk)
  ·cases e
 ·cases e
def LU (op : UnOp) (x : AV) : Option AV:=
 match op,x with
 | .not,.d (.bool b)=>eP (!b)
 | .neg,.d (.int k n)=>fF k (k.wrap (0 - n))
 | _,_=>none
theorem I5 {op : UnOp} {x v : AV} {K : AV -> Prop} (e : LU op x = some v) (hk : K v) : Ka op x K:=by
 unfold LU at e
 split at e
 ·rw [mn] at e;cases e;exact hk
 ·rw [iD] at e;cases e;exact hk
 ·cases e
def lB (E : TE) (s : Nat) (x : AV) (f : Nat) : Option AV:=
 if (E s).kind == 5 then match (E s).fields[f]? with
  | some p=>if (E p.2).kind != 0 then (match x with
   | .ptr id e o=>some (.ptr id e (o + p.1))
   | .d (.fp y o)=>some (.d (.fp y (o + p.1)))
   | _=>none) else none
  | none=>none
 else none
theorem sA {E : TE} {s f : Nat} {x v : AV} {K : AV -> Prop} (e : lB E s x f = some v) (hk : K v) : ez E s x f K:=by
 unfold lB at e
 split at e
 ·rename_i h1
  split at e
  ·rename_i p hp
   split at e
   ·rename_i h2
    refine aH h1 (cj hp (aH h2 ?_))
    split at e
    ·cases e;exact hk
    ·cases e;exact hk
    ·cases e
   ·cases e
  ·cases e
 ·cases e
def wN (E : TE) (s : Nat) (x : AV) (f : Nat) : Option AV:=
 if (E s).kind == 5 then match (E s).fields[f]? with
  | some p=>if x.isAgg then yF (E p.2) x p.1 else none
  | none=>none
 else none
theorem A7 {E : TE} {s f : Nat} {x v : AV} {K : AV -> Prop} (e : wN E s x f = some v) (hk : K v) : pW E s x f K:=by
 unfold wN at e
 split at e
 ·rename_i h1
  split at e
  ·rename_i p hp
   split at e
   ·rename_i h2
    exact aH h1 (cj hp (aH h2 (sC e hk)))
   ·cases e
  ·cases e
 ·cases e
def lD (E : TE) (t : Nat) (x i : AV) : Option AV:=
 match i with
 | .d (.int _ n)=>
  match x with
  | .sl id s len k _=>if ((E t).kind == 4 && (k == (E (E t).elem).size && (E (E t).elem).kind != 0)) && decide (0 <= n /\ n < len) then some (.ptr id (s + n.toNat) 0) else none
  | .d (.fs l)=>if ((E t).kind == 4) && decide (0 <= n) then (match l[n.toNat]? with
   | some y=>if y.cells.length == (E (E t).elem).size && (E (E t).elem).kind != 0 then some (.d (.fp y 0)) else none
   | none=>none) else none
  | .ptr id e o=>if ((E t).kind == 6 && (E (E t).elem).kind != 0) && decide (0 <= n /\ n < (E t).len) then some (.ptr id e (o + n.toNat * (E (E t).elem).size)) else none
  | .d (.fp y o)=>if ((E t).kind == 6 && (E (E t).elem).kind != 0) && decide (0 <= n /\ n < (E t).len) then some (.d (.fp y (o + n.toNat * (E (E t).elem).size))) else none
  | _=>none
 | _=>none
theorem sB {E : TE} {t : Nat} {x i v : AV} {K : AV -> Prop} (e : lD E t x i = some v) (hk : K v) : dV E t x i K:=by
 unfold lD at e
 split at e
 ·unfold dV
  split at e<;>(try (cases e;done))<;>simp only [iI,aE]
  all_goals repeat' split at e
  all_goals simp_all
 ·cases e
def wO (E : TE) (t : Nat) (x i : AV) : Option AV:=
 match i with
 | .d (.int _ n)=>
  match x with
  | .d (.str s)=>if ((E t).kind == 3) && decide (0 <= n) then (match s[n.toNat]? with
   | some b=>fF .u8 b.toNat
   | none=>none) else none
  | x=>if ((E t).kind == 6 && (x.isAgg && (E (E t).elem).kind != 0)) && decide (0 <= n /\ n < (E t).len) then yF (E (E t).elem) x (n.toNat * (E (E t).elem).size) else none
 | _=>none
theorem A8 {E : TE} {t : Nat} {x i v : AV} {K : AV -> Prop} (e : wO E t x i = some v) (hk : K v) : jx E t x i K:=by
 unfold wO at e
 split at e
 ·split at e
  ·simp only [jx,iI,aE]
   split at e
   ·split at e
    ·rw [iD] at e
     cases e
     simp_all
    ·cases e
   ·cases e
  ·rename_i hx
   split at e
   ·rename_i h
    simp only [Bool.and_eq_true,decide_eq_true_eq] at h
    simp only [jx]
    exact aH (by simp only [Bool.and_eq_true];exact h.1) ⟨h.2,sC e hk⟩
   ·cases e
 ·cases e
def fc (dflt : Nat) : Option AV -> Option Int
 | none=>some dflt
 | some (.d (.int _ n))=>some n
 | _=>none
theorem cJ {d : Nat} {o : Option AV} {n : Int} {K : Int -> Prop} (e : fc d o = some n) (hk : K n) : db d o K:=by
 unfold fc at e
 split at e<;>first | (cases e;exact hk) | cases e
def Bb (h : ae) (id s len : Nat) (cap : Option Nat) (u : Int) : Bool:=
 if decide (u <= len) then true else match cap with
  | some c=>decide (u <= c)
  | none=>(match h[id]? with
   | some o=>decide (o.st < 2 /\ s + u.toNat <= o.elems.length)
   | none=>false)
theorem Ep {h : ae} {id s len : Nat} {cap : Option Nat} {u : Int} (e : Bb h id s len cap u = true) : w6 h id s len cap u:=by
 unfold Bb at e
 split at e
 ·rename_i h1;exact .inl (of_decide_eq_true h1)
 ·right
  split at e
  ·exact of_decide_eq_true e
  ·split at e
   ·rename_i o ho
    have:=of_decide_eq_true e
    exact ⟨o,ho,this.1,this.2⟩
   ·cases e
def wS (E : TE) (t : Nat) (x : AV) (lo hi mx : Option AV) (h : ae) : Option AV:=
 match x with
 | .d (.str s)=>if (E t).kind == 3 && mx.isNone then (match fc 0 lo with
   | some l=>match fc s.length hi with
    | some u=>if decide (0 <= l /\ l <= u /\ u <= s.length) then some (.d (.str ((s.take u.toNat).drop l.toNat))) else none
    | none=>none
   | none=>none) else none
 | .nilS=>if (E t).kind == 4 && ((E (E t).elem).kind != 0 && (mx.isNone || hi.isSome)) then (match fc 0 lo with
   | some l=>match fc 0 hi with
    | some u=>match fc 0 mx with
     | some m=>if decide (l = 0 /\ u = 0 /\ m = 0) then some .nilS else none
     | none=>none
    | none=>none
   | none=>none) else none
 | .d (.fs x)=>if (E t).kind == 4 && (E (E t).elem).kind != 0 then (match fc 0 lo with
   | some l=>match fc x.length hi with
    | some u=>match mx with
     | none=>if decide (0 <= l /\ l <= u /\ u <= x.length) && x.all (fun y=>y.cells.length == (E (E t).elem).size) then some (.d (.fs ((x.take u.toNat).drop l.toNat))) else none
     | some _=>none
    | none=>none
   | none=>none) else none
 | .sl id s len k cap=>if (E t).kind == 4 && (k == (E (E t).elem).size && (E (E t).elem).kind != 0) then (match fc 0 lo with
   | some l=>match fc len hi with
    | some u=>match mx with
     | none=>if decide (0 <= l /\ l <= u) && Bb h id s len cap u then some (.sl id (s + l.toNat) (u.toNat - l.toNat) k (match cap with | some c=>some (c - l.toNat) | none=>none)) else none
     | some _=>if hi.isSome then (match fc 0 mx with
      | some m=>if decide (0 <= l /\ l <= u /\ u <= m /\ m <= len) then (if decide (l = m) then some .nilS else some (.sl id (s + l.toNat) (u.toNat - l.toNat) k (some (m.toNat - l.toNat)))) else none
      | none=>none) else none
    | none=>none
   | none=>none) else none
 | _=>none
theorem Bc {E : TE} {t : Nat} {x : AV} {lo hi mx : Option AV} {h0 : ae} {v : AV} {K : AV -> Prop} (e : wS E t x lo hi mx h0 = some v) (hk : K v) : ei E t x lo hi mx h0 K:=by
 unfold wS at e
 unfold ei
 split at e
 ·split at e
  ·rename_i h0
   split at e
   ·rename_i l hl
    split at e
    ·rename_i u hu
     split at e
     ·rename_i h;cases e
      exact aH h0 (cJ hl (cJ hu ⟨of_decide_eq_true h,hk⟩))
     ·cases e
    ·cases e
   ·cases e
  ·cases e
 ·split at e
  ·rename_i h0
   split at e
   ·rename_i l hl
    split at e
    ·rename_i u hu
     split at e
     ·rename_i m hm
      split at e
      ·rename_i h;cases e
       exact aH h0 (cJ hl (cJ hu (cJ hm ⟨of_decide_eq_true h,hk⟩)))
      ·cases e
     ·cases e
    ·cases e
   ·cases e
  ·cases e
 ·split at e
  ·rename_i h0
   split at e
   ·rename_i l hl
    split at e
    ·rename_i u hu
     split at e
     ·split at e
      ·rename_i h;cases e
       simp only [Bool.and_eq_true,decide_eq_true_eq,List.all_eq_true,beq_iff_eq] at h
       exact aH h0 (cJ hl (cJ hu ⟨⟨h.1.1,h.1.2.1,h.1.2.2,h.2⟩,hk⟩))
      ·cases e
     ·cases e
    ·cases e
   ·cases e
  ·cases e
 ·split at e
  ·rename_i h0
   split at e
   ·rename_i l hl
    split at e
    ·rename_i u hu
     split at e
     ·split at e
      ·rename_i h;cases e
       simp only [Bool.and_eq_true,decide_eq_true_eq] at h
       exact aH h0 (cJ hl (cJ hu ⟨⟨h.1.1,h.1.2,Ep h.2⟩,hk⟩))
      ·cases e
     ·split at e
      ·rename_i h1
       split at e
       ·rename_i m hm
        split at e
        ·rename_i h
         refine aH h0 (cJ hl (cJ hu (aH h1 (cJ hm ⟨of_decide_eq_true h,?_⟩))))
         split at e
         ·rename_i h2;cases e;exact bO h2 hk
         ·rename_i h2;cases e;exact bA (by simpa using h2) hk
        ·cases e
       ·cases e
      ·cases e
    ·cases e
   ·cases e
  ·cases e
 ·cases e
def CR (k : Nat) (h : ae) (x : AV) : Option (List AV):=
 match x with
 | .nilS=>some []
 | .d (.fs l)=>if l.all (fun y=>y.cells.length == k && y.memOk) then some (l.map .d) else none
 | .d (.str s)=>if k == 1 then some (s.map fR) else none
 | .sl id s len k' _=>match pV h id with
  | some o=>if k' == k && decide (s + len <= o.elems.length) && (((o.elems.drop s).take len).all AV.known) then some ((o.elems.drop s).take len) else none
  | none=>none
 | _=>none
theorem yK {k : Nat} {h : ae} {x : AV} {l : List AV} {K : List AV -> Prop} (e : CR k h x = some l) (hk : K l) : nV k h x K:=by
 unfold CR at e
 unfold nV
 split at e
 ·cases e;exact hk
 ·split at e
  ·rename_i h1;cases e
   simp only [List.all_eq_true,Bool.and_eq_true,beq_iff_eq] at h1
   exact ⟨h1,hk⟩
  ·cases e
 ·split at e
  ·rename_i h1;cases e;exact aH h1 hk
  ·cases e
 ·split at e
  ·rename_i o ho
   split at e
   ·rename_i h1;cases e
    simp only [Bool.and_eq_true,decide_eq_true_eq] at h1
    refine mq ho (aH h1.1.1 ⟨h1.1.2,?_⟩)
    rw [cO]
    refine ao (fun hl=>aH ?_ ?_) (fun hl=>aH h1.2 (by rw [dM];exact hk))
    ·have:=h1.2
     rwa [List.take_of_length_le (Nat.le_of_eq (beq_iff_eq.1 hl))] at this
    ·rwa [List.take_of_length_le (Nat.le_of_eq (beq_iff_eq.1 hl))] at hk
   ·cases e
  ·cases e
 ·cases e
def CP (t : TI) (base : AV) (new : List AV) (h : ae) : Option (AV × ae):=
 if t.kind != 0 && Nat.blt 0 t.bytes then (match base with
 | .nilS=>if decide (new.length * t.bytes <= 140737488355328) then some (.sl h.length 0 new.length t.size none,h ++ [{ elems:=new,k:=t.size,st:=0 }]) else none
 | .sl id s len k none=>match sG h id with
  | some o=>if k == t.size then (
   if decide (s + len + new.length <= o.elems.length) then some (.sl id s (len + new.length) k none,h.set id { o with elems:=eI o.elems (s + len) new })
   else if decide (s + len = o.elems.length /\ (len + new.length) * t.bytes <= 140737488355328) then some (.sl h.length 0 (len + new.length) k none,h.set id { o with st:=2 } ++ [{ o with elems:=o.elems.drop s ++ new }]) else none) else none
  | none=>none
 | .sl id s len k (some c)=>
   if decide (len + new.length <= c) then (match sG h id with
    | some o=>if k == t.size && decide (s + c <= o.elems.length) then some (.sl id s (len + new.length) k (some c),h.set id { o with elems:=eI o.elems (s + len) new }) else none
    | none=>none)
   else (match pV h id with
    | some o=>if k == t.size && decide (s + len <= o.elems.length /\ (len + new.length) * t.bytes <= 140737488355328) then some (.sl h.length 0 (len + new.length) k none,h ++ [{ o with elems:=(o.elems.drop s).take len ++ new,st:=0 }]) else none
    | none=>none)
 | _=>none) else none
theorem yE {t : TI} {base : AV} {new : List AV} {h h' : ae} {v : AV} {K : KV} (e : CP t base new h = some (v,h')) (hk : K v h') : pE t base new h K:=by
 unfold CP at e
 unfold pE
 split at e
 ·rename_i h0
  refine aH h0 ?_
  split at e
  ·split at e
   ·rename_i h1;cases e
    refine ⟨of_decide_eq_true h1,?_⟩
    rw [bT];exact hk
   ·cases e
  ·split at e
   ·rename_i o ho
    split at e
    ·rename_i h1
     refine lE ho (aH h1 ?_)
     split at e
     ·rename_i h2;cases e
      refine bO h2 ?_
      rw [aU];exact hk
     ·rename_i h2
      refine bA (by simpa using h2) ?_
      split at e
      ·rename_i h3;cases e
       refine ⟨of_decide_eq_true h3,?_⟩
       rw [aU,cO,bT]
       simpa using hk
      ·cases e
    ·cases e
   ·cases e
  ·split at e
   ·rename_i h1
    refine bO h1 ?_
    split at e
    ·rename_i o ho
     split at e
     ·rename_i h2;cases e
      simp only [Bool.and_eq_true,decide_eq_true_eq] at h2
      refine lE ho (aH h2.1 ⟨h2.2,?_⟩)
      rw [aU];exact hk
     ·cases e
    ·cases e
   ·rename_i h1
    refine bA (by simpa using h1) ?_
    split at e
    ·rename_i o ho
     split at e
     ·rename_i h2;cases e
      simp only [Bool.and_eq_true,decide_eq_true_eq] at h2
      refine mq ho (aH h2.1 ⟨h2.2,?_⟩)
      rw [bT];exact hk
     ·cases e
    ·cases e
  ·cases e
 ·cases e
def uS (f : Int -> Int -> Int) : AV -> List AV -> Option AV
 | x,[]=>some x
 | .d (.int k a),.d (.int _ b) :: l=>uS f (.d (.int k (f a b))) l
 | _,_=>none
theorem sE {f : Int -> Int -> Int} {v : AV} {K : AV -> Prop} (hk : K v) : ∀ (l : List AV) (x : AV),uS f x l = some v -> lP f x l K
 | [],x,e=>by simp only [uS,Option.some.injEq] at e;subst e;simpa [lP] using hk
 | y :: l,x,e=>by
  unfold uS at e
  split at e
  ·rename_i h;cases h
  ·rename_i h;cases h;simp only [lP];exact sE hk l _ e
  ·cases e
def GL (x : AV) : Option AV:=
 match x with
 | .nilS=>some (.d (.int .i64 0))
 | .sl _ _ len _ _=>fF .i64 len
 | .d (.fs l)=>fF .i64 l.length
 | .d (.str s)=>fF .i64 s.length
 | _=>none
theorem GM {x v : AV} {K : AV -> Prop} (e : GL x = some v) (hk : K v) : EH x K:=by
 unfold GL at e
 simp only [iD] at e
 split at e<;>first | (cases e;exact hk) | cases e
def GG (x : AV) : Option AV:=
 match x with
 | .nilS=>some (.d (.int .i64 0))
 | .sl _ _ _ _ (some c)=>fF .i64 c
 | _=>none
theorem GH {x v : AV} {K : AV -> Prop} (e : GG x = some v) (hk : K v) : D9 x K:=by
 unfold GG at e
 simp only [iD] at e
 split at e<;>first | (cases e;exact hk) | cases e
def Py (E : TE) (ts : List Nat) (x : AV) : Bool:=match ts with | [t]=>(match x with | .d (.str _)=>(E t).kind == 3 | _=>(E t).kind == 4) | _=>false
def pS (E : TE) (b : Builtin) (ts : List Nat) (args : List AV) (h : ae) : Option (AV × ae):=
 match b,args with
 | .len,[x]=>if Py E ts x && !O6 x then (match GL x with
  | some v=>some (v,h)
  | none=>none) else none
 | .append,[s,x]=>
  match ts with
  | t :: t' :: _=>if (E t).kind == 4 && !((E t').kind == 0) then
    (if (E t').kind == 1 then
     (match x with
      | .d (.int _ n)=>if decide (0 <= n /\ n < 9223372036854775808 /\ n * (E (E t).elem).bytes <= 140737488355328) then CP (E (E t).elem) s (List.replicate n.toNat (E (E t).elem).zero) h else none
      | _=>none)
    else (match CR (E (E t).elem).size h x with
     | some new=>CP (E (E t).elem) s new h
     | none=>none)) else none
  | _=>none
 | .copy,[.sl id s len k _,x]=>
  match ts with
  | t :: _=>if (E t).kind == 4 && (E (E t).elem).kind != 0 then (match CR (E (E t).elem).size h (xy len x) with
   | some new=>match sG h id with
    | some o=>if k == (E (E t).elem).size && decide (s + len <= o.elems.length) then some (.d (.int .i64 (min new.length len : Nat)),h.set id { o with elems:=eI o.elems s (new.take len) }) else none
    | none=>none
   | none=>none) else none
  | _=>none
 | .clear,[.sl id s len k _]=>
  match ts with
  | t :: _=>if (E t).kind == 4 && (E (E t).elem).kind != 0 then (match sG h id with
    | some o=>if k == (E (E t).elem).size && decide (s + len <= o.elems.length) then some (.tup [],h.set id { o with elems:=eI o.elems s (List.replicate len (E (E t).elem).zero) }) else none
    | none=>none) else none
  | _=>none
 | .max,x :: l=>if x.isInt then (match uS jc x l with
  | some v=>some (v,h)
  | none=>none) else none
 | .min,x :: l=>if x.isInt then (match uS kW x l with
  | some v=>some (v,h)
  | none=>none) else none
 | .cap,[x]=>if G6 E ts then (match GG x with
  | some v=>some (v,h)
  | none=>none) else none
 | _,_=>none
theorem wJ {E : TE} {b : Builtin} {ts : List Nat} {args : List AV} {h h' : ae} {v : AV} {K : KV} (e : pS E b ts args h = some (v,h')) (hk : K v h') : et E b ts args h K:=by
 unfold pS at e
 unfold et
 split at e
 ·split at e
  ·rename_i h1
   split at e
   ·rename_i v' hv;cases e
    simp only [Bool.and_eq_true,Bool.not_eq_true'] at h1
    exact bA h1.2 (aH h1.1 (GM hv hk))
   ·cases e
  ·cases e
 ·split at e
  ·split at e
   ·rename_i h1
    refine aH h1 ?_
    split at e
    ·rename_i h2
     refine bO h2 ?_
     split at e
     ·split at e
      ·rename_i h3
       exact ⟨of_decide_eq_true h3,yE e hk⟩
      ·cases e
     ·cases e
    ·rename_i h2
     refine bA (by simpa using h2) ?_
     split at e
     ·rename_i new hn
      exact yK hn (yE e hk)
     ·cases e
   ·cases e
  ·cases e
 ·split at e
  ·split at e
   ·rename_i h1
    refine aH h1 ?_
    split at e
    ·rename_i new hn
     split at e
     ·rename_i o ho
      split at e
      ·rename_i h2;cases e
       simp only [Bool.and_eq_true,decide_eq_true_eq] at h2
       rw [qo]
       refine yK hn (lE ho (aH h2.1 ⟨h2.2,?_⟩))
       rw [aU];exact hk
      ·cases e
     ·cases e
    ·cases e
   ·cases e
  ·cases e
 ·split at e
  ·split at e
   ·rename_i h1
    refine aH h1 ?_
    split at e
    ·rename_i o ho
     split at e
     ·rename_i h2;cases e
      simp only [Bool.and_eq_true,decide_eq_true_eq] at h2
      refine lE ho (aH h2.1 ⟨h2.2,?_⟩)
      rw [aU];exact hk
     ·cases e
    ·cases e
   ·cases e
  ·cases e
 ·split at e
  ·rename_i h1
   split at e
   ·rename_i v' hv;cases e
    exact aH h1 (sE hk _ _ hv)
   ·cases e
  ·cases e
 ·split at e
  ·rename_i h1
   split at e
   ·rename_i v' hv;cases e
    exact aH h1 (sE hk _ _ hv)
   ·cases e
  ·cases e
 ·split at e
  ·rename_i h1
   split at e
   ·rename_i v' hv;cases e
    exact aH h1 (GH hv hk)
   ·cases e
  ·cases e
 ·cases e
def rX : List D -> Option (List UInt8)
 | []=>some []
 | .int .u8 (.ofNat n) :: l=>if decide (n < 256) then (match rX l with
  | some r=>some (UInt8.ofNat n :: r)
  | none=>none) else none
 | _=>none
theorem uL : ∀ (l : List D) (s : List UInt8),rX l = some s -> l = s.map (fun b=>D.int .u8 b.toNat)
 | [],s,e=>by simp only [rX,Option.some.injEq] at e;subst e;rfl
 | x :: l,s,e=>by
  unfold rX at e
  split at e
  ·rename_i h;cases h
  ·rename_i n l' h
   cases h
   split at e
   ·rename_i hn
    split at e
    ·rename_i r hr;cases e
     have:=uL _ _ hr
     subst this
     have hn' : n < 256:=of_decide_eq_true hn
     simp only [List.map_cons,List.cons.injEq,D.int.injEq,true_and,and_true]
     have : (UInt8.ofNat n).toNat = n:=by simp [UInt8.toNat_ofNat'];omega
     rw [this];rfl
    ·cases e
   ·cases e
  ·cases e
def rW : List AV -> Option (List UInt8)
 | []=>some []
 | .d (.int .u8 (.ofNat n)) :: l=>if decide (n < 256) then (match rW l with
  | some r=>some (UInt8.ofNat n :: r)
  | none=>none) else none
 | _=>none
theorem uK : ∀ (l : List AV) (s : List UInt8),rW l = some s -> l = s.map fR
 | [],s,e=>by simp only [rW,Option.some.injEq] at e;subst e;rfl
 | x :: l,s,e=>by
  unfold rW at e
  split at e
  ·rename_i h;cases h
  ·rename_i n l' h
   cases h
   split at e
   ·rename_i hn
    split at e
    ·rename_i r hr;cases e
     have:=uK _ _ hr
     subst this
     have hn' : n < 256:=of_decide_eq_true hn
     simp only [List.map_cons,List.cons.injEq,and_true,fR,AV.d.injEq,D.int.injEq,true_and]
     have : (UInt8.ofNat n).toNat = n:=by simp [UInt8.toNat_ofNat'];omega
     rw [this];rfl
    ·cases e
   ·cases e
  ·cases e
def A5 (E : TE) (src dst : Nat) (x : AV) (h : ae) : Option (AV × ae):=
 match x with
 | .d (.int _ n)=>if (E dst).kind == 1 && !((E src).kind == 0) then GX ((E dst).ik.wrap n) (fun m=>some (.d (.int (E dst).ik m),h)) else none
 | .d (.str s)=>
  if (E dst).kind == 3 then (if !((E src).kind == 0) then some (x,h) else none)
   else if ((E dst).kind == 4 && !((E src).kind == 0)) && ((E (E dst).elem).kind == 1 && (E (E dst).elem).ik == .u8) then some (.sl h.length 0 s.length 1 none,h ++ [{ elems:=s.map fR,k:=1,st:=0 }]) else none
 | .nilS=>if ((E dst).kind == 3 && (E src).kind == 4) && ((E (E src).elem).kind == 1 && (E (E src).elem).ik == .u8) then some (.d (.str []),h) else none
 | .d (.fs l)=>if ((E dst).kind == 3 && (E src).kind == 4) && ((E (E src).elem).kind == 1 && (E (E src).elem).ik == .u8) then
   (match rX l with
   | some s=>some (.d (.str s),h)
   | none=>none) else none
 | .sl id s len k _=>if ((E dst).kind == 3 && (E src).kind == 4) && ((E (E src).elem).kind == 1 && (E (E src).elem).ik == .u8) then
   (match pV h id with
   | some o=>if k == 1 && decide (s + len <= o.elems.length) then (match rW ((o.elems.drop s).take len) with
    | some b=>some (.d (.str b),h)
    | none=>none) else none
   | none=>none) else none
 | _=>none
theorem Em {E : TE} {src dst : Nat} {x : AV} {h h' : ae} {v : AV} {K : KV} (e : A5 E src dst x h = some (v,h')) (hk : K v h') : jQ E src dst x h K:=by
 unfold A5 at e
 unfold jQ
 split at e
 ·split at e
  ·rename_i h1
   rw [wW] at e
   cases e
   exact aH h1 hk
  ·cases e
 ·split at e
  ·rename_i h1
   refine bO h1 ?_
   split at e
   ·rename_i h2;cases e;exact aH h2 hk
   ·cases e
  ·rename_i h1
   refine bA (by simpa using h1) ?_
   split at e
   ·rename_i h2;cases e
    refine aH h2 ?_
    rw [bT];exact hk
   ·cases e
 ·split at e
  ·rename_i h1;cases e;exact aH h1 hk
  ·cases e
 ·split at e
  ·rename_i h1
   split at e
   ·rename_i s hs;cases e
    exact aH h1 ⟨s,uL _ _ hs,hk⟩
   ·cases e
  ·cases e
 ·split at e
  ·rename_i h1
   split at e
   ·rename_i o ho
    split at e
    ·rename_i h2
     simp only [Bool.and_eq_true,decide_eq_true_eq] at h2
     split at e
     ·rename_i b hb;cases e
      exact aH h1 (mq ho (aH h2.1 ⟨b,⟨h2.2,uK _ _ hb⟩,hk⟩))
     ·cases e
    ·cases e
   ·cases e
  ·cases e
 ·cases e
def pT (E : TE) (t : TI) (T : List AV) : List (Nat × Operand) -> List AV -> Option (List AV)
 | [],cs=>some cs
 | (i,x) :: l,cs=>
  if t.kind == 5 then
   (match t.fields[i]? with
   | some p=>if decide (p.1 + (E p.2).size <= cs.length) && (gQ (E p.2) (opnd T x) && (E p.2).kind != 0) then pT E t T l (o6 cs p.1 (opnd T x).cells) else none
   | none=>none)
  else if (t.kind == 6 && (E t.elem).kind != 0) && (decide (i * (E t.elem).size + (E t.elem).size <= cs.length) && gQ (E t.elem) (opnd T x)) then pT E t T l (o6 cs (i * (E t.elem).size) (opnd T x).cells) else none
theorem pU {E : TE} {t : TI} {T : List AV} {r : List AV} {K : List AV -> Prop} (hk : K r) : ∀ (l : List (Nat × Operand)) (cs : List AV),pT E t T l cs = some r -> fG E t T l cs K
 | [],cs,e=>by simp only [pT,Option.some.injEq] at e;subst e;simpa [fG] using hk
 | (i,x) :: l,cs,e=>by
  unfold pT at e
  unfold fG
  rw [aG]
  split at e
  ·rename_i h1
   refine bO h1 ?_
   split at e
   ·rename_i p hp
    split at e
    ·rename_i h2
     refine cj hp (aH h2 ?_)
     rw [gw]
     exact pU hk l _ e
    ·cases e
   ·cases e
  ·rename_i h1
   refine bA (by simpa using h1) ?_
   split at e
   ·rename_i h2
    refine aH h2 ?_
    rw [gw]
    exact pU hk l _ e
   ·cases e
def yI (t : TI) (T : List AV) : List (Nat × Operand) -> List AV -> Option (List AV)
 | [],es=>some es
 | (i,x) :: l,es=>if gQ t (opnd T x) && decide (i < es.length) then yI t T l (es.set i (opnd T x)) else none
theorem yJ {t : TI} {T : List AV} {r : List AV} {K : List AV -> Prop} (hk : K r) : ∀ (l : List (Nat × Operand)) (es : List AV),yI t T l es = some r -> iV t T l es K
 | [],cs,e=>by simp only [yI,Option.some.injEq] at e;subst e;simpa [iV] using hk
 | (i,x) :: l,es,e=>by
  unfold yI at e
  unfold iV
  rw [aG]
  split at e
  ·rename_i h1
   refine aH h1 ?_
   rw [aU]
   exact yJ hk l _ e
  ·cases e
def yH (T : List AV) : Option Operand -> Option AV
 | none=>none
 | some x=>some (opnd T x)
theorem BL (T : List AV) (o : Option Operand) (K : Option AV -> Prop) : iU T o K = K (yH T o):=by
 cases o<;>simp [iU,yH,aG]
abbrev kR:=Nat -> List AV -> ae -> Option (AV × ae)
def GF (call : kR) (f : AV) (args : List AV) (h : ae) : Option (AV × ae):=
 match f with
 | .d (.fn f first cap)=>call f (first.map .d ++ (args ++ cap.map .d)) h
 | .fn f first cap=>call f (first ++ (args ++ cap)) h
 | _=>none
def pC (v : Option AV) (h : ae) : Option (AV × ae):=match v with
 | some v=>some (v,h)
 | none=>none
theorem dG {v : Option AV} {h : ae} {r : AV × ae} (e : pC v h = some r) : v = some r.1 /\ r.2 = h:=by
 unfold pC at e
 split at e
 ·cases e;exact ⟨rfl,rfl⟩
 ·cases e
def KM (a : AV) (h : ae) : Option (AV × ae):=match a with
 | .ptr ..=>some (a,h)
 | .fn ..=>some (a,h)
 | .d (.fp ..)=>some (a,h)
 | .d (.fn ..)=>some (a,h)
 | _=>none
def I3 (h : ae) (id : Nat) : Option AO:=match h[id]? with
 | some o=>if Nat.beq o.st 3 then some o else none
 | none=>none
theorem rn {h : ae} {id : Nat} {o : AO} {K : AO -> Prop} (e : I3 h id = some o) (k : K o) : jg h id K:=by
 unfold I3 at e
 split at e
 ·rename_i o' ho
  split at e
  ·rename_i h1;cases e;exact cj ho (aH h1 k)
  ·cases e
 ·cases e
def sD (E : TE) (t : Nat) (x i : AV) (h : ae) : Option AV:=
 match x with
 | .mp id=>(match AC (E (E t).elem).zero with
  | some z=>if (E (E t).elem).kind != 0 then (match I3 h id with
   | some o=>if (E t).kind == 9 && (E (E t).len).kind == 1 then (match sW (E (E t).len).ik i with
     | some n=>(match pR (E (E t).len).ik o.elems with
      | some L=>some (.d (jZ z L n))
      | none=>none)
     | none=>none)
    else if (E t).kind == 9 && (E (E t).len).kind == 3 then (match qe i with
     | some n=>(match mj o.elems with
      | some L=>some (.d (jZ z L n))
      | none=>none)
     | none=>none) else none
   | none=>none) else none
  | none=>none)
 | _=>none
theorem yG {E : TE} {t : Nat} {x i : AV} {h : ae} {v : AV} {K : AV -> Prop} (e : sD E t x i h = some v) (k : K v) : gu E t x i h K:=by
 unfold sD at e
 unfold gu
 split at e
 ·split at e
  ·rename_i z hz
   split at e
   ·rename_i h1
    split at e
    ·rename_i o ho
     split at e
     ·rename_i h2
      split at e
      ·rename_i n hn
       split at e
       ·rename_i L hL;cases e
        refine bO h2 ?_
        simp only [hn,hz]
        exact aH h1 (rn ho ⟨L,hL,k⟩)
       ·cases e
      ·cases e
     ·rename_i h2
      split at e
      ·rename_i h3
       split at e
       ·rename_i n hn
        split at e
        ·rename_i L hL;cases e
         refine bA (by simpa using h2) (aH h3 ?_)
         simp only [hn,hz]
         exact aH h1 (rn ho ⟨L,hL,k⟩)
        ·cases e
       ·cases e
      ·cases e
    ·cases e
   ·cases e
  ·cases e
 ·cases e
def oG (E : TE) (t : Nat) (x i v : AV) (h : ae) : Option ae:=
 match x with
 | .mp id=>(match z7 v with
  | some d=>(match I3 h id with
   | some o=>if (E t).kind == 9 && (E (E t).len).kind == 1 then (match sW (E (E t).len).ik i with
     | some n=>(match pR (E (E t).len).ik o.elems with
      | some L=>some (h.set id { o with elems:=(nE L n d).map (I0 (E (E t).len).ik) })
      | none=>none)
     | none=>none)
    else if (E t).kind == 9 && (E (E t).len).kind == 3 then (match qe i with
     | some n=>(match mj o.elems with
      | some L=>some (h.set id { o with elems:=(nE L n d).map I1 })
      | none=>none)
     | none=>none) else none
   | none=>none)
  | none=>none)
 | _=>none
theorem qB {E : TE} {t : Nat} {x i v : AV} {h h' : ae} {K : ae -> Prop} (e : oG E t x i v h = some h') (k : K h') : eN E t x i v h K:=by
 unfold oG at e
 unfold eN
 split at e
 ·split at e
  ·rename_i d hd
   split at e
   ·rename_i o ho
    split at e
    ·rename_i h2
     split at e
     ·rename_i n hn
      split at e
      ·rename_i L hL;cases e
       refine bO h2 ?_
       simp only [hn,hd]
       exact rn ho ⟨L,hL,by rw [aU];exact k⟩
      ·cases e
     ·cases e
    ·rename_i h2
     split at e
     ·rename_i h3
      split at e
      ·rename_i n hn
       split at e
       ·rename_i L hL;cases e
        refine bA (by simpa using h2) (aH h3 ?_)
        simp only [hn,hd]
        exact rn ho ⟨L,hL,by rw [aU];exact k⟩
       ·cases e
      ·cases e
     ·cases e
   ·cases e
  ·cases e
 ·cases e
def I4 (E : TE) (call : kR) (T : List AV) (h : ae) (o : Op) : Option (AV × ae):=
 match o with
 | .move x=>some (opnd T x,h)
 | .assign x=>some (opnd T x,h)
 | .pick c a b=>match opnd T c with
  | .d (.bool c)=>if c then some (opnd T a,h) else some (opnd T b,h)
  | _=>none
 | .alloc t=>if (E t).kind != 0 then some (.ptr h.length 0 0,h ++ [{ elems:=[(E t).zero],k:=(E t).size,st:=0 }]) else none
 | .box t x=>if (E t).kind != 0 && gQ (E t) (opnd T x) then some (.ptr h.length 0 0,h ++ [{ elems:=[opnd T x],k:=(E t).size,st:=0 }]) else none
 | .build t ps=>if (E t).kind == 5 || ((E t).kind == 6 && (E (E t).elem).kind != 0) then (match pT E (E t) T ps.toList (E t).zero.cells with
  | some cs=>some (.agg cs,h)
  | none=>none) else none
 | .buildSlice t n ps=>if (E t).kind == 4 && (decide (n * (E (E t).elem).size <= 16777216) && (E (E t).elem).kind != 0) then
   (if n == 0 then (if ps.toList.isEmpty then some (.nilS,h) else none)
   else (match yI (E (E t).elem) T ps.toList (List.replicate n (E (E t).elem).zero) with
    | some es=>if (E t).len == 0 then some (.sl h.length 0 n (E (E t).elem).size (some n),h ++ [{ elems:=es,k:=(E (E t).elem).size,st:=0 }]) else (match vl (bl 8 []) es with
     | some ds=>some (.d (.fs ds),h)
     | none=>none)
    | none=>none)) else none
 | .load t a=>pC (wQ (E t) (opnd T a) h) h
 | .store t a v=>match wT (E t) (opnd T a) (opnd T v) h with
  | some h'=>some (.und,h')
  | none=>none
 | .nilCheck x=>KM (opnd T x) h
 | .binOp op t x y _=>if xa y then pC (Ba E op t (opnd T x)) h else pC (GD E op t (opnd T x) (opnd T y)) h
 | .unOp op _ x=>pC (LU op (opnd T x)) h
 | .convert src dst x=>A5 E src dst (opnd T x) h
 | .makeFunc fn first cap=>match fn with
  | .func f=>some (.fn f (first.toList.map (opnd T)) (cap.toList.map (opnd T)),h)
  | _=>none
 | .makeSlice t l c=>match opnd T l,opnd T c with
  | .d (.int _ l),.d (.int _ c)=>if ((E t).kind == 4 && (E (E t).elem).kind != 0) && decide (0 <= l /\ l <= c /\ c < 9223372036854775808 /\ c * (E (E t).elem).bytes <= 140737488355328) then
    some (.sl h.length 0 l.toNat (E (E t).elem).size (some c.toNat),h ++ [{ elems:=List.replicate c.toNat (E (E t).elem).zero,k:=(E (E t).elem).size,st:=0 }]) else none
  | _,_=>none
 | .slice t x lo hi mx=>pC (wS E t (opnd T x) (yH T lo) (yH T hi) (yH T mx) h) h
 | .fieldAddr s x f=>pC (lB E s (opnd T x) f) h
 | .field s x f=>pC (wN E s (opnd T x) f) h
 | .indexAddr t x i=>pC (lD E t (opnd T x) (opnd T i)) h
 | .index t x i=>pC (wO E t (opnd T x) (opnd T i)) h
 | .extract x i=>match opnd T x with
  | .tup l=>pC l[i]? h
  | .d (.tup l)=>(match l[i]? with
   | some v=>some (.d v,h)
   | none=>none)
  | _=>none
 | .call c=>match c.callee with
  | .value f=>GF call (opnd T f) (c.args.toList.map (opnd T)) h
  | .builtin b=>pS E b c.argTypes.toList (c.args.toList.map (opnd T)) h
  | _=>none
 | .makeMap t r=>if (E t).kind == 9 && r.isNone then some (.mp h.length,h ++ [{ elems:=[],k:=1,st:=3 }]) else none
 | .lookup t x i c=>if c then none else pC (sD E t (opnd T x) (opnd T i) h) h
 | .mapUpdate t m i v=>match oG E t (opnd T m) (opnd T i) (opnd T v) h with
  | some h'=>some (.und,h')
  | none=>none
 | .insert t m i v=>match oG E t (opnd T m) (opnd T i) (opnd T v) h with
  | some h'=>some (.und,h')
  | none=>none
 | _=>none
theorem CQ {E : TE} {R : ep} {call : kR} (hc : ∀ f args h r h', call f args h = some (r, h') -> R.call f args h r h') {T : List AV} {h h' : ae} {o : Op} {v : AV} {K : KV} (e : I4 E call T h o = some (v, h')) (hk : K v h') : kG E R T h o K := by
 cases o<;>simp only [I4] at e<;>simp only [kG,aG,dJ,BL,j8,bT]<;>try (cases e;done)
 case move x=>cases e;exact hk
 case assign x=>cases e;exact hk
 case pick c a b=>
  split at e
  ·rename_i c' hc'
   split at e
   ·rename_i h1;cases e;simp only [hc'];exact bO h1 hk
   ·rename_i h1;cases e;simp only [hc'];exact bA (by simpa using h1) hk
  ·cases e
 case alloc t=>
  split at e
  ·rename_i h1;cases e;exact aH h1 hk
  ·cases e
 case box t x=>
  split at e
  ·rename_i h1;cases e;exact aH h1 hk
  ·cases e
 case build t ps=>
  split at e
  ·rename_i h1
   split at e
   ·rename_i cs hcs;cases e;exact aH h1 (pU (K:=fun cs=>K (.agg cs) _) hk _ _ hcs)
   ·cases e
  ·cases e
 case buildSlice t n ps=>
  split at e
  ·rename_i h1
   refine aH h1 ?_
   split at e
   ·rename_i h2
    refine bO h2 ?_
    split at e
    ·rename_i h3;cases e;exact aH h3 hk
    ·cases e
   ·rename_i h2
    refine bA (by simpa using h2) ?_
    split at e
    ·rename_i es hes
     refine yJ ?_ _ _ hes
     split at e
     ·rename_i h3;cases e;exact bO h3 hk
     ·rename_i h3
      split at e
      ·rename_i ds hds;cases e
       refine bA (by simpa using h3) ?_
       unfold kS
       simp only [hds]
       exact hk
      ·cases e
    ·cases e
  ·cases e
 case load t a=>
  obtain ⟨e1,e2⟩:=dG e
  cases e2
  exact uR (K:=fun v=>K v _) e1 hk
 case store t a x=>
  split at e
  ·rename_i h1 he;cases e;exact Bd he hk
  ·cases e
 case nilCheck x=>
  unfold KM at e
  split at e<;>first | (cases e;done) | (rename_i hx;rw [hx];simp only [hx] at e;cases e;exact hk) | (rename_i hx;simp only [hx] at e ⊢;cases e;exact hk)
 case binOp op t x y b=>
  split at e
  ·rename_i h1
   obtain ⟨e1,e2⟩:=dG e
   cases e2
   exact bO h1 (En (K:=fun v=>K v _) e1 hk)
  ·rename_i h1
   obtain ⟨e1,e2⟩:=dG e
   cases e2
   exact bA (by simpa using h1) (GE (K:=fun v=>K v _) e1 hk)
 case unOp op t x=>
  obtain ⟨e1,e2⟩:=dG e
  cases e2
  exact I5 (K:=fun v=>K v _) e1 hk
 case convert src dst x=>exact Em e hk
 case makeFunc fn first cap=>
  split at e
  ·cases e;exact hk
  ·cases e
 case makeSlice t l c=>
  split at e
  ·rename_i l' k1 c' h1 h2
   split at e
   ·rename_i h3;cases e
    simp only [Bool.and_eq_true,decide_eq_true_eq] at h3
    simp only [h1,h2]
    exact aH (by simp only [Bool.and_eq_true];exact h3.1) ⟨h3.2,hk⟩
   ·cases e
  ·cases e
 case slice t x lo hi mx=>
  obtain ⟨e1,e2⟩:=dG e
  cases e2
  exact Bc (K:=fun v=>K v _) e1 hk
 case fieldAddr s x f=>
  obtain ⟨e1,e2⟩:=dG e
  cases e2
  exact sA (K:=fun v=>K v _) e1 hk
 case field s x f=>
  obtain ⟨e1,e2⟩:=dG e
  cases e2
  exact A7 (K:=fun v=>K v _) e1 hk
 case indexAddr t x i=>
  obtain ⟨e1,e2⟩:=dG e
  cases e2
  exact sB (K:=fun v=>K v _) e1 hk
 case index t x i=>
  obtain ⟨e1,e2⟩:=dG e
  cases e2
  exact A8 (K:=fun v=>K v _) e1 hk
 case extract x i=>
  split at e
  ·rename_i l hx
   obtain ⟨e1,e2⟩:=dG e
   cases e2
   simp only [hx]
   exact cj e1 hk
  ·rename_i l hx
   split at e
   ·rename_i v' hv;cases e
    simp only [hx]
    exact cj hv hk
   ·cases e
  ·cases e
 case call c=>
  split at e
  ·rename_i f hf
   simp only [hf]
   unfold GF at e
   unfold om
   split at e
   ·rename_i h1;simp only [h1];exact ⟨_,_,hc _ _ _ _ _ e,hk⟩
   ·rename_i h1;simp only [h1];exact ⟨_,_,hc _ _ _ _ _ e,hk⟩
   ·cases e
  ·rename_i f hf
   simp only [hf]
   exact wJ e hk
  ·cases e
 case makeMap t r=>
  split at e
  ·rename_i h1;cases e;exact aH h1 hk
  ·cases e
 case lookup t x i c=>
  split at e
  ·cases e
  ·rename_i h1
   obtain ⟨e1,e2⟩:=dG e
   cases e2
   exact aH (by simpa using h1) (yG (K:=fun v=>K v _) e1 hk)
 case mapUpdate t m i v=>
  split at e
  ·rename_i h1 he;cases e;exact qB he hk
  ·cases e
 case insert t m i v=>
  split at e
  ·rename_i h1 he;cases e;exact qB he hk
  ·cases e
end Dw
namespace Dw
open Go Go.RowKit
mutual
def kc : D -> D -> Bool
 | .int k n,.int k' m=>k == k' && decide (n = m)
 | .bool a,.bool b=>a == b
 | .str a,.str b=>decide (a = b)
 | .agg l,.agg r=>jK l r
 | .fs l,.fs r=>jK l r
 | .fp x o,.fp y p=>kc x y && decide (o = p)
 | .fn f a c,.fn g b d=>decide (f = g) && (jK a b && jK c d)
 | .tup l,.tup r=>jK l r
 | _,_=>false
def jK : List D -> List D -> Bool
 | [],[]=>true
 | x :: l,y :: r=>kc x y && jK l r
 | _,_=>false
end
mutual
theorem pk : ∀ (x y : D),kc x y = true -> x = y
 | .int k n,y,h=>by cases y<;>simp_all [kc]
 | .bool a,y,h=>by cases y<;>simp_all [kc]
 | .str a,y,h=>by cases y<;>simp_all [kc]
 | .agg l,y,h=>by
  cases y<;>simp only [kc,Bool.false_eq_true] at h
  rename_i r;rw [gh l r h]
 | .fs l,y,h=>by
  cases y<;>simp only [kc,Bool.false_eq_true] at h
  rename_i r;rw [gh l r h]
 | .fp x o,y,h=>by
  cases y<;>simp only [kc,Bool.false_eq_true,Bool.and_eq_true,decide_eq_true_eq] at h
  rename_i r p;rw [pk x r h.1,h.2]
 | .fn f a c,y,h=>by
  cases y<;>simp only [kc,Bool.false_eq_true,Bool.and_eq_true,decide_eq_true_eq] at h
  rename_i g b d;rw [h.1,gh a b h.2.1,gh c d h.2.2]
 | .tup l,y,h=>by
  cases y<;>simp only [kc,Bool.false_eq_true] at h
  rename_i r;rw [gh l r h]
theorem gh : ∀ (x y : List D),jK x y = true -> x = y
 | [],y,h=>by cases y<;>simp_all [jK]
 | x :: l,y,h=>by
  cases y<;>simp only [jK,Bool.false_eq_true,Bool.and_eq_true] at h
  rename_i y r;rw [pk x y h.1,gh l r h.2]
end
mutual
def kb : AV -> AV -> Bool
 | .d x,.d y=>kc x y
 | .nilS,.nilS=>true
 | .ptr i e o,.ptr i' e' o'=>decide (i = i') && (decide (e = e') && decide (o = o'))
 | .sl i s l k c,.sl i' s' l' k' c'=>decide (i = i') && (decide (s = s') && (decide (l = l') && (decide (k = k') && decide (c = c'))))
 | .agg l,.agg r=>kN l r
 | .fn f a c,.fn g b d=>decide (f = g) && (kN a b && kN c d)
 | .tup l,.tup r=>kN l r
 | .und,.und=>true
 | .junk,.junk=>true
 | .mp a,.mp b=>decide (a = b)
 | _,_=>false
def kN : List AV -> List AV -> Bool
 | [],[]=>true
 | x :: l,y :: r=>kb x y && kN l r
 | _,_=>false
end
mutual
theorem HY : ∀ (x y : AV),kb x y = true -> x = y
 | .d x,y,h=>by
  cases y<;>simp only [kb,Bool.false_eq_true] at h
  rename_i r;rw [pk x r h]
 | .nilS,y,h=>by cases y<;>simp_all [kb]
 | .ptr ..,y,h=>by cases y<;>simp_all [kb]
 | .sl ..,y,h=>by cases y<;>simp_all [kb]
 | .agg l,y,h=>by
  cases y<;>simp only [kb,Bool.false_eq_true] at h
  rename_i r;rw [iq l r h]
 | .fn f a c,y,h=>by
  cases y<;>simp only [kb,Bool.false_eq_true,Bool.and_eq_true,decide_eq_true_eq] at h
  rename_i g b d;rw [h.1,iq a b h.2.1,iq c d h.2.2]
 | .tup l,y,h=>by
  cases y<;>simp only [kb,Bool.false_eq_true] at h
  rename_i r;rw [iq l r h]
 | .raw v,y,h=>by cases y<;>simp_all [kb]
 | .und,y,h=>by cases y<;>simp_all [kb]
 | .junk,y,h=>by cases y<;>simp_all [kb]
 | .mp a,y,h=>by cases y<;>simp_all [kb]
theorem iq : ∀ (x y : List AV),kN x y = true -> x = y
 | [],y,h=>by cases y<;>simp_all [kN]
 | x :: l,y,h=>by
  cases y<;>simp only [kN,Bool.false_eq_true,Bool.and_eq_true] at h
  rename_i y r;rw [HY x y h.1,iq l r h.2]
end
def zX : Option AO -> Option AO -> Bool
 | none,none=>true
 | some a,some b=>kN a.elems b.elems && (decide (a.k = b.k) && decide (a.st = b.st))
 | _,_=>false
theorem tV {x y : Option AO} (h : zX x y = true) : x = y:=by
 unfold zX at h
 split at h
 ·rfl
 ·rename_i a b
  simp only [Bool.and_eq_true,decide_eq_true_eq] at h
  have:=iq _ _ h.1
  cases a;cases b
  simp_all
 ·cases h
def rl (all : List Oper) (T : List AV) (g : Option (Nat × Bool)) : Option Bool:=
 match g with
 | none=>some true
 | some (j,want)=>match lw all j with
  | some t=>match g9 T t with
   | .d (.bool b)=>some (b == want)
   | .und=>some false
   | _=>none
  | none=>none
theorem ku {all : List Oper} {T : List AV} {g : Option (Nat × Bool)} {b : Bool} {A B : List AV -> Prop} (e : rl all T g = some b) (ht : b = true -> A T) (hf : b = false -> B T) : iG all T g A B:=by
 unfold rl at e
 unfold iG
 split at e
 ·cases e;exact ht rfl
 ·split at e
  ·rename_i t hd
   simp only [hd]
   rw [cF]
   split at e
   ·rename_i c hc
    simp only [hc,aU]
    cases c
    ·rw [gy hc (by simp)]
     refine bA rfl ?_
     exact ao (fun hw=>hf (by cases e;rw [hw];rfl)) (fun hw=>ht (by cases e;rw [hw];rfl))
    ·rw [gy hc (by simp)]
     refine bO rfl ?_
     exact ao (fun hw=>ht (by cases e;rw [hw];rfl)) (fun hw=>hf (by cases e;rw [hw];rfl))
   ·rename_i hc
    simp only [hc]
    cases e
    exact hf rfl
   ·cases e
  ·cases e
section
variable (E : TE) (call : kR)
def uT (all : List Oper) : List Oper -> List AV -> ae -> Option (List AV × ae)
 | [],T,h=>some (T,h)
 | o :: rest,T,h=>match rl all T o.guard with
  | some true=>match I4 E call T h o.op with
   | some (v,h')=>uT all rest (eB o.dst v T) h'
   | none=>none
  | some false=>uT all rest (eB o.dst .und T) h
  | none=>none
def mR (ps : List (Nat × Nat)) : Ev -> List Ev -> Bool
 | _,[]=>true
 | .read i id,.heap j h h' :: l=>(if mT ps i j then zX h[id]? h'[id]? else true) && mR ps (.read i id) l
 | .heap j h h', .read i id :: l => (if mT ps i j then zX h[id]? h'[id]? else true) && mR ps (.heap j h h') l
 | .heap j h h', .made i id :: l => (if mT ps i j then zX h[id]? h'[id]? else true) && mR ps (.heap j h h') l
 | e,_ :: l=>mR ps e l
def wR (T : List AV) (o : Op) : Option Nat:=
 match o with
 | .load _ a=>(match opnd T a with | .ptr id _ _=>some id | _=>none)
 | .convert _ _ a=>(match opnd T a with | .sl id _ _ _ _=>some id | _=>none)
 | .slice _ a _ _ _=>(match opnd T a with | .sl id _ _ _ _=>some id | _=>none)
 | .lookup _ a _ _=>(match opnd T a with | .mp id=>some id | _=>none)
 | _=>none
def jv (all : List Oper) (ps : List (Nat × Nat)) : List (Nat × Oper) -> List Ev -> List AV -> ae -> Option (List AV × ae)
 | [],_,T,h=>some (T,h)
 | (i,o) :: rest,L,T,h=>match rl all T o.guard with
  | some true=>match I4 E call T h o.op with
   | some (v,h')=>match d6 E o.op with
    | 0=>jv all ps rest L (eB o.dst v T) h'
    | 1=>match wR T o.op with
     | some id=>if mR ps (.read i id) L then jv all ps rest (.read i id :: L) (eB o.dst v T) h' else none
     | none=>jv all ps rest L (eB o.dst v T) h'
    | 2=>match v with
     | .ptr id _ _=>jv all ps rest (.made i id :: L) (eB o.dst v T) h'
     | _=>none
    | _=>if mR ps (.heap i h h') L then jv all ps rest (.heap i h h' :: L) (eB o.dst v T) h' else none
   | none=>none
  | some false=>jv all ps rest L (eB o.dst .und T) h
  | none=>none
end
def K2 (E : TE) (ws : List Nat) (x : Nat × Oper) : List (Nat × Oper) -> List (Nat × Nat) -> List (Nat × Nat)
 | [],acc=>acc
 | y :: l,acc=>
  let acc:=K2 E ws x l acc
  if (ws.getD y.1 0).testBit x.1 then acc else
  let cx:=d6 E x.2.op
  let cy:=d6 E y.2.op
  if (cx == 1 || cx == 2) && cy == 3 then (x.1,y.1) :: acc else if cx == 3 && cy == 1 then (y.1,x.1) :: acc else acc
def PT (E : TE) (ws : List Nat) : List (Nat × Oper) -> List (Nat × Nat)
 | []=>[]
 | x :: l=>K2 E ws x l (PT E ws l)
def LW : List Oper -> List Nat
 | []=>[]
 | o :: l=>match o.op with
  | .buildSlice t _ _=>t :: LW l
  | _=>LW l
def CS (E : TE) (call : kR) (ops : List Oper) (fl : List Nat) (T : List AV) (h : ae) : Option (Option (List AV × ae)):=
 let ps:=PT (kT E fl) (cQ ops []) (bQ ops)
 if wD (kT E fl) ops ps then some (jv (kT E fl) call ops ps (bQ ops) [] T h) else none
def wL (E : TE) (call : kR) (ops : List Oper) (T : List AV) (h : ae) : Option (List AV × ae):=
 match CS E call ops [] T h with
 | some r=>r
 | none=>match CS E call ops (LW ops) T h with
  | some r=>r
  | none=>none
theorem fE {ps : List (Nat × Nat)} {K : Prop} (k : K) : ∀ (e : Ev) (L : List Ev),mR ps e L = true -> iC ps e L K
 | e,[],h=>by simp only [iC];exact k
 | .read i id,.heap j h h' :: l,hk=>by
  simp only [mR,Bool.and_eq_true] at hk
  simp only [iC]
  have:=fE k _ l hk.2
  refine ao (fun hm=>⟨?_,this⟩) (fun _=>this)
  rw [if_pos hm] at hk
  rw [tV hk.1]
 | .heap j h h', .read i id :: l, hk => by
  simp only [mR,Bool.and_eq_true] at hk
  simp only [iC]
  have:=fE k _ l hk.2
  refine ao (fun hm=>⟨?_,this⟩) (fun _=>this)
  rw [if_pos hm] at hk
  rw [tV hk.1]
 | .heap j h h', .made i id :: l, hk => by
  simp only [mR,Bool.and_eq_true] at hk
  simp only [iC]
  have:=fE k _ l hk.2
  refine ao (fun hm=>⟨?_,this⟩) (fun _=>this)
  rw [if_pos hm] at hk
  exact tV hk.1
 | .read i id,.read j jd :: l,hk=>by simp only [iC];exact fE k _ l (by simpa only [mR] using hk)
 | .read i id,.made j jd :: l,hk=>by simp only [iC];exact fE k _ l (by simpa only [mR] using hk)
 | .made i id,.read j jd :: l,hk=>by simp only [iC];exact fE k _ l (by simpa only [mR] using hk)
 | .made i id,.made j jd :: l,hk=>by simp only [iC];exact fE k _ l (by simpa only [mR] using hk)
 | .made i id,.heap j h h' :: l,hk=>by simp only [iC];exact fE k _ l (by simpa only [mR] using hk)
 | .heap i g g', .heap j h h' :: l, hk => by simp only [iC]; exact fE k _ l (by simpa only [mR] using hk)
theorem E8 (T : List AV) (o : Op) (K : Option Nat -> Prop) : gY T o K = K (wR T o):=by
 cases o<;>simp only [gY,wR,aG]<;>generalize opnd T _ = y<;>cases y<;>rfl
section
variable {E : TE} {R : ep} {call : kR} (hc : ∀ f args h r h', call f args h = some (r, h') -> R.call f args h r h')
include hc
theorem sH {all : List Oper} {T' : List AV} {h' : ae} {K : List AV -> ae -> Prop} (hk : K T' h') : ∀ (l : List Oper) (T : List AV) (h : ae), uT E call all l T h = some (T', h') -> iL E R all l T h K
 | [],T,h,e=>by simp only [uT,Option.some.injEq,Prod.mk.injEq] at e;obtain ⟨rfl,rfl⟩:=e;exact hk
 | o :: rest,T,h,e=>by
  unfold uT at e
  simp only [iL]
  split at e
  ·rename_i hg
   split at e
   ·rename_i v h1 ho
    refine ku hg (fun _=>CQ hc ho ?_) (fun h=>by cases h)
    rw [eH]
    exact sH hk rest _ _ e
   ·cases e
  ·rename_i hg
   refine ku hg (fun h=>by cases h) (fun _=>?_)
   rw [eH]
   exact sH hk rest _ _ e
  ·cases e
theorem fW {all : List Oper} {ps : List (Nat × Nat)} {T' : List AV} {h' : ae} {K : List AV -> ae -> Prop} (hk : K T' h') : ∀ (l : List (Nat × Oper)) (L : List Ev) (T : List AV) (h : ae), jv E call all ps l L T h = some (T', h') -> dg E R all ps l L T h K
 | [],L,T,h,e=>by simp only [jv,Option.some.injEq,Prod.mk.injEq] at e;obtain ⟨rfl,rfl⟩:=e;exact hk
 | (i,o) :: rest,L,T,h,e=>by
  unfold jv at e
  simp only [dg]
  split at e
  ·rename_i hg
   split at e
   ·rename_i v h1 ho
    refine ku hg (fun _=>CQ hc ho ?_) (fun h=>by cases h)
    rw [eH]
    split at e
    ·rename_i hcl;simp only [hcl];exact fW hk rest _ _ _ e
    ·rename_i hcl;simp only [hcl]
     rw [E8]
     split at e
     ·rename_i id hid
      simp only [hid]
      split at e
      ·rename_i he;exact fE (fW hk rest _ _ _ e) _ _ he
      ·cases e
     ·rename_i hid
      simp only [hid]
      exact fW hk rest _ _ _ e
    ·rename_i hcl;simp only [hcl]
     split at e
     ·exact fW hk rest _ _ _ e
     ·cases e
    ·rename_i n h0 h1' h2
     split at e
     ·rename_i he
      split
      ·exact (h0 (by assumption)).elim
      ·exact (h1' (by assumption)).elim
      ·exact (h2 (by assumption)).elim
      ·exact fE (fW hk rest _ _ _ e) _ _ he
     ·cases e
   ·cases e
  ·rename_i hg
   refine ku hg (fun h=>by cases h) (fun _=>?_)
   rw [eH]
   exact fW hk rest _ _ _ e
  ·cases e
theorem A6 {ops : List Oper} {T T' : List AV} {h h' : ae} {K : List AV -> ae -> Prop} (e : wL E call ops T h = some (T', h')) (hk : K T' h') : mY E R ops T h K := by
 have key : ∀ fl, CS E call ops fl T h = some (some (T', h')) -> mY E R ops T h K := by
  intro fl e
  simp only [CS] at e
  split at e
  ·rename_i h1
   exact ⟨fl,_,h1,fW hc hk _ _ _ _ (Option.some.inj e)⟩
  ·cases e
 unfold wL at e
 split at e
 ·rename_i r hr
  subst e;exact key _ hr
 ·split at e
  ·rename_i r hr
   subst e;exact key _ hr
  ·cases e
end
def A4 (T : List AV) (c : Operand) : Option Bool:=
 match c with
 | .tmp t=>(match g9 T t with
  | .d (.bool b)=>some b
  | _=>none)
 | .const (.bool b)=>some b
 | _=>none
def wP (W : List AV -> ae -> Option (Ex × List AV × ae)) : Nat -> List AV -> ae -> Option (Ex × List AV × ae)
 | 0,_,_=>none
 | n + 1,T,h=>match W T h with
  | some (.normal, T', h') => wP W n T' h'
  | some (.exit i, T', h') => some (.exit i, T', h')
  | some (.ret, T', h') => some (.ret, T', h')
  | none=>none
def cT (E : TE) (call : kR) (N : Nat) : Code -> List AV -> ae -> Option (Ex × List AV × ae)
 | .skip,T,h=>some (.normal,T,h)
 | .region _ ops d,T,h=>match d with
  | true=>(match wL E call ops.toList T h with
   | some (T', h') => some (.normal, T', h')
   | none=>none)
  | false=>(match uT E call ops.toList ops.toList T h with
   | some (T', h') => some (.normal, T', h')
   | none=>none)
 | .seq a b,T,h=>match cT E call N a T h with
  | some (.normal, T', h') => cT E call N b T' h'
  | some (.exit i, T', h') => some (.exit i, T', h')
  | some (.ret, T', h') => some (.ret, T', h')
  | none=>none
 | .cond c a b,T,h=>match A4 T c with
  | some true=>cT E call N a T h
  | some false=>cT E call N b T h
  | none=>none
 | .block id c,T,h=>match cT E call N c T h with
  | some (.normal, T', h') => some (.normal, T', h')
  | some (.exit i, T', h') => if Nat.beq i id then some (.normal, T', h') else some (.exit i, T', h')
  | some (.ret, T', h') => some (.ret, T', h')
  | none=>none
 | .loop c,T,h=>wP (cT E call N c) N T h
 | .exit id,T,h=>some (.exit id,T,h)
 | .ret,T,h=>some (.ret,T,h)
 | _,_,_=>none
section
variable {P : Program} {E : TE} (hE : gJ P E) {B : Nat} {W w0 : World} {st0 : St} {call : kR} (hc : ∀ f args h r h', call f args h = some (r, h') -> bn P f args h r h')
include hE hc
theorem cW {N : Nat} : ∀ (c : Code) (T : List AV) (h : ae) (a : Act) (w : World) (ex : Ex) (T' : List AV) (h' : ae) (Q : Exit -> Act -> World -> Prop),
  cT E call N c T h = some (ex, T', h') -> (∀ a w, iS [] B W w0 st0 T' h' a w -> Q ex.to a w) -> iS [] B W w0 st0 T h a w -> c.wp P Q a w
 | .skip, T, h, a, w, ex, T', h', Q, e, hQ, hI => by
  simp only [cT,Option.some.injEq,Prod.mk.injEq] at e
  obtain ⟨rfl,rfl,rfl⟩:=e
  exact wp_skip (hQ a w hI)
 | .region id ops d, T, h, a, w, ex, T', h', Q, e, hQ, hI => by
  cases d
  ·simp only [cT] at e
   split at e
   ·rename_i T1 h1 he
    cases e
    exact nO hE bn.sub (K:=fun T h=>T = T' /\ h = h') (fun T h a w ⟨e1,e2⟩ hI=>by subst e1;subst e2;exact hQ a w hI) hI (sH hc ⟨rfl,rfl⟩ _ _ _ he)
   ·cases e
  ·simp only [cT] at e
   split at e
   ·rename_i T1 h1 he
    cases e
    exact pO hE bn.sub (K:=fun T h=>T = T' /\ h = h') (fun T h a w ⟨e1,e2⟩ hI=>by subst e1;subst e2;exact hQ a w hI) hI (A6 hc he ⟨rfl,rfl⟩)
   ·cases e
 | .seq x y, T, h, a, w, ex, T', h', Q, e, hQ, hI => by
  simp only [cT] at e
  split at e
  ·rename_i T1 h1 he
   exact wp_seq (cW x T h a w _ _ _ _ he (fun a w hI=>cW y T1 h1 a w ex T' h' Q e hQ hI) hI)
  ·rename_i i T1 h1 he
   cases e
   exact wp_seq (cW x T h a w _ _ _ _ he (fun a w hI=>hQ a w hI) hI)
  ·rename_i T1 h1 he
   cases e
   exact wp_seq (cW x T h a w _ _ _ _ he (fun a w hI=>hQ a w hI) hI)
  ·cases e
 | .cond c x y, T, h, a, w, ex, T', h', Q, e, hQ, hI => by
  simp only [cT] at e
  have hcond : ∀ b,A4 T c = some b -> (if b then x.wp P Q a w else y.wp P Q a w) -> (Code.cond c x y).wp P Q a w:=by
   intro b hb hk
   unfold A4 at hb
   split at hb
   ·rename_i t
    split at hb
    ·rename_i b' hb'
     cases hb
     have hv : a.eval (.tmp t) = .bool b:=by
      obtain ⟨_,st,_,h2,_⟩:=hI
      have:=h2.2 t
      rw [hb'] at this
      exact bV.1 this
     cases b
     ·exact wp_cond_false hv hk
     ·exact wp_cond_true hv hk
    ·cases hb
   ·rename_i b'
    cases hb
    cases b
    ·exact wp_cond_false rfl hk
    ·exact wp_cond_true rfl hk
   ·cases hb
  split at e
  ·rename_i hb;exact hcond _ hb (cW x T h a w ex T' h' Q e hQ hI)
  ·rename_i hb;exact hcond _ hb (cW y T h a w ex T' h' Q e hQ hI)
  ·cases e
 | .block id c, T, h, a, w, ex, T', h', Q, e, hQ, hI => by
  simp only [cT] at e
  split at e
  ·rename_i T1 h1 he
   cases e
   exact wp_block (cW c T h a w _ _ _ _ he (fun a w hI=>hQ a w hI) hI)
  ·rename_i i T1 h1 he
   refine wp_block (cW c T h a w _ _ _ _ he (fun a w hI=>?_) hI)
   simp only [Ex.to,Exit.inBlock]
   split at e
   ·rename_i hi;cases e
    rw [if_pos (by simpa using hi)]
    exact hQ a w hI
   ·rename_i hi;cases e
    rw [if_neg (by intro he;subst he;simp at hi)]
    exact hQ a w hI
  ·rename_i T1 h1 he
   cases e
   exact wp_block (cW c T h a w _ _ _ _ he (fun a w hI=>hQ a w hI) hI)
  ·cases e
 | .loop c, T, h, a, w, ex, T', h', Q, e, hQ, hI => by
  simp only [cT] at e
  refine vY (I := fun n a w => ∃ T h, wP (cT E call N c) n T h = some (ex, T', h') /\ iS [] B W w0 st0 T h a w) ?_ ?_ N a w ⟨T, h, e, hI⟩
  ·rintro a w ⟨T,h,hk,_⟩
   cases hk
  ·rintro m a w ⟨T,h,hk,hI⟩
   simp only [wP] at hk
   split at hk
   ·rename_i T1 h1 he
    exact cW c T h a w _ _ _ _ he (fun a w hI=>⟨T1,h1,hk,hI⟩) hI
   ·rename_i i T1 h1 he
    cases hk
    exact cW c T h a w _ _ _ _ he (fun a w hI=>hQ a w hI) hI
   ·rename_i T1 h1 he
    cases hk
    exact cW c T h a w _ _ _ _ he (fun a w hI=>hQ a w hI) hI
   ·cases hk
 | .exit id, T, h, a, w, ex, T', h', Q, e, hQ, hI => by
  simp only [cT,Option.some.injEq,Prod.mk.injEq] at e
  obtain ⟨rfl,rfl,rfl⟩:=e
  exact wp_exit (hQ a w hI)
 | .ret, T, h, a, w, ex, T', h', Q, e, hQ, hI => by
  simp only [cT,Option.some.injEq,Prod.mk.injEq] at e
  obtain ⟨rfl,rfl,rfl⟩:=e
  exact wp_ret (hQ a w hI)
 | .rangeFunc ..,_,_,_,_,_,_,_,_,e,_,_=>by simp [cT] at e
 | .scope ..,_,_,_,_,_,_,_,_,e,_,_=>by simp [cT] at e
 | .label ..,_,_,_,_,_,_,_,_,e,_,_=>by simp [cT] at e
 | .goto ..,_,_,_,_,_,_,_,_,e,_,_=>by simp [cT] at e
 | .refuse ..,_,_,_,_,_,_,_,_,e,_,_=>by simp [cT] at e
end
def AH (P : Program) (f k : Nat) : Prop:=∀ (l : List D),l.length < 1000000 -> (∀ y ∈ l,y.cells.length = k /\ y.memOk = true) -> bn P f [.d (.fs l)] [] (.sl 0 0 l.length k none) [⟨l.map .d,k,0⟩]
theorem pj {P : Program} {f : Nat} {h1 : ae} {r : AV} (hr : ∀ a c,bn P f [.raw (.slice a 0 c)] [] r h1) : bn P f [.d (.fs [])] [] r h1:=by
 intro B W w st vs hw hv
 simp only [cS] at hv
 obtain ⟨v,t,us,rfl,h1,h2,rfl⟩:=hv
 obtain ⟨a,c,rfl,_,_⟩:=qs.1 (⟨us,h1,h2⟩ : aV w st (.d (.fs [])) v)
 exact hr a c B W w st _ hw (by simp only [cS];exact ⟨_,[],[_],rfl,rfl,by simp [aC],rfl⟩)
theorem Fi {P : Program} {f k : Nat} (hc : AH P f k) {H : ae} {a : AV} {l : List D} (hv : bl 8 H a = some (.fs l)) (hl : l.length < 1000000) (hk : ∀ y ∈ l,y.cells.length = k /\ y.memOk = true) (hf : ∀ y ∈ l,y.flat = true) :
  bn P f [a] H (.sl H.length 0 l.length k none) (H ++ [⟨l.map .d,k,0⟩]):=by
 refine gg (σ:=[]) (F:=bC 8 H a) (fl:=true) (hc l hl hk) List.nodup_nil (fun _ _ h=>by cases h) ?_ (by simp [pP]) (fun _=>⟨rfl,fun o ho=>?_⟩) ?_ ?_
 ·exact fh H [a] [.fs l] _ (by simp) (by simp [vl,hv])
 ·simp only [List.mem_singleton] at ho
  subst ho
  exact ⟨jS l hf,Nat.zero_ne_one⟩
 ·simp [ren,AE]
 ·simp only [kI,cg,List.length_nil,List.drop_zero,List.map_cons,List.map_nil,gF,l4,if_true]
def oE (E : TE) (h : ae) (T : List AV) : List ResultVar -> Option (List AV)
 | []=>some []
 | .tmp t :: l=>(match oE E h T l with
  | some r=>some (g9 T t :: r)
  | none=>none)
 | .cell a t :: l=>(match wQ (E t) (g9 T a) h with
  | some v=>(match oE E h T l with
   | some r=>some (v :: r)
   | none=>none)
  | none=>none)
theorem oF {E : TE} {h : ae} {T : List AV} : ∀ (l : List ResultVar) (r : List AV) (K : List AV -> Prop),oE E h T l = some r -> K r -> ij E h T l K
 | [],r,K,e,hk=>by simp only [oE,Option.some.injEq] at e;subst e;exact hk
 | .tmp t :: l,r,K,e,hk=>by
  simp only [oE] at e
  simp only [ij]
  rw [cF]
  split at e
  ·rename_i r' hr;cases e;exact oF l r' _ hr hk
  ·cases e
 | .cell a t :: l,r,K,e,hk=>by
  simp only [oE] at e
  simp only [ij]
  rw [cF]
  split at e
  ·rename_i v hv
   split at e
   ·rename_i r' hr;cases e;exact uR hv (oF l r' _ hr hk)
   ·cases e
  ·cases e
def sx (E : TE) (call : kR) (N : Nat) (fn : Func) (args : List AV) (h : ae) : Option (AV × ae):=
 match fn.body with
 | some c=>match cT E call N c (kZ fn.ntmps args) h with
  | some (.normal,T,h')=>(match oE E h' T fn.results.toList with
   | some l=>some (gj l,h')
   | none=>none)
  | some (.ret,T,h')=>(match oE E h' T fn.results.toList with
   | some l=>some (gj l,h')
   | none=>none)
  | _=>none
 | none=>none
def wK (k : Nat) (args : List AV) (h : ae) : Option (AV × ae):=
 match args with
 | [a]=>(match bl 8 h a with
  | some (.fs l)=>if decide (l.length < 1000000) && l.all (fun y=>y.flat && (y.cells.length == k && y.memOk)) then some (.sl h.length 0 l.length k none,h ++ [⟨l.map .d,k,0⟩]) else none
  | _=>none)
 | _=>none
section
variable {P : Program} {E : TE} (hE : gJ P E)
include hE
theorem rg {call : kR} (hc : ∀ f args h r h', call f args h = some (r, h') -> bn P f args h r h') {N f : Nat} {fn : Func} (hf : P.funcs[f]? = some fn) (hn : (fn.name == "runtime.NumGoroutine") = false) {args : List AV} {h h' : ae} {r : AV} (e : sx E call N fn args h = some (r, h')) :
  bn P f args h r h' /\ ∀ x,bl 8 h' r = some x -> h = [] -> bn P f args h (.d x) []:=by
 unfold sx at e
 split at e
 ·rename_i c hb
  obtain ⟨ex, T', hev, hres, hex⟩ : ∃ ex T', cT E call N c (kZ fn.ntmps args) h = some (ex, T', h') /\ (∃ l, oE E h' T' fn.results.toList = some l /\ r = gj l) /\ (ex = .normal \/ ex = .ret) := by
   split at e
   ·rename_i T1 h1 he
    split at e
    ·rename_i l hl;cases e;exact ⟨_,_,he,⟨l,hl,rfl⟩,.inl rfl⟩
    ·cases e
   ·rename_i T1 h1 he
    split at e
    ·rename_i l hl;cases e;exact ⟨_,_,he,⟨l,hl,rfl⟩,.inr rfl⟩
    ·cases e
   ·cases e
  obtain ⟨l,hl,rfl⟩:=hres
  have G0 : fn.body.isNone = false:=by simp [hb]
  have main : ∀ (r1 : AV) (h1 : ae),(∀ {B : Nat} {W w0 w : World} {st0 : St} {a : Act},st0.n = h.length -> (∀ i,st0.G i -> i < st0.n) -> iS [] B W w0 st0 T' h' a w -> a.defers = [] /\ ∃ v,(results fn a.tmps).run P w = .ok v w /\ iW B W w0 st0 r1 h1 v w) -> bn P f args h r1 h1:=by
   intro r1 h1 hend B W w st vs hw ha
   have hcall : (callFunc f vs.toArray).run P w = .ok (.enter f vs.toArray) w:=by
    simp only [callFunc,Sem.run_bind,run_program,Result.andThen_ok,hf,hn,G0,Bool.false_eq_true,if_false,Sem.run_pure]
   rw [hcall]
   show Calls P f vs.toArray w _
   refine calls_of_wp hf hb ?_
   have hl2:=((dS _ _).1 ha).1
   have hg0 : ∀ i,st.G i -> i < st.n:=hw.gho
   have hlen:=hw.len
   have hT : aT w st (kZ fn.ntmps args) (vs.toArray ++ Array.replicate (fn.ntmps - vs.toArray.size) undef):=by
    refine ⟨⟨by simp [kZ,hl2],hw.seat⟩,fun i=>?_⟩
    rw [cG]
    by_cases hi : i < args.length
    ·have h1 : (kZ fn.ntmps args)[i]? = some args[i]:=by simp only [kZ];rw [List.getElem?_append_left hi];exact List.getElem?_eq_getElem hi
     have h2 : (vs.toArray ++ Array.replicate (fn.ntmps - vs.toArray.size) undef).getD i undef = vs[i]:=by
      simp [Array.getElem?_append,hl2,hi]
     rw [h1,h2]
     exact ((dS _ _).1 ha).2 i _ _ (List.getElem?_eq_getElem hi) (List.getElem?_eq_getElem (by omega))
    ·by_cases hi2 : i < fn.ntmps
     ·have h1 : (kZ fn.ntmps args)[i]? = some .und:=by
       simp only [kZ]
       rw [List.getElem?_append_right (by omega),List.getElem?_replicate,if_pos (by omega)]
      have h2 : (vs.toArray ++ Array.replicate (fn.ntmps - vs.toArray.size) undef).getD i undef = undef:=by
       simp only [Array.getD_eq_getD_getElem?]
       rw [Array.getElem?_append_right (by simp;omega),Array.getElem?_replicate]
       split<;>rfl
      rw [h1,h2]
      exact cw rfl (by simp [aC])
     ·have h1 : (kZ fn.ntmps args)[i]? = none:=by
       rw [List.getElem?_eq_none]
       simp [kZ];omega
      rw [h1]
      exact ig _ _ _
   refine cW hE hc (B:=B) (W:=W) (w0:=w) (st0:=st) c _ h _ w ex T' h' _ hev ?_ ⟨rfl,st,hw,hT,dO.refl _ _,rfl⟩
   intro a w' hI
   obtain ⟨hd,v,g1,g2⟩:=hend hlen hg0 hI
   rcases hex with rfl | rfl
   ·exact ⟨hd,v,g1,v,rfl,g2⟩
   ·exact ⟨hd,v,g1,v,rfl,g2⟩
  refine ⟨main _ _ ?_,fun x hx hh=>main _ _ ?_⟩
  ·intro B W w0 w st0 a _ _ hI
   obtain ⟨hd,st,i1,i2,i3,i4⟩:=hI
   obtain ⟨l2,vs,k1,k2,k3⟩:=kK hE i1 i2 _ (fun r=>r = l) (oF _ _ _ hl rfl)
   subst k1
   have hv:=Cc k2
   refine ⟨hd,(if h : vs.toArray.size = 1 then vs.toArray[0] else .tuple vs.toArray),?_,st,i1,hv,i3,i4⟩
   unfold results
   have hm : ∀ (f : ResultVar -> Sem Value),fn.results.mapM f = (do let l <- fn.results.toList.mapM f;pure l.toArray):=by
    intro f
    rw [Array.mapM_eq_mapM_toList]
    rfl
   show ((do let vs <- fn.results.mapM (Fa a.tmps);pure (if h : vs.size = 1 then vs[0] else .tuple vs) : Sem Value)).run P w = _
   rw [hm]
   simp only [Sem.run_bind,k3,Result.andThen_ok,Sem.run_pure]
  ·intro B W w0 w st0 a hn0 hg0 hI
   subst hh
   refine fi hE (V:=[]) hI hg0 (fun _ h=>by cases h) (oF _ _ _ hl ?_)
   have : st0.n = 0:=hn0
   rw [this]
   exact .inl (.inr ⟨x,hx,rfl,[],rfl,rfl,trivial,trivial⟩)
 ·cases e
end
end Dw
namespace Dw
open Go Go.RowKit
section
variable (E : TE)
def MD (S : Nat -> D -> Prop) : List (Nat × Nat) -> List D -> Prop
 | [],cs=>cs = []
 | p :: fs,cs=>∃ y r,S p.2 y /\ cs = y.cells ++ r /\ MD S fs r
def ui : Nat -> Nat -> D -> Prop
 | 0,_,_=>False
 | n + 1,t,x=>
  match (E t).kind with
  | 1=>∃ k,x = .int (E t).ik k /\ (Lit.int (E t).ik k).wf = true
  | 2=>∃ b,x = .bool b
  | 3=>∃ s : List UInt8,x = .str s /\ s.length <= maxLen
  | 4=>∃ l : List D,x = .fs l /\ l.length <= maxLen /\ ∀ y ∈ l,ui n (E t).elem y
  | 5=>∃ cs,x = .agg cs /\ MD (ui n) (E t).fields cs
  | 6=>∃ ys : List D,x = .agg (ys.flatMap D.cells) /\ ys.length = (E t).len /\ ∀ y ∈ ys,ui n (E t).elem y
  | _=>False
def ze (AD : Nat -> Bool) : List (Nat × Nat) -> Nat -> Nat -> Bool
 | [],off,size=>off == size
 | p :: fs,off,size=>p.1 == off && AD p.2 && ze AD fs (off + (E p.2).size) size
def AD : Nat -> Nat -> Bool
 | 0,_=>false
 | n + 1,t=>
  match (E t).kind with
  | 1=>true
  | 2=>true
  | 3=>true
  | 4=>AD n (E t).elem
  | 5=>ze E (AD n) (E t).fields 0 (E t).size
  | 6=>AD n (E t).elem && ((E t).len * (E (E t).elem).size == (E t).size)
  | _=>false
theorem oQ {n t : Nat} (h : AD E n t = true) : (E t).kind ≠ 0:=by
 cases n with
 | zero=>simp [AD] at h
 | succ n=>
  intro h0
  simp [AD,h0] at h
end
theorem ye {w : World} {S : Nat -> Prop} {x : D} {us : List Value} (h : cC w S x us) (h1 : x.isAgg = true \/ x.one = true) : fV w S x.cells us:=by
 cases x<;>simp [D.isAgg,D.one] at h1<;>simp only [D.cells]<;>(try exact h)
 all_goals
  have hl:=ip _ _ h
  simp only [D.cells,List.length_cons,List.length_nil] at hl
  match us,hl with
  | [u],_=>
   simp only [fV]
   exact ⟨u,[],rfl,rfl,h,rfl⟩
theorem wu {w : World} {S : Nat -> Prop} : ∀ {l r : List D} {us vs : List Value},fV w S l us -> fV w S r vs -> fV w S (l ++ r) (us ++ vs)
 | [],r,us,vs,h,k=>by simp only [fV] at h;subst h;simpa using k
 | x :: l,r,us,vs,h,k=>by
  simp only [fV] at h
  obtain ⟨v,t,rfl,h2,h3,h4⟩:=h
  simp only [List.cons_append,fV]
  exact ⟨v,t ++ vs,rfl,h2,h3,wu h4 k⟩
theorem AP {w : World} {base : Nat} {a : Addr} {n : Nat} {cs : List Value} (h : w.cells? base a n = some cs) : cs.length = n /\ ∀ j v,cs[j]? = some v -> w.cell? (a.add j) = some v:=by
 unfold World.cells? at h
 split at h
 ·refine ⟨by simpa using mapM_some_length h,fun j v hj=>?_⟩
  have hl : cs.length = n:=by simpa using mapM_some_length h
  have hjn : j < n:=by rw [<- hl];exact (List.getElem?_eq_some_iff.1 hj).1
  have:=mapM_some_get h j j (by simp [hjn])
  rw [this];exact hj
 ·cases h
theorem AN {w : World} {a : Addr} {v : Value} (h : w.cell? a = some v) : a = ⟨a.block,a.off,none⟩ /\ a.block < w.heap.size:=by
 unfold World.cell? at h
 split at h
 ·rename_i c _ _ hc
  split at h
  ·cases h
  ·rename_i hs
   refine ⟨?_,(Array.getElem?_eq_some_iff.1 hc).1⟩
   obtain ⟨b,o,s⟩:=a
   cases s with
   | none=>rfl
   | some s=>exact absurd rfl hs
 ·cases h
section
variable {P : Program} {E : TE} (hE : gJ P E) {H : Type} {enc : TypeId × Value -> H} {w : World} {sp : Nat -> Bool} {hd : Bool}
include hE
theorem iy {t : Nat} (h : (E t).kind ≠ 0) : P.cellsOf t = (E t).size:=by
 obtain ⟨i,d,z,h1,h2,h3,_⟩:=(hE.facts h).ex
 simp [Program.cellsOf,h1,h3]
omit hE in
theorem vN {n t : Nat} {x : D} (h : ui E n t x) : x.isAgg = true \/ x.one = true:=by
 cases n with
 | zero=>exact h.elim
 | succ n=>
  simp only [ui] at h
  split at h
  ·obtain ⟨k,rfl,_⟩:=h;exact .inr rfl
  ·obtain ⟨k,rfl⟩:=h;exact .inr rfl
  ·obtain ⟨k,rfl,_⟩:=h;exact .inr rfl
  ·obtain ⟨k,rfl,_⟩:=h;exact .inr rfl
  ·obtain ⟨k,rfl,_⟩:=h;exact .inl rfl
  ·obtain ⟨k,rfl,_⟩:=h;exact .inl rfl
  ·exact h.elim
end
end Dw
namespace Dw
open Go Go.RowKit Go.ChangeShapes
def St.entry (W : World) : St:=⟨0,fun _=>none,fun b=>b < W.heap.size,fun _=>False,fun _=>False,fun b=>b < W.heap.size⟩
theorem WR.entry (W : World) (hS : mW W (fun b=>b < W.heap.size)) : WR W.heap.size W W (St.entry W) [] where
 below:=Below.refl _ _
 base:=Nat.le_refl _
 seat:=hS
 len:=rfl
 obj:=fun id o h=>by simp at h
 mobj:=fun id o h=>by simp at h
 dom:=fun id r h=>by simp [St.entry] at h
 inj:=fun i j r s h=>by simp [St.entry] at h
 stab:=fun b h=>h
 live:=fun id r o h=>by simp [St.entry] at h
 frz:=fun id r o h=>by simp [St.entry] at h
 gho:=fun id h=>h.elim
 x:=⟨fun id r h=>by simp [St.entry] at h,fun b h=>.inl h,fun b h=>h.elim⟩
def JR (E : TE) (n : Nat) : List Nat -> List D -> Prop
 | [],xs=>xs = []
 | t :: ts,xs=>∃ x r,xs = x :: r /\ ui E n t x /\ JR E n ts r
section
variable {P : Program} {E : TE} (hE : gJ P E) {H : Type} {enc : TypeId × Value -> H}
include hE
omit hE in
theorem uH {W W' : World} (hl : laidOutB P = true) (hb : Below W.heap.size W W') : ∀ (ts : List Nat) (vs : List Value) (ds : List (DataW H)) (ps : List MemPlace),(∀ t ∈ ts,P.readableRec t = true /\ t < P.types.size) ->
  DataW.TrodAll enc P W 0 (fun _=>true) true ts vs ds ps -> (∀ x ∈ ps,x.block < W.heap.size) -> DataW.TrodAll enc P W' 0 (fun b=>decide (b < W.heap.size)) true ts vs ds ps
 | [],vs,ds,ps,_,h,_=>by
  obtain ⟨rfl,rfl,rfl⟩:=trodAll_nil h
  rfl
 | t :: ts,vs,ds,ps,hr,h,hp=>by
  obtain ⟨v, vs', d, ds', p, q, rfl, rfl, rfl, h1, h2⟩ := trodAll_cons h
  exact ⟨p,q,Below.trod hl (hr t (by simp)).1 (hr t (by simp)).2 h1 hb (fun x hx=>hp x (by simp [hx])),uH hl hb ts vs' ds' q (fun u hu=>hr u (by simp [hu])) h2 (fun x hx=>hp x (by simp [hx])),rfl⟩
end
end Dw
