/-
  Own lemmas, no conditions: DwZb, DwZc, DwZd, DwZg, DwZh, DwZm, DwZn, Te, Eok, DwZi, DwZj, DwZe, DwZf.
-/
import Derived.Test.YtkmhnaojgkcjoaaGreatDoorGrpB
import Derived.Test.YtkmhnaojgkcjoaaGreatDoorChecked
import Derived.KernelRfl
import Derived.Carry
import Derived.OpenShut
import Derived.ChangeArms
import Derived.ProofKit
set_option linter.unusedVariables false
set_option linter.unusedSimpArgs false
namespace Dw
open Go Go.RowKit
theorem freeze_get : ∀ (F : List Nat) (H : Heap) (id : Nat),(freeze H F)[id]? = (H[id]?).map (fun o=>if id ∈ F then o.freeze else o)
 | [],H,id=>by simp [freeze]
 | i :: F,H,id=>by
  rw [freeze,freeze_get F]
  cases hi : H[i]? with
  | none=>
   simp only
   by_cases hid : id = i
   ·subst hid;simp [hi]
   ·simp [hid]
  | some o=>
   simp only
   by_cases hid : id = i
   ·subst hid
    rw [List.getElem?_set_self (List.getElem?_eq_some_iff.1 hi).1,hi]
    simp only [Option.map_some,List.mem_cons,true_or,if_true]
    split
    ·congr 1
     simp only [AO.freeze]
     split<;>simp_all
    ·rfl
   ·rw [List.getElem?_set_ne (Ne.symm hid)]
    simp [hid]
theorem freeze_length (F : List Nat) (H : Heap) : (freeze H F).length = H.length:=by
 have h : ∀ id,((freeze H F)[id]?).isSome = (H[id]?).isSome:=fun id=>by rw [freeze_get];cases H[id]?<;>rfl
 rcases Nat.lt_trichotomy (freeze H F).length H.length with hl | hl | hl
 ·have:=h (freeze H F).length
  simp [hl] at this
 ·exact hl
 ·have:=h H.length
  simp [hl] at this
theorem Good.imp {P : Program} {A C : Value → World → Prop} {r : Result Next} (h : Good P A r) (hm : ∀ v w,A v w → C v w) : Good P C r:=Good.mono hm h
theorem run_embA {P : Program} {B : Nat} {W : World} {f : Nat} {args args' : List AV} {h H h1 : Heap} {r : AV} {σ F : List Nat} {fl : Bool} (hf : RunAt P B W f args h r h1) (hσ : σ.Nodup) (hσF : ∀ id ∈ F,id ∉ σ) (ha : embs σ F H args args') (hh : embH σ F H σ h)
  (hfl : fl = true → r.flat = true ∧ ∀ o ∈ h1,AV.flats o.elems = true ∧ o.st ≠ 1) :
  RunAt P B W f args' H (ren (tau σ H.length) r) (outH σ (tau σ H.length) (if fl then H else freeze H F) h1):=by
 intro w st vs hw hv
 obtain ⟨el,eg⟩:=embH_get hh
 have hin : ∀ (i j : Nat), σ[i]? = some j → ∃ o o', h[i]? = some o ∧ H[j]? = some o' ∧ embO σ F H o o' := by
  intro i j hij
  have hi : i < h.length:=by rw [← el];exact (List.getElem?_eq_some_iff.1 hij).1
  obtain ⟨j', o', g1, g2, g3⟩ := eg i _ (List.getElem?_eq_getElem hi)
  rw [hij] at g1;cases g1
  exact ⟨_, o', List.getElem?_eq_getElem hi, g2, g3⟩
 have hjl : ∀ (i j : Nat),σ[i]? = some j → j < H.length:=fun i j hij=>by
  obtain ⟨o, o', _, g, _⟩ := hin i j hij
  exact (List.getElem?_eq_some_iff.1 g).1
 have hσinj : ∀ (i i' j : Nat),σ[i]? = some j → σ[i']? = some j → i = i':=by
  intro i i' j h1 h2
  obtain ⟨a1,a2⟩:=List.getElem?_eq_some_iff.1 h1
  obtain ⟨b1,b2⟩:=List.getElem?_eq_some_iff.1 h2
  have hp:=List.pairwise_iff_getElem.1 hσ
  rcases Nat.lt_trichotomy i i' with hl | hl | hl
  ·exact absurd (a2.trans b2.symm) (hp i i' a1 b1 hl)
  ·exact hl
  ·exact absurd (b2.trans a2.symm) (hp i' i b1 a1 hl)
 have hmemσ : ∀ (i j : Nat),σ[i]? = some j → j ∈ σ:=fun i j hij=>List.mem_of_getElem? hij
 let Sd : Nat → Prop:=fun b=>st.S b ∨ ∃ id,id ∈ F ∧ ∃ o,H[id]? = some o ∧ o.st < 2 ∧ ∃ r,st.ρ id = some r ∧ r.m ≠ 0 ∧ r.b = b
 let Ud : Nat → Prop:=fun b=>st.U b ∨ (b < w.heap.size ∧ ∀ (i j : Nat) (r : Blk),σ[i]? = some j → st.ρ j = some r → r.m ≠ 0 → r.b ≠ b)
 have hS : ∀ b,st.S b → Sd b:=fun b hb=>.inl hb
 have hF : ∀ id ∈ F,∀ o,H[id]? = some o → o.st < 2 → ∀ r,st.ρ id = some r → r.m ≠ 0 → Sd r.b:=fun id hid o ho h2 r hr hm=>.inr ⟨id,hid,o,ho,h2,r,hr,hm,rfl⟩
 have hn : h.length = σ.length:=el.symm
 let stc : St:=Stc st h.length σ Sd Ud
 have hρ : ∀ (i j : Nat),σ[i]? = some j → stc.ρ i = st.ρ j:=fun i j hij=>by simp [stc,Stc,hij]
 have hρn : ∀ (i : Nat) (r : Blk),stc.ρ i = some r → ∃ j,σ[i]? = some j ∧ st.ρ j = some r:=by
  intro i r hr
  cases hij : σ[i]? with
  | none=>simp [stc,Stc,hij] at hr
  | some j=>exact ⟨j,rfl,by rw [← hρ i j hij];exact hr⟩
 have hwc : WR B W w stc h:=by
  refine ⟨hw.below,hw.base,rfl,fun i o ho hst hg=>?_,fun i o ho hst hg=>?_,fun i r hr=>?_,fun i i' r s hi hi' hr hs hb=>?_,fun b hb=>?_,fun i r o hr ho hst hm=>?_,fun i r o hr ho hst hm=>?_,fun i hg=>?_,fun i r hr hm=>?_,fun b hb=>.inl hb,fun b hb=>?_⟩
  ·obtain ⟨j, o', g1, g2, g3, g4, g5⟩ := eg i o ho
   obtain ⟨r,r1,r2⟩:=hw.obj j o' g2 (by omega) (fun hgj=>hg ⟨j,g1,hgj⟩)
   refine ⟨r,by rw [hρ i j g1];exact r1,?_⟩
   have hlen : o.elems.length = o'.elems.length:=by
    rcases g5 with ⟨l,e1,e2⟩ | e
    ·rw [e1,e2]
    ·exact embs_length e
   refine ⟨by rw [r2.n,hlen],r2.m,by rw [r2.k,g3],r2.k0,fun hm=>?_⟩
   obtain ⟨b1,cs,e,fr,b2,b3,b4,b5⟩:=r2.mem hm
   refine ⟨b1,cs,e,fr,b2,b3,b4,fun n x hx=>?_⟩
   rcases g5 with ⟨l,e1,e2⟩ | ew
   ·rw [e1] at hx
    obtain ⟨us,u1,u2,u3⟩:=b5 n x (by rw [e2];exact hx)
    rw [List.getElem?_map] at hx
    obtain ⟨d,_,rfl⟩:=Option.map_eq_some_iff.1 hx
    refine ⟨us,u1,?_,u3⟩
    simp only [aC] at u2 ⊢
    exact cC_mono (fun b hb=>⟨hS b hb,rfl⟩) d us u2
   ·obtain ⟨x', hx', hemb⟩ := embs_get n x ew hx
    obtain ⟨us,u1,u2,u3⟩:=b5 n x' hx'
    exact ⟨us,u1,emb_aC hw hn hS hF x x' us hemb u2,u3⟩
  ·obtain ⟨j, o', g1, g2, g3, g4, g5⟩ := eg i o ho
   obtain ⟨r,r1,r2⟩:=hw.mobj j o' g2 (by omega) (fun hgj=>hg ⟨j,g1,hgj⟩)
   refine ⟨r,by rw [hρ i j g1];exact r1,r2.m,r2.low,?_⟩
   obtain ⟨es,e1,e2,ebn,e3⟩:=r2.at_
   rcases g5 with ⟨l,f1,f2⟩ | ew
   ·exact ⟨es,e1,by rw [e2,f1,f2],ebn,fun n x hx=>e3 n x (by rw [f2,← f1];exact hx)⟩
   ·refine ⟨es,e1,by rw [e2,embs_length ew],ebn,fun n x hx=>?_⟩
    obtain ⟨x', hx', hemb⟩ := embs_get n x ew hx
    rcases e3 n x' hx' with rfl | ⟨a,v,e,q1,q2,q3,q4⟩
    ·cases x<;>simp [emb,view] at hemb ⊢
    ·subst q1
     cases x<;>simp only [emb] at hemb
     case d y=>
      have:=hemb.1
      simp only [view,Option.some.injEq] at this
      subst this
      exact .inr ⟨a,v,e,rfl,q2,q3,q4⟩
  ·obtain ⟨j,hj,hr'⟩:=hρn i r hr
   obtain ⟨o, o', g1, g2, g3, g4, _⟩ := hin i j hj
   obtain ⟨o'', d1, d2, d3⟩ := hw.dom j r hr'
   rw [g2] at d1;cases d1
   exact ⟨o, g1, by omega, fun ⟨j', e1, e2⟩ => d3 (by rw [hj] at e1; cases e1; exact e2)⟩
  ·obtain ⟨j,hj,hr'⟩:=hρn i r hi
   obtain ⟨j', hj', hs'⟩ := hρn i' s hi'
   have:=hw.inj j j' r s hr' hs' hr hs hb
   subst this
   exact hσinj i i' j hj hj'
  ·rcases hb with hb | ⟨id,hid,_,_,_,r,hr,hm,rfl⟩
   ·exact hw.stab b hb
   ·exact hw.blk_lt hr hm
  ·obtain ⟨j,hj,hr'⟩:=hρn i r hr
   obtain ⟨o1, o', g1, g2, g3, g4, _⟩ := hin i j hj
   rw [ho] at g1;cases g1
   rintro (hb | ⟨id,hid,_,_,_,s,hs,hsm,hbb⟩)
   ·exact hw.live j r o' hr' g2 (by omega) hm hb
   ·have:=hw.inj id j s r hs hr' hsm hm hbb
    subst this
    exact hσF id hid (hmemσ i id hj)
  ·obtain ⟨j,hj,hr'⟩:=hρn i r hr
   obtain ⟨o1, o', g1, g2, g3, g4, _⟩ := hin i j hj
   rw [ho] at g1;cases g1
   exact .inl (hw.frz j r o' hr' g2 (by omega) hm)
  ·obtain ⟨j,hj,_⟩:=hg
   show i < h.length
   rw [hn];exact (List.getElem?_eq_some_iff.1 hj).1
  ·obtain ⟨j,hj,hr'⟩:=hρn i r hr
   rintro (hb | ⟨_,hb⟩)
   ·exact hw.x.own j r hr' hm hb
   ·exact hb i j r hj hr' hm rfl
  ·rcases hb with hb | ⟨hb,_⟩
   ·exact hw.x.ub b hb
   ·exact hb
 refine (hf w stc vs hwc (embs_aVs hw hn hS hF args args' vs ha hv)).imp fun v w2 hpost=>?_
 obtain ⟨s2,w2r,vr,e2,g2⟩:=hpost
 -- the caller's state behind the call
 have hn2 : σ.length ≤ s2.n:=by have:=e2.n;show _ ≤ _;rw [← hn];exact this
 have hl2:=w2r.len
 have hU2:=e2.U.1
 have hS02:=e2.U.2.1
 let H0 : Heap:=if fl then H else freeze H F
 have hH0l : H0.length = H.length:=by
  simp only [H0]
  split
  ·rfl
  ·exact freeze_length F H
 have hH0 : ∀ id o, H0[id]? = some o → ∃ o', H[id]? = some o' ∧ o.elems = o'.elems ∧ o.k = o'.k ∧ (o.st = o'.st ∨ (o'.st = 0 ∧ o.st = 1 ∧ id ∈ F ∧ fl = false)) ∧ (fl = false → id ∈ F → o.st ≠ 0) := by
  intro id o ho
  simp only [H0] at ho
  cases hfl' : fl with
  | true=>rw [hfl'] at ho;exact ⟨o,ho,rfl,rfl,.inl rfl,fun h=>Bool.noConfusion h⟩
  | false=>
   rw [hfl'] at ho
   simp only [Bool.false_eq_true,if_false] at ho
   rw [freeze_get] at ho
   obtain ⟨o', h1, h2⟩ := Option.map_eq_some_iff.1 ho
   refine ⟨o', h1, ?_⟩
   by_cases hid : id ∈ F
   ·rw [if_pos hid] at h2
    subst h2
    by_cases h0 : o'.st = 0
    ·simp [AO.freeze,h0,hid]
    ·simp [AO.freeze,h0]
   ·rw [if_neg hid] at h2
    subst h2
    exact ⟨rfl,rfl,.inl rfl,fun _ h=>absurd h hid⟩
 let τ:=tau σ H.length
 have hτin : ∀ (i j : Nat),σ[i]? = some j → τ i = j:=fun i j hij=>by simp [τ,tau,hij]
 have hτout : ∀ (i : Nat),σ.length ≤ i → τ i = H.length + (i - σ.length):=fun i hi=>by simp [τ,tau,List.getElem?_eq_none hi]
 let ρF : Nat → Option Blk:=fun id=>if id < H.length then (if id ∈ σ then (σ.idxOf? id).bind s2.ρ else st.ρ id) else s2.ρ (id - H.length + σ.length)
 let SF : Nat → Prop:=fun b=>st.S b ∨ (fl = false ∧ s2.S b)
 let sF : St:=⟨H.length + (s2.n - σ.length),ρF,SF,st.G,st.U,st.S0⟩
 have hidx : ∀ (i j : Nat),σ[i]? = some j → σ.idxOf? j = some i:=by
  intro i j hij
  cases hx : σ.idxOf? j with
  | none=>
   rw [List.idxOf?_eq_none_iff] at hx
   exact absurd (hmemσ i j hij) hx
  | some k=>
   rw [List.idxOf?_eq_some_iff] at hx
   obtain ⟨l1,l2,l3⟩:=hx
   congr 1
   exact hσinj k i j (by rw [List.getElem?_eq_getElem l1];simpa using l2) hij
 have hFin : ∀ (i j : Nat),σ[i]? = some j → sF.ρ j = s2.ρ i:=fun i j hij=>by simp only [sF,ρF];rw [if_pos (hjl i j hij),if_pos (hmemσ i j hij),hidx i j hij];rfl
 have hFun : ∀ id,id < H.length → id ∉ σ → sF.ρ id = st.ρ id:=fun id h1 h2=>by simp only [sF,ρF];rw [if_pos h1,if_neg h2]
 have hFnew : ∀ i,σ.length ≤ i → sF.ρ (τ i) = s2.ρ i:=fun i hi=>by
  rw [hτout i hi]
  simp only [sF,ρF]
  rw [if_neg (by omega)]
  congr 1;omega
 have hFτ : ∀ i,i < s2.n → sF.ρ (τ i) = s2.ρ i:=fun i hi=>by
  rcases Nat.lt_or_ge i σ.length with h1 | h1
  ·have:=List.getElem?_eq_getElem h1
   rw [hτin i _ this,hFin i _ this]
  ·exact hFnew i h1
 -- where an object of the final heap comes from
 have hsplit : ∀ id r,sF.ρ id = some r → (id < H.length ∧ id ∉ σ ∧ st.ρ id = some r) ∨ ∃ i,id = τ i ∧ s2.ρ i = some r:=by
  intro id r hr
  by_cases hid : id < H.length
  ·by_cases hm : id ∈ σ
   ·obtain ⟨i,hi⟩:=List.mem_iff_getElem?.1 hm
    rw [hFin i id hi] at hr
    exact .inr ⟨i,(hτin i id hi).symm,hr⟩
   ·rw [hFun id hid hm] at hr
    exact .inl ⟨hid,hm,hr⟩
  ·refine .inr ⟨id - H.length + σ.length,?_,by simpa [sF,ρF,hid] using hr⟩
   rw [hτout _ (by omega)];omega
 have hτinj : ∀ i i', τ i = τ i' → i = i' := by
  intro i i' he
  rcases Nat.lt_or_ge i σ.length with a | a<;>rcases Nat.lt_or_ge i' σ.length with b | b
  ·have h1:=List.getElem?_eq_getElem a
   have h2:=List.getElem?_eq_getElem b
   rw [hτin i _ h1,hτin i' _ h2] at he
   exact hσinj i i' _ h1 (by rw [he];exact h2)
  ·have h1:=List.getElem?_eq_getElem a
   rw [hτin i _ h1,hτout i' b] at he
   have:=hjl i _ h1
   omega
  ·have h2:=List.getElem?_eq_getElem b
   rw [hτout i a,hτin i' _ h2] at he
   have:=hjl i' _ h2
   omega
  ·rw [hτout i a,hτout i' b] at he
   omega
 have hτσ : ∀ i id,id < H.length → id ∉ σ → τ i ≠ id:=by
  intro i id h1 h2 he
  rcases Nat.lt_or_ge i σ.length with a | a
  ·have h3:=List.getElem?_eq_getElem a
   rw [hτin i _ h3] at he
   exact h2 (he ▸ hmemσ i _ h3)
  ·rw [hτout i a] at he
   omega
 let HF : Heap:=outH σ τ H0 h1
 have hsl : (setAll H0 σ (h1.map (renO τ))).length = H.length:=by rw [length_setAll,hH0l]
 have hget1 : ∀ id,id < H.length → id ∉ σ → HF[id]? = H0[id]?:=fun id h3 h4=>by
  simp only [HF,outH]
  rw [List.getElem?_append_left (by rw [hsl];exact h3),get_setAll_out _ _ _ _ h4]
 have hget2 : ∀ i o,h1[i]? = some o → HF[τ i]? = some (renO τ o):=by
  intro i o ho
  simp only [HF,outH]
  rcases Nat.lt_or_ge i σ.length with a | a
  ·have h3:=List.getElem?_eq_getElem a
   rw [hτin i _ h3]
   rw [List.getElem?_append_left (by rw [hsl];exact hjl i _ h3)]
   exact get_setAll_in _ _ _ i _ _ hσ h3 (by simp [ho]) (by rw [hH0l];exact hjl i _ h3)
  ·rw [hτout i a,List.getElem?_append_right (by rw [hsl];omega),hsl]
   rw [List.getElem?_map,List.getElem?_drop]
   rw [show σ.length + (H.length + (i - σ.length) - H.length) = i by omega,ho]
   rfl
 have hlenF : HF.length = H.length + (s2.n - σ.length):=by
  simp only [HF,outH,List.length_append,hsl,List.length_map,List.length_drop]
  rw [hl2]
 have hget3 : ∀ id o, HF[id]? = some o → (id < H.length ∧ id ∉ σ ∧ H0[id]? = some o) ∨ ∃ i o', id = τ i ∧ h1[i]? = some o' ∧ o = renO τ o' := by
  intro id o ho
  by_cases hid : id < H.length
  ·by_cases hm : id ∈ σ
   ·obtain ⟨i,hi⟩:=List.mem_iff_getElem?.1 hm
    have hil : i < h1.length:=by
     have:=(List.getElem?_eq_some_iff.1 hi).1
     have:=hl2
     omega
    have:=hget2 i _ (List.getElem?_eq_getElem hil)
    rw [hτin i id hi,ho] at this
    exact .inr ⟨i,_,(hτin i id hi).symm,List.getElem?_eq_getElem hil,Option.some.inj this⟩
   ·rw [hget1 id hid hm] at ho
    exact .inl ⟨hid,hm,ho⟩
  ·have hidl : id < HF.length:=(List.getElem?_eq_some_iff.1 ho).1
   rw [hlenF] at hidl
   have hil : id - H.length + σ.length < h1.length:=by have:=hl2;omega
   have:=hget2 _ _ (List.getElem?_eq_getElem hil)
   have hτe : τ (id - H.length + σ.length) = id:=by rw [hτout _ (by omega)];omega
   rw [hτe,ho] at this
   exact .inr ⟨_,_,hτe.symm,List.getElem?_eq_getElem hil,Option.some.inj this⟩
 have hG2 : ∀ i,s2.G i ↔ ∃ j,σ[i]? = some j ∧ st.G j:=fun i=>by rw [g2];exact Iff.rfl
 have hGτ : ∀ i,¬ s2.G i → ¬ st.G (τ i):=by
  intro i hi hg
  rcases Nat.lt_or_ge i σ.length with a | a
  ·have h3:=List.getElem?_eq_getElem a
   rw [hτin i _ h3] at hg
   exact hi ((hG2 i).2 ⟨_,h3,hg⟩)
  ·have:=hw.gho _ hg
   rw [hw.len,hτout i a] at this
   omega
 have hGτ' : ∀ i,st.G (τ i) → s2.G i:=fun i hg=>Classical.byContradiction fun h=>hGτ i h hg
 have hGn : ∀ i,s2.G i → st.G (τ i):=by
  intro i hi
  obtain ⟨j,h3,h4⟩:=(hG2 i).1 hi
  rw [hτin i j h3];exact h4
 -- what lies outside is as it was
 have hout : ∀ id r,st.ρ id = some r → id ∉ σ → r.m ≠ 0 → Ud r.b:=by
  intro id r hr hid hm
  refine .inr ⟨hw.blk_lt hr hm,fun i j s hj hs hsm hb=>?_⟩
  have:=hw.inj j id s r hs hr hsm hm hb
  subst this
  exact hid (hmemσ i j hj)
 have hUsame : ∀ b,Ud b → w2.heap[b]? = w.heap[b]?:=fun b hb=>e2.U.2.2 b hb
 have hS2 : ∀ b,s2.S b → Sd b ∨ ¬ Ud b:=by
  intro b hb
  rcases w2r.x.low b hb with h3 | h3
  ·left
   rw [hS02] at h3;exact h3
  ·right
   rw [hU2] at h3;exact h3
 have hown2 : ∀ i r,s2.ρ i = some r → r.m ≠ 0 → ¬ Ud r.b:=by
  intro i r hr hm
  have:=w2r.x.own i r hr hm
  rw [hU2] at this;exact this
 have hSS : ∀ b,st.S b → s2.S b:=fun b hb=>(e2.S b (hS b hb)).1
 have hExt : Ext w st w2 sF:=by
  refine ⟨?_,fun id hid hg r hr=>?_,fun b hb=>⟨.inl hb,(e2.S b (hS b hb)).2⟩,fun id _ hg=>hg,rfl,rfl,fun b hb=>hUsame b (.inl hb)⟩
  ·show st.n ≤ H.length + _
   rw [hw.len];omega
  ·rcases hsplit id r hr with ⟨_,_,h3⟩ | ⟨i,rfl,h3⟩
   ·exact h3
   ·have hil : i < σ.length:=by
     rcases Nat.lt_or_ge i σ.length with a | a
     ·exact a
     ·rw [hw.len,hτout i a] at hid
      omega
    have h4:=List.getElem?_eq_getElem hil
    have hgi : ¬ stc.G i:=fun ⟨j,a1,a2⟩=>hg (by rw [hτin i j a1];exact a2)
    have:=e2.ρ i (by show i < h.length;omega) hgi r h3
    rw [hρ i _ h4] at this
    rw [hτin i _ h4]
    exact this
 have hback : Back w2 s2 sF τ fl:=by
  refine ⟨fun i hi=>?_,fun i _ hg=>hGτ i hg,fun i hi r hr=>?_,fun h3 b hb=>.inr ⟨h3,hb⟩⟩
  ·show τ i < H.length + _
   rcases Nat.lt_or_ge i σ.length with a | a
   ·have h4:=List.getElem?_eq_getElem a
    rw [hτin i _ h4]
    have:=hjl i _ h4
    omega
   ·rw [hτout i a];omega
  ·rw [hFτ i hi] at hr;exact hr
 have hwF : WR B W w2 sF HF:=by
  refine ⟨w2r.below,w2r.base,hlenF.symm,fun id o ho hst hg=>?_,fun id o ho hst hg=>?_,fun id r hr=>?_,fun id id' r s hid hid' hr hs hb=>?_,fun b hb=>?_,fun id r o hr ho hst hm=>?_,fun id r o hr ho hst hm=>?_,fun id hg=>?_,fun id r hr hm=>?_,fun b hb=>?_,fun b hb=>?_⟩
  ·rcases hget3 id o ho with ⟨h3, h4, h5⟩ | ⟨i, o', rfl, h3, rfl⟩
   ·obtain ⟨o', k1, k2, k3, k4, _⟩ := hH0 id o h5
    obtain ⟨r,r1,r2⟩:=hw.obj id o' k1 (by rcases k4 with k4 | k4<;>omega) hg
    have r3:=r2.mono hExt (fun hm=>hUsame r.b (hout id r r1 h4 hm))
    exact ⟨r,by rw [hFun id h3 h4];exact r1,by rw [r3.n,k2],r3.m,by rw [r3.k,k3],r3.k0,fun hm=>by
     rw [k2]
     exact r3.mem hm⟩
   ·obtain ⟨r,r1,r2⟩:=w2r.obj i o' h3 hst (fun hgi=>hg (hGn i hgi))
    have hi2 : i < s2.n:=by rw [hl2];exact (List.getElem?_eq_some_iff.1 h3).1
    refine ⟨r,by rw [hFτ i hi2];exact r1,?_⟩
    refine ⟨by rw [r2.n];simp [renO],r2.m,r2.k,r2.k0,fun hm=>?_⟩
    obtain ⟨b1,cs,e,fr,b2,b3,b4,b5⟩:=r2.mem hm
    refine ⟨b1,cs,e,fr,b2,b3,b4,fun n x hx=>?_⟩
    simp only [renO,rens_map,List.getElem?_map] at hx
    obtain ⟨y,hy,rfl⟩:=Option.map_eq_some_iff.1 hx
    obtain ⟨us,u1,u2,u3⟩:=b5 n y hy
    refine ⟨us,u1,ren_aC hback y us (fun h4=>?_) u2,u3⟩
    have h6:=((hfl h4).2 o' (List.mem_of_getElem? h3)).1
    have hall : ∀ (l : List AV),AV.flats l = true → ∀ x ∈ l,x.flat = true:=by
     intro l
     induction l with
     | nil=>intro _ x hx;cases hx
     | cons z l ih=>
      intro hfs x hx
      simp only [AV.flats,Bool.and_eq_true] at hfs
      rcases List.mem_cons.1 hx with rfl | hx
      ·exact hfs.1
      ·exact ih hfs.2 x hx
    exact hall _ h6 y (List.mem_of_getElem? hy)
  ·rcases hget3 id o ho with ⟨h3, h4, h5⟩ | ⟨i, o', rfl, h3, rfl⟩
   ·obtain ⟨o', k1, k2, k3, k4, _⟩ := hH0 id o h5
    obtain ⟨r,r1,r2⟩:=hw.mobj id o' k1 (by rcases k4 with k4 | k4<;>omega) hg
    have r3:=r2.keep (hUsame r.b (hout id r r1 h4 r2.m))
    refine ⟨r,by rw [hFun id h3 h4];exact r1,r3.m,r3.low,?_⟩
    rw [k2];exact r3.at_
   ·obtain ⟨r,r1,r2⟩:=w2r.mobj i o' h3 hst (fun hgi=>hg (hGn i hgi))
    have hi2 : i < s2.n:=by rw [hl2];exact (List.getElem?_eq_some_iff.1 h3).1
    refine ⟨r,by rw [hFτ i hi2];exact r1,r2.m,r2.low,?_⟩
    obtain ⟨es,e1,e2,ebn,e3⟩:=r2.at_
    refine ⟨es,e1,by rw [e2];simp [renO],ebn,fun n x hx=>?_⟩
    simp only [renO,rens_map,List.getElem?_map] at hx
    obtain ⟨y,hy,rfl⟩:=Option.map_eq_some_iff.1 hx
    rcases e3 n y hy with rfl | ⟨a,v,e,q1,q2,q3,q4⟩
    ·exact .inl rfl
    ·subst q1;exact .inr ⟨a,v,e,rfl,q2,q3,q4⟩
  ·rcases hsplit id r hr with ⟨h3,h4,h5⟩ | ⟨i,rfl,h3⟩
   ·obtain ⟨o,d1,d2,d3⟩:=hw.dom id r h5
    have hid0 : id < H0.length:=by rw [hH0l];exact h3
    have ho0:=List.getElem?_eq_getElem hid0
    obtain ⟨o', k1, k2, k3, k4, _⟩ := hH0 id _ ho0
    rw [d1] at k1;cases k1
    exact ⟨_,by rw [hget1 id h3 h4];exact ho0,by rcases k4 with k4 | k4<;>omega,d3⟩
   ·obtain ⟨o,d1,d2,d3⟩:=w2r.dom i r h3
    exact ⟨_,hget2 i o d1,d2,hGτ i d3⟩
  ·rcases hsplit id r hid with ⟨h3, h4, h5⟩ | ⟨i, rfl, h3⟩ <;> rcases hsplit id' s hid' with ⟨k3, k4, k5⟩ | ⟨i', rfl, k3⟩
   ·exact hw.inj id id' r s h5 k5 hr hs hb
   ·exact absurd (hb ▸ hout id r h5 h4 hr) (hown2 i' s k3 hs)
   ·exact absurd (hb ▸ hout id' s k5 k4 hs) (hown2 i r h3 hr)
   ·rw [w2r.inj i i' r s h3 k3 hr hs hb]
  ·rcases hb with hb | ⟨_,hb⟩
   ·exact w2r.stab b (hSS b hb)
   ·exact w2r.stab b hb
  ·rcases hget3 id o ho with ⟨h3, h4, h5⟩ | ⟨i, o', rfl, h3, rfl⟩
   ·rw [hFun id h3 h4] at hr
    obtain ⟨o', k1, k2, k3, k4, k5⟩ := hH0 id o h5
    have h0 : o'.st = 0 ∨ o'.st = 3:=by rcases k4 with k4 | k4<;>omega
    rintro (hb | ⟨hfl', hb⟩)
    ·exact hw.live id r o' hr k1 h0 hm hb
    ·rcases hS2 _ hb with (hb | ⟨id', hid', o2, ho2, h22, s, hs, hsm, hbb⟩) | hb
     ·exact hw.live id r o' hr k1 h0 hm hb
     ·have:=hw.inj id' id s r hs hr hsm hm hbb
      subst this
      rw [k1] at ho2;cases ho2
      have:=k5 hfl' hid'
      rcases k4 with k4 | k4<;>omega
     ·exact hb (hout id r hr h4 hm)
   ·have hi2 : i < s2.n:=by rw [hl2];exact (List.getElem?_eq_some_iff.1 h3).1
    rw [hFτ i hi2] at hr
    have:=w2r.live i r o' hr h3 hst hm
    rintro (hb | ⟨_,hb⟩)
    ·exact this (hSS _ hb)
    ·exact this hb
  ·rcases hget3 id o ho with ⟨h3, h4, h5⟩ | ⟨i, o', rfl, h3, rfl⟩
   ·rw [hFun id h3 h4] at hr
    obtain ⟨o', k1, k2, k3, k4, k5⟩ := hH0 id o h5
    rcases k4 with k4 | ⟨k4,k6,k7,k8⟩
    ·exact .inl (hw.frz id r o' hr k1 (by omega) hm)
    ·exact .inr ⟨k8,(e2.S r.b (hF id k7 o' k1 (by omega) r hr hm)).1⟩
   ·have hi2 : i < s2.n:=by rw [hl2];exact (List.getElem?_eq_some_iff.1 h3).1
    rw [hFτ i hi2] at hr
    cases hfl' : fl with
    | true=>exact absurd hst ((hfl hfl').2 o' (List.mem_of_getElem? h3)).2
    | false => exact .inr ⟨hfl', w2r.frz i r o' hr h3 hst hm⟩
  ·show id < H.length + _
   have:=hw.gho id hg
   rw [hw.len] at this
   omega
  ·rcases hsplit id r hr with ⟨h3,h4,h5⟩ | ⟨i,rfl,h3⟩
   ·exact hw.x.own id r h5 hm
   ·exact fun hu=>hown2 i r h3 hm (.inl hu)
  ·rcases hb with hb | ⟨_,hb⟩
   ·exact hw.x.low b hb
   ·rcases hS2 b hb with (hb | ⟨id', hid', _, _, _, s, hs, hsm, hbb⟩) | hb
    ·exact hw.x.low b hb
    ·exact .inr (hbb ▸ hw.x.own id' s hs hsm)
    ·exact .inr fun hu=>hb (.inl hu)
  ·have hlt:=hw.x.ub b hb
   have h3:=hUsame b (.inl hb)
   rw [Array.getElem?_eq_getElem hlt] at h3
   exact (Array.getElem?_eq_some_iff.1 h3).1
 refine ⟨sF,hwF,?_,hExt,rfl⟩
 obtain ⟨us,u1,u2⟩:=vr
 refine ⟨us,?_,ren_aC hback r us (fun h3=>(hfl h3).1) u2⟩
 have : (ren τ r).isAgg = r.isAgg:=by cases r<;>rfl
 show (if (ren τ r).isAgg = true then _ else _)
 rw [this]
 exact u1
theorem run_emb {P : Program} {f : Nat} {args args' : List AV} {h H h1 : Heap} {r : AV} {σ F : List Nat} {fl : Bool} (hf : Run P f args h r h1) (hσ : σ.Nodup) (hσF : ∀ id ∈ F,id ∉ σ) (ha : embs σ F H args args') (hh : embH σ F H σ h)
  (hfl : fl = true → r.flat = true ∧ ∀ o ∈ h1,AV.flats o.elems = true ∧ o.st ≠ 1) :
  Run P f args' H (ren (tau σ H.length) r) (outH σ (tau σ H.length) (if fl then H else freeze H F) h1):=
 fun B W=>run_embA (hf B W) hσ hσF ha hh hfl
end Dw
namespace Dw
open Go Go.RowKit
section
variable {P : Program} {E : TE} (hE : EOK P E)
include hE
end
theorem run_pure {P : Program} {f : Nat} {xs : List D} {r : D} (hf : Run P f (xs.map .d) [] (.d r) []) (hr : r.flat = true) (H : Heap) {args : List AV} (ha : ∃ F,embs [] F H (xs.map .d) args) : Run P f args H (.d r) H:=by
 obtain ⟨F,ha⟩:=ha
 have:=run_emb (σ:=[]) (F:=F) (H:=H) (fl:=true) hf List.nodup_nil (fun _ _ h=>by cases h) ha (by simp [embH]) (fun _=>⟨by simpa [AV.flat] using hr,fun o ho=>by cases ho⟩)
 simpa [ren,outH,setAll] using this
end Dw
namespace Dw
open Go Go.RowKit
theorem endr_data {x y : D} {h : Heap} (e : x = y) : EndR [] 0 h (.d x) (.d y) []:=.inl ⟨[],rfl,rfl,⟨e,trivial⟩,trivial⟩
theorem endr_tup2 {a b : D} {y : D} {h : Heap} (e : D.tup [a,b] = y) : EndR [] 0 h (.tup [.d a,.d b]) (.d y) []:=by
 subst e
 exact .inl ⟨[],rfl,rfl,⟨⟨rfl,rfl,rfl,trivial⟩,trivial⟩,trivial⟩
theorem endr_tup3 {a b c : D} {y : D} {h : Heap} (e : D.tup [a,b,c] = y) : EndR [] 0 h (.tup [.d a,.d b,.d c]) (.d y) []:=by
 subst e
 exact .inl ⟨[],rfl,rfl,⟨⟨rfl,rfl,rfl,rfl,trivial⟩,trivial⟩,trivial⟩
theorem endr_view {a : AV} {x y : D} {h : Heap} (hv : view 8 h a = some x) (e : x = y) : EndR [] 0 h a (.d y) []:=by
 subst e
 exact .inr ⟨x,hv,rfl,[],rfl,rfl,trivial,trivial⟩
theorem embs_views (H : Heap) : ∀ (args : List AV) (xs : List D) (F : List Nat),(∀ id ∈ args.flatMap (reach 8 H),id ∈ F) → vl (view 8 H) args = some xs → embs [] F H (xs.map .d) args
 | [],xs,F,_,h=>by simp [vl] at h;subst h;simp [embs]
 | a :: args,xs,F,hF,h=>by
  simp only [vl] at h
  split at h
  ·rename_i x hx
   split at h
   ·rename_i r hr
    cases h
    simp only [List.map_cons,embs,emb]
    exact ⟨⟨hx,fun id hid=>hF id (by simp [hid])⟩,embs_views H args r F (fun id hid=>hF id (by simp only [List.flatMap_cons,List.mem_append];exact .inr hid)) hr⟩
   ·cases h
  ·cases h
section
variable {P : Program} {f : Nat} {xs : List D} {r : D} (hf : Run P f (xs.map .d) [] (.d r) []) {H : Heap} {args : List AV}
include hf
theorem run_view (hr : r.flat = true) (hv : vl (view 8 H) args = some xs) : Run P f args H (.d r) H:=
 run_pure hf hr H ⟨_,embs_views H args xs (args.flatMap (reach 8 H)) (fun _ h=>h) hv⟩
theorem run_viewF (hv : vl (view 8 H) args = some xs) : Run P f args H (.d r) (freeze H (args.flatMap (reach 8 H))):=by
 have:=run_emb (σ:=[]) (F:=args.flatMap (reach 8 H)) (H:=H) (fl:=false) hf List.nodup_nil (fun _ _ h=>by cases h) (embs_views H args xs _ (fun _ h=>h) hv) (by simp [embH]) (fun h=>by cases h)
 simpa [ren,outH,setAll] using this
end
theorem call_step {P : Program} {f : Nat} {args : List AV} {h h' : Heap} {r : AV} {K : KV} (hR : Run P f args h r h') (k : K r h') : ∃ r h', Run P f args h r h' ∧ K r h' := ⟨r, h', hR, k⟩
theorem run_at {P : Program} {f : Nat} {args args' : List AV} {h H h1 H' : Heap} {r r' : AV} {σ F : List Nat} {fl : Bool} (hf : Run P f args h r h1) (hσ : σ.Nodup) (hσF : ∀ id ∈ F,id ∉ σ) (ha : embs σ F H args args') (hh : embH σ F H σ h)
  (hfl : fl = true → r.flat = true ∧ ∀ o ∈ h1,AV.flats o.elems = true ∧ o.st ≠ 1) (hr : ren (tau σ H.length) r = r') (hH : outH σ (tau σ H.length) (if fl then H else freeze H F) h1 = H') : Run P f args' H r' H':=by
 subst hr;subst hH
 exact run_emb hf hσ hσF ha hh hfl
theorem flats_map : ∀ (l : List D),(∀ x ∈ l,x.flat = true) → AV.flats (l.map .d) = true
 | [],_=>rfl
 | x :: l,h=>by
  simp only [List.map_cons,AV.flats,AV.flat,Bool.and_eq_true]
  exact ⟨h x (by simp),flats_map l fun y hy=>h y (by simp [hy])⟩
theorem vl_data (H : Heap) : ∀ (xs : List D),vl (view 8 H) (xs.map .d) = some xs
 | []=>rfl
 | x :: xs=>by
  have hv : view 8 H (.d x) = some x:=rfl
  simp only [List.map_cons,vl,hv,vl_data H xs]
theorem vl_map_d (n : Nat) (H : Heap) : ∀ (l : List D),vl (view (n + 1) H) (l.map .d) = some l
 | []=>rfl
 | x :: xs=>by
  have hv : view (n + 1) H (.d x) = some x:=rfl
  simp only [List.map_cons,vl,hv,vl_map_d n H xs]
theorem view_own {H : Heap} {id s len k k' st n : Nat} {cap : Option Nat} {l : List D} (h : H[id]? = some ⟨l.map .d,k,st⟩) (hst : st < 2) (hs : s + len ≤ l.length) : view (n + 2) H (.sl id s len k' cap) = some (.fs ((l.drop s).take len)):=by
 have e : (l.map AV.d).drop s = (l.drop s).map .d:=by rw [List.map_drop]
 have e2 : ((l.drop s).map AV.d).take len = ((l.drop s).take len).map .d:=by rw [List.map_take]
 have hv:=vl_map_d n H ((l.drop s).take len)
 show (match H[id]? with
  | some o=>if o.st < 2 then (if s + len ≤ o.elems.length then (vl (view (n + 1) H) ((o.elems.drop s).take len)).map D.fs else none) else none
  | none=>none) = _
 simp only [h,if_pos hst,List.length_map,if_pos hs,e,e2,hv,Option.map_some]
theorem view_all {H : Heap} {id k k' st n : Nat} {cap : Option Nat} {l : List D} (h : H[id]? = some ⟨l.map .d,k,st⟩) (hst : st < 2) : view (n + 2) H (.sl id 0 l.length k' cap) = some (.fs l):=by
 rw [view_own h hst (by omega)]
 simp
theorem view_bytes {H : Heap} {id k k' st n : Nat} {cap : Option Nat} {l : List UInt8} (h : H[id]? = some ⟨l.map byteV,k,st⟩) (hst : st < 2) : view (n + 2) H (.sl id 0 l.length k' cap) = some (.fs (l.map fun b=>.int .u8 b.toNat)):=by
 have e : l.map byteV = (l.map fun b=>D.int .u8 b.toNat).map .d:=by rw [List.map_map];rfl
 rw [e] at h
 have:=view_all (n:=n) (k':=k') (cap:=cap) h hst
 simpa using this
theorem vl1 {f : AV → Option D} {a : AV} {x : D} (h : f a = some x) : vl f [a] = some [x]:=by simp [vl,h]
theorem vl2 {f : AV → Option D} {a b : AV} {x y : D} (h : f a = some x) (g : f b = some y) : vl f [a,b] = some [x,y]:=by simp [vl,h,g]
theorem run_data {P : Program} {f : Nat} {xs : List D} {r : D} (hf : Run P f (xs.map .d) [] (.d r) []) (H : Heap) : Run P f (xs.map .d) H (.d r) H:=by
 have:=run_viewF hf (vl_data H xs)
 have hre : (xs.map AV.d).flatMap (reach 8 H) = []:=by
  induction xs with
  | nil=>rfl
  | cons x xs ih=>simp [reach]
 rw [hre] at this
 exact this
end Dw
namespace Dw
open Go Go.RowKit
inductive TT where
 | nil
 | leaf (n : Nat) (t : TI)
 | node (p : Nat) (l r : TT)
def TT.get : TT → Nat → TI
 | .nil,_=>noTI
 | .leaf n t,m=>match Nat.beq n m with
  | true=>t
  | false=>noTI
 | .node p l r,m=>match Nat.ble p m with
  | true=>r.get m
  | false=>l.get m
def allTT (P : Program) : TT → Bool
 | .nil=>true
 | .leaf n t=>tiOk P n t
 | .node _ l r=>allTT P l && allTT P r
theorem allTT_spec {P : Program} : ∀ (x : TT),allTT P x = true → ∀ t,(x.get t).kind ≠ 0 → tiOk P t (x.get t) = true
 | .nil,_,t,h=>absurd rfl h
 | .leaf n ti,h,t,hk=>by
  simp only [TT.get] at hk ⊢
  cases hb : Nat.beq n t
  ·rw [hb] at hk;exact absurd rfl hk
  ·have:=Nat.eq_of_beq_eq_true hb
   subst this
   exact h
 | .node p l r,h,t,hk=>by
  simp only [allTT,Bool.and_eq_true] at h
  simp only [TT.get] at hk ⊢
  cases hb : Nat.ble p t
  ·rw [hb] at hk;exact allTT_spec l h.1 t hk
  ·rw [hb] at hk;exact allTT_spec r h.2 t hk
theorem eok_tree {P : Program} {tab : TT} (h1 : P.follows .mixedOrders = true) (h2 : allTT P tab = true) : EOK P tab.get:=
 ⟨h1,fun t hk=>allTT_spec tab h2 t hk⟩
abbrev Env:=List (Nat × AV)
def look : Env → Nat → AV
 | [],_=>.junk
 | (m,v) :: A,n=>match Nat.beq m n with
  | true=>v
  | false=>look A n
def lookK : Env → Nat → (AV → Prop) → Prop
 | [],_,K=>K .junk
 | (m,v) :: A,n,K=>match Nat.beq m n with
  | true=>K v
  | false=>lookK A n K
theorem lookK_eq : ∀ (A : Env) (n : Nat) (K : AV → Prop),lookK A n K = K (look A n)
 | [],n,K=>rfl
 | (m,v) :: A,n,K=>by
  simp only [lookK,look]
  cases Nat.beq m n
  ·exact lookK_eq A n K
  ·rfl
abbrev OG:=Operand → (AV → Prop) → Prop
def opndF (A : Env) : OG:=fun x K=>
 match x with
 | .tmp t=>lookK A t K
 | .const v=>force (ofV v) K
 | .global _=>K .junk
 | .func f=>K (.d (.fn f [] []))
def opndsG (G : OG) : List Operand → (List AV → Prop) → Prop
 | [],K=>K []
 | x :: l,K=>G x (fun a=>opndsG G l (fun r=>K (a :: r)))
def fillG (E : TE) (t : TI) (G : OG) : List (Nat × Operand) → List AV → (List AV → Prop) → Prop
 | [],cs,K=>K cs
 | (i,x) :: l,cs,K=>G x (fun v=>
   onBool (t.kind == 5)
    (nthK t.fields i (fun p=>onOk (decide (p.1 + (E p.2).size ≤ cs.length) && (fits (E p.2) v && (E p.2).kind != 0)) (putK cs p.1 v.cells (fun cs'=>fillG E t G l cs' K))))
    (onOk ((t.kind == 6 && (E t.elem).kind != 0) && (decide (i * (E t.elem).size + (E t.elem).size ≤ cs.length) && fits (E t.elem) v)) (putK cs (i * (E t.elem).size) v.cells (fun cs'=>fillG E t G l cs' K))))
def rowG (t : TI) (G : OG) : List (Nat × Operand) → List AV → (List AV → Prop) → Prop
 | [],es,K=>K es
 | (i,x) :: l,es,K=>G x (fun v=>onOk (fits t v && decide (i < es.length)) (setK es i v (fun es'=>rowG t G l es' K)))
def optG (G : OG) : Option Operand → (Option AV → Prop) → Prop
 | none,K=>K none
 | some x,K=>G x (fun a=>K (some a))
inductive Stop : Prop where
 | mk
structure wrapK (k : IntKind) (x : Int) (K : Int → Prop) : Prop where
 stop : Stop
 out : K (k.wrap x)
theorem wrapK_eq (k : IntKind) (x : Int) (K : Int → Prop) : wrapK k x K = (K (k.wrap x)):=propext ⟨fun h=>h.out,fun h=>⟨.mk,h⟩⟩
structure divK (k : IntKind) (a b : Int) (K : Int → Prop) : Prop where
 stop : Stop
 out : onOk (!decide (b = 0)) (K (k.wrap (a.tdiv b)))
theorem divK_eq (k : IntKind) (a b : Int) (K : Int → Prop) : divK k a b K = (onOk (!decide (b = 0)) (K (k.wrap (a.tdiv b)))):=propext ⟨fun h=>h.out,fun h=>⟨.mk,h⟩⟩
structure remK (a b : Int) (K : Int → Prop) : Prop where
 stop : Stop
 out : onOk (!decide (b = 0)) (K (a.tmod b))
theorem remK_eq (a b : Int) (K : Int → Prop) : remK a b K = (onOk (!decide (b = 0)) (K (a.tmod b))):=propext ⟨fun h=>h.out,fun h=>⟨.mk,h⟩⟩
structure bitK (op : BinOp) (k : IntKind) (a b : Int) (K : Int → Prop) : Prop where
 stop : Stop
 out : K (bitsOf op k a b)
theorem bitK_eq (op : BinOp) (k : IntKind) (a b : Int) (K : Int → Prop) : bitK op k a b K = (K (bitsOf op k a b)):=propext ⟨fun h=>h.out,fun h=>⟨.mk,h⟩⟩
structure shlK (k : IntKind) (a b : Int) (K : Int → Prop) : Prop where
 stop : Stop
 out : onOk (decide (0 ≤ b)) (K (k.wrap (a * 2 ^ (min b.toNat k.bits))))
theorem shlK_eq (k : IntKind) (a b : Int) (K : Int → Prop) : shlK k a b K = (onOk (decide (0 ≤ b)) (K (k.wrap (a * 2 ^ (min b.toNat k.bits))))):=propext ⟨fun h=>h.out,fun h=>⟨.mk,h⟩⟩
structure shrK (k : IntKind) (a b : Int) (K : Int → Prop) : Prop where
 stop : Stop
 out : onOk (decide (0 ≤ b)) (K (a.fdiv (2 ^ (min b.toNat k.bits))))
theorem shrK_eq (k : IntKind) (a b : Int) (K : Int → Prop) : shrK k a b K = (onOk (decide (0 ≤ b)) (K (a.fdiv (2 ^ (min b.toNat k.bits))))):=propext ⟨fun h=>h.out,fun h=>⟨.mk,h⟩⟩
def intF (op : BinOp) (k : IntKind) (a b : Int) (K : AV → Prop) : Prop:=
 match op with
 | .add=>wrapK k (a + b) (fun n=>K (.d (.int k n)))
 | .sub=>wrapK k (a - b) (fun n=>K (.d (.int k n)))
 | .mul=>wrapK k (a * b) (fun n=>K (.d (.int k n)))
 | .quo=>divK k a b (fun n=>K (.d (.int k n)))
 | .rem=>remK a b (fun n=>K (.d (.int k n)))
 | .and=>bitK .and k a b (fun n=>K (.d (.int k n)))
 | .or=>bitK .or k a b (fun n=>K (.d (.int k n)))
 | .xor=>bitK .xor k a b (fun n=>K (.d (.int k n)))
 | .andNot=>bitK .andNot k a b (fun n=>K (.d (.int k n)))
 | .eql=>K (.d (.bool (decide (a = b))))
 | .neq=>K (.d (.bool (!decide (a = b))))
 | .lss=>K (.d (.bool (decide (a < b))))
 | .leq=>K (.d (.bool (decide (a ≤ b))))
 | .gtr=>K (.d (.bool (decide (b < a))))
 | .geq=>K (.d (.bool (decide (b ≤ a))))
 | _=>False
def binF (E : TE) (op : BinOp) (t : Nat) (x y : AV) (K : AV → Prop) : Prop:=
 match x,y with
 | .d (.int k a),.d (.int k' b)=>
  match op with
  | .shl=>shlK k a b (fun n=>K (.d (.int k n)))
  | .shr=>shrK k a b (fun n=>K (.d (.int k n)))
  | _=>onOk (k == k') (intF op k a b K)
 | .d (.str a),.d (.str b)=>strD op a b K
 | .d (.bool a),.d (.bool b)=>onOk ((E t).kind == 2) (eqD op (a == b) K)
 | _,_=>
  onOk (x.isAgg && y.isAgg && ((E t).kind == 5)) (
   match dcells x.cells with
   | some l=>match dcells y.cells with
    | some r=>onOk (!(E t).leaf.isEmpty && alike (E t).leaf l r) (eqD op (cellsEq l r) K)
    | none=>False
   | none=>False)
def unF (op : UnOp) (x : AV) (K : AV → Prop) : Prop:=
 match op,x with
 | .not,.d (.bool b)=>K (.d (.bool (!b)))
 | .neg,.d (.int k n)=>wrapK k (0 - n) (fun n=>K (.d (.int k n)))
 | _,_=>False
def convF (E : TE) (src dst : Nat) (x : AV) (h : Heap) (K : KV) : Prop:=
 match x with
 | .d (.int _ n)=>onOk ((E dst).kind == 1 && !((E src).kind == 0)) (wrapK (E dst).ik n (fun n=>K (.d (.int (E dst).ik n)) h))
 | _=>convD E src dst x h K
structure rowSl (x : List D) (lo hi : Int) (sz : Nat) (K : List D → Prop) : Prop where
 stop : Stop
 out : (0 ≤ lo ∧ lo ≤ hi ∧ hi ≤ x.length ∧ ∀ y ∈ x,y.cells.length = sz) ∧ K ((x.take hi.toNat).drop lo.toNat)
theorem rowSl_eq (x : List D) (lo hi : Int) (sz : Nat) (K : List D → Prop) : rowSl x lo hi sz K = ((0 ≤ lo ∧ lo ≤ hi ∧ hi ≤ x.length ∧ ∀ y ∈ x,y.cells.length = sz) ∧ K ((x.take hi.toNat).drop lo.toNat)):=propext ⟨fun h=>h.out,fun h=>⟨.mk,h⟩⟩
structure strSl (s : List UInt8) (lo hi : Int) (K : List UInt8 → Prop) : Prop where
 stop : Stop
 out : (0 ≤ lo ∧ lo ≤ hi ∧ hi ≤ s.length) ∧ K ((s.take hi.toNat).drop lo.toNat)
theorem strSl_eq (s : List UInt8) (lo hi : Int) (K : List UInt8 → Prop) : strSl s lo hi K = ((0 ≤ lo ∧ lo ≤ hi ∧ hi ≤ s.length) ∧ K ((s.take hi.toNat).drop lo.toNat)):=propext ⟨fun h=>h.out,fun h=>⟨.mk,h⟩⟩
structure ownSl (h : Heap) (id s len k : Nat) (cap : Option Nat) (lo hi : Int) (K : AV → Prop) : Prop where
 stop : Stop
 out : (0 ≤ lo ∧ lo ≤ hi ∧ inRoom h id s len cap hi) ∧ K (.sl id (s + lo.toNat) (hi.toNat - lo.toNat) k (match cap with | some c=>some (c - lo.toNat) | none=>none))
theorem ownSl_eq (h : Heap) (id s len k : Nat) (cap : Option Nat) (lo hi : Int) (K : AV → Prop) : ownSl h id s len k cap lo hi K = ((0 ≤ lo ∧ lo ≤ hi ∧ inRoom h id s len cap hi) ∧ K (.sl id (s + lo.toNat) (hi.toNat - lo.toNat) k (match cap with | some c=>some (c - lo.toNat) | none=>none))):=propext ⟨fun h=>h.out,fun h=>⟨.mk,h⟩⟩
def sliceF (E : TE) (t : Nat) (x : AV) (lo hi mx : Option AV) (h : Heap) (K : AV → Prop) : Prop:=
 match x with
 | .d (.str s)=>onOk ((E t).kind == 3 && mx.isNone) (boundK 0 lo (fun l=>boundK s.length hi (fun u=>strSl s l u (fun r=>K (.d (.str r))))))
 | .d (.fs y)=>match mx with
  | none=>onOk ((E t).kind == 4 && (E (E t).elem).kind != 0) (boundK 0 lo (fun l=>boundK y.length hi (fun u=>rowSl y l u (E (E t).elem).size (fun r=>K (.d (.fs r))))))
  | some m=>sliceD E t (.d (.fs y)) lo hi (some m) h K
 | .sl id s len k cap=>match mx with
  | none=>onOk ((E t).kind == 4 && (k == (E (E t).elem).size && (E (E t).elem).kind != 0)) (boundK 0 lo (fun l=>boundK len hi (fun u=>ownSl h id s len k cap l u K)))
  | some m=>sliceD E t (.sl id s len k cap) lo hi (some m) h K
 | _=>sliceD E t x lo hi mx h K
theorem sliceF_eq (E : TE) (t : Nat) (x : AV) (lo hi mx : Option AV) (h : Heap) (K : AV → Prop) : sliceF E t x lo hi mx h K = sliceD E t x lo hi mx h K:=by
 unfold sliceF
 split
 ·simp only [strSl_eq,sliceD]
 ·split
  ·simp only [rowSl_eq,sliceD]
  ·rfl
 ·split
  ·rename_i cap _
   simp only [ownSl_eq,sliceD]
   cases cap<;>rfl
  ·rfl
 ·rfl
theorem own_sl {h : Heap} {id s len k : Nat} {cap : Option Nat} {lo hi : Int} {K : AV → Prop} (a b : Nat) (ha : lo = a) (hb : hi = b) (hab : a ≤ b ∧ b ≤ len) (hk : K (.sl id (s + a) (b - a) k (match cap with | some c=>some (c - a) | none=>none))) : ownSl h id s len k cap lo hi K:=by
 subst ha;subst hb
 exact ⟨.mk,⟨by omega,by omega,.inl (by omega)⟩,hk⟩
theorem intF_eq (op : BinOp) (k : IntKind) (a b : Int) (K : AV → Prop) : intF op k a b K = intD op k a b K:=by
 cases op<;>simp only [intF,intD,wrapK_eq,divK_eq,remK_eq,bitK_eq]
theorem binF_eq (E : TE) (op : BinOp) (t : Nat) (x y : AV) (K : AV → Prop) : binF E op t x y K = binD E op t x y K:=by
 unfold binD
 split
 ·cases op<;>simp only [binF,shlK_eq,shrK_eq,intF_eq]
 ·rfl
 ·rfl
 ·rename_i h1 h2 h3
  unfold binF
  split
  ·exact (h1 _ _ _ _ rfl rfl).elim
  ·exact (h2 _ _ rfl rfl).elim
  ·exact (h3 _ _ rfl rfl).elim
  ·rfl
theorem unF_eq (op : UnOp) (x : AV) (K : AV → Prop) : unF op x K = unD op x K:=by
 unfold unF unD
 split<;>simp only [wrapK_eq]
theorem convF_eq (E : TE) (src dst : Nat) (x : AV) (h : Heap) (K : KV) : convF E src dst x h K = convD E src dst x h K:=by
 unfold convF
 split
 ·simp only [wrapK_eq,convD]
 ·rfl
theorem opndsG_eq (T : List AV) : ∀ (l : List Operand) (K : List AV → Prop),opndsK T l K = opndsG (opndK T) l K
 | [],K=>rfl
 | x :: l,K=>by simp only [opndsK,opndsG,opndsG_eq T l]
theorem fillG_eq (E : TE) (t : TI) (T : List AV) : ∀ (l : List (Nat × Operand)) (cs : List AV) (K : List AV → Prop),fillK E t T l cs K = fillG E t (opndK T) l cs K
 | [],cs,K=>rfl
 | (i,x) :: l,cs,K=>by simp only [fillK,fillG,fillG_eq E t T l]
theorem rowG_eq (t : TI) (T : List AV) : ∀ (l : List (Nat × Operand)) (es : List AV) (K : List AV → Prop),rowK t T l es K = rowG t (opndK T) l es K
 | [],es,K=>rfl
 | (i,x) :: l,es,K=>by simp only [rowK,rowG,rowG_eq t T l]
theorem optG_eq (T : List AV) (o : Option Operand) (K : Option AV → Prop) : optK T o K = optG (opndK T) o K:=by cases o<;>rfl
def opG (E : TE) (R : Rel) (G : OG) (h : Heap) (o : Op) (K : KV) : Prop:=
 match o with
 | .move x=>G x (fun a=>K a h)
 | .assign x=>G x (fun a=>K a h)
 | .pick c a b=>G c (fun c=>match c with
   | .d (.bool c)=>onBool c (G a (fun a=>K a h)) (G b (fun b=>K b h))
   | _=>False)
 | .alloc t=>onOk ((E t).kind != 0) (newD h { elems:=[(E t).zero],k:=(E t).size,st:=0 } (fun id h'=>K (.ptr id 0 0) h'))
 | .box t x=>G x (fun v=>onOk ((E t).kind != 0 && fits (E t) v) (newD h { elems:=[v],k:=(E t).size,st:=0 } (fun id h'=>K (.ptr id 0 0) h')))
 | .build t ps=>onOk ((E t).kind == 5 || ((E t).kind == 6 && (E (E t).elem).kind != 0)) (fillG E (E t) G ps.toList (E t).zero.cells (fun cs=>K (.agg cs) h))
 | .buildSlice t n ps=>onOk ((E t).kind == 4 && (decide (n * (E (E t).elem).size ≤ 16777216) && (E (E t).elem).kind != 0)) (
   onBool (n == 0) (onOk ps.toList.isEmpty (K .nilS h))
    (replK n (E (E t).elem).zero (fun es=>rowG (E (E t).elem) G ps.toList es (fun es=>onBool ((E t).len == 0) (newD h { elems:=es,k:=(E (E t).elem).size,st:=0 } (fun id h'=>K (.sl id 0 n (E (E t).elem).size (some n)) h')) (dataK es (fun ds=>K (.d (.fs ds)) h))))))
 | .load t a=>G a (fun a=>loadD (E t) a h (fun v=>K v h))
 | .store t a v=>G a (fun a=>G v (fun v=>storeD (E t) a v h (fun h'=>K .und h')))
 | .nilCheck x=>G x (fun a=>match a with
   | .ptr ..=>K a h
   | .fn ..=>K a h
   | .d (.fp ..)=>K a h
   | .d (.fn ..)=>K a h
   | _=>False)
 | .binOp op t x y _=>G x (fun a=>onBool (isNilC y) (nilD E op t a (fun v=>K v h)) (G y (fun b=>binF E op t a b (fun v=>K v h))))
 | .unOp op _ x=>G x (fun a=>unF op a (fun v=>K v h))
 | .convert src dst x=>G x (fun a=>convF E src dst a h K)
 | .makeFunc fn first cap=>match fn with
  | .func f=>opndsG G first.toList (fun a=>opndsG G cap.toList (fun c=>K (.fn f a c) h))
  | _=>False
 | .makeSlice t l c=>G l (fun l=>G c (fun c=>match l,c with
   | .d (.int _ l),.d (.int _ c)=>onOk ((E t).kind == 4 && (E (E t).elem).kind != 0) ((0 ≤ l ∧ l ≤ c ∧ c < 9223372036854775808 ∧ c * (E (E t).elem).bytes ≤ 140737488355328) ∧
     newD h { elems:=List.replicate c.toNat (E (E t).elem).zero,k:=(E (E t).elem).size,st:=0 } (fun id h'=>K (.sl id 0 l.toNat (E (E t).elem).size (some c.toNat)) h'))
   | _,_=>False))
 | .makeMap t r=>onOk ((E t).kind == 9 && r.isNone) (newD h { elems:=[],k:=1,st:=3 } (fun id h'=>K (.mp id) h'))
 | .lookup t x i c=>onOk (!c) <| G x (fun a=>G i (fun i=>lookupD E t a i h (fun v=>K v h)))
 | .mapUpdate t m i v=>G m (fun a=>G i (fun i=>G v (fun v=>updateD E t a i v h (fun h'=>K .und h'))))
 | .insert t m i v=>G m (fun a=>G i (fun i=>G v (fun v=>updateD E t a i v h (fun h'=>K .und h'))))
 | .slice t x lo hi mx=>G x (fun a=>optG G lo (fun lo=>optG G hi (fun hi=>optG G mx (fun mx=>sliceF E t a lo hi mx h (fun v=>K v h)))))
 | .fieldAddr s x f=>G x (fun a=>fieldAddrD E s a f (fun v=>K v h))
 | .field s x f=>G x (fun a=>fieldD E s a f (fun v=>K v h))
 | .indexAddr t x i=>G x (fun a=>G i (fun i=>indexAddrD E t a i (fun v=>K v h)))
 | .index t x i=>G x (fun a=>G i (fun i=>indexD E t a i (fun v=>K v h)))
 | .extract x i=>G x (fun a=>match a with
   | .tup l=>nthK l i (fun v=>K v h)
   | .d (.tup l)=>nthK l i (fun v=>K (.d v) h)
   | _=>False)
 | .call c=>match c.callee with
  | .value f=>G f (fun f=>opndsG G c.args.toList (fun args=>callK R f args h K))
  | .builtin b=>opndsG G c.args.toList (fun args=>builtinD E b c.argTypes.toList args h K)
  | _=>False
 | _=>False
theorem opG_eq (E : TE) (R : Rel) (T : List AV) (h : Heap) (o : Op) (K : KV) : opD E R T h o K = opG E R (opndK T) h o K:=by
 cases o<;>simp only [opD,opG,opndsG_eq,fillG_eq,rowG_eq,optG_eq,binF_eq,unF_eq,convF_eq,sliceF_eq]<;>rfl
def guardF (all : List Oper) (A : Env) (g : Option (Nat × Bool)) (P Q : Env → Prop) : Prop:=
 match g with
 | none=>P A
 | some (j,want)=>
  match dstOf all j with
  | some t=>lookK A t (fun a=>match a with
   | .d (.bool b)=>onBool b (onBool want (P ((t,.d (.bool true)) :: A)) (Q ((t,.d (.bool true)) :: A))) (onBool want (Q ((t,.d (.bool false)) :: A)) (P ((t,.d (.bool false)) :: A)))
   | .und=>Q A
   | _=>False)
  | none=>False
def dstF (dst : Option Nat) (v : AV) (A : Env) (K : Env → Prop) : Prop:=
 match dst with
 | some t=>K ((t,v) :: A)
 | none=>K A
/- By the recursor itself: what is left of a walk is then spelled alike, whoever unfolds it. -/
noncomputable def regF (E : TE) (R : Rel) (all : List Oper) (l : List Oper) : Env → Heap → (Env → Heap → Prop) → Prop:=
 List.rec (motive:=fun _=>Env → Heap → (Env → Heap → Prop) → Prop)
  (fun A h K=>K A h)
  (fun o _ ih A h K=>guardF all A o.guard
   (fun A=>opG E R (opndF A) h o.op (fun v h'=>dstF o.dst v A (fun A'=>ih A' h' K)))
   (fun A=>dstF o.dst .und A (fun A'=>ih A' h K)))
  l
theorem regF_cons {E : TE} {R : Rel} {all : List Oper} {o : Oper} {rest : List Oper} {A : Env} {h : Heap} {K : Env → Heap → Prop} : regF E R all (o :: rest) A h K = guardF all A o.guard
      (fun A=>opG E R (opndF A) h o.op (fun v h'=>dstF o.dst v A (fun A'=>regF E R all rest A' h' K)))
      (fun A=>dstF o.dst .und A (fun A'=>regF E R all rest A' h K)):=rfl
def readsF (G : OG) (o : Op) (K : Option Nat → Prop) : Prop:=
 match o with
 | .load _ a=>G a (fun v=>match v with | .ptr id _ _=>K (some id) | _=>K none)
 | .convert _ _ a=>G a (fun v=>match v with | .sl id _ _ _ _=>K (some id) | _=>K none)
 | .slice _ a _ _ _=>G a (fun v=>match v with | .sl id _ _ _ _=>K (some id) | _=>K none)
 | .lookup _ a _ _=>G a (fun v=>match v with | .mp id=>K (some id) | _=>K none)
 | _=>K none
theorem readsF_eq (T : List AV) (o : Op) (K : Option Nat → Prop) : readsK T o K = readsF (opndK T) o K:=by cases o<;>rfl
noncomputable def drawF (E : TE) (R : Rel) (all : List Oper) (ps : List (Nat × Nat)) (l : List (Nat × Oper)) : List Ev → Env → Heap → (Env → Heap → Prop) → Prop:=
 List.rec (motive:=fun _=>List Ev → Env → Heap → (Env → Heap → Prop) → Prop)
  (fun _ A h K=>K A h)
  (fun x _ ih L A h K=>guardF all A x.2.guard
   (fun A=>opG E R (opndF A) h x.2.op (fun v h'=>dstF x.2.dst v A (fun A'=>
    match cls E x.2.op with
    | 0=>ih L A' h' K
    | 1=>readsF (opndF A) x.2.op (fun r=>match r with
     | some id=>evD ps (.read x.1 id) L (ih (.read x.1 id :: L) A' h' K)
     | none=>ih L A' h' K)
    | 2=>match v with
     | .ptr id _ _=>ih (.made x.1 id :: L) A' h' K
     | _=>False
    | _=>evD ps (.heap x.1 h h') L (ih (.heap x.1 h h' :: L) A' h' K))))
   (fun A=>dstF x.2.dst .und A (fun A'=>ih L A' h K)))
  l
theorem drawF_cons {E : TE} {R : Rel} {all : List Oper} {ps : List (Nat × Nat)} {i : Nat} {o : Oper} {rest : List (Nat × Oper)} {L : List Ev} {A : Env} {h : Heap} {K : Env → Heap → Prop} : drawF E R all ps ((i, o) :: rest) L A h K = guardF all A o.guard
      (fun A=>opG E R (opndF A) h o.op (fun v h'=>dstF o.dst v A (fun A'=>
        match cls E o.op with
        | 0=>drawF E R all ps rest L A' h' K
        | 1=>readsF (opndF A) o.op (fun r=>match r with
          | some id=>evD ps (.read i id) L (drawF E R all ps rest (.read i id :: L) A' h' K)
          | none=>drawF E R all ps rest L A' h' K)
        | 2=>match v with
          | .ptr id _ _=>drawF E R all ps rest (.made i id :: L) A' h' K
          | _=>False
        | _=>evD ps (.heap i h h') L (drawF E R all ps rest (.heap i h h' :: L) A' h' K))))
      (fun A=>dstF o.dst .und A (fun A'=>drawF E R all ps rest L A' h K)):=rfl
def wkF (μ : List Mu) (A : Env) : Env → Prop
 | []=>True
 | (n,v) :: A1=>wk μ (look A n) v ∧ wkF μ A A1
def WkF (V : List Nat) (n0 : Nat) (A : Env) (h : Heap) (A1 : Env) (h1 : Heap) : Prop:=
 ∃ μ : List Mu,fixUp V n0 0 μ = true ∧ nodupB (olds μ) = true ∧ wkF μ A A1 ∧ wkH μ h μ h1
def sameF (A : Env) : Env → Prop
 | []=>True
 | (n,v) :: A1=>look A n = v ∧ sameF A A1
def WkG (V : List Nat) (n0 : Nat) (A : Env) (h : Heap) (A1 : Env) (h1 : Heap) : Prop:=(h1 = h ∧ sameF A A1) ∨ WkF V n0 A h A1 h1
def iterF (V : List Nat) (n0 : Nat) (W : Env → Heap → (Ex → Env → Heap → Prop) → Prop) (K : Ex → Env → Heap → Prop) : Nat → Env → Heap → Prop
 | 0,_,_=>False
 | n + 1,A,h=>∃ A1 h1,WkG V n0 A h A1 h1 ∧ W A1 h1 (fun ex A' h'=>match ex with
   | .normal=>iterF V n0 W K n A' h'
   | .exit id=>K (.exit id) A' h'
   | .ret=>K .ret A' h')
def condF (A : Env) (c : Operand) (P Q : Env → Prop) : Prop:=
 match c with
 | .tmp t=>lookK A t (fun a=>match a with
  | .d (.bool b)=>onBool b (P ((t,.d (.bool true)) :: A)) (Q ((t,.d (.bool false)) :: A))
  | _=>False)
 | .const (.bool b)=>onBool b (P A) (Q A)
 | _=>False
def cutF (C V : List Nat) (n0 id : Nat) (A : Env) (h : Heap) (K : Env → Heap → Prop) : Prop:=
 match C.any (Nat.beq id) with
 | true=>∃ A1 h1,WkF V n0 A h A1 h1 ∧ K A1 h1
 | false=>K A h
noncomputable def codeF (E : TE) (R : Rel) (C V : List Nat) (n0 : Nat) (c : Code) : Env → Heap → (Ex → Env → Heap → Prop) → Prop:=
 Code.rec (motive:=fun _=>Env → Heap → (Ex → Env → Heap → Prop) → Prop)
  (skip:=fun A h K=>K .normal A h)
  (region:=fun id ops d A h K=>cutF C V n0 id A h (fun A h=>match d with
   | false=>regF E R ops.toList ops.toList A h (K .normal)
   | true=>∃ fl ps,drawOk (flagE E fl) ops.toList ps = true ∧ drawF (flagE E fl) R.mute ops.toList ps (baseOrder ops.toList) [] A h (K .normal)))
  (seq:=fun _ _ x y A h K=>x A h (fun ex A h=>match ex with
   | .normal=>y A h K
   | .exit id=>K (.exit id) A h
   | .ret=>K .ret A h))
  (cond:=fun c _ _ x y A h K=>condF A c (fun A=>x A h K) (fun A=>y A h K))
  (block:=fun id _ x A h K=>x A h (fun ex A h=>match ex with
   | .normal=>K .normal A h
   | .exit i=>onBool (Nat.beq i id) (K .normal A h) (K (.exit i) A h)
   | .ret=>K .ret A h))
  (loop:=fun _ x A h K=>∃ n,iterF V n0 x K n A h)
  (rangeFunc:=fun _ _ _ _ _ _ _ _ _=>False)
  (exit:=fun id A h K=>K (.exit id) A h)
  (scope:=fun _ _ _ _ _=>False)
  (label:=fun _ _ _ _=>False)
  (goto:=fun _ _ _ _=>False)
  (ret:=fun A h K=>K .ret A h)
  (refuse:=fun _ _ _ _=>False)
  c
noncomputable def resF (E : TE) (h : Heap) (A : Env) (l : List ResultVar) : (List AV → Prop) → Prop:=
 List.rec (motive:=fun _=>(List AV → Prop) → Prop)
  (fun K=>K [])
  (fun x _ ih K=>match x with
   | .tmp t=>lookK A t (fun v=>ih (fun r=>K (v :: r)))
   | .cell a t=>lookK A a (fun a=>loadD (E t) a h (fun v=>ih (fun r=>K (v :: r)))))
  l
structure EndX (V : List Nat) (n0 : Nat) (h : Heap) (a r : AV) (h1 : Heap) : Prop where
 stop : Stop
 out : EndR V n0 h a r h1 ∨ (a = r ∧ h = h1)
theorem EndX_eq (V : List Nat) (n0 : Nat) (h : Heap) (a r : AV) (h1 : Heap) : EndX V n0 h a r h1 = (EndR V n0 h a r h1 ∨ (a = r ∧ h = h1)):=propext ⟨fun h=>h.out,fun h=>⟨.mk,h⟩⟩
noncomputable def endF (E : TE) (V : List Nat) (n0 : Nat) (rs : List ResultVar) (r : AV) (h1 : Heap) : Ex → Env → Heap → Prop
 | .exit _,_,_=>False
 | .normal,A,h=>resF E h A rs (fun l=>EndX V n0 h (tupD l) r h1)
 | .ret,A,h=>resF E h A rs (fun l=>EndX V n0 h (tupD l) r h1)
def Rep (N : Nat) (T : List AV) (A : Env) : Prop:=T.length = N ∧ ∀ n,look A n = nth T n
theorem Rep.opnd {N : Nat} {T : List AV} {A : Env} (h : Rep N T A) : opndF A = opndK T:=by
 funext x K
 cases x<;>simp [opndF,opndK,lookK_eq,getK_eq,h.2]
theorem look_cons (m : Nat) (v : AV) (A : Env) (n : Nat) : look ((m,v) :: A) n = if n = m then v else look A n:=by
 simp only [look]
 cases hb : Nat.beq m n
 ·rw [if_neg (fun e=>by subst e;simp [Nat.beq_refl] at hb)]
 ·rw [if_pos (Nat.eq_of_beq_eq_true hb).symm]
theorem Rep.set {N : Nat} {T : List AV} {A : Env} (h : Rep N T A) {t : Nat} (ht : t < N) (v : AV) : Rep N (T.set t v) ((t,v) :: A):=by
 refine ⟨by simp [h.1],fun n=>?_⟩
 rw [look_cons,nth_set,h.2,h.1]
 by_cases e : n = t
 ·rw [if_pos e,if_pos ⟨e,ht⟩]
 ·rw [if_neg e,if_neg (fun x=>e x.1)]
def bdO (N : Nat) (o : Oper) : Bool:=
 match o.dst with
 | some t=>Nat.blt t N
 | none=>true
def bdC (N : Nat) : Code → Bool
 | .region _ ops _=>ops.toList.all (bdO N)
 | .seq a b=>bdC N a && bdC N b
 | .cond _ a b=>bdC N a && bdC N b
 | .block _ c=>bdC N c
 | .loop c=>bdC N c
 | _=>true
section
variable {N : Nat} {E : TE} {R : Rel}
theorem dstF_sound {T : List AV} {A : Env} {o : Oper} {v : AV} {K : List AV → Prop} {K' : Env → Prop} (hr : Rep N T A) (hb : bdO N o = true) (hK : ∀ T' A', Rep N T' A' → K' A' → K T') (hk : dstF o.dst v A K') : dstK o.dst v T K := by
 rw [dstK_eq]
 unfold bdO at hb
 cases hd : o.dst with
 | none=>rw [hd] at hk;exact hK _ _ hr hk
 | some t=>
  rw [hd] at hk hb
  exact hK _ _ (hr.set (by simpa using hb) v) hk
theorem nth_lt {T : List AV} {t : Nat} {x : AV} (h : nth T t = x) (hx : x ≠ .junk) : t < T.length:=by
 rw [nth_get] at h
 by_cases hl : t < T.length
 ·exact hl
 ·rw [List.getElem?_eq_none (by omega)] at h
  exact absurd h.symm hx
theorem guardF_sound {all : List Oper} {T : List AV} {A : Env} {g : Option (Nat × Bool)} {P Q : List AV → Prop} {P' Q' : Env → Prop} (hr : Rep N T A) (hP : ∀ T' A', Rep N T' A' → P' A' → P T') (hQ : ∀ T' A', Rep N T' A' → Q' A' → Q T') (hk : guardF all A g P' Q') : guardD all T g P Q := by
 unfold guardF at hk
 unfold guardD
 split at hk
 ·exact hP _ _ hr hk
 ·rename_i j want
  split at hk
  ·rename_i t ht
   simp only [ht]
   rw [getK_eq]
   rw [lookK_eq,hr.2] at hk
   split at hk
   ·rename_i b hb
    have hl:=nth_lt hb (by simp)
    rw [hr.1] at hl
    simp only [hb,setK_eq]
    rcases onBool_spec hk with ⟨h1,h2⟩ | ⟨h1,h2⟩<;>rcases onBool_spec h2 with ⟨h3,h4⟩ | ⟨h3,h4⟩<;>subst h1<;>subst h3<;>simp only [onBool]
    ·exact hP _ _ (hr.set hl _) h4
    ·exact hQ _ _ (hr.set hl _) h4
    ·exact hQ _ _ (hr.set hl _) h4
    ·exact hP _ _ (hr.set hl _) h4
   ·rename_i hb
    simp only [hb]
    exact hQ _ _ hr hk
   ·exact hk.elim
  ·exact hk.elim
theorem opG_sound {T : List AV} {A : Env} {h : Heap} {o : Op} {K K' : KV} (hr : Rep N T A) (hK : ∀ v h', K' v h' → K v h') (hk : opG E R (opndF A) h o K') : opD E R T h o K := by
 rw [hr.opnd,← opG_eq] at hk
 obtain ⟨v, h', h1, h2⟩ := opD_out hk
 exact h2 K (hK v h' h1)
theorem regF_sound {all : List Oper} : ∀ (l : List Oper) (T : List AV) (A : Env) (h : Heap) (K : List AV → Heap → Prop) (K' : Env → Heap → Prop), l.all (bdO N) = true → Rep N T A → (∀ T' A' h', Rep N T' A' → K' A' h' → K T' h') →
  regF E R all l A h K' → regD E R all l T h K
 | [], T, A, h, K, K', _, hr, hK, hk => hK T A h hr hk
 | o :: l, T, A, h, K, K', hb, hr, hK, hk => by
  simp only [List.all_cons,Bool.and_eq_true] at hb
  rw [regF_cons] at hk
  simp only [regD]
  refine guardF_sound hr (fun T' A' hr' hk'=>?_) (fun T' A' hr' hk'=>?_) hk
  ·exact opG_sound hr' (fun v h' hk=>dstF_sound hr' hb.1 (fun T2 A2 hr2 hk2=>regF_sound l T2 A2 h' K K' hb.2 hr2 hK hk2) hk) hk'
  ·exact dstF_sound hr' hb.1 (fun T2 A2 hr2 hk2=>regF_sound l T2 A2 h K K' hb.2 hr2 hK hk2) hk'
theorem evD_mono {ps : List (Nat × Nat)} {K K' : Prop} (hK : K' → K) : ∀ (e : Ev) (L : List Ev),evD ps e L K' → evD ps e L K
 | e,[],h=>by simp only [evD] at h ⊢;exact hK h
 | .read i id,.heap j h h' :: l,hk=>by
  simp only [evD] at hk ⊢
  cases hb : memB ps i j<;>simp only [hb,onBool] at hk ⊢
  ·exact evD_mono hK _ l hk
  ·exact ⟨hk.1,evD_mono hK _ l hk.2⟩
 | .heap j h h', .read i id :: l, hk => by
  simp only [evD] at hk ⊢
  cases hb : memB ps i j<;>simp only [hb,onBool] at hk ⊢
  ·exact evD_mono hK _ l hk
  ·exact ⟨hk.1,evD_mono hK _ l hk.2⟩
 | .heap j h h', .made i id :: l, hk => by
  simp only [evD] at hk ⊢
  cases hb : memB ps i j<;>simp only [hb,onBool] at hk ⊢
  ·exact evD_mono hK _ l hk
  ·exact ⟨hk.1,evD_mono hK _ l hk.2⟩
 | .read i id,.read j jd :: l,hk=>by simp only [evD] at hk ⊢;exact evD_mono hK _ l hk
 | .read i id,.made j jd :: l,hk=>by simp only [evD] at hk ⊢;exact evD_mono hK _ l hk
 | .made i id,.read j jd :: l,hk=>by simp only [evD] at hk ⊢;exact evD_mono hK _ l hk
 | .made i id,.made j jd :: l,hk=>by simp only [evD] at hk ⊢;exact evD_mono hK _ l hk
 | .made i id,.heap j h h' :: l,hk=>by simp only [evD] at hk ⊢;exact evD_mono hK _ l hk
 | .heap i g g', .heap j h h' :: l, hk => by simp only [evD] at hk ⊢; exact evD_mono hK _ l hk
theorem drawF_sound {all : List Oper} {ps : List (Nat × Nat)} : ∀ (l : List (Nat × Oper)) (L : List Ev) (T : List AV) (A : Env) (h : Heap) (K : List AV → Heap → Prop) (K' : Env → Heap → Prop), l.all (fun p => bdO N p.2) = true → Rep N T A →
    (∀ T' A' h', Rep N T' A' → K' A' h' → K T' h') → drawF E R all ps l L A h K' → drawR E R all ps l L T h K
  | [], L, T, A, h, K, K', _, hr, hK, hk => hK T A h hr hk
  | (i, o) :: l, L, T, A, h, K, K', hb, hr, hK, hk => by
    simp only [List.all_cons,Bool.and_eq_true] at hb
    rw [drawF_cons] at hk
    simp only [drawR]
    refine guardF_sound hr (fun T' A' hr' hk'=>?_) (fun T' A' hr' hk'=>?_) hk
    · refine opG_sound hr' (fun v h' hk=>dstF_sound hr' hb.1 (fun T2 A2 hr2 hk2=>?_) hk) hk'
      have ih:=fun (L : List Ev) (hk : drawF E R all ps l L A2 h' K')=>drawF_sound (all:=all) (ps:=ps) l L T2 A2 h' K K' hb.2 hr2 hK hk
      revert hk2
      cases cls E o.op with
      | zero=>exact fun hk2=>ih _ hk2
      | succ c=>
        cases c with
        | zero=>
          intro hk2
          simp only [hr'.opnd,← readsF_eq] at hk2
          show readsK T' o.op _
          cases hop : o.op<;>rw [hop] at hk2<;>simp only [readsK,opndK_eq] at hk2 ⊢<;>first
            | exact ih _ hk2
            | (split at hk2
               · exact evD_mono (ih _) _ _ hk2
               · exact ih _ hk2)
        | succ c=>
          cases c with
          | zero=>
            cases v<;>intro hk2<;>first
              | exact ih _ hk2
              | exact hk2.elim
          | succ c=>exact fun hk2=>evD_mono (ih _) _ _ hk2
    · exact dstF_sound hr' hb.1 (fun T2 A2 hr2 hk2=>drawF_sound l L T2 A2 h K K' hb.2 hr2 hK hk2) hk'
theorem wkF_look {μ : List Mu} {A : Env} : ∀ {A1 : Env},wkF μ A A1 → ∀ n,wk μ (look A n) (look A1 n)
 | [],_,n=>by simp only [look];unfold wk;trivial
 | (m,v) :: A1,h,n=>by
  rw [look_cons]
  by_cases e : n = m
  ·rw [if_pos e,e];exact h.1
  ·rw [if_neg e];exact wkF_look h.2 n
theorem wks_map {μ : List Mu} (f : Nat → AV) : ∀ (T : List AV) (k : Nat),(∀ n,n < T.length → wk μ (nth T n) (f (k + n))) → wks μ T ((List.range' k T.length).map f)
 | [],k,h=>by simp [wks]
 | a :: T,k,h=>by
  simp only [List.length_cons,List.range'_succ,List.map_cons,wks]
  refine ⟨by have:=h 0 (by simp);simpa [nth] using this,wks_map f T (k + 1) fun n hn=>?_⟩
  have:=h (n + 1) (by simpa using hn)
  rw [show k + (n + 1) = k + 1 + n by omega] at this
  simpa [nth] using this
theorem nth_map (f : Nat → AV) (N n : Nat) : nth ((List.range' 0 N).map f) n = if n < N then f n else .junk:=by
 rw [nth_get]
 by_cases h : n < N
 ·simp [h]
 ·simp [h]
theorem WkF.to {n0 : Nat} {V : List Nat} {T : List AV} {A A1 : Env} {h h1 : Heap} (hr : Rep N T A) (hk : WkF V n0 A h A1 h1) : ∃ T1,Rep N T1 A1 ∧ Wk V n0 T h T1 h1:=by
 obtain ⟨μ,h1,h2,h3,h4⟩:=hk
 refine ⟨(List.range' 0 T.length).map (look A1),⟨by simp [hr.1],fun n=>?_⟩,μ,h1,h2,wks_map _ _ _ fun n hn=>?_,h4⟩
 ·rw [nth_map]
  by_cases hn : n < T.length
  ·rw [if_pos hn]
  ·rw [if_neg hn]
   have:=wkF_look h3 n
   rw [hr.2,nth_get,List.getElem?_eq_none (by omega)] at this
   simp only [Option.getD_none] at this
   revert this
   cases look A1 n<;>simp [wk]
 ·have:=wkF_look h3 n
  rw [hr.2] at this
  simpa using this
theorem sameF_look {A : Env} : ∀ {A1 : Env},sameF A A1 → ∀ n,look A1 n = .junk ∨ look A1 n = look A n
 | [],_,n=>.inl rfl
 | (m,v) :: A1,h,n=>by
  rw [look_cons]
  by_cases e : n = m
  ·rw [if_pos e,e];exact .inr h.1.symm
  ·rw [if_neg e];exact sameF_look h.2 n
theorem WkG.to {n0 : Nat} {V : List Nat} {T : List AV} {A A1 : Env} {h h1 : Heap} (hr : Rep N T A) (hk : WkG V n0 A h A1 h1) : ∃ T1,Rep N T1 A1 ∧ WkE V n0 T h T1 h1:=by
 rcases hk with ⟨rfl,hs⟩ | hk
 ·have hs':=sameF_look hs
  refine ⟨(List.range' 0 T.length).map (look A1),⟨by simp [hr.1],fun n=>?_⟩,.inl ⟨rfl,by simp,fun n=>?_⟩⟩
  ·rw [nth_map]
   by_cases hn : n < T.length
   ·rw [if_pos hn]
   ·rw [if_neg hn]
    rcases hs' n with e | e
    ·exact e
    ·rw [e,hr.2,nth_get,List.getElem?_eq_none (by omega)];rfl
  ·rw [nth_map]
   by_cases hn : n < T.length
   ·rw [if_pos hn,← hr.2];exact hs' n
   ·rw [if_neg hn];exact .inl rfl
 ·obtain ⟨T1,r1,r2⟩:=hk.to hr
  exact ⟨T1,r1,.inr r2⟩
theorem condF_sound {T : List AV} {A : Env} {c : Operand} {P Q : List AV → Prop} {P' Q' : Env → Prop} (hr : Rep N T A) (hP : ∀ T' A', Rep N T' A' → P' A' → P T') (hQ : ∀ T' A', Rep N T' A' → Q' A' → Q T') (hk : condF A c P' Q') : condK T c P Q := by
 unfold condF at hk
 unfold condK
 split at hk
 ·rename_i t
  simp only [getK_eq]
  rw [lookK_eq,hr.2] at hk
  split at hk
  ·rename_i b hb
   have hl:=nth_lt hb (by simp)
   rw [hr.1] at hl
   simp only [hb,setK_eq]
   rcases onBool_spec hk with ⟨h1,h2⟩ | ⟨h1,h2⟩<;>subst h1<;>simp only [onBool]
   ·exact hP _ _ (hr.set hl _) h2
   ·exact hQ _ _ (hr.set hl _) h2
  ·exact hk.elim
 ·rename_i b
  simp only
  rcases onBool_spec hk with ⟨h1,h2⟩ | ⟨h1,h2⟩<;>subst h1<;>simp only [onBool]
  ·exact hP _ _ hr h2
  ·exact hQ _ _ hr h2
 ·exact hk.elim
theorem baseOrder_all {p : Oper → Bool} {ops : List Oper} (h : ops.all p = true) : (baseOrder ops).all (fun x=>p x.2) = true:=by
 have hn : ∀ (l : List Oper) (n : Nat),l.all p = true → ∀ x ∈ number l n,p x.2 = true:=by
  intro l
  induction l with
  | nil=>intro n _ x hx;simp [number] at hx
  | cons o l ih=>
   intro n hl x hx
   simp only [List.all_cons,Bool.and_eq_true] at hl
   simp only [number,List.mem_cons] at hx
   rcases hx with rfl | hx
   ·exact hl.1
   ·exact ih _ hl.2 x hx
 rw [List.all_eq_true]
 intro x hx
 simp only [baseOrder,List.mem_append,List.mem_filter] at hx
 rcases hx with hx | hx
 ·exact hn ops 0 h x hx.1
 ·exact hn ops 0 h x hx.1
theorem cutF_sound {n0 id : Nat} {C V : List Nat} {T : List AV} {A : Env} {h : Heap} {K : List AV → Heap → Prop} {K' : Env → Heap → Prop} (hr : Rep N T A) (hK : ∀ T A h,Rep N T A → K' A h → K T h) (hk : cutF C V n0 id A h K') : cutD C V n0 id T h K:=by
 unfold cutF at hk
 unfold cutD
 split at hk
 ·rename_i hc
  simp only [hc]
  obtain ⟨A1,h1,k1,k2⟩:=hk
  obtain ⟨T1,r1,r2⟩:=k1.to hr
  exact ⟨T1,h1,r2,hK _ _ _ r1 k2⟩
 ·rename_i hc
  simp only [hc]
  exact hK _ _ _ hr hk
theorem codeF_sound {n0 : Nat} {C V : List Nat} : ∀ (c : Code) (T : List AV) (A : Env) (h : Heap) (K : Ex → List AV → Heap → Prop) (K' : Ex → Env → Heap → Prop), bdC N c = true → Rep N T A → (∀ ex T' A' h', Rep N T' A' → K' ex A' h' → K ex T' h') →
  codeF E R C V n0 c A h K' → codeD E R C V n0 c T h K
 | .skip, T, A, h, K, K', _, hr, hK, hk => by
  simp only [codeD]
  exact hK _ _ _ _ hr hk
 | .region id ops false, T, A, h, K, K', hb, hr, hK, hk => by
  simp only [codeD]
  refine cutF_sound (C:=C) (V:=V) (n0:=n0) (id:=id) hr (fun T A h hr hk=>?_) hk
  exact regF_sound _ T A h _ _ (by simpa only [bdC] using hb) hr (fun T' A' h' hr' hk'=>hK _ T' A' h' hr' hk') hk
 | .region id ops true, T, A, h, K, K', hb, hr, hK, hk => by
  simp only [codeD,drawD]
  refine cutF_sound (C:=C) (V:=V) (n0:=n0) (id:=id) hr (fun T A h hr hk=>?_) hk
  obtain ⟨fl,ps,h1,h2⟩:=hk
  exact ⟨fl,ps,h1,drawF_sound _ _ T A h _ _ (baseOrder_all (by simpa only [bdC] using hb)) hr (fun T' A' h' hr' hk'=>hK _ T' A' h' hr' hk') h2⟩
 | .seq x y, T, A, h, K, K', hb, hr, hK, hk => by
  simp only [bdC,Bool.and_eq_true] at hb
  simp only [codeD]
  refine codeF_sound x T A h _ _ hb.1 hr (fun ex T' A' h' hr' hk'=>?_) hk
  cases ex with
  | normal=>exact codeF_sound y T' A' h' K K' hb.2 hr' hK hk'
  | exit id=>exact hK _ _ _ _ hr' hk'
  | ret=>exact hK _ _ _ _ hr' hk'
 | .cond c x y, T, A, h, K, K', hb, hr, hK, hk => by
  simp only [bdC,Bool.and_eq_true] at hb
  simp only [codeD]
  exact condF_sound hr (fun T' A' hr' hk'=>codeF_sound x T' A' h K K' hb.1 hr' hK hk') (fun T' A' hr' hk'=>codeF_sound y T' A' h K K' hb.2 hr' hK hk') hk
 | .block id c, T, A, h, K, K', hb, hr, hK, hk => by
  simp only [bdC] at hb
  simp only [codeD]
  refine codeF_sound c T A h _ _ hb hr (fun ex T' A' h' hr' hk'=>?_) hk
  cases ex with
  | normal=>exact hK _ _ _ _ hr' hk'
  | exit i=>
   rcases onBool_spec hk' with ⟨h1,h2⟩ | ⟨h1,h2⟩
   ·exact onBool_t h1 (hK _ _ _ _ hr' h2)
   ·exact onBool_f h1 (hK _ _ _ _ hr' h2)
  | ret=>exact hK _ _ _ _ hr' hk'
 | .loop c, T, A, h, K, K', hb, hr, hK, hk => by
  simp only [bdC] at hb
  simp only [codeD]
  obtain ⟨n,hk⟩:=hk
  refine ⟨n,?_⟩
  have key : ∀ n T A h,Rep N T A → iterF V n0 (codeF E R C V n0 c) K' n A h → iterD V n0 (codeD E R C V n0 c) K n T h:=by
   intro n
   induction n with
   | zero=>intro T A h _ hk;exact hk.elim
   | succ n ih=>
    rintro T A h hr ⟨A1,h1,k1,k2⟩
    obtain ⟨T1,r1,r2⟩:=k1.to hr
    refine ⟨T1,h1,r2,codeF_sound c T1 A1 h1 _ _ hb r1 (fun ex T' A' h' hr' hk'=>?_) k2⟩
    cases ex with
    | normal=>exact ih _ _ _ hr' hk'
    | exit id=>exact hK _ _ _ _ hr' hk'
    | ret=>exact hK _ _ _ _ hr' hk'
  exact key n T A h hr hk
 | .exit id, T, A, h, K, K', _, hr, hK, hk => by
  simp only [codeD]
  exact hK _ _ _ _ hr hk
 | .ret, T, A, h, K, K', _, hr, hK, hk => by
  simp only [codeD]
  exact hK _ _ _ _ hr hk
 | .rangeFunc ..,_,_,_,_,_,_,_,_,hk=>hk.elim
 | .scope ..,_,_,_,_,_,_,_,_,hk=>hk.elim
 | .label ..,_,_,_,_,_,_,_,_,hk=>hk.elim
 | .goto ..,_,_,_,_,_,_,_,_,hk=>hk.elim
 | .refuse ..,_,_,_,_,_,_,_,_,hk=>hk.elim
theorem resF_sound {h : Heap} {T : List AV} {A : Env} (hr : Rep N T A) : ∀ (rs : List ResultVar) (K : List AV → Prop),resF E h A rs K → resD E h T rs K
 | [],K,hk=>hk
 | .tmp t :: l,K,hk=>by
  have hk : lookK A t (fun v=>resF E h A l (fun r=>K (v :: r))):=hk
  rw [lookK_eq,hr.2] at hk
  simp only [resD,getK_eq]
  exact resF_sound hr l _ hk
 | .cell a t :: l,K,hk=>by
  have hk : lookK A a (fun a=>loadD (E t) a h (fun v=>resF E h A l (fun r=>K (v :: r)))):=hk
  rw [lookK_eq,hr.2] at hk
  simp only [resD,getK_eq]
  obtain ⟨v,k1,k2⟩:=out_loadD _ _ _ _ hk
  exact k2 _ (resF_sound hr l _ k1)
end
theorem endX_sound {N : Nat} {E : TE} {h : Heap} {T : List AV} {A : Env} (hr : Rep N T A) {rs : List ResultVar} {n0 : Nat} {V : List Nat} {r : AV} {h1 : Heap} (hk : resF E h A rs (fun l=>EndX V n0 h (tupD l) r h1)) : resD E h T rs (fun l=>EndR V n0 h (tupD l) r h1 ∨ (tupD l = r ∧ h = h1)):=by
 simp only [EndX_eq] at hk
 exact resF_sound hr _ _ hk
def startF : Nat → List AV → Env
 | _,[]=>[]
 | k,a :: l=>(k,a) :: startF (k + 1) l
theorem look_startF : ∀ (l : List AV) (k n : Nat),look (startF k l) n = if k ≤ n then nth l (n - k) else .junk
 | [],k,n=>by simp [startF,look,nth]
 | a :: l,k,n=>by
  simp only [startF]
  rw [look_cons,look_startF l]
  by_cases e : n = k
  ·subst e;simp [nth]
  ·rw [if_neg e]
   by_cases h : k ≤ n
   ·rw [if_pos h,if_pos (by omega),show n - k = (n - (k + 1)) + 1 by omega];rfl
   ·rw [if_neg h,if_neg (by omega)]
def hasB : Nat → AV → Nat → Bool
 | 0,_,_=>false
 | _ + 1,.ptr i _ _,j=>Nat.beq i j
 | _ + 1,.sl i _ _ _ _,j=>Nat.beq i j
 | _ + 1,.mp i,j=>Nat.beq i j
 | n + 1,.agg l,j=>l.any (fun x=>hasB n x j)
 | n + 1,.fn _ a c,j=>a.any (fun x=>hasB n x j) || c.any (fun x=>hasB n x j)
 | n + 1,.tup l,j=>l.any (fun x=>hasB n x j)
 | _,_,_=>false
def seenB (h : Heap) (args : List AV) : List Nat → List Nat → Bool
 | _,[]=>true
 | acc,j :: l=>(args.any (fun a=>hasB 4 a j) || acc.any (fun i=>match h[i]? with
  | some o=>Nat.blt o.st 2 && o.elems.any (fun x=>hasB 4 x j)
  | none=>false)) && seenB h args (acc ++ [j]) l
theorem aCs_mem {w : World} {st : St} : ∀ {l : List AV} {us : List Value} {x : AV},aCs w st l us → x ∈ l → ∃ v,aC w st x [v]
 | [],_,_,_,hx=>by cases hx
 | y :: l,us,x,h,hx=>by
  simp only [aCs] at h
  obtain ⟨v,r,_,_,h3,h4⟩:=h
  rcases List.mem_cons.1 hx with rfl | hx
  ·exact ⟨v,h3⟩
  ·exact aCs_mem h4 hx
theorem aVs_mem {w : World} {st : St} : ∀ {l : List AV} {us : List Value} {x : AV},aVs w st l us → x ∈ l → ∃ vs,aC w st x vs
 | [],_,_,_,hx=>by cases hx
 | y :: l,us,x,h,hx=>by
  simp only [aVs] at h
  obtain ⟨v,r,ws,_,_,h3,h4⟩:=h
  rcases List.mem_cons.1 hx with rfl | hx
  ·exact ⟨ws,h3⟩
  ·exact aVs_mem h4 hx
theorem hasB_sound {w : World} {st : St} {j : Nat} : ∀ (n : Nat) (x : AV) (us : List Value),hasB n x j = true → aC w st x us → ¬ st.G j
 | 0,x,us,h,_=>by simp [hasB] at h
 | n + 1,.ptr i e o,us,h,hc=>by
  have:=Nat.eq_of_beq_eq_true h
  subst this
  simp only [aC] at hc
  obtain ⟨b, o', _, _, h4, _⟩ := hc
  exact h4
 | n + 1,.sl i s l k c,us,h,hc=>by
  have:=Nat.eq_of_beq_eq_true h
  subst this
  simp only [aC] at hc
  obtain ⟨a,c,_,_,h4,_⟩:=hc
  exact h4
 | n + 1,.mp i,us,h,hc=>by
  have:=Nat.eq_of_beq_eq_true h
  subst this
  simp only [aC] at hc
  obtain ⟨b,_,_,h4,_⟩:=hc
  exact h4
 | n + 1,.agg l,us,h,hc=>by
  simp only [hasB,List.any_eq_true] at h
  obtain ⟨x,hx,hj⟩:=h
  simp only [aC] at hc
  obtain ⟨v,hv⟩:=aCs_mem hc hx
  exact hasB_sound n x _ hj hv
 | n + 1,.fn f a c,us,h,hc=>by
  simp only [hasB,Bool.or_eq_true,List.any_eq_true] at h
  simp only [aC] at hc
  obtain ⟨u,t,_,h2,h3⟩:=hc
  rcases h with ⟨x,hx,hj⟩ | ⟨x,hx,hj⟩
  ·obtain ⟨v,hv⟩:=aVs_mem h2 hx
   exact hasB_sound n x _ hj hv
  ·obtain ⟨v,hv⟩:=aVs_mem h3 hx
   exact hasB_sound n x _ hj hv
 | n + 1,.tup l,us,h,hc=>by
  simp only [hasB,List.any_eq_true] at h
  obtain ⟨x,hx,hj⟩:=h
  simp only [aC] at hc
  obtain ⟨u,_,h2⟩:=hc
  obtain ⟨v,hv⟩:=aVs_mem h2 hx
  exact hasB_sound n x _ hj hv
 | n + 1,.d _,us,h,_=>by simp [hasB] at h
 | n + 1,.nilS,us,h,_=>by simp [hasB] at h
 | n + 1,.raw _,us,h,_=>by simp [hasB] at h
 | n + 1,.und,us,h,_=>by simp [hasB] at h
 | n + 1,.junk,us,h,_=>by simp [hasB] at h
theorem seenB_sound {B : Nat} {W w : World} {st : St} {h : Heap} {args : List AV} {vs : List Value} (hw : WR B W w st h) (ha : aVs w st args vs) : ∀ (l acc : List Nat),(∀ i ∈ acc,¬ st.G i) → seenB h args acc l = true → ∀ i ∈ l,¬ st.G i
 | [],_,_,_,i,hi=>by cases hi
 | j :: l,acc,hacc,hs,i,hi=>by
  simp only [seenB,Bool.and_eq_true,Bool.or_eq_true,List.any_eq_true] at hs
  obtain ⟨h1,h2⟩:=hs
  have hj : ¬ st.G j:=by
   rcases h1 with ⟨a,ha1,ha2⟩ | ⟨k,hk1,hk2⟩
   ·obtain ⟨us,hus⟩:=aVs_mem ha ha1
    exact hasB_sound 4 a us ha2 hus
   ·split at hk2
    ·rename_i o ho
     simp only [Bool.and_eq_true,List.any_eq_true,Nat.blt_eq] at hk2
     obtain ⟨hst,x,hx,hxj⟩:=hk2
     obtain ⟨r,r1,r2⟩:=hw.obj k o ho hst (hacc k hk1)
     obtain ⟨n,hn,hnx⟩:=List.getElem_of_mem hx
     have hm : r.m ≠ 0:=by have:=r2.n;have:=r2.m;omega
     obtain ⟨_,_,_,_,_,_,_,b5⟩:=r2.mem hm
     obtain ⟨us,_,u2,_⟩:=b5 n x (by rw [List.getElem?_eq_getElem hn,hnx])
     exact hasB_sound 4 x us hxj u2
    ·cases hk2
  rcases List.mem_cons.1 hi with rfl | hi
  ·exact hj
  ·exact seenB_sound hw ha l (acc ++ [j]) (fun i hi=>by
    rcases List.mem_append.1 hi with h | h
    ·exact hacc i h
    ·simp at h;subst h;exact hj) h2 i hi
noncomputable def BodyF (E : TE) (R : Rel) (C V : List Nat) (fn : Func) (args : List AV) (h : Heap) (r : AV) (h1 : Heap) : Prop:=
 match fn.body with
 | some c=>codeF E R C V h.length c (startF 0 args) h (endF E V h.length fn.results.toList r h1)
 | none=>False
def bdF (fn : Func) : Bool:=
 match fn.body with
 | some c=>bdC fn.ntmps c
 | none=>false
section
variable {P : Program} {E : TE} (hE : EOK P E)
include hE
theorem bodyF_calls {f : Nat} {fn : Func} (hf : P.funcs[f]? = some fn) (hbd : bdF fn = true) {args : List AV} {h h1 : Heap} {r : AV} {C V : List Nat} (hV : seenB h args [] V = true) {B : Nat} {W : World} {R : Rel} (hR : Sub P B W R) (hk : BodyF E R C V fn args h r h1)
  {w : World} {st : St} {vs : List Value} (hw : WR B W w st h) (ha : aVs w st args vs) : Calls P f vs.toArray w (fun e w'=>∃ v,e = .returned v ∧ RunPost B W w st r h1 v w'):=by
 unfold BodyF at hk
 unfold bdF at hbd
 split at hk
 ·rename_i c hc
  simp only [hc] at hbd
  refine calls_of_wp hf hc ?_
  have hl:=((aVs_iff _ _).1 ha).1
  have hg0 : ∀ i,st.G i → i < st.n:=hw.gho
  have hlen:=hw.len
  have hv0 : ∀ i ∈ V,¬ st.G i:=seenB_sound hw ha V [] (fun _ h=>by cases h) hV
  have hT : aT w st (args ++ List.replicate (fn.ntmps - args.length) .junk) (vs.toArray ++ Array.replicate (fn.ntmps - vs.toArray.size) undef):=by
   refine ⟨by simp [hl],fun i=>?_⟩
   rw [nth_get]
   by_cases hi : i < args.length
   ·have h1 : (args ++ List.replicate (fn.ntmps - args.length) AV.junk)[i]? = some args[i]:=by rw [List.getElem?_append_left hi];exact List.getElem?_eq_getElem hi
    have h2 : (vs.toArray ++ Array.replicate (fn.ntmps - vs.toArray.size) undef).getD i undef = vs[i]:=by
     simp [Array.getElem?_append,hl,hi]
    rw [h1,h2]
    exact ((aVs_iff _ _).1 ha).2 i _ _ (List.getElem?_eq_getElem hi) (List.getElem?_eq_getElem (by omega))
   ·have h1 : ((args ++ List.replicate (fn.ntmps - args.length) AV.junk)[i]?).getD .junk = .junk:=by
     rw [List.getElem?_append_right (by omega),List.getElem?_replicate]
     split<;>rfl
    rw [h1]
    exact aV_junk _ _ _
  by_cases hN : args.length ≤ fn.ntmps
  ·have hr : Rep fn.ntmps (args ++ List.replicate (fn.ntmps - args.length) .junk) (startF 0 args):=by
    refine ⟨by simp;omega,fun n=>?_⟩
    rw [look_startF,if_pos (Nat.zero_le _),Nat.sub_zero,nth_get,nth_get]
    by_cases hi : n < args.length
    ·rw [List.getElem?_append_left hi]
    ·rw [List.getElem?_append_right (by omega),List.getElem?_eq_none (by omega),List.getElem?_replicate]
     split<;>rfl
   have hk:=codeF_sound (N:=fn.ntmps) c _ _ h (endD E V h.length fn.results.toList r h1) _ hbd hr (fun ex T' A' h' hr' hk'=>by
    cases ex with
    | normal=>exact endX_sound hr' hk'
    | exit id=>exact hk'.elim
    | ret=>exact endX_sound hr' hk') hk
   refine codeD_sound hE (drawSound hE) hR (B:=B) (W:=W) (w0:=w) (st0:=st) (n0:=h.length) (C:=C) (V:=V) hg0 (by omega) hv0 c _ h _ w _ _ ?_ ⟨rfl,st,hw,hT,Ext.refl _ _,rfl⟩ hk
   intro ex T h' a w' hk hI
   cases ex with
   | exit id=>exact hk.elim
   | normal=>
    simp only [endD] at hk
    rw [← hlen] at hk
    obtain ⟨hd,v,h1,h2⟩:=endD_sound hE hI hg0 hv0 hk
    exact ⟨hd,v,h1,v,rfl,h2⟩
   | ret=>
    simp only [endD] at hk
    rw [← hlen] at hk
    obtain ⟨hd,v,h1,h2⟩:=endD_sound hE hI hg0 hv0 hk
    exact ⟨hd,v,h1,v,rfl,h2⟩
  ·have hr : Rep args.length (args ++ List.replicate (fn.ntmps - args.length) .junk) (startF 0 args):=by
    have h0 : fn.ntmps - args.length = 0:=by omega
    rw [h0]
    refine ⟨by simp,fun n=>?_⟩
    rw [look_startF,if_pos (Nat.zero_le _),Nat.sub_zero]
    simp
   have hbd' : bdC args.length c = true:=by
    have hm : ∀ (o : Oper),bdO fn.ntmps o = true → bdO args.length o = true:=by
     intro o ho
     cases hd : o.dst with
     | none=>simp [bdO,hd]
     | some t=>
      simp only [bdO,hd,Nat.blt_eq] at ho ⊢
      omega
    have hc : ∀ (c : Code),bdC fn.ntmps c = true → bdC args.length c = true:=by
     intro c
     induction c using bdC.induct with
     | case1 _ ops _=>intro h;simp only [bdC,List.all_eq_true] at h ⊢;exact fun o ho=>hm o (h o ho)
     | case2 a b iha ihb=>intro h;simp only [bdC,Bool.and_eq_true] at h ⊢;exact ⟨iha h.1,ihb h.2⟩
     | case3 _ a b iha ihb=>intro h;simp only [bdC,Bool.and_eq_true] at h ⊢;exact ⟨iha h.1,ihb h.2⟩
     | case4 _ c ih=>intro h;simp only [bdC] at h ⊢;exact ih h
     | case5 c ih=>intro h;simp only [bdC] at h ⊢;exact ih h
     | case6=>intro h;simp_all [bdC]
    exact hc c hbd
   have hk:=codeF_sound (N:=args.length) c _ _ h (endD E V h.length fn.results.toList r h1) _ hbd' hr (fun ex T' A' h' hr' hk'=>by
    cases ex with
    | normal=>exact endX_sound hr' hk'
    | exit id=>exact hk'.elim
    | ret=>exact endX_sound hr' hk') hk
   refine codeD_sound hE (drawSound hE) hR (B:=B) (W:=W) (w0:=w) (st0:=st) (n0:=h.length) (C:=C) (V:=V) hg0 (by omega) hv0 c _ h _ w _ _ ?_ ⟨rfl,st,hw,hT,Ext.refl _ _,rfl⟩ hk
   intro ex T h' a w' hk hI
   cases ex with
   | exit id=>exact hk.elim
   | normal=>
    simp only [endD] at hk
    rw [← hlen] at hk
    obtain ⟨hd,v,h1,h2⟩:=endD_sound hE hI hg0 hv0 hk
    exact ⟨hd,v,h1,v,rfl,h2⟩
   | ret=>
    simp only [endD] at hk
    rw [← hlen] at hk
    obtain ⟨hd,v,h1,h2⟩:=endD_sound hE hI hg0 hv0 hk
    exact ⟨hd,v,h1,v,rfl,h2⟩
 ·exact hk.elim
theorem run_walkR {f : Nat} {fn : Func} (hf : P.funcs[f]? = some fn) (hn : (fn.name == "runtime.NumGoroutine") = false) (hbd : bdF fn = true) {args : List AV} {h h1 : Heap} {r : AV} (V : List Nat) (hV : seenB h args [] V = true) (C : List Nat) {B : Nat} {W : World} {R : Rel} (hR : Sub P B W R) (hk : BodyF E R C V fn args h r h1) : RunAt P B W f args h r h1 := by
 intro w st vs hw ha
 have hb : fn.body.isNone = false:=by
  unfold bdF at hbd
  split at hbd
  ·rename_i c hc;simp [hc]
  ·cases hbd
 have hc : (callFunc f vs.toArray).run P w = .ok (.enter f vs.toArray) w:=by
  simp only [callFunc,Sem.run_bind,run_program,Result.andThen_ok,hf,hn,hb,Bool.false_eq_true,if_false,Sem.run_pure]
 rw [hc]
 exact bodyF_calls hE hf hbd hV hR hk hw ha
theorem run_walkV {f : Nat} {fn : Func} (hf : P.funcs[f]? = some fn) (hn : (fn.name == "runtime.NumGoroutine") = false) (hbd : bdF fn = true) {args : List AV} {h h1 : Heap} {r : AV} (V : List Nat) (hV : seenB h args [] V = true) (C : List Nat) (hk : BodyF E (Run P) C V fn args h r h1) : Run P f args h r h1 :=
 fun _ _=>run_walkR hE hf hn hbd V hV C Run.sub hk
end
theorem run_walkF {P : Program} {E : TE} (hE : EOK P E) {f : Nat} {fn : Func} (hf : P.funcs[f]? = some fn) (hn : (fn.name == "runtime.NumGoroutine") = false) (hbd : bdF fn = true) {args : List AV} {h h1 : Heap} {r : AV} (hk : BodyF E (Run P) [] [] fn args h r h1) : Run P f args h r h1 :=
 run_walkV hE hf hn hbd [] rfl [] hk
theorem loopF {σ : Type} {n0 : Nat} {V : List Nat} {W : Env → Heap → (Ex → Env → Heap → Prop) → Prop} {K : Ex → Env → Heap → Prop} {A : Env} {h : Heap} (m : σ → Nat) (I : σ → Prop) (As : σ → Env) (hs : σ → Heap) (s0 : σ)
  (h0 : I s0) (hw : WkF V n0 A h (As s0) (hs s0))
  (step : ∀ (s : σ) (C : Env → Heap → Prop), I s → (∀ s' A' h', I s' → m s' < m s → WkF V n0 A' h' (As s') (hs s') → C A' h') →
   W (As s) (hs s) (fun ex A' h'=>match ex with
    | .normal=>C A' h'
    | .exit id=>K (.exit id) A' h'
    | .ret=>K .ret A' h')) : ∃ n,iterF V n0 W K n A h:=by
 have key : ∀ n A h s,m s < n → I s → WkF V n0 A h (As s) (hs s) → iterF V n0 W K n A h:=by
  intro n
  induction n with
  | zero=>intro A h s hm;omega
  | succ n ih=>
   intro A h s hm hI hk
   exact ⟨As s,hs s,.inr hk,step s (iterF V n0 W K n) hI fun s' A' h' hI' hm' hk'=>ih A' h' s' (by omega) hI' hk'⟩
 exact ⟨m s0 + 1,key _ A h s0 (Nat.lt_succ_self _) h0 hw⟩
theorem wrap_in {k : IntKind} {x : Int} {K : Int → Prop} (h : k.wrap x = x) (hk : K x) : wrapK k x K:=by
 rw [wrapK_eq];rw [h];exact hk
theorem wrap64 {x : Int} {K : Int → Prop} (h : -9223372036854775808 ≤ x ∧ x ≤ 9223372036854775807) (hk : K x) : wrapK .i64 x K:=wrap_in (Go.IntWalk.i64_in _ (by omega)) hk
theorem wrapU8 {x : Int} {K : Int → Prop} (h : 0 ≤ x ∧ x ≤ 255) (hk : K x) : wrapK .u8 x K:=wrap_in (by simp only [IntKind.wrap,IntKind.bits,IntKind.signed,Bool.false_and,Bool.false_eq_true,if_false];omega) hk
theorem wrapU64 {x : Int} {K : Int → Prop} (h : 0 ≤ x ∧ x ≤ 18446744073709551615) (hk : K x) : wrapK .u64 x K:=wrap_in (by simp only [IntKind.wrap,IntKind.bits,IntKind.signed,Bool.false_and,Bool.false_eq_true,if_false];omega) hk
theorem shr_at {k : IntKind} {a b : Int} {K : Int → Prop} (p : Int) (h0 : decide (0 ≤ b) = true) (h : (2 : Int) ^ (min b.toNat k.bits) = p) (hp : decide (0 ≤ p) = true) (hk : K (a / p)) : shrK k a b K:=by
 rw [shrK_eq]
 refine onOk_of h0 ?_
 rw [h,Int.fdiv_eq_ediv_of_nonneg a (by simpa using hp)];exact hk
theorem on_dec {p : Prop} [Decidable p] {A B : Prop} (ht : p → A) (hf : ¬ p → B) : onBool (decide p) A B:=
 onBool_split (fun h=>ht (of_decide_eq_true h)) (fun h=>hf (of_decide_eq_false h))
theorem on_dec_t {p : Prop} [Decidable p] {A B : Prop} (hp : p) (ha : A) : onBool (decide p) A B:=onBool_t (decide_eq_true hp) ha
theorem on_dec_f {p : Prop} [Decidable p] {A B : Prop} (hp : ¬ p) (hb : B) : onBool (decide p) A B:=onBool_f (decide_eq_false hp) hb
theorem on_ndec {p : Prop} [Decidable p] {A B : Prop} (ht : ¬ p → A) (hf : p → B) : onBool (!decide p) A B:=
 onBool_split (fun h=>ht (by simpa using h)) (fun h=>hf (by simpa using h))
theorem on_not {b : Bool} {A B : Prop} (ht : b = false → A) (hf : b = true → B) : onBool (!b) A B:=
 onBool_split (fun h=>ht (by simpa using h)) (fun h=>hf (by simpa using h))
theorem ix_map {α : Type} {f : α → D} {l : List α} {k : Nat} {K : D → Prop} (h : k < l.length) (hk : K (f l[k])) : 0 ≤ (k : Int) ∧ nthK (l.map f) ((k : Int).toNat) K:=
 ⟨by omega,nthK_of (x:=f l[k]) (by simp [h]) hk⟩
theorem ix_str {s : List UInt8} {k : Nat} {K : UInt8 → Prop} (h : k < s.length) (hk : K s[k]) : 0 ≤ (k : Int) ∧ nthK s ((k : Int).toNat) K:=
 ⟨by omega,nthK_of (x:=s[k]) (by simp [h]) hk⟩
theorem ix_at {α : Type} {f : α → D} {l : List α} {n : Int} (k : Nat) (hn : n = k) {K : D → Prop} (h : k < l.length) (hk : K (f l[k])) : 0 ≤ n ∧ nthK (l.map f) n.toNat K:=by
 subst hn;exact ix_map h hk
theorem endX_of {V : List Nat} {n0 : Nat} {h : Heap} {a r : AV} {h1 : Heap} (hk : EndR V n0 h a r h1) : EndX V n0 h a r h1:=by
 rw [EndX_eq];exact .inl hk
theorem endx_same {V : List Nat} {n0 : Nat} {h : Heap} {a r : AV} {h1 : Heap} (e : a = r) (e2 : h = h1) : EndX V n0 h a r h1:=by
 rw [EndX_eq];exact .inr ⟨e,e2⟩
theorem endx {x y : D} {h : Heap} (e : x = y) : EndX [] 0 h (.d x) (.d y) []:=endX_of (endr_data e)
theorem endx2 {a b : D} {y : D} {h : Heap} (e : D.tup [a,b] = y) : EndX [] 0 h (.tup [.d a,.d b]) (.d y) []:=endX_of (endr_tup2 e)
theorem endx3 {a b c : D} {y : D} {h : Heap} (e : D.tup [a,b,c] = y) : EndX [] 0 h (.tup [.d a,.d b,.d c]) (.d y) []:=endX_of (endr_tup3 e)
theorem endxv {a : AV} {x y : D} {h : Heap} (hv : view 8 h a = some x) (e : x = y) : EndX [] 0 h a (.d y) []:=endX_of (endr_view hv e)
theorem loop1 {α : Type} {n0 : Nat} {V : List Nat} {W : Env → Heap → (Ex → Env → Heap → Prop) → Prop} {K : Ex → Env → Heap → Prop} {A : Env} {h : Heap} (m : α → Nat) (I : α → Prop) (As : α → Env) (hs : α → Heap) (a0 : α)
  (h0 : I a0) (hw : WkF V n0 A h (As a0) (hs a0))
  (step : ∀ (a : α) (C : Env → Heap → Prop), I a → (∀ (a' : α) A' h', I a' → m a' < m a → WkF V n0 A' h' (As a') (hs a') → C A' h') →
   W (As a) (hs a) (fun ex A' h'=>match ex with
    | .normal=>C A' h'
    | .exit id=>K (.exit id) A' h'
    | .ret=>K .ret A' h')) : ∃ n,iterF V n0 W K n A h:=
 loopF (σ:=α) (fun s=>m s) (fun s=>I s) (fun s=>As s) (fun s=>hs s) (a0) h0 hw (fun s C hI hC=>step s C hI (fun a' A' h' h1 h2 h3=>hC (a') A' h' h1 h2 h3))
theorem loop2 {α β : Type} {n0 : Nat} {V : List Nat} {W : Env → Heap → (Ex → Env → Heap → Prop) → Prop} {K : Ex → Env → Heap → Prop} {A : Env} {h : Heap} (m : α → β → Nat) (I : α → β → Prop) (As : α → β → Env) (hs : α → β → Heap) (a0 : α) (b0 : β)
  (h0 : I a0 b0) (hw : WkF V n0 A h (As a0 b0) (hs a0 b0))
  (step : ∀ (a : α) (b : β) (C : Env → Heap → Prop), I a b → (∀ (a' : α) (b' : β) A' h', I a' b' → m a' b' < m a b → WkF V n0 A' h' (As a' b') (hs a' b') → C A' h') →
   W (As a b) (hs a b) (fun ex A' h'=>match ex with
    | .normal=>C A' h'
    | .exit id=>K (.exit id) A' h'
    | .ret=>K .ret A' h')) : ∃ n,iterF V n0 W K n A h:=
 loopF (σ := α × β) (fun s => m s.1 s.2) (fun s => I s.1 s.2) (fun s => As s.1 s.2) (fun s => hs s.1 s.2) (a0, b0) h0 hw (fun s C hI hC => step s.1 s.2 C hI (fun a' b' A' h' h1 h2 h3 => hC (a', b') A' h' h1 h2 h3))
theorem loop3 {α β γ : Type} {n0 : Nat} {V : List Nat} {W : Env → Heap → (Ex → Env → Heap → Prop) → Prop} {K : Ex → Env → Heap → Prop} {A : Env} {h : Heap} (m : α → β → γ → Nat) (I : α → β → γ → Prop) (As : α → β → γ → Env) (hs : α → β → γ → Heap) (a0 : α) (b0 : β) (c0 : γ)
  (h0 : I a0 b0 c0) (hw : WkF V n0 A h (As a0 b0 c0) (hs a0 b0 c0))
  (step : ∀ (a : α) (b : β) (c : γ) (C : Env → Heap → Prop), I a b c → (∀ (a' : α) (b' : β) (c' : γ) A' h', I a' b' c' → m a' b' c' < m a b c → WkF V n0 A' h' (As a' b' c') (hs a' b' c') → C A' h') →
   W (As a b c) (hs a b c) (fun ex A' h'=>match ex with
    | .normal=>C A' h'
    | .exit id=>K (.exit id) A' h'
    | .ret=>K .ret A' h')) : ∃ n,iterF V n0 W K n A h:=
 loopF (σ := α × β × γ) (fun s => m s.1 s.2.1 s.2.2) (fun s => I s.1 s.2.1 s.2.2) (fun s => As s.1 s.2.1 s.2.2) (fun s => hs s.1 s.2.1 s.2.2) (a0, b0, c0) h0 hw (fun s C hI hC => step s.1 s.2.1 s.2.2 C hI (fun a' b' c' A' h' h1 h2 h3 => hC (a', b', c') A' h' h1 h2 h3))
theorem loop4 {α β γ δ : Type} {n0 : Nat} {V : List Nat} {W : Env → Heap → (Ex → Env → Heap → Prop) → Prop} {K : Ex → Env → Heap → Prop} {A : Env} {h : Heap} (m : α → β → γ → δ → Nat) (I : α → β → γ → δ → Prop) (As : α → β → γ → δ → Env) (hs : α → β → γ → δ → Heap) (a0 : α) (b0 : β) (c0 : γ) (d0 : δ)
  (h0 : I a0 b0 c0 d0) (hw : WkF V n0 A h (As a0 b0 c0 d0) (hs a0 b0 c0 d0))
  (step : ∀ (a : α) (b : β) (c : γ) (d : δ) (C : Env → Heap → Prop), I a b c d → (∀ (a' : α) (b' : β) (c' : γ) (d' : δ) A' h', I a' b' c' d' → m a' b' c' d' < m a b c d → WkF V n0 A' h' (As a' b' c' d') (hs a' b' c' d') → C A' h') →
   W (As a b c d) (hs a b c d) (fun ex A' h'=>match ex with
    | .normal=>C A' h'
    | .exit id=>K (.exit id) A' h'
    | .ret=>K .ret A' h')) : ∃ n,iterF V n0 W K n A h:=
 loopF (σ := α × β × γ × δ) (fun s => m s.1 s.2.1 s.2.2.1 s.2.2.2) (fun s => I s.1 s.2.1 s.2.2.1 s.2.2.2) (fun s => As s.1 s.2.1 s.2.2.1 s.2.2.2) (fun s => hs s.1 s.2.1 s.2.2.1 s.2.2.2) (a0, b0, c0, d0) h0 hw (fun s C hI hC => step s.1 s.2.1 s.2.2.1 s.2.2.2 C hI (fun a' b' c' d' A' h' h1 h2 h3 => hC (a', b', c', d') A' h' h1 h2 h3))
theorem loop5 {α β γ δ ε : Type} {n0 : Nat} {V : List Nat} {W : Env → Heap → (Ex → Env → Heap → Prop) → Prop} {K : Ex → Env → Heap → Prop} {A : Env} {h : Heap} (m : α → β → γ → δ → ε → Nat) (I : α → β → γ → δ → ε → Prop) (As : α → β → γ → δ → ε → Env) (hs : α → β → γ → δ → ε → Heap) (a0 : α) (b0 : β) (c0 : γ) (d0 : δ) (e0 : ε)
  (h0 : I a0 b0 c0 d0 e0) (hw : WkF V n0 A h (As a0 b0 c0 d0 e0) (hs a0 b0 c0 d0 e0))
  (step : ∀ (a : α) (b : β) (c : γ) (d : δ) (e : ε) (C : Env → Heap → Prop), I a b c d e → (∀ (a' : α) (b' : β) (c' : γ) (d' : δ) (e' : ε) A' h', I a' b' c' d' e' → m a' b' c' d' e' < m a b c d e → WkF V n0 A' h' (As a' b' c' d' e') (hs a' b' c' d' e') → C A' h') →
   W (As a b c d e) (hs a b c d e) (fun ex A' h'=>match ex with
    | .normal=>C A' h'
    | .exit id=>K (.exit id) A' h'
    | .ret=>K .ret A' h')) : ∃ n,iterF V n0 W K n A h:=
 loopF (σ := α × β × γ × δ × ε) (fun s => m s.1 s.2.1 s.2.2.1 s.2.2.2.1 s.2.2.2.2) (fun s => I s.1 s.2.1 s.2.2.1 s.2.2.2.1 s.2.2.2.2) (fun s => As s.1 s.2.1 s.2.2.1 s.2.2.2.1 s.2.2.2.2) (fun s => hs s.1 s.2.1 s.2.2.1 s.2.2.2.1 s.2.2.2.2) (a0, b0, c0, d0, e0) h0 hw (fun s C hI hC => step s.1 s.2.1 s.2.2.1 s.2.2.2.1 s.2.2.2.2 C hI (fun a' b' c' d' e' A' h' h1 h2 h3 => hC (a', b', c', d', e') A' h' h1 h2 h3))
end Dw
namespace Dw
open Go
theorem view_new {H : Heap} {id k k' st n : Nat} {cap : Option Nat} {l : List D} (h : H[id]? = some ⟨l.map .d,k,st⟩) (hst : st < 2) : view (n + 2) H (.sl id 0 (l.map AV.d).length k' cap) = some (.fs l):=by
 rw [List.length_map];exact view_all h hst
theorem cap_ok {n b : Nat} (h : n ≤ 10000000) (hb : Nat.ble (10000000 * b) 140737488355328 = true) : n * b ≤ 140737488355328:=
 Nat.le_trans (Nat.mul_le_mul_right b h) (Nat.le_of_ble_eq_true hb)
theorem vlc {f : AV → Option D} {a : AV} {x : D} {l : List AV} {r : List D} (h : f a = some x) (g : vl f l = some r) : vl f (a :: l) = some (x :: r):=by simp [vl,h,g]
theorem vln {f : AV → Option D} : vl f [] = some []:=rfl
theorem view_agg {n : Nat} {h : Heap} {l : List AV} {r : List D} (e : vl (view n h) l = some r) : view (n + 1) h (.agg l) = some (.agg r):=by
 simp only [view,e,Option.map_some]
theorem view_tup {n : Nat} {h : Heap} {l : List AV} {r : List D} (e : vl (view n h) l = some r) : view (n + 1) h (.tup l) = some (.tup r):=by
 simp only [view,e,Option.map_some]
theorem mem_one {p : D → Prop} {x : D} (h : p x) : ∀ y ∈ [x],p y:=by
 intro y hy
 rcases List.mem_singleton.1 hy with rfl
 exact h
theorem sl_map {α : Type} {f : α → D} {l : List α} {lo hi : Int} {sz : Nat} {K : List D → Prop} (a b : Nat) (ha : lo = a) (hb : hi = b) (h : a ≤ b ∧ b ≤ l.length) (hc : ∀ x,(f x).cells.length = sz) (hk : K (((l.take b).drop a).map f)) : rowSl (l.map f) lo hi sz K:=by
 subst ha;subst hb
 rw [rowSl_eq]
 refine ⟨⟨by omega,by omega,by simp;omega,fun y hy=>?_⟩,?_⟩
 ·obtain ⟨x,_,rfl⟩:=List.mem_map.1 hy;exact hc x
 ·simp only [Int.toNat_natCast,← List.map_take,← List.map_drop];exact hk
theorem sl_str {s : List UInt8} {lo hi : Int} {K : List UInt8 → Prop} (a b : Nat) (ha : lo = a) (hb : hi = b) (h : a ≤ b ∧ b ≤ s.length) (hk : K ((s.take b).drop a)) : strSl s lo hi K:=by
 subst ha;subst hb
 rw [strSl_eq]
 exact ⟨⟨by omega,by omega,by omega⟩,by simpa using hk⟩
theorem wksd (μ : List Mu) : ∀ (l : List D),wks μ (l.map .d) (l.map .d)
 | []=>trivial
 | _ :: l=>⟨rfl,wksd μ l⟩
theorem wks_app {μ : List Mu} : ∀ {l r l' r' : List AV},wks μ l r → wks μ l' r' → wks μ (l ++ l') (r ++ r')
 | [],[],_,_,_,h=>h
 | _ :: _,_ :: _,_,_,h,h'=>⟨h.1,wks_app h.2 h'⟩
 | [],_ :: _,_,_,h,_=>h.elim
 | _ :: _,[],_,_,h,_=>h.elim
theorem wks_add {α : Type} {f : α → D} {μ : List Mu} {l : List AV} {r : List α} {a : AV} {x : α} (h : wks μ l ((r.map f).map .d)) (ha : wk μ a (.d (f x))) : wks μ (l ++ [a]) (((r ++ [x]).map f).map .d):=by
 rw [List.map_append,List.map_append]
 exact wks_app h ⟨ha,trivial⟩
theorem view_map {α : Type} {f : α → D} {l : List α} {H : Heap} {id k k' st n : Nat} {cap : Option Nat} (h : H[id]? = some ⟨(l.map f).map .d,k,st⟩) (hst : st < 2) : view (n + 2) H (.sl id 0 l.length k' cap) = some (.fs (l.map f)):=by
 have:=view_all (n:=n) (k':=k') (cap:=cap) h hst
 rwa [List.length_map] at this
theorem vl_app {f : AV → Option D} : ∀ {l l' : List AV} {r r' : List D},vl f l = some r → vl f l' = some r' → vl f (l ++ l') = some (r ++ r')
 | [], l', r, r', h, h' => by simp [vl] at h; subst h; simpa using h'
 | a :: l, l', r, r', h, h' => by
  simp only [vl] at h
  split at h
  ·rename_i x hx
   split at h
   ·rename_i t ht
    cases h
    have:=vl_app (l:=l) ht h'
    simp only [List.cons_append,vl,hx,this]
   ·cases h
  ·cases h
theorem view_snoc {α : Type} {f : α → D} {l : List α} {H : Heap} {id k k' st n : Nat} {cap : Option Nat} {a : AV} {x : D} (h : H[id]? = some ⟨(l.map f).map .d ++ [a],k,st⟩) (hst : st < 2) (ha : view (n + 1) H a = some x) : view (n + 2) H (.sl id 0 (l.length + [a].length) k' cap) = some (.fs (l.map f ++ [x])):=by
 have hv:=vl_app (f:=view (n + 1) H) (vl_map_d n H (l.map f)) (vl1 ha)
 have hlen : l.length + [a].length = ((l.map f).map AV.d ++ [a]).length:=by simp
 show (match H[id]? with
  | some o=>if o.st < 2 then (if 0 + (l.length + [a].length) ≤ o.elems.length then (vl (view (n + 1) H) ((o.elems.drop 0).take (l.length + [a].length))).map D.fs else none) else none
  | none=>none) = _
 simp only [h,if_pos hst]
 rw [if_pos (by omega),hlen,List.drop_zero,List.take_length,hv]
 rfl
end Dw
namespace Dw
open Go
theorem endx_go {V : List Nat} {n0 : Nat} {h : Heap} {a r : AV} {h1 : Heap} (e : EndX V n0 h a r h1) : EndX V n0 h a r h1:=e
theorem call_go {P : Program} {f : Nat} {args : List AV} {h : Heap} {K : KV} (e : ∃ r h', Run P f args h r h' ∧ K r h') : ∃ r h', Run P f args h r h' ∧ K r h' := e
theorem loop_go {V : List Nat} {n0 : Nat} {W : Env → Heap → (Ex → Env → Heap → Prop) → Prop} {K : Ex → Env → Heap → Prop} {A : Env} {h : Heap} (e : ∃ n,iterF V n0 W K n A h) : ∃ n,iterF V n0 W K n A h:=e
theorem on_nt {b : Bool} {A B : Prop} (h : b = true) (k : B) : onBool (!b) A B:=by subst h;exact k
theorem on_nf {b : Bool} {A B : Prop} (h : b = false) (k : A) : onBool (!b) A B:=by subst h;exact k
theorem on_ndec_t {p : Prop} [Decidable p] {A B : Prop} (h : p) (k : B) : onBool (!decide p) A B:=on_nt (decide_eq_true h) k
theorem on_ndec_f {p : Prop} [Decidable p] {A B : Prop} (h : ¬ p) (k : A) : onBool (!decide p) A B:=on_nf (decide_eq_false h) k
theorem wrap64u8 {b : UInt8} {K : Int → Prop} (hk : K (b.toNat : Int)) : wrapK .i64 (b.toNat : Int) K:=
 wrap64 (by have:=UInt8.toNat_lt b;omega) hk
theorem srcA {l : List AV} {s len : Nat} {K : List AV → Prop} {B : List AV → Prop} (h1 : s + len = l.length) (h2 : l.all AV.known = true) (hk : K (l.drop s)) : s + len ≤ l.length ∧ dropK l s (fun r=>onBool (r.length == len) (onOk (r.all AV.known) (K r)) (B r)):=by
 refine ⟨by omega,?_⟩
 rw [dropK_eq]
 refine onBool_t ?_ (onOk_of ?_ hk)
 ·rw [List.length_drop,beq_iff_eq];omega
 ·rw [List.all_eq_true] at *
  exact fun x hx=>h2 x (List.mem_of_mem_drop hx)
theorem known_d {l : List D} (h : ∀ y ∈ l,y.memOk = true) : (l.map AV.d).all AV.known = true:=by
 rw [List.all_eq_true]
 intro x hx
 obtain ⟨y,hy,rfl⟩:=List.mem_map.1 hx
 exact h y hy
end Dw
namespace Dw
open Go
theorem capI {n : Int} {b : Nat} (h : 0 ≤ n ∧ n ≤ 10000000) (hb : Nat.ble (10000000 * b) 140737488355328 = true) : 0 ≤ n ∧ n < 9223372036854775808 ∧ n * (b : Int) ≤ 140737488355328:=by
 have h1 : 10000000 * b ≤ 140737488355328:=Nat.le_of_ble_eq_true hb
 have h2 : n * (b : Int) ≤ 10000000 * (b : Int):=Int.mul_le_mul_of_nonneg_right h.2 (by omega)
 omega
end Dw
namespace Go.Proofs.YtkmhnaojgkcjoaaGreatDoor
open Go Dw
def tab : TT:=
 .node 148
 (.node 76
  (.node 36
   (.node 18
    (.node 9
     (.node 5
      (.node 3
       (.node 2
        (.leaf 1 ⟨8,1,8,.raw .nilFunc,.i64,[],0,0,[]⟩)
        (.leaf 2 ⟨1,1,8,.d (.int .i64 0),.i64,[],0,0,[]⟩))
       (.node 4
        (.leaf 3 ⟨1,1,8,.d (.int .i64 0),.i64,[],0,0,[]⟩)
        (.leaf 4 ⟨2,1,1,.d (.bool false),.i64,[],0,0,[]⟩)))
      (.node 7
       (.node 6
        (.leaf 5 ⟨1,1,1,.d (.int .u8 0),.u8,[],0,0,[]⟩)
        (.leaf 6 ⟨1,1,1,.d (.int .u8 0),.u8,[],0,0,[]⟩))
       (.node 8
        (.leaf 7 ⟨5,4,24,.agg [.d (.int .i64 0),.d (.int .i64 0),.d (.bool false),.d (.int .u8 0)],.i64,[(0,2),(1,3),(2,4),(3,6)],0,0,[1,1,2,1]⟩)
        (.leaf 8 ⟨5,4,24,.agg [.d (.int .i64 0),.d (.int .i64 0),.d (.bool false),.d (.int .u8 0)],.i64,[(0,2),(1,3),(2,4),(3,6)],0,0,[1,1,2,1]⟩))))
     (.node 13
      (.node 11
       (.node 10
        (.leaf 9 ⟨3,1,16,.d (.str []),.i64,[],0,0,[]⟩)
        (.leaf 10 ⟨3,1,16,.d (.str []),.i64,[],0,0,[]⟩))
       (.node 12
        (.leaf 11 ⟨3,1,16,.d (.str []),.i64,[],0,0,[]⟩)
        (.leaf 12 ⟨1,1,8,.d (.int .u64 0),.u64,[],0,0,[]⟩)))
      (.node 15
       (.node 14
        (.leaf 13 ⟨5,2,24,.agg [.d (.str []),.d (.int .u64 0)],.i64,[(0,9),(1,12)],0,0,[]⟩)
        (.leaf 14 ⟨5,2,24,.agg [.d (.str []),.d (.int .u64 0)],.i64,[(0,9),(1,12)],0,0,[]⟩))
       (.node 16
        (.leaf 15 ⟨7,1,8,.raw (.pointer none),.i64,[],292,0,[]⟩)
        (.node 17
         (.leaf 16 ⟨7,1,8,.raw (.pointer none),.i64,[],295,0,[]⟩)
         (.leaf 17 ⟨7,1,8,.raw (.pointer none),.i64,[],302,0,[]⟩))))))
    (.node 27
     (.node 23
      (.node 21
       (.node 19
        (.leaf 18 ⟨5,1,8,.agg [.raw (.pointer none)],.i64,[(0,17)],0,0,[]⟩)
        (.leaf 19 ⟨5,1,8,.agg [.raw (.pointer none)],.i64,[(0,17)],0,0,[]⟩))
       (.node 22
        (.leaf 21 ⟨1,1,4,.d (.int .i32 0),.i32,[],0,0,[]⟩)
        (.leaf 22 ⟨4,1,24,.nilS,.i64,[],37,0,[]⟩)))
      (.node 25
       (.node 24
        (.leaf 23 ⟨4,1,24,.nilS,.i64,[],123,0,[]⟩)
        (.leaf 24 ⟨5,3,56,.agg [.nilS,.nilS,.d (.int .i64 0)],.i64,[(0,22),(1,23),(2,3)],0,0,[]⟩))
       (.node 26
        (.leaf 25 ⟨5,3,56,.agg [.nilS,.nilS,.d (.int .i64 0)],.i64,[(0,22),(1,23),(2,3)],0,0,[]⟩)
        (.leaf 26 ⟨8,1,8,.raw .nilFunc,.i64,[],0,0,[]⟩))))
     (.node 31
      (.node 29
       (.node 28
        (.leaf 27 ⟨8,1,8,.raw .nilFunc,.i64,[],0,0,[]⟩)
        (.leaf 28 ⟨8,1,8,.raw .nilFunc,.i64,[],0,0,[]⟩))
       (.node 30
        (.leaf 29 ⟨4,1,24,.nilS,.i64,[],39,0,[]⟩)
        (.leaf 30 ⟨8,1,8,.raw .nilFunc,.i64,[],0,0,[]⟩)))
      (.node 33
       (.node 32
        (.leaf 31 ⟨4,1,24,.nilS,.i64,[],139,0,[]⟩)
        (.leaf 32 ⟨4,1,24,.nilS,.i64,[],63,0,[]⟩))
       (.node 34
        (.leaf 33 ⟨4,1,24,.nilS,.i64,[],188,0,[]⟩)
        (.node 35
         (.leaf 34 ⟨5,6,72,.agg [.d (.int .i64 0),.d (.int .i64 0),.d (.bool false),.d (.bool false),.nilS,.nilS],.i64,[(0,3),(1,3),(2,4),(3,4),(4,33),(5,33)],0,0,[]⟩)
         (.leaf 35 ⟨5,6,72,.agg [.d (.int .i64 0),.d (.int .i64 0),.d (.bool false),.d (.bool false),.nilS,.nilS],.i64,[(0,3),(1,3),(2,4),(3,4),(4,33),(5,33)],0,0,[]⟩)))))))
   (.node 56
    (.node 45
     (.node 40
      (.node 38
       (.node 37
        (.leaf 36 ⟨5,13,176,.agg [.d (.int .i64 0),.nilS,.d (.str []),.d (.str []),.nilS,.d (.int .i64 0),.d (.int .i64 0),.d (.bool false),.d (.bool false),.nilS,.nilS,.d (.int .i64 0),.d (.int .i64 0)],.i64,[(0,3),(1,31),(2,9),(3,9),(4,32),(5,35),(11,3),(12,3)],0,0,[]⟩)
        (.leaf 37 ⟨5,13,176,.agg [.d (.int .i64 0),.nilS,.d (.str []),.d (.str []),.nilS,.d (.int .i64 0),.d (.int .i64 0),.d (.bool false),.d (.bool false),.nilS,.nilS,.d (.int .i64 0),.d (.int .i64 0)],.i64,[(0,3),(1,31),(2,9),(3,9),(4,32),(5,35),(11,3),(12,3)],0,0,[]⟩))
       (.node 39
        (.leaf 38 ⟨5,2,16,.agg [.d (.int .i64 0),.d (.int .i64 0)],.i64,[(0,3),(1,3)],0,0,[1,1]⟩)
        (.leaf 39 ⟨5,2,16,.agg [.d (.int .i64 0),.d (.int .i64 0)],.i64,[(0,3),(1,3)],0,0,[1,1]⟩)))
      (.node 42
       (.node 41
        (.leaf 40 ⟨4,1,24,.nilS,.i64,[],50,0,[]⟩)
        (.leaf 41 ⟨5,2,32,.agg [.nilS,.d (.bool false)],.i64,[(0,40),(1,4)],0,0,[]⟩))
       (.node 43
        (.leaf 42 ⟨5,2,32,.agg [.nilS,.d (.bool false)],.i64,[(0,40),(1,4)],0,0,[]⟩)
        (.leaf 43 ⟨1,1,8,.d (.int .i64 0),.i64,[],0,0,[]⟩))))
     (.node 50
      (.node 48
       (.node 47
        (.leaf 45 ⟨8,1,8,.raw .nilFunc,.i64,[],0,0,[]⟩)
        (.leaf 47 ⟨8,1,8,.raw .nilFunc,.i64,[],0,0,[]⟩))
       (.node 49
        (.leaf 48 ⟨8,1,8,.raw .nilFunc,.i64,[],0,0,[]⟩)
        (.leaf 49 ⟨5,5,40,.agg [.d (.int .i64 0),.d (.int .i64 0),.d (.int .i64 0),.d (.int .i64 0),.d (.int .i64 0)],.i64,[(0,3),(1,3),(2,3),(3,3),(4,3)],0,0,[1,1,1,1,1]⟩)))
      (.node 52
       (.node 51
        (.leaf 50 ⟨5,5,40,.agg [.d (.int .i64 0),.d (.int .i64 0),.d (.int .i64 0),.d (.int .i64 0),.d (.int .i64 0)],.i64,[(0,3),(1,3),(2,3),(3,3),(4,3)],0,0,[1,1,1,1,1]⟩)
        (.leaf 51 ⟨8,1,8,.raw .nilFunc,.i64,[],0,0,[]⟩))
       (.node 53
        (.leaf 52 ⟨8,1,8,.raw .nilFunc,.i64,[],0,0,[]⟩)
        (.node 55
         (.leaf 53 ⟨4,1,24,.nilS,.i64,[],93,0,[]⟩)
         (.leaf 55 ⟨8,1,8,.raw .nilFunc,.i64,[],0,0,[]⟩))))))
    (.node 66
     (.node 61
      (.node 59
       (.node 57
        (.leaf 56 ⟨8,1,8,.raw .nilFunc,.i64,[],0,0,[]⟩)
        (.leaf 57 ⟨4,1,24,.nilS,.i64,[],9,0,[]⟩))
       (.node 60
        (.leaf 59 ⟨8,1,8,.raw .nilFunc,.i64,[],0,0,[]⟩)
        (.leaf 60 ⟨8,1,8,.raw .nilFunc,.i64,[],0,0,[]⟩)))
      (.node 63
       (.node 62
        (.leaf 61 ⟨8,1,8,.raw .nilFunc,.i64,[],0,0,[]⟩)
        (.leaf 62 ⟨5,2,32,.agg [.d (.str []),.d (.str [])],.i64,[(0,9),(1,9)],0,0,[3,3]⟩))
       (.node 64
        (.leaf 63 ⟨5,2,32,.agg [.d (.str []),.d (.str [])],.i64,[(0,9),(1,9)],0,0,[3,3]⟩)
        (.node 65
         (.leaf 64 ⟨9,1,8,.raw (.map none),.i64,[],3,3,[]⟩)
         (.leaf 65 ⟨8,1,8,.raw .nilFunc,.i64,[],0,0,[]⟩)))))
     (.node 70
      (.node 68
       (.node 67
        (.leaf 66 ⟨8,1,8,.raw .nilFunc,.i64,[],0,0,[]⟩)
        (.leaf 67 ⟨8,1,8,.raw .nilFunc,.i64,[],0,0,[]⟩))
       (.node 69
        (.leaf 68 ⟨8,1,8,.raw .nilFunc,.i64,[],0,0,[]⟩)
        (.leaf 69 ⟨4,1,24,.nilS,.i64,[],3,0,[]⟩)))
      (.node 72
       (.node 71
        (.leaf 70 ⟨8,1,8,.raw .nilFunc,.i64,[],0,0,[]⟩)
        (.leaf 71 ⟨8,1,8,.raw .nilFunc,.i64,[],0,0,[]⟩))
       (.node 73
        (.leaf 72 ⟨8,1,8,.raw .nilFunc,.i64,[],0,0,[]⟩)
        (.node 74
         (.leaf 73 ⟨8,1,8,.raw .nilFunc,.i64,[],0,0,[]⟩)
         (.leaf 74 ⟨7,1,8,.raw (.pointer none),.i64,[],129,0,[]⟩))))))))
  (.node 113
   (.node 94
    (.node 84
     (.node 80
      (.node 78
       (.node 77
        (.leaf 76 ⟨8,1,8,.raw .nilFunc,.i64,[],0,0,[]⟩)
        (.leaf 77 ⟨8,1,8,.raw .nilFunc,.i64,[],0,0,[]⟩))
       (.node 79
        (.leaf 78 ⟨8,1,8,.raw .nilFunc,.i64,[],0,0,[]⟩)
        (.leaf 79 ⟨8,1,8,.raw .nilFunc,.i64,[],0,0,[]⟩)))
      (.node 82
       (.node 81
        (.leaf 80 ⟨8,1,8,.raw .nilFunc,.i64,[],0,0,[]⟩)
        (.leaf 81 ⟨5,3,24,.agg [.d (.int .i64 0),.d (.int .i64 0),.d (.int .i64 0)],.i64,[(0,3),(1,3),(2,3)],0,0,[1,1,1]⟩))
       (.node 83
        (.leaf 82 ⟨5,3,24,.agg [.d (.int .i64 0),.d (.int .i64 0),.d (.int .i64 0)],.i64,[(0,3),(1,3),(2,3)],0,0,[1,1,1]⟩)
        (.leaf 83 ⟨5,7,56,.agg [.d (.int .i64 0),.d (.int .i64 0),.d (.int .i64 0),.d (.int .i64 0),.d (.int .i64 0),.d (.int .i64 0),.d (.int .i64 0)],.i64,[(0,3),(1,3),(2,3),(3,3),(4,82)],0,0,[1,1,1,1,1,1,1]⟩))))
     (.node 89
      (.node 87
       (.node 85
        (.leaf 84 ⟨5,7,56,.agg [.d (.int .i64 0),.d (.int .i64 0),.d (.int .i64 0),.d (.int .i64 0),.d (.int .i64 0),.d (.int .i64 0),.d (.int .i64 0)],.i64,[(0,3),(1,3),(2,3),(3,3),(4,82)],0,0,[1,1,1,1,1,1,1]⟩)
        (.leaf 85 ⟨7,1,8,.raw (.pointer none),.i64,[],106,0,[]⟩))
       (.node 88
        (.leaf 87 ⟨8,1,8,.raw .nilFunc,.i64,[],0,0,[]⟩)
        (.leaf 88 ⟨9,1,8,.raw (.map none),.i64,[],4,3,[]⟩)))
      (.node 91
       (.node 90
        (.leaf 89 ⟨8,1,8,.raw .nilFunc,.i64,[],0,0,[]⟩)
        (.leaf 90 ⟨8,1,8,.raw .nilFunc,.i64,[],0,0,[]⟩))
       (.node 92
        (.leaf 91 ⟨8,1,8,.raw .nilFunc,.i64,[],0,0,[]⟩)
        (.node 93
         (.leaf 92 ⟨5,3,24,.agg [.d (.int .i64 0),.d (.int .i64 0),.d (.int .i64 0)],.i64,[(0,3),(1,3),(2,3)],0,0,[1,1,1]⟩)
         (.leaf 93 ⟨5,3,24,.agg [.d (.int .i64 0),.d (.int .i64 0),.d (.int .i64 0)],.i64,[(0,3),(1,3),(2,3)],0,0,[1,1,1]⟩))))))
    (.node 103
     (.node 99
      (.node 97
       (.node 96
        (.leaf 94 ⟨8,1,8,.raw .nilFunc,.i64,[],0,0,[]⟩)
        (.leaf 96 ⟨8,1,8,.raw .nilFunc,.i64,[],0,0,[]⟩))
       (.node 98
        (.leaf 97 ⟨4,1,24,.nilS,.i64,[],43,0,[]⟩)
        (.leaf 98 ⟨8,1,8,.raw .nilFunc,.i64,[],0,0,[]⟩)))
      (.node 101
       (.node 100
        (.leaf 99 ⟨8,1,8,.raw .nilFunc,.i64,[],0,0,[]⟩)
        (.leaf 100 ⟨8,1,8,.raw .nilFunc,.i64,[],0,0,[]⟩))
       (.node 102
        (.leaf 101 ⟨8,1,8,.raw .nilFunc,.i64,[],0,0,[]⟩)
        (.leaf 102 ⟨8,1,8,.raw .nilFunc,.i64,[],0,0,[]⟩))))
     (.node 107
      (.node 105
       (.node 104
        (.leaf 103 ⟨8,1,8,.raw .nilFunc,.i64,[],0,0,[]⟩)
        (.leaf 104 ⟨8,1,8,.raw .nilFunc,.i64,[],0,0,[]⟩))
       (.node 106
        (.leaf 105 ⟨5,2,32,.agg [.nilS,.d (.bool false)],.i64,[(0,42)],0,0,[]⟩)
        (.leaf 106 ⟨5,2,32,.agg [.nilS,.d (.bool false)],.i64,[(0,42)],0,0,[]⟩)))
      (.node 109
       (.node 108
        (.leaf 107 ⟨8,1,8,.raw .nilFunc,.i64,[],0,0,[]⟩)
        (.leaf 108 ⟨8,1,8,.raw .nilFunc,.i64,[],0,0,[]⟩))
       (.node 110
        (.leaf 109 ⟨4,1,24,.nilS,.i64,[],40,0,[]⟩)
        (.node 112
         (.leaf 110 ⟨8,1,8,.raw .nilFunc,.i64,[],0,0,[]⟩)
         (.leaf 112 ⟨8,1,8,.raw .nilFunc,.i64,[],0,0,[]⟩)))))))
   (.node 130
    (.node 121
     (.node 117
      (.node 115
       (.node 114
        (.leaf 113 ⟨9,1,8,.raw (.map none),.i64,[],9,9,[]⟩)
        (.leaf 114 ⟨8,1,8,.raw .nilFunc,.i64,[],0,0,[]⟩))
       (.node 116
        (.leaf 115 ⟨8,1,8,.raw .nilFunc,.i64,[],0,0,[]⟩)
        (.leaf 116 ⟨8,1,8,.raw .nilFunc,.i64,[],0,0,[]⟩)))
      (.node 119
       (.node 118
        (.leaf 117 ⟨8,1,8,.raw .nilFunc,.i64,[],0,0,[]⟩)
        (.leaf 118 ⟨8,1,8,.raw .nilFunc,.i64,[],0,0,[]⟩))
       (.node 120
        (.leaf 119 ⟨4,1,24,.nilS,.i64,[],159,0,[]⟩)
        (.leaf 120 ⟨8,1,8,.raw .nilFunc,.i64,[],0,0,[]⟩))))
     (.node 125
      (.node 123
       (.node 122
        (.leaf 121 ⟨8,1,8,.raw .nilFunc,.i64,[],0,0,[]⟩)
        (.leaf 122 ⟨5,2,16,.agg [.d (.int .i64 0),.d (.int .i64 0)],.i64,[(0,3),(1,3)],0,0,[1,1]⟩))
       (.node 124
        (.leaf 123 ⟨5,2,16,.agg [.d (.int .i64 0),.d (.int .i64 0)],.i64,[(0,3),(1,3)],0,0,[1,1]⟩)
        (.leaf 124 ⟨8,1,8,.raw .nilFunc,.i64,[],0,0,[]⟩)))
      (.node 127
       (.node 126
        (.leaf 125 ⟨8,1,8,.raw .nilFunc,.i64,[],0,0,[]⟩)
        (.leaf 126 ⟨8,1,8,.raw .nilFunc,.i64,[],0,0,[]⟩))
       (.node 128
        (.leaf 127 ⟨1,1,8,.d (.int .u64 0),.u64,[],0,0,[]⟩)
        (.node 129
         (.leaf 128 ⟨5,3,56,.agg [.nilS,.nilS,.d (.int .i64 0)],.i64,[(0,25)],0,0,[]⟩)
         (.leaf 129 ⟨5,3,56,.agg [.nilS,.nilS,.d (.int .i64 0)],.i64,[(0,25)],0,0,[]⟩))))))
    (.node 139
     (.node 134
      (.node 132
       (.node 131
        (.leaf 130 ⟨8,1,8,.raw .nilFunc,.i64,[],0,0,[]⟩)
        (.leaf 131 ⟨8,1,8,.raw .nilFunc,.i64,[],0,0,[]⟩))
       (.node 133
        (.leaf 132 ⟨8,1,8,.raw .nilFunc,.i64,[],0,0,[]⟩)
        (.leaf 133 ⟨8,1,8,.raw .nilFunc,.i64,[],0,0,[]⟩)))
      (.node 136
       (.node 135
        (.leaf 134 ⟨8,1,8,.raw .nilFunc,.i64,[],0,0,[]⟩)
        (.leaf 135 ⟨8,1,8,.raw .nilFunc,.i64,[],0,0,[]⟩))
       (.node 137
        (.leaf 136 ⟨8,1,8,.raw .nilFunc,.i64,[],0,0,[]⟩)
        (.node 138
         (.leaf 137 ⟨8,1,8,.raw .nilFunc,.i64,[],0,0,[]⟩)
         (.leaf 138 ⟨5,2,24,.agg [.d (.str []),.d (.int .i64 0)],.i64,[(0,9),(1,3)],0,0,[3,1]⟩)))))
     (.node 143
      (.node 141
       (.node 140
        (.leaf 139 ⟨5,2,24,.agg [.d (.str []),.d (.int .i64 0)],.i64,[(0,9),(1,3)],0,0,[3,1]⟩)
        (.leaf 140 ⟨8,1,8,.raw .nilFunc,.i64,[],0,0,[]⟩))
       (.node 142
        (.leaf 141 ⟨8,1,8,.raw .nilFunc,.i64,[],0,0,[]⟩)
        (.leaf 142 ⟨8,1,8,.raw .nilFunc,.i64,[],0,0,[]⟩)))
      (.node 145
       (.node 144
        (.leaf 143 ⟨8,1,8,.raw .nilFunc,.i64,[],0,0,[]⟩)
        (.leaf 144 ⟨8,1,8,.raw .nilFunc,.i64,[],0,0,[]⟩))
       (.node 146
        (.leaf 145 ⟨8,1,8,.raw .nilFunc,.i64,[],0,0,[]⟩)
        (.node 147
         (.leaf 146 ⟨8,1,8,.raw .nilFunc,.i64,[],0,0,[]⟩)
         (.leaf 147 ⟨8,1,8,.raw .nilFunc,.i64,[],0,0,[]⟩)))))))))
 (.node 223
  (.node 184
   (.node 167
    (.node 157
     (.node 153
      (.node 151
       (.node 149
        (.leaf 148 ⟨8,1,8,.raw .nilFunc,.i64,[],0,0,[]⟩)
        (.leaf 149 ⟨9,1,8,.raw (.map none),.i64,[],9,3,[]⟩))
       (.node 152
        (.leaf 151 ⟨8,1,8,.raw .nilFunc,.i64,[],0,0,[]⟩)
        (.leaf 152 ⟨8,1,8,.raw .nilFunc,.i64,[],0,0,[]⟩)))
      (.node 155
       (.node 154
        (.leaf 153 ⟨8,1,8,.raw .nilFunc,.i64,[],0,0,[]⟩)
        (.leaf 154 ⟨8,1,8,.raw .nilFunc,.i64,[],0,0,[]⟩))
       (.node 156
        (.leaf 155 ⟨8,1,8,.raw .nilFunc,.i64,[],0,0,[]⟩)
        (.leaf 156 ⟨8,1,8,.raw .nilFunc,.i64,[],0,0,[]⟩))))
     (.node 161
      (.node 159
       (.node 158
        (.leaf 157 ⟨4,1,24,.nilS,.i64,[],4,0,[]⟩)
        (.leaf 158 ⟨5,3,48,.agg [.d (.int .i64 0),.nilS,.d (.str [])],.i64,[(0,3),(1,31),(2,9)],0,0,[]⟩))
       (.node 160
        (.leaf 159 ⟨5,3,48,.agg [.d (.int .i64 0),.nilS,.d (.str [])],.i64,[(0,3),(1,31),(2,9)],0,0,[]⟩)
        (.leaf 160 ⟨8,1,8,.raw .nilFunc,.i64,[],0,0,[]⟩)))
      (.node 163
       (.node 162
        (.leaf 161 ⟨8,1,8,.raw .nilFunc,.i64,[],0,0,[]⟩)
        (.leaf 162 ⟨8,1,8,.raw .nilFunc,.i64,[],0,0,[]⟩))
       (.node 165
        (.leaf 163 ⟨1,1,8,.d (.int .i64 0),.i64,[],0,0,[]⟩)
        (.node 166
         (.leaf 165 ⟨8,1,8,.raw .nilFunc,.i64,[],0,0,[]⟩)
         (.leaf 166 ⟨8,1,8,.raw .nilFunc,.i64,[],0,0,[]⟩))))))
    (.node 175
     (.node 171
      (.node 169
       (.node 168
        (.leaf 167 ⟨8,1,8,.raw .nilFunc,.i64,[],0,0,[]⟩)
        (.leaf 168 ⟨8,1,8,.raw .nilFunc,.i64,[],0,0,[]⟩))
       (.node 170
        (.leaf 169 ⟨8,1,8,.raw .nilFunc,.i64,[],0,0,[]⟩)
        (.leaf 170 ⟨8,1,8,.raw .nilFunc,.i64,[],0,0,[]⟩)))
      (.node 173
       (.node 172
        (.leaf 171 ⟨1,1,4,.d (.int .u32 0),.u32,[],0,0,[]⟩)
        (.leaf 172 ⟨8,1,8,.raw .nilFunc,.i64,[],0,0,[]⟩))
       (.node 174
        (.leaf 173 ⟨1,1,8,.d (.int .u64 0),.u64,[],0,0,[]⟩)
        (.leaf 174 ⟨8,1,8,.raw .nilFunc,.i64,[],0,0,[]⟩))))
     (.node 179
      (.node 177
       (.node 176
        (.leaf 175 ⟨8,1,8,.raw .nilFunc,.i64,[],0,0,[]⟩)
        (.leaf 176 ⟨8,1,8,.raw .nilFunc,.i64,[],0,0,[]⟩))
       (.node 178
        (.leaf 177 ⟨4,1,24,.nilS,.i64,[],159,0,[]⟩)
        (.leaf 178 ⟨8,1,8,.raw .nilFunc,.i64,[],0,0,[]⟩)))
      (.node 181
       (.node 180
        (.leaf 179 ⟨8,1,8,.raw .nilFunc,.i64,[],0,0,[]⟩)
        (.leaf 180 ⟨8,1,8,.raw .nilFunc,.i64,[],0,0,[]⟩))
       (.node 182
        (.leaf 181 ⟨8,1,8,.raw .nilFunc,.i64,[],0,0,[]⟩)
        (.node 183
         (.leaf 182 ⟨8,1,8,.raw .nilFunc,.i64,[],0,0,[]⟩)
         (.leaf 183 ⟨8,1,8,.raw .nilFunc,.i64,[],0,0,[]⟩)))))))
   (.node 204
    (.node 192
     (.node 188
      (.node 186
       (.node 185
        (.leaf 184 ⟨8,1,8,.raw .nilFunc,.i64,[],0,0,[]⟩)
        (.leaf 185 ⟨8,1,8,.raw .nilFunc,.i64,[],0,0,[]⟩))
       (.node 187
        (.leaf 186 ⟨8,1,8,.raw .nilFunc,.i64,[],0,0,[]⟩)
        (.leaf 187 ⟨5,4,32,.agg [.d (.int .i64 0),.d (.int .i64 0),.d (.int .i64 0),.d (.int .i64 0)],.i64,[(0,3),(1,3),(2,3),(3,3)],0,0,[1,1,1,1]⟩)))
      (.node 190
       (.node 189
        (.leaf 188 ⟨5,4,32,.agg [.d (.int .i64 0),.d (.int .i64 0),.d (.int .i64 0),.d (.int .i64 0)],.i64,[(0,3),(1,3),(2,3),(3,3)],0,0,[1,1,1,1]⟩)
        (.leaf 189 ⟨8,1,8,.raw .nilFunc,.i64,[],0,0,[]⟩))
       (.node 191
        (.leaf 190 ⟨8,1,8,.raw .nilFunc,.i64,[],0,0,[]⟩)
        (.leaf 191 ⟨8,1,8,.raw .nilFunc,.i64,[],0,0,[]⟩))))
     (.node 196
      (.node 194
       (.node 193
        (.leaf 192 ⟨4,1,24,.nilS,.i64,[],5,0,[]⟩)
        (.leaf 193 ⟨7,1,8,.raw (.pointer none),.i64,[],195,0,[]⟩))
       (.node 195
        (.leaf 194 ⟨5,2,32,.agg [.raw (.pointer none),.nilS],.i64,[(0,193),(1,192)],0,0,[]⟩)
        (.leaf 195 ⟨5,2,32,.agg [.raw (.pointer none),.nilS],.i64,[(0,193),(1,192)],0,0,[]⟩)))
      (.node 201
       (.node 200
        (.leaf 196 ⟨8,1,8,.raw .nilFunc,.i64,[],0,0,[]⟩)
        (.leaf 200 ⟨8,1,8,.raw .nilFunc,.i64,[],0,0,[]⟩))
       (.node 202
        (.leaf 201 ⟨8,1,8,.raw .nilFunc,.i64,[],0,0,[]⟩)
        (.node 203
         (.leaf 202 ⟨8,1,8,.raw .nilFunc,.i64,[],0,0,[]⟩)
         (.leaf 203 ⟨8,1,8,.raw .nilFunc,.i64,[],0,0,[]⟩))))))
    (.node 214
     (.node 208
      (.node 206
       (.node 205
        (.leaf 204 ⟨8,1,8,.raw .nilFunc,.i64,[],0,0,[]⟩)
        (.leaf 205 ⟨8,1,8,.raw .nilFunc,.i64,[],0,0,[]⟩))
       (.node 207
        (.leaf 206 ⟨8,1,8,.raw .nilFunc,.i64,[],0,0,[]⟩)
        (.leaf 207 ⟨8,1,8,.raw .nilFunc,.i64,[],0,0,[]⟩)))
      (.node 211
       (.node 209
        (.leaf 208 ⟨5,3,48,.agg [.d (.bool false),.nilS,.d (.str [])],.i64,[(0,4),(1,57),(2,9)],0,0,[]⟩)
        (.leaf 209 ⟨5,3,48,.agg [.d (.bool false),.nilS,.d (.str [])],.i64,[(0,4),(1,57),(2,9)],0,0,[]⟩))
       (.node 212
        (.leaf 211 ⟨8,1,8,.raw .nilFunc,.i64,[],0,0,[]⟩)
        (.node 213
         (.leaf 212 ⟨8,1,8,.raw .nilFunc,.i64,[],0,0,[]⟩)
         (.leaf 213 ⟨8,1,8,.raw .nilFunc,.i64,[],0,0,[]⟩)))))
     (.node 218
      (.node 216
       (.node 215
        (.leaf 214 ⟨8,1,8,.raw .nilFunc,.i64,[],0,0,[]⟩)
        (.leaf 215 ⟨1,1,8,.d (.int .u64 0),.u64,[],0,0,[]⟩))
       (.node 217
        (.leaf 216 ⟨8,1,8,.raw .nilFunc,.i64,[],0,0,[]⟩)
        (.leaf 217 ⟨8,1,8,.raw .nilFunc,.i64,[],0,0,[]⟩)))
      (.node 220
       (.node 219
        (.leaf 218 ⟨8,1,8,.raw .nilFunc,.i64,[],0,0,[]⟩)
        (.leaf 219 ⟨7,1,8,.raw (.pointer none),.i64,[],3,0,[]⟩))
       (.node 221
        (.leaf 220 ⟨8,1,8,.raw .nilFunc,.i64,[],0,0,[]⟩)
        (.node 222
         (.leaf 221 ⟨8,1,8,.raw .nilFunc,.i64,[],0,0,[]⟩)
         (.leaf 222 ⟨8,1,8,.raw .nilFunc,.i64,[],0,0,[]⟩))))))))
  (.node 262
   (.node 241
    (.node 231
     (.node 227
      (.node 225
       (.node 224
        (.leaf 223 ⟨8,1,8,.raw .nilFunc,.i64,[],0,0,[]⟩)
        (.leaf 224 ⟨8,1,8,.raw .nilFunc,.i64,[],0,0,[]⟩))
       (.node 226
        (.leaf 225 ⟨8,1,8,.raw .nilFunc,.i64,[],0,0,[]⟩)
        (.leaf 226 ⟨8,1,8,.raw .nilFunc,.i64,[],0,0,[]⟩)))
      (.node 229
       (.node 228
        (.leaf 227 ⟨8,1,8,.raw .nilFunc,.i64,[],0,0,[]⟩)
        (.leaf 228 ⟨8,1,8,.raw .nilFunc,.i64,[],0,0,[]⟩))
       (.node 230
        (.leaf 229 ⟨8,1,8,.raw .nilFunc,.i64,[],0,0,[]⟩)
        (.leaf 230 ⟨8,1,8,.raw .nilFunc,.i64,[],0,0,[]⟩))))
     (.node 235
      (.node 233
       (.node 232
        (.leaf 231 ⟨8,1,8,.raw .nilFunc,.i64,[],0,0,[]⟩)
        (.leaf 232 ⟨8,1,8,.raw .nilFunc,.i64,[],0,0,[]⟩))
       (.node 234
        (.leaf 233 ⟨7,1,8,.raw (.pointer none),.i64,[],5,0,[]⟩)
        (.leaf 234 ⟨8,1,8,.raw .nilFunc,.i64,[],0,0,[]⟩)))
      (.node 237
       (.node 236
        (.leaf 235 ⟨8,1,8,.raw .nilFunc,.i64,[],0,0,[]⟩)
        (.leaf 236 ⟨8,1,8,.raw .nilFunc,.i64,[],0,0,[]⟩))
       (.node 238
        (.leaf 237 ⟨8,1,8,.raw .nilFunc,.i64,[],0,0,[]⟩)
        (.node 239
         (.leaf 238 ⟨7,1,8,.raw (.pointer none),.i64,[],215,0,[]⟩)
         (.leaf 239 ⟨8,1,8,.raw .nilFunc,.i64,[],0,0,[]⟩))))))
    (.node 250
     (.node 245
      (.node 243
       (.node 242
        (.leaf 241 ⟨8,1,8,.raw .nilFunc,.i64,[],0,0,[]⟩)
        (.leaf 242 ⟨8,1,8,.raw .nilFunc,.i64,[],0,0,[]⟩))
       (.node 244
        (.leaf 243 ⟨3,1,16,.d (.str []),.i64,[],0,0,[]⟩)
        (.leaf 244 ⟨8,1,8,.raw .nilFunc,.i64,[],0,0,[]⟩)))
      (.node 247
       (.node 246
        (.leaf 245 ⟨8,1,8,.raw .nilFunc,.i64,[],0,0,[]⟩)
        (.leaf 246 ⟨4,1,24,.nilS,.i64,[],33,0,[]⟩))
       (.node 248
        (.leaf 247 ⟨8,1,8,.raw .nilFunc,.i64,[],0,0,[]⟩)
        (.node 249
         (.leaf 248 ⟨8,1,8,.raw .nilFunc,.i64,[],0,0,[]⟩)
         (.leaf 249 ⟨8,1,8,.raw .nilFunc,.i64,[],0,0,[]⟩)))))
     (.node 256
      (.node 252
       (.node 251
        (.leaf 250 ⟨8,1,8,.raw .nilFunc,.i64,[],0,0,[]⟩)
        (.leaf 251 ⟨6,24,24,.agg [.d (.int .u8 0),.d (.int .u8 0),.d (.int .u8 0),.d (.int .u8 0),.d (.int .u8 0),.d (.int .u8 0),.d (.int .u8 0),.d (.int .u8 0),.d (.int .u8 0),.d (.int .u8 0),.d (.int .u8 0),.d (.int .u8 0),.d (.int .u8 0),.d (.int .u8 0),.d (.int .u8 0),.d (.int .u8 0),.d (.int .u8 0),.d (.int .u8 0),.d (.int .u8 0),.d (.int .u8 0),.d (.int .u8 0),.d (.int .u8 0),.d (.int .u8 0),.d (.int .u8 0)],.i64,[],5,24,[]⟩))
       (.node 254
        (.leaf 252 ⟨8,1,8,.raw .nilFunc,.i64,[],0,0,[]⟩)
        (.leaf 254 ⟨8,1,8,.raw .nilFunc,.i64,[],0,0,[]⟩)))
      (.node 258
       (.node 257
        (.leaf 256 ⟨8,1,8,.raw .nilFunc,.i64,[],0,0,[]⟩)
        (.leaf 257 ⟨8,1,8,.raw .nilFunc,.i64,[],0,0,[]⟩))
       (.node 260
        (.leaf 258 ⟨8,1,8,.raw .nilFunc,.i64,[],0,0,[]⟩)
        (.node 261
         (.leaf 260 ⟨8,1,8,.raw .nilFunc,.i64,[],0,0,[]⟩)
         (.leaf 261 ⟨8,1,8,.raw .nilFunc,.i64,[],0,0,[]⟩)))))))
   (.node 281
    (.node 272
     (.node 267
      (.node 264
       (.node 263
        (.leaf 262 ⟨8,1,8,.raw .nilFunc,.i64,[],0,0,[]⟩)
        (.leaf 263 ⟨8,1,8,.raw .nilFunc,.i64,[],0,0,[]⟩))
       (.node 265
        (.leaf 264 ⟨6,20,160,.agg [.d (.int .u64 0),.d (.int .u64 0),.d (.int .u64 0),.d (.int .u64 0),.d (.int .u64 0),.d (.int .u64 0),.d (.int .u64 0),.d (.int .u64 0),.d (.int .u64 0),.d (.int .u64 0),.d (.int .u64 0),.d (.int .u64 0),.d (.int .u64 0),.d (.int .u64 0),.d (.int .u64 0),.d (.int .u64 0),.d (.int .u64 0),.d (.int .u64 0),.d (.int .u64 0),.d (.int .u64 0)],.i64,[],173,20,[]⟩)
        (.leaf 265 ⟨6,65,65,.agg [.d (.int .u8 0),.d (.int .u8 0),.d (.int .u8 0),.d (.int .u8 0),.d (.int .u8 0),.d (.int .u8 0),.d (.int .u8 0),.d (.int .u8 0),.d (.int .u8 0),.d (.int .u8 0),.d (.int .u8 0),.d (.int .u8 0),.d (.int .u8 0),.d (.int .u8 0),.d (.int .u8 0),.d (.int .u8 0),.d (.int .u8 0),.d (.int .u8 0),.d (.int .u8 0),.d (.int .u8 0),.d (.int .u8 0),.d (.int .u8 0),.d (.int .u8 0),.d (.int .u8 0),.d (.int .u8 0),.d (.int .u8 0),.d (.int .u8 0),.d (.int .u8 0),.d (.int .u8 0),.d (.int .u8 0),.d (.int .u8 0),.d (.int .u8 0),.d (.int .u8 0),.d (.int .u8 0),.d (.int .u8 0),.d (.int .u8 0),.d (.int .u8 0),.d (.int .u8 0),.d (.int .u8 0),.d (.int .u8 0),.d (.int .u8 0),.d (.int .u8 0),.d (.int .u8 0),.d (.int .u8 0),.d (.int .u8 0),.d (.int .u8 0),.d (.int .u8 0),.d (.int .u8 0),.d (.int .u8 0),.d (.int .u8 0),.d (.int .u8 0),.d (.int .u8 0),.d (.int .u8 0),.d (.int .u8 0),.d (.int .u8 0),.d (.int .u8 0),.d (.int .u8 0),.d (.int .u8 0),.d (.int .u8 0),.d (.int .u8 0),.d (.int .u8 0),.d (.int .u8 0),.d (.int .u8 0),.d (.int .u8 0),.d (.int .u8 0)],.i64,[],5,65,[]⟩)))
      (.node 269
       (.node 268
        (.leaf 267 ⟨8,1,8,.raw .nilFunc,.i64,[],0,0,[]⟩)
        (.leaf 268 ⟨8,1,8,.raw .nilFunc,.i64,[],0,0,[]⟩))
       (.node 271
        (.leaf 269 ⟨7,1,8,.raw (.pointer none),.i64,[],9,0,[]⟩)
        (.leaf 271 ⟨8,1,8,.raw .nilFunc,.i64,[],0,0,[]⟩))))
     (.node 276
      (.node 274
       (.node 273
        (.leaf 272 ⟨8,1,8,.raw .nilFunc,.i64,[],0,0,[]⟩)
        (.leaf 273 ⟨8,1,8,.raw .nilFunc,.i64,[],0,0,[]⟩))
       (.node 275
        (.leaf 274 ⟨8,1,8,.raw .nilFunc,.i64,[],0,0,[]⟩)
        (.leaf 275 ⟨8,1,8,.raw .nilFunc,.i64,[],0,0,[]⟩)))
      (.node 278
       (.node 277
        (.leaf 276 ⟨8,1,8,.raw .nilFunc,.i64,[],0,0,[]⟩)
        (.leaf 277 ⟨8,1,8,.raw .nilFunc,.i64,[],0,0,[]⟩))
       (.node 279
        (.leaf 278 ⟨8,1,8,.raw .nilFunc,.i64,[],0,0,[]⟩)
        (.node 280
         (.leaf 279 ⟨8,1,8,.raw .nilFunc,.i64,[],0,0,[]⟩)
         (.leaf 280 ⟨6,32,32,.agg [.d (.int .u8 0),.d (.int .u8 0),.d (.int .u8 0),.d (.int .u8 0),.d (.int .u8 0),.d (.int .u8 0),.d (.int .u8 0),.d (.int .u8 0),.d (.int .u8 0),.d (.int .u8 0),.d (.int .u8 0),.d (.int .u8 0),.d (.int .u8 0),.d (.int .u8 0),.d (.int .u8 0),.d (.int .u8 0),.d (.int .u8 0),.d (.int .u8 0),.d (.int .u8 0),.d (.int .u8 0),.d (.int .u8 0),.d (.int .u8 0),.d (.int .u8 0),.d (.int .u8 0),.d (.int .u8 0),.d (.int .u8 0),.d (.int .u8 0),.d (.int .u8 0),.d (.int .u8 0),.d (.int .u8 0),.d (.int .u8 0),.d (.int .u8 0)],.i64,[],5,32,[]⟩))))))
    (.node 292
     (.node 287
      (.node 284
       (.node 282
        (.leaf 281 ⟨6,64,64,.agg [.d (.int .u8 0),.d (.int .u8 0),.d (.int .u8 0),.d (.int .u8 0),.d (.int .u8 0),.d (.int .u8 0),.d (.int .u8 0),.d (.int .u8 0),.d (.int .u8 0),.d (.int .u8 0),.d (.int .u8 0),.d (.int .u8 0),.d (.int .u8 0),.d (.int .u8 0),.d (.int .u8 0),.d (.int .u8 0),.d (.int .u8 0),.d (.int .u8 0),.d (.int .u8 0),.d (.int .u8 0),.d (.int .u8 0),.d (.int .u8 0),.d (.int .u8 0),.d (.int .u8 0),.d (.int .u8 0),.d (.int .u8 0),.d (.int .u8 0),.d (.int .u8 0),.d (.int .u8 0),.d (.int .u8 0),.d (.int .u8 0),.d (.int .u8 0),.d (.int .u8 0),.d (.int .u8 0),.d (.int .u8 0),.d (.int .u8 0),.d (.int .u8 0),.d (.int .u8 0),.d (.int .u8 0),.d (.int .u8 0),.d (.int .u8 0),.d (.int .u8 0),.d (.int .u8 0),.d (.int .u8 0),.d (.int .u8 0),.d (.int .u8 0),.d (.int .u8 0),.d (.int .u8 0),.d (.int .u8 0),.d (.int .u8 0),.d (.int .u8 0),.d (.int .u8 0),.d (.int .u8 0),.d (.int .u8 0),.d (.int .u8 0),.d (.int .u8 0),.d (.int .u8 0),.d (.int .u8 0),.d (.int .u8 0),.d (.int .u8 0),.d (.int .u8 0),.d (.int .u8 0),.d (.int .u8 0),.d (.int .u8 0)],.i64,[],5,64,[]⟩)
        (.leaf 282 ⟨8,1,8,.raw .nilFunc,.i64,[],0,0,[]⟩))
       (.node 286
        (.leaf 284 ⟨8,1,8,.raw .nilFunc,.i64,[],0,0,[]⟩)
        (.leaf 286 ⟨8,1,8,.raw .nilFunc,.i64,[],0,0,[]⟩)))
      (.node 289
       (.node 288
        (.leaf 287 ⟨6,256,256,.agg [.d (.int .u8 0),.d (.int .u8 0),.d (.int .u8 0),.d (.int .u8 0),.d (.int .u8 0),.d (.int .u8 0),.d (.int .u8 0),.d (.int .u8 0),.d (.int .u8 0),.d (.int .u8 0),.d (.int .u8 0),.d (.int .u8 0),.d (.int .u8 0),.d (.int .u8 0),.d (.int .u8 0),.d (.int .u8 0),.d (.int .u8 0),.d (.int .u8 0),.d (.int .u8 0),.d (.int .u8 0),.d (.int .u8 0),.d (.int .u8 0),.d (.int .u8 0),.d (.int .u8 0),.d (.int .u8 0),.d (.int .u8 0),.d (.int .u8 0),.d (.int .u8 0),.d (.int .u8 0),.d (.int .u8 0),.d (.int .u8 0),.d (.int .u8 0),.d (.int .u8 0),.d (.int .u8 0),.d (.int .u8 0),.d (.int .u8 0),.d (.int .u8 0),.d (.int .u8 0),.d (.int .u8 0),.d (.int .u8 0),.d (.int .u8 0),.d (.int .u8 0),.d (.int .u8 0),.d (.int .u8 0),.d (.int .u8 0),.d (.int .u8 0),.d (.int .u8 0),.d (.int .u8 0),.d (.int .u8 0),.d (.int .u8 0),.d (.int .u8 0),.d (.int .u8 0),.d (.int .u8 0),.d (.int .u8 0),.d (.int .u8 0),.d (.int .u8 0),.d (.int .u8 0),.d (.int .u8 0),.d (.int .u8 0),.d (.int .u8 0),.d (.int .u8 0),.d (.int .u8 0),.d (.int .u8 0),.d (.int .u8 0),.d (.int .u8 0),.d (.int .u8 0),.d (.int .u8 0),.d (.int .u8 0),.d (.int .u8 0),.d (.int .u8 0),.d (.int .u8 0),.d (.int .u8 0),.d (.int .u8 0),.d (.int .u8 0),.d (.int .u8 0),.d (.int .u8 0),.d (.int .u8 0),.d (.int .u8 0),.d (.int .u8 0),.d (.int .u8 0),.d (.int .u8 0),.d (.int .u8 0),.d (.int .u8 0),.d (.int .u8 0),.d (.int .u8 0),.d (.int .u8 0),.d (.int .u8 0),.d (.int .u8 0),.d (.int .u8 0),.d (.int .u8 0),.d (.int .u8 0),.d (.int .u8 0),.d (.int .u8 0),.d (.int .u8 0),.d (.int .u8 0),.d (.int .u8 0),.d (.int .u8 0),.d (.int .u8 0),.d (.int .u8 0),.d (.int .u8 0),.d (.int .u8 0),.d (.int .u8 0),.d (.int .u8 0),.d (.int .u8 0),.d (.int .u8 0),.d (.int .u8 0),.d (.int .u8 0),.d (.int .u8 0),.d (.int .u8 0),.d (.int .u8 0),.d (.int .u8 0),.d (.int .u8 0),.d (.int .u8 0),.d (.int .u8 0),.d (.int .u8 0),.d (.int .u8 0),.d (.int .u8 0),.d (.int .u8 0),.d (.int .u8 0),.d (.int .u8 0),.d (.int .u8 0),.d (.int .u8 0),.d (.int .u8 0),.d (.int .u8 0),.d (.int .u8 0),.d (.int .u8 0),.d (.int .u8 0),.d (.int .u8 0),.d (.int .u8 0),.d (.int .u8 0),.d (.int .u8 0),.d (.int .u8 0),.d (.int .u8 0),.d (.int .u8 0),.d (.int .u8 0),.d (.int .u8 0),.d (.int .u8 0),.d (.int .u8 0),.d (.int .u8 0),.d (.int .u8 0),.d (.int .u8 0),.d (.int .u8 0),.d (.int .u8 0),.d (.int .u8 0),.d (.int .u8 0),.d (.int .u8 0),.d (.int .u8 0),.d (.int .u8 0),.d (.int .u8 0),.d (.int .u8 0),.d (.int .u8 0),.d (.int .u8 0),.d (.int .u8 0),.d (.int .u8 0),.d (.int .u8 0),.d (.int .u8 0),.d (.int .u8 0),.d (.int .u8 0),.d (.int .u8 0),.d (.int .u8 0),.d (.int .u8 0),.d (.int .u8 0),.d (.int .u8 0),.d (.int .u8 0),.d (.int .u8 0),.d (.int .u8 0),.d (.int .u8 0),.d (.int .u8 0),.d (.int .u8 0),.d (.int .u8 0),.d (.int .u8 0),.d (.int .u8 0),.d (.int .u8 0),.d (.int .u8 0),.d (.int .u8 0),.d (.int .u8 0),.d (.int .u8 0),.d (.int .u8 0),.d (.int .u8 0),.d (.int .u8 0),.d (.int .u8 0),.d (.int .u8 0),.d (.int .u8 0),.d (.int .u8 0),.d (.int .u8 0),.d (.int .u8 0),.d (.int .u8 0),.d (.int .u8 0),.d (.int .u8 0),.d (.int .u8 0),.d (.int .u8 0),.d (.int .u8 0),.d (.int .u8 0),.d (.int .u8 0),.d (.int .u8 0),.d (.int .u8 0),.d (.int .u8 0),.d (.int .u8 0),.d (.int .u8 0),.d (.int .u8 0),.d (.int .u8 0),.d (.int .u8 0),.d (.int .u8 0),.d (.int .u8 0),.d (.int .u8 0),.d (.int .u8 0),.d (.int .u8 0),.d (.int .u8 0),.d (.int .u8 0),.d (.int .u8 0),.d (.int .u8 0),.d (.int .u8 0),.d (.int .u8 0),.d (.int .u8 0),.d (.int .u8 0),.d (.int .u8 0),.d (.int .u8 0),.d (.int .u8 0),.d (.int .u8 0),.d (.int .u8 0),.d (.int .u8 0),.d (.int .u8 0),.d (.int .u8 0),.d (.int .u8 0),.d (.int .u8 0),.d (.int .u8 0),.d (.int .u8 0),.d (.int .u8 0),.d (.int .u8 0),.d (.int .u8 0),.d (.int .u8 0),.d (.int .u8 0),.d (.int .u8 0),.d (.int .u8 0),.d (.int .u8 0),.d (.int .u8 0),.d (.int .u8 0),.d (.int .u8 0),.d (.int .u8 0),.d (.int .u8 0),.d (.int .u8 0),.d (.int .u8 0),.d (.int .u8 0),.d (.int .u8 0),.d (.int .u8 0),.d (.int .u8 0),.d (.int .u8 0),.d (.int .u8 0),.d (.int .u8 0),.d (.int .u8 0),.d (.int .u8 0),.d (.int .u8 0),.d (.int .u8 0),.d (.int .u8 0),.d (.int .u8 0),.d (.int .u8 0)],.i64,[],5,256,[]⟩)
        (.leaf 288 ⟨5,2,2,.agg [.d (.int .u8 0),.d (.int .u8 0)],.i64,[(0,5),(1,5)],0,0,[1,1]⟩))
       (.node 290
        (.leaf 289 ⟨5,2,2,.agg [.d (.int .u8 0),.d (.int .u8 0)],.i64,[(0,5),(1,5)],0,0,[1,1]⟩)
        (.node 291
         (.leaf 290 ⟨6,32,32,.agg [.d (.int .u8 0),.d (.int .u8 0),.d (.int .u8 0),.d (.int .u8 0),.d (.int .u8 0),.d (.int .u8 0),.d (.int .u8 0),.d (.int .u8 0),.d (.int .u8 0),.d (.int .u8 0),.d (.int .u8 0),.d (.int .u8 0),.d (.int .u8 0),.d (.int .u8 0),.d (.int .u8 0),.d (.int .u8 0),.d (.int .u8 0),.d (.int .u8 0),.d (.int .u8 0),.d (.int .u8 0),.d (.int .u8 0),.d (.int .u8 0),.d (.int .u8 0),.d (.int .u8 0),.d (.int .u8 0),.d (.int .u8 0),.d (.int .u8 0),.d (.int .u8 0),.d (.int .u8 0),.d (.int .u8 0),.d (.int .u8 0),.d (.int .u8 0)],.i64,[],289,16,[]⟩)
         (.leaf 291 ⟨5,4,40,.agg [.raw (.pointer none),.raw (.pointer none),.raw (.pointer none),.d (.str [])],.i64,[(0,17),(1,17),(2,17),(3,9)],0,0,[]⟩)))))
     (.node 299
      (.node 297
       (.node 296
        (.leaf 292 ⟨5,4,40,.agg [.raw (.pointer none),.raw (.pointer none),.raw (.pointer none),.d (.str [])],.i64,[(0,17),(1,17),(2,17),(3,9)],0,0,[]⟩)
        (.leaf 296 ⟨1,1,1,.d (.int .u8 0),.u8,[],0,0,[]⟩))
       (.node 298
        (.leaf 297 ⟨1,1,1,.d (.int .u8 0),.u8,[],0,0,[]⟩)
        (.leaf 298 ⟨8,1,8,.raw .nilFunc,.i64,[],0,0,[]⟩)))
      (.node 301
       (.node 300
        (.leaf 299 ⟨1,1,4,.d (.int .i32 0),.i32,[],0,0,[]⟩)
        (.leaf 300 ⟨1,1,4,.d (.int .i32 0),.i32,[],0,0,[]⟩))
       (.node 302
        (.leaf 301 ⟨5,11,48,.agg [.d (.int .u64 0),.d (.int .u64 0),.d (.int .u32 0),.d (.int .u8 0),.d (.int .u8 0),.d (.int .u8 0),.d (.int .u8 0),.raw .nilFunc,.raw (.pointer none),.d (.int .i32 0),.d (.int .i32 0)],.i64,[(0,12),(1,12),(2,171),(3,296),(4,5),(5,5),(6,297),(7,298),(8,233),(9,299),(10,300)],0,0,[]⟩)
        (.node 303
         (.leaf 302 ⟨5,11,48,.agg [.d (.int .u64 0),.d (.int .u64 0),.d (.int .u32 0),.d (.int .u8 0),.d (.int .u8 0),.d (.int .u8 0),.d (.int .u8 0),.raw .nilFunc,.raw (.pointer none),.d (.int .i32 0),.d (.int .i32 0)],.i64,[(0,12),(1,12),(2,171),(3,296),(4,5),(5,5),(6,297),(7,298),(8,233),(9,299),(10,300)],0,0,[]⟩)
         (.leaf 303 ⟨8,1,8,.raw .nilFunc,.i64,[],0,0,[]⟩)))))))))
def E : TE:=tab.get
end Go.Proofs.YtkmhnaojgkcjoaaGreatDoor
namespace Go.Proofs.YtkmhnaojgkcjoaaGreatDoor
open Go Dw
theorem eok : EOK Tryz.prog E:=eok_tree (by kernel_rfl) (by kernel_rfl)
end Go.Proofs.YtkmhnaojgkcjoaaGreatDoor
namespace Dw
open Go Go.RowKit
theorem onBool_iff {b : Bool} {A B : Prop} : onBool b A B ↔ (b = true ∧ A) ∨ (b = false ∧ B):=by cases b<;>simp [onBool]
theorem onOk_iff {b : Bool} {K : Prop} : onOk b K ↔ b = true ∧ K:=by cases b<;>simp [onOk]
def frcN {α : Type} (n : Nat) (K : Nat → α) : α:=match n with
 | 0=>K 0
 | m + 1=>K (m + 1)
theorem frcN_eq {α : Type} (n : Nat) (K : Nat → α) : frcN n K = K n:=by cases n<;>rfl
def frcI {α : Type} (n : Int) (K : Int → α) : α:=match n with
 | .ofNat m=>frcN m (fun m=>K (.ofNat m))
 | .negSucc m=>frcN m (fun m=>K (.negSucc m))
theorem frcI_eq {α : Type} (n : Int) (K : Int → α) : frcI n K = K n:=by cases n<;>simp [frcI,frcN_eq]
def evInt (k : IntKind) (n : Int) : Option AV:=frcI n (fun n=>some (.d (.int k n)))
theorem evInt_eq (k : IntKind) (n : Int) : evInt k n = some (.d (.int k n)):=by simp [evInt,frcI_eq]
def evBool (b : Bool) : Option AV:=match b with
 | true=>some (.d (.bool true))
 | false=>some (.d (.bool false))
theorem evBool_eq (b : Bool) : evBool b = some (.d (.bool b)):=by cases b<;>rfl
def evLdA (t : TI) (x : AV) (off : Nat) : Option AV:=
 if t.agg then
  if (off == 0) && (x.isAgg && (x.cells.length == t.size)) then some x
  else if x.isAgg && decide (off + t.size ≤ x.cells.length) then some (.agg ((x.cells.drop off).take t.size)) else none
 else if t.kind != 0 then x.cells[off]? else none
theorem evLdA_ok {t : TI} {x : AV} {off : Nat} {v : AV} {K : AV → Prop} (h : evLdA t x off = some v) (k : K v) : ldA t x off K:=by
 unfold evLdA at h
 unfold ldA
 simp only [onBool_iff,onOk_iff,nthK_iff,dropK_eq,takeK_eq]
 repeat' split at h
 all_goals simp_all
def evLdD (t : TI) (x : D) (off : Nat) : Option AV:=
 if t.agg then
  if (off == 0) && (x.isAgg && (x.cells.length == t.size)) then some (.d x)
  else if x.isAgg && decide (off + t.size ≤ x.cells.length) then some (.d (.agg ((x.cells.drop off).take t.size))) else none
 else if t.kind != 0 then (match x.cells[off]? with | some y=>some (.d y) | none=>none) else none
theorem evLdD_ok {t : TI} {x : D} {off : Nat} {v : AV} {K : AV → Prop} (h : evLdD t x off = some v) (k : K v) : ldD t x off K:=by
 unfold evLdD at h
 unfold ldD
 simp only [onBool_iff,onOk_iff,nthK_iff,dropK_eq,takeK_eq]
 repeat' split at h
 all_goals simp_all
def evLive (h : Heap) (id : Nat) : Option AO:=match h[id]? with
 | some o=>if Nat.blt o.st 2 then some o else none
 | none=>none
def evMut (h : Heap) (id : Nat) : Option AO:=match h[id]? with
 | some o=>if Nat.beq o.st 0 then some o else none
 | none=>none
theorem evLive_ok {h : Heap} {id : Nat} {o : AO} {K : AO → Prop} (e : evLive h id = some o) (k : K o) : liveK h id K:=by
 unfold evLive at e
 unfold liveK
 simp only [nthK_iff,onOk_iff]
 repeat' split at e
 all_goals simp_all
theorem evMut_ok {h : Heap} {id : Nat} {o : AO} {K : AO → Prop} (e : evMut h id = some o) (k : K o) : mutK h id K:=by
 unfold evMut at e
 unfold mutK
 simp only [nthK_iff,onOk_iff]
 repeat' split at e
 all_goals simp_all
def evLoad (t : TI) (a : AV) (h : Heap) : Option AV:=
 match a with
 | .ptr id e off=>match evLive h id with
  | some o=>match o.elems[e]? with
   | some x=>evLdA t x off
   | none=>none
  | none=>none
 | .d (.fp x off)=>evLdD t x off
 | _=>none
theorem evLoad_ok {t : TI} {a : AV} {h : Heap} {v : AV} {K : AV → Prop} (e : evLoad t a h = some v) (k : K v) : loadD t a h K:=by
 unfold evLoad at e
 unfold loadD
 split at e
 ·split at e
  ·rename_i o ho
   split at e
   ·rename_i x hx
    exact evLive_ok ho (nthK_of hx (evLdA_ok e k))
   ·cases e
  ·cases e
 ·exact evLdD_ok e k
 ·cases e
def evStore (t : TI) (a v : AV) (h : Heap) : Option Heap:=
 match a with
 | .ptr id e off=>match evMut h id with
  | some o=>match o.elems[e]? with
   | some x=>
    if fits t v && t.kind != 0 then
     if (off == 0) && ((t.size == o.k) && ((x.isAgg == t.agg) || x.isJunk)) then some (h.set id { o with elems:=o.elems.set e v })
     else if x.isAgg && decide (off + t.size ≤ x.cells.length) then some (h.set id { o with elems:=o.elems.set e (.agg (puts x.cells off v.cells)) }) else none
    else none
   | none=>none
  | none=>none
 | _=>none
theorem evStore_ok {t : TI} {a v : AV} {h h' : Heap} {K : Heap → Prop} (e : evStore t a v h = some h') (k : K h') : storeD t a v h K:=by
 unfold evStore at e
 unfold storeD
 split at e
 ·split at e
  ·rename_i o ho
   split at e
   ·rename_i x hx
    refine evMut_ok ho (nthK_of hx ?_)
    simp only [onBool_iff,onOk_iff,setK_eq,putK_eq]
    repeat' split at e
    all_goals simp_all
   ·cases e
  ·cases e
 ·cases e
def evIntOp (op : BinOp) (k : IntKind) (a b : Int) : Option AV:=
 match op with
 | .add=>evInt k (k.wrap (a + b))
 | .sub=>evInt k (k.wrap (a - b))
 | .mul=>evInt k (k.wrap (a * b))
 | .quo=>if decide (b = 0) then none else evInt k (k.wrap (a.tdiv b))
 | .rem=>if decide (b = 0) then none else evInt k (a.tmod b)
 | .and=>evInt k (bitsOf .and k a b)
 | .or=>evInt k (bitsOf .or k a b)
 | .xor=>evInt k (bitsOf .xor k a b)
 | .andNot=>evInt k (bitsOf .andNot k a b)
 | .eql=>evBool (decide (a = b))
 | .neq=>evBool (!decide (a = b))
 | .lss=>evBool (decide (a < b))
 | .leq=>evBool (decide (a ≤ b))
 | .gtr=>evBool (decide (b < a))
 | .geq=>evBool (decide (b ≤ a))
 | _=>none
theorem evIntOp_ok {op : BinOp} {k : IntKind} {a b : Int} {v : AV} {K : AV → Prop} (e : evIntOp op k a b = some v) (hk : K v) : intD op k a b K:=by
  cases op<;>simp only [evIntOp,evInt_eq,evBool_eq,Option.some.injEq,reduceCtorEq] at e<;>first
    | (subst e;exact hk)
    | (split at e
       · cases e
       · rename_i h;cases e;exact onOk_of (by simpa using h) hk)
def evStrOp (op : BinOp) (a b : List UInt8) : Option AV:=
 match op with
 | .add=>if decide (a.length + b.length < 9223372036854775808) then some (.d (.str (a ++ b))) else none
 | .eql=>evBool (decide (a = b))
 | .neq=>evBool (!decide (a = b))
 | .lss=>evBool (Op.bytesLess a b)
 | .leq=>evBool (Op.bytesLess a b || decide (a = b))
 | .gtr=>evBool (!(Op.bytesLess a b || decide (a = b)))
 | .geq=>evBool (!Op.bytesLess a b)
 | _=>none
theorem evStrOp_ok {op : BinOp} {a b : List UInt8} {v : AV} {K : AV → Prop} (e : evStrOp op a b = some v) (hk : K v) : strD op a b K:=by
  cases op<;>simp only [evStrOp,evBool_eq,Option.some.injEq,reduceCtorEq] at e<;>first
    | (subst e;exact hk)
    | (split at e
       · rename_i h;cases e;exact ⟨by simpa using h,hk⟩
       · cases e)
def evEq (op : BinOp) (b : Bool) : Option AV:=
 match op with
 | .eql=>evBool b
 | .neq=>evBool (!b)
 | _=>none
theorem evEq_ok {op : BinOp} {b : Bool} {v : AV} {K : AV → Prop} (e : evEq op b = some v) (hk : K v) : eqD op b K:=by
 cases op<;>simp only [evEq,evBool_eq,Option.some.injEq,reduceCtorEq] at e<;>(subst e;exact hk)
def evAgg (E : TE) (op : BinOp) (t : Nat) (x y : AV) : Option AV:=
 if x.isAgg && y.isAgg && ((E t).kind == 5) then
  match dcells x.cells with
  | some l=>match dcells y.cells with
   | some r=>if !(E t).leaf.isEmpty && alike (E t).leaf l r then evEq op (cellsEq l r) else none
   | none=>none
  | none=>none
 else none
def evBin (E : TE) (op : BinOp) (t : Nat) (x y : AV) : Option AV:=
 match x,y with
 | .d (.int k a),.d (.int k' b)=>
  match op with
  | .shl=>if decide (0 ≤ b) then evInt k (k.wrap (a * 2 ^ (min b.toNat k.bits))) else none
  | .shr=>if decide (0 ≤ b) then evInt k (a.fdiv (2 ^ (min b.toNat k.bits))) else none
  | op=>if k == k' then evIntOp op k a b else none
 | .d (.str a),.d (.str b)=>evStrOp op a b
 | .d (.bool a),.d (.bool b)=>if (E t).kind == 2 then evEq op (a == b) else none
 | x,y=>evAgg E op t x y
theorem evBin_ok {E : TE} {op : BinOp} {t : Nat} {x y v : AV} {K : AV → Prop} (e : evBin E op t x y = some v) (hk : K v) : binD E op t x y K:=by
 unfold evBin at e
 split at e
 ·rename_i k a k' b
  by_cases h1 : op = .shl
  ·subst h1
   simp only [evInt_eq] at e
   split at e
   ·rename_i h;cases e;exact onOk_of h hk
   ·cases e
  ·by_cases h2 : op = .shr
   ·subst h2
    simp only [evInt_eq] at e
    split at e
    ·rename_i h;cases e;exact onOk_of h hk
    ·cases e
   ·have e' : (if k == k' then evIntOp op k a b else none) = some v:=by
     cases op<;>first | exact e | exact (h1 rfl).elim | exact (h2 rfl).elim
    split at e'
    ·rename_i h
     have:=evIntOp_ok e' hk
     cases op<;>first | exact onOk_of h this | exact (h1 rfl).elim | exact (h2 rfl).elim
    ·cases e'
 ·exact evStrOp_ok e hk
 ·split at e
  ·rename_i h;exact onOk_of h (evEq_ok e hk)
  ·cases e
 ·rename_i h1 h2 h3
  unfold binD
  split
  ·exact (h1 _ _ _ _ rfl rfl).elim
  ·exact (h2 _ _ rfl rfl).elim
  ·exact (h3 _ _ rfl rfl).elim
  ·unfold evAgg at e
   split at e
   ·rename_i hc
    refine onOk_of hc ?_
    split at e
    ·rename_i l hl
     split at e
     ·rename_i r hr
      split at e
      ·rename_i h;simp only [hl,hr];exact onOk_of h (evEq_ok e hk)
      ·cases e
     ·cases e
    ·cases e
   ·cases e
def evNilC (E : TE) (op : BinOp) (t : Nat) (x : AV) : Option AV:=
 match nilAns x with
 | some b=>if (E t).kind == 4 then evEq op b else none
 | none=>none
theorem evNilC_ok {E : TE} {op : BinOp} {t : Nat} {x v : AV} {K : AV → Prop} (e : evNilC E op t x = some v) (hk : K v) : nilD E op t x K:=by
 unfold evNilC at e
 unfold nilD
 split at e
 ·rename_i b hb
  simp only [hb]
  split at e
  ·rename_i h;exact onOk_of h (evEq_ok e hk)
  ·cases e
 ·cases e
def evUn (op : UnOp) (x : AV) : Option AV:=
 match op,x with
 | .not,.d (.bool b)=>evBool (!b)
 | .neg,.d (.int k n)=>evInt k (k.wrap (0 - n))
 | _,_=>none
theorem evUn_ok {op : UnOp} {x v : AV} {K : AV → Prop} (e : evUn op x = some v) (hk : K v) : unD op x K:=by
 unfold evUn at e
 split at e
 ·rw [evBool_eq] at e;cases e;exact hk
 ·rw [evInt_eq] at e;cases e;exact hk
 ·cases e
def evFieldAddr (E : TE) (s : Nat) (x : AV) (f : Nat) : Option AV:=
 if (E s).kind == 5 then match (E s).fields[f]? with
  | some p=>if (E p.2).kind != 0 then (match x with
   | .ptr id e o=>some (.ptr id e (o + p.1))
   | .d (.fp y o)=>some (.d (.fp y (o + p.1)))
   | _=>none) else none
  | none=>none
 else none
theorem evFieldAddr_ok {E : TE} {s f : Nat} {x v : AV} {K : AV → Prop} (e : evFieldAddr E s x f = some v) (hk : K v) : fieldAddrD E s x f K:=by
 unfold evFieldAddr at e
 split at e
 ·rename_i h1
  split at e
  ·rename_i p hp
   split at e
   ·rename_i h2
    refine onOk_of h1 (nthK_of hp (onOk_of h2 ?_))
    split at e
    ·cases e;exact hk
    ·cases e;exact hk
    ·cases e
   ·cases e
  ·cases e
 ·cases e
def evField (E : TE) (s : Nat) (x : AV) (f : Nat) : Option AV:=
 if (E s).kind == 5 then match (E s).fields[f]? with
  | some p=>if x.isAgg then evLdA (E p.2) x p.1 else none
  | none=>none
 else none
theorem evField_ok {E : TE} {s f : Nat} {x v : AV} {K : AV → Prop} (e : evField E s x f = some v) (hk : K v) : fieldD E s x f K:=by
 unfold evField at e
 split at e
 ·rename_i h1
  split at e
  ·rename_i p hp
   split at e
   ·rename_i h2
    exact onOk_of h1 (nthK_of hp (onOk_of h2 (evLdA_ok e hk)))
   ·cases e
  ·cases e
 ·cases e
def evIndexAddr (E : TE) (t : Nat) (x i : AV) : Option AV:=
 match i with
 | .d (.int _ n)=>
  match x with
  | .sl id s len k _=>if ((E t).kind == 4 && (k == (E (E t).elem).size && (E (E t).elem).kind != 0)) && decide (0 ≤ n ∧ n < len) then some (.ptr id (s + n.toNat) 0) else none
  | .d (.fs l)=>if ((E t).kind == 4) && decide (0 ≤ n) then (match l[n.toNat]? with
   | some y=>if y.cells.length == (E (E t).elem).size && (E (E t).elem).kind != 0 then some (.d (.fp y 0)) else none
   | none=>none) else none
  | .ptr id e o=>if ((E t).kind == 6 && (E (E t).elem).kind != 0) && decide (0 ≤ n ∧ n < (E t).len) then some (.ptr id e (o + n.toNat * (E (E t).elem).size)) else none
  | .d (.fp y o)=>if ((E t).kind == 6 && (E (E t).elem).kind != 0) && decide (0 ≤ n ∧ n < (E t).len) then some (.d (.fp y (o + n.toNat * (E (E t).elem).size))) else none
  | _=>none
 | _=>none
theorem evIndexAddr_ok {E : TE} {t : Nat} {x i v : AV} {K : AV → Prop} (e : evIndexAddr E t x i = some v) (hk : K v) : indexAddrD E t x i K:=by
 unfold evIndexAddr at e
 split at e
 ·unfold indexAddrD
  split at e<;>(try (cases e;done))<;>simp only [onOk_iff,nthK_iff]
  all_goals repeat' split at e
  all_goals simp_all
 ·cases e
def evIndex (E : TE) (t : Nat) (x i : AV) : Option AV:=
 match i with
 | .d (.int _ n)=>
  match x with
  | .d (.str s)=>if ((E t).kind == 3) && decide (0 ≤ n) then (match s[n.toNat]? with
   | some b=>evInt .u8 b.toNat
   | none=>none) else none
  | x=>if ((E t).kind == 6 && (x.isAgg && (E (E t).elem).kind != 0)) && decide (0 ≤ n ∧ n < (E t).len) then evLdA (E (E t).elem) x (n.toNat * (E (E t).elem).size) else none
 | _=>none
theorem evIndex_ok {E : TE} {t : Nat} {x i v : AV} {K : AV → Prop} (e : evIndex E t x i = some v) (hk : K v) : indexD E t x i K:=by
 unfold evIndex at e
 split at e
 ·split at e
  ·simp only [indexD,onOk_iff,nthK_iff]
   split at e
   ·split at e
    ·rw [evInt_eq] at e
     cases e
     simp_all
    ·cases e
   ·cases e
  ·rename_i hx
   split at e
   ·rename_i h
    simp only [Bool.and_eq_true,decide_eq_true_eq] at h
    simp only [indexD]
    exact onOk_of (by simp only [Bool.and_eq_true];exact h.1) ⟨h.2,evLdA_ok e hk⟩
   ·cases e
 ·cases e
def evBound (dflt : Nat) : Option AV → Option Int
 | none=>some dflt
 | some (.d (.int _ n))=>some n
 | _=>none
theorem evBound_ok {d : Nat} {o : Option AV} {n : Int} {K : Int → Prop} (e : evBound d o = some n) (hk : K n) : boundK d o K:=by
 unfold evBound at e
 split at e<;>first | (cases e;exact hk) | cases e
def evRoom (h : Heap) (id s len : Nat) (cap : Option Nat) (u : Int) : Bool:=
 if decide (u ≤ len) then true else match cap with
  | some c=>decide (u ≤ c)
  | none=>(match h[id]? with
   | some o=>decide (o.st < 2 ∧ s + u.toNat ≤ o.elems.length)
   | none=>false)
theorem evRoom_ok {h : Heap} {id s len : Nat} {cap : Option Nat} {u : Int} (e : evRoom h id s len cap u = true) : inRoom h id s len cap u:=by
 unfold evRoom at e
 split at e
 ·rename_i h1;exact .inl (of_decide_eq_true h1)
 ·right
  split at e
  ·exact of_decide_eq_true e
  ·split at e
   ·rename_i o ho
    have:=of_decide_eq_true e
    exact ⟨o,ho,this.1,this.2⟩
   ·cases e
def evSlice (E : TE) (t : Nat) (x : AV) (lo hi mx : Option AV) (h : Heap) : Option AV:=
 match x with
 | .d (.str s)=>if (E t).kind == 3 && mx.isNone then (match evBound 0 lo with
   | some l=>match evBound s.length hi with
    | some u=>if decide (0 ≤ l ∧ l ≤ u ∧ u ≤ s.length) then some (.d (.str ((s.take u.toNat).drop l.toNat))) else none
    | none=>none
   | none=>none) else none
 | .nilS=>if (E t).kind == 4 && ((E (E t).elem).kind != 0 && (mx.isNone || hi.isSome)) then (match evBound 0 lo with
   | some l=>match evBound 0 hi with
    | some u=>match evBound 0 mx with
     | some m=>if decide (l = 0 ∧ u = 0 ∧ m = 0) then some .nilS else none
     | none=>none
    | none=>none
   | none=>none) else none
 | .d (.fs x)=>if (E t).kind == 4 && (E (E t).elem).kind != 0 then (match evBound 0 lo with
   | some l=>match evBound x.length hi with
    | some u=>match mx with
     | none=>if decide (0 ≤ l ∧ l ≤ u ∧ u ≤ x.length) && x.all (fun y=>y.cells.length == (E (E t).elem).size) then some (.d (.fs ((x.take u.toNat).drop l.toNat))) else none
     | some _=>none
    | none=>none
   | none=>none) else none
 | .sl id s len k cap=>if (E t).kind == 4 && (k == (E (E t).elem).size && (E (E t).elem).kind != 0) then (match evBound 0 lo with
   | some l=>match evBound len hi with
    | some u=>match mx with
     | none=>if decide (0 ≤ l ∧ l ≤ u) && evRoom h id s len cap u then some (.sl id (s + l.toNat) (u.toNat - l.toNat) k (match cap with | some c=>some (c - l.toNat) | none=>none)) else none
     | some _=>if hi.isSome then (match evBound 0 mx with
      | some m=>if decide (0 ≤ l ∧ l ≤ u ∧ u ≤ m ∧ m ≤ len) then (if decide (l = m) then some .nilS else some (.sl id (s + l.toNat) (u.toNat - l.toNat) k (some (m.toNat - l.toNat)))) else none
      | none=>none) else none
    | none=>none
   | none=>none) else none
 | _=>none
theorem evSlice_ok {E : TE} {t : Nat} {x : AV} {lo hi mx : Option AV} {h0 : Heap} {v : AV} {K : AV → Prop} (e : evSlice E t x lo hi mx h0 = some v) (hk : K v) : sliceD E t x lo hi mx h0 K:=by
 unfold evSlice at e
 unfold sliceD
 split at e
 ·split at e
  ·rename_i h0
   split at e
   ·rename_i l hl
    split at e
    ·rename_i u hu
     split at e
     ·rename_i h;cases e
      exact onOk_of h0 (evBound_ok hl (evBound_ok hu ⟨of_decide_eq_true h,hk⟩))
     ·cases e
    ·cases e
   ·cases e
  ·cases e
 ·split at e
  ·rename_i h0
   split at e
   ·rename_i l hl
    split at e
    ·rename_i u hu
     split at e
     ·rename_i m hm
      split at e
      ·rename_i h;cases e
       exact onOk_of h0 (evBound_ok hl (evBound_ok hu (evBound_ok hm ⟨of_decide_eq_true h,hk⟩)))
      ·cases e
     ·cases e
    ·cases e
   ·cases e
  ·cases e
 ·split at e
  ·rename_i h0
   split at e
   ·rename_i l hl
    split at e
    ·rename_i u hu
     split at e
     ·split at e
      ·rename_i h;cases e
       simp only [Bool.and_eq_true,decide_eq_true_eq,List.all_eq_true,beq_iff_eq] at h
       exact onOk_of h0 (evBound_ok hl (evBound_ok hu ⟨⟨h.1.1,h.1.2.1,h.1.2.2,h.2⟩,hk⟩))
      ·cases e
     ·cases e
    ·cases e
   ·cases e
  ·cases e
 ·split at e
  ·rename_i h0
   split at e
   ·rename_i l hl
    split at e
    ·rename_i u hu
     split at e
     ·split at e
      ·rename_i h;cases e
       simp only [Bool.and_eq_true,decide_eq_true_eq] at h
       exact onOk_of h0 (evBound_ok hl (evBound_ok hu ⟨⟨h.1.1,h.1.2,evRoom_ok h.2⟩,hk⟩))
      ·cases e
     ·split at e
      ·rename_i h1
       split at e
       ·rename_i m hm
        split at e
        ·rename_i h
         refine onOk_of h0 (evBound_ok hl (evBound_ok hu (onOk_of h1 (evBound_ok hm ⟨of_decide_eq_true h,?_⟩))))
         split at e
         ·rename_i h2;cases e;exact onBool_t h2 hk
         ·rename_i h2;cases e;exact onBool_f (by simpa using h2) hk
        ·cases e
       ·cases e
      ·cases e
    ·cases e
   ·cases e
  ·cases e
 ·cases e
def evSrc (k : Nat) (h : Heap) (x : AV) : Option (List AV):=
 match x with
 | .nilS=>some []
 | .d (.fs l)=>if l.all (fun y=>y.cells.length == k && y.memOk) then some (l.map .d) else none
 | .d (.str s)=>if k == 1 then some (s.map byteV) else none
 | .sl id s len k' _=>match evLive h id with
  | some o=>if k' == k && decide (s + len ≤ o.elems.length) && (((o.elems.drop s).take len).all AV.known) then some ((o.elems.drop s).take len) else none
  | none=>none
 | _=>none
theorem evSrc_ok {k : Nat} {h : Heap} {x : AV} {l : List AV} {K : List AV → Prop} (e : evSrc k h x = some l) (hk : K l) : srcK k h x K:=by
 unfold evSrc at e
 unfold srcK
 split at e
 ·cases e;exact hk
 ·split at e
  ·rename_i h1;cases e
   simp only [List.all_eq_true,Bool.and_eq_true,beq_iff_eq] at h1
   exact ⟨h1,hk⟩
  ·cases e
 ·split at e
  ·rename_i h1;cases e;exact onOk_of h1 hk
  ·cases e
 ·split at e
  ·rename_i o ho
   split at e
   ·rename_i h1;cases e
    simp only [Bool.and_eq_true,decide_eq_true_eq] at h1
    refine evLive_ok ho (onOk_of h1.1.1 ⟨h1.1.2,?_⟩)
    rw [dropK_eq]
    refine onBool_split (fun hl=>onOk_of ?_ ?_) (fun hl=>onOk_of h1.2 (by rw [takeK_eq];exact hk))
    ·have:=h1.2
     rwa [List.take_of_length_le (Nat.le_of_eq (beq_iff_eq.1 hl))] at this
    ·rwa [List.take_of_length_le (Nat.le_of_eq (beq_iff_eq.1 hl))] at hk
   ·cases e
  ·cases e
 ·cases e
def evApp (t : TI) (base : AV) (new : List AV) (h : Heap) : Option (AV × Heap):=
 if t.kind != 0 && Nat.blt 0 t.bytes then (match base with
 | .nilS=>if decide (new.length * t.bytes ≤ 140737488355328) then some (.sl h.length 0 new.length t.size none,h ++ [{ elems:=new,k:=t.size,st:=0 }]) else none
 | .sl id s len k none=>match evMut h id with
  | some o=>if k == t.size then (
   if decide (s + len + new.length ≤ o.elems.length) then some (.sl id s (len + new.length) k none,h.set id { o with elems:=over o.elems (s + len) new })
   else if decide (s + len = o.elems.length ∧ (len + new.length) * t.bytes ≤ 140737488355328) then some (.sl h.length 0 (len + new.length) k none,h.set id { o with st:=2 } ++ [{ o with elems:=o.elems.drop s ++ new }]) else none) else none
  | none=>none
 | .sl id s len k (some c)=>
   if decide (len + new.length ≤ c) then (match evMut h id with
    | some o=>if k == t.size && decide (s + c ≤ o.elems.length) then some (.sl id s (len + new.length) k (some c),h.set id { o with elems:=over o.elems (s + len) new }) else none
    | none=>none)
   else (match evLive h id with
    | some o=>if k == t.size && decide (s + len ≤ o.elems.length ∧ (len + new.length) * t.bytes ≤ 140737488355328) then some (.sl h.length 0 (len + new.length) k none,h ++ [{ o with elems:=(o.elems.drop s).take len ++ new,st:=0 }]) else none
    | none=>none)
 | _=>none) else none
theorem evApp_ok {t : TI} {base : AV} {new : List AV} {h h' : Heap} {v : AV} {K : KV} (e : evApp t base new h = some (v,h')) (hk : K v h') : appD t base new h K:=by
 unfold evApp at e
 unfold appD
 split at e
 ·rename_i h0
  refine onOk_of h0 ?_
  split at e
  ·split at e
   ·rename_i h1;cases e
    refine ⟨of_decide_eq_true h1,?_⟩
    rw [newD_eq];exact hk
   ·cases e
  ·split at e
   ·rename_i o ho
    split at e
    ·rename_i h1
     refine evMut_ok ho (onOk_of h1 ?_)
     split at e
     ·rename_i h2;cases e
      refine onBool_t h2 ?_
      rw [setK_eq];exact hk
     ·rename_i h2
      refine onBool_f (by simpa using h2) ?_
      split at e
      ·rename_i h3;cases e
       refine ⟨of_decide_eq_true h3,?_⟩
       rw [setK_eq,dropK_eq,newD_eq]
       simpa using hk
      ·cases e
    ·cases e
   ·cases e
  ·split at e
   ·rename_i h1
    refine onBool_t h1 ?_
    split at e
    ·rename_i o ho
     split at e
     ·rename_i h2;cases e
      simp only [Bool.and_eq_true,decide_eq_true_eq] at h2
      refine evMut_ok ho (onOk_of h2.1 ⟨h2.2,?_⟩)
      rw [setK_eq];exact hk
     ·cases e
    ·cases e
   ·rename_i h1
    refine onBool_f (by simpa using h1) ?_
    split at e
    ·rename_i o ho
     split at e
     ·rename_i h2;cases e
      simp only [Bool.and_eq_true,decide_eq_true_eq] at h2
      refine evLive_ok ho (onOk_of h2.1 ⟨h2.2,?_⟩)
      rw [newD_eq];exact hk
     ·cases e
    ·cases e
  ·cases e
 ·cases e
def evMax (f : Int → Int → Int) : AV → List AV → Option AV
 | x,[]=>some x
 | .d (.int k a),.d (.int _ b) :: l=>evMax f (.d (.int k (f a b))) l
 | _,_=>none
theorem evMax_ok {f : Int → Int → Int} {v : AV} {K : AV → Prop} (hk : K v) : ∀ (l : List AV) (x : AV),evMax f x l = some v → maxOf f x l K
 | [],x,e=>by simp only [evMax,Option.some.injEq] at e;subst e;simpa [maxOf] using hk
 | y :: l,x,e=>by
  unfold evMax at e
  split at e
  ·rename_i h;cases h
  ·rename_i h;cases h;simp only [maxOf];exact evMax_ok hk l _ e
  ·cases e
def evLen (x : AV) : Option AV:=
 match x with
 | .nilS=>some (.d (.int .i64 0))
 | .sl _ _ len _ _=>evInt .i64 len
 | .d (.fs l)=>evInt .i64 l.length
 | .d (.str s)=>evInt .i64 s.length
 | _=>none
theorem evLen_ok {x v : AV} {K : AV → Prop} (e : evLen x = some v) (hk : K v) : lenD x K:=by
 unfold evLen at e
 simp only [evInt_eq] at e
 split at e<;>first | (cases e;exact hk) | cases e
def evCap (x : AV) : Option AV:=
 match x with
 | .nilS=>some (.d (.int .i64 0))
 | .sl _ _ _ _ (some c)=>evInt .i64 c
 | _=>none
theorem evCap_ok {x v : AV} {K : AV → Prop} (e : evCap x = some v) (hk : K v) : capD x K:=by
 unfold evCap at e
 simp only [evInt_eq] at e
 split at e<;>first | (cases e;exact hk) | cases e
def lenTy (E : TE) (ts : List Nat) (x : AV) : Bool:=match ts with | [t]=>(match x with | .d (.str _)=>(E t).kind == 3 | _=>(E t).kind == 4) | _=>false
def evBuiltin (E : TE) (b : Builtin) (ts : List Nat) (args : List AV) (h : Heap) : Option (AV × Heap):=
 match b,args with
 | .len,[x]=>if lenTy E ts x && !isMp x then (match evLen x with
  | some v=>some (v,h)
  | none=>none) else none
 | .append,[s,x]=>
  match ts with
  | t :: t' :: _=>if (E t).kind == 4 && !((E t').kind == 0) then
    (if (E t').kind == 1 then
     (match x with
      | .d (.int _ n)=>if decide (0 ≤ n ∧ n < 9223372036854775808 ∧ n * (E (E t).elem).bytes ≤ 140737488355328) then evApp (E (E t).elem) s (List.replicate n.toNat (E (E t).elem).zero) h else none
      | _=>none)
    else (match evSrc (E (E t).elem).size h x with
     | some new=>evApp (E (E t).elem) s new h
     | none=>none)) else none
  | _=>none
 | .copy,[.sl id s len k _,x]=>
  match ts with
  | t :: _=>if (E t).kind == 4 && (E (E t).elem).kind != 0 then (match evSrc (E (E t).elem).size h (shortA len x) with
   | some new=>match evMut h id with
    | some o=>if k == (E (E t).elem).size && decide (s + len ≤ o.elems.length) then some (.d (.int .i64 (min new.length len : Nat)),h.set id { o with elems:=over o.elems s (new.take len) }) else none
    | none=>none
   | none=>none) else none
  | _=>none
 | .clear,[.sl id s len k _]=>
  match ts with
  | t :: _=>if (E t).kind == 4 && (E (E t).elem).kind != 0 then (match evMut h id with
    | some o=>if k == (E (E t).elem).size && decide (s + len ≤ o.elems.length) then some (.tup [],h.set id { o with elems:=over o.elems s (List.replicate len (E (E t).elem).zero) }) else none
    | none=>none) else none
  | _=>none
 | .max,x :: l=>if x.isInt then (match evMax goMax x l with
  | some v=>some (v,h)
  | none=>none) else none
 | .min,x :: l=>if x.isInt then (match evMax goMin x l with
  | some v=>some (v,h)
  | none=>none) else none
 | .cap,[x]=>if kindS E ts then (match evCap x with
  | some v=>some (v,h)
  | none=>none) else none
 | _,_=>none
theorem evBuiltin_ok {E : TE} {b : Builtin} {ts : List Nat} {args : List AV} {h h' : Heap} {v : AV} {K : KV} (e : evBuiltin E b ts args h = some (v,h')) (hk : K v h') : builtinD E b ts args h K:=by
 unfold evBuiltin at e
 unfold builtinD
 split at e
 ·split at e
  ·rename_i h1
   split at e
   ·rename_i v' hv;cases e
    simp only [Bool.and_eq_true,Bool.not_eq_true'] at h1
    exact onBool_f h1.2 (onOk_of h1.1 (evLen_ok hv hk))
   ·cases e
  ·cases e
 ·split at e
  ·split at e
   ·rename_i h1
    refine onOk_of h1 ?_
    split at e
    ·rename_i h2
     refine onBool_t h2 ?_
     split at e
     ·split at e
      ·rename_i h3
       exact ⟨of_decide_eq_true h3,evApp_ok e hk⟩
      ·cases e
     ·cases e
    ·rename_i h2
     refine onBool_f (by simpa using h2) ?_
     split at e
     ·rename_i new hn
      exact evSrc_ok hn (evApp_ok e hk)
     ·cases e
   ·cases e
  ·cases e
 ·split at e
  ·split at e
   ·rename_i h1
    refine onOk_of h1 ?_
    split at e
    ·rename_i new hn
     split at e
     ·rename_i o ho
      split at e
      ·rename_i h2;cases e
       simp only [Bool.and_eq_true,decide_eq_true_eq] at h2
       rw [shortK_eq]
       refine evSrc_ok hn (evMut_ok ho (onOk_of h2.1 ⟨h2.2,?_⟩))
       rw [setK_eq];exact hk
      ·cases e
     ·cases e
    ·cases e
   ·cases e
  ·cases e
 ·split at e
  ·split at e
   ·rename_i h1
    refine onOk_of h1 ?_
    split at e
    ·rename_i o ho
     split at e
     ·rename_i h2;cases e
      simp only [Bool.and_eq_true,decide_eq_true_eq] at h2
      refine evMut_ok ho (onOk_of h2.1 ⟨h2.2,?_⟩)
      rw [setK_eq];exact hk
     ·cases e
    ·cases e
   ·cases e
  ·cases e
 ·split at e
  ·rename_i h1
   split at e
   ·rename_i v' hv;cases e
    exact onOk_of h1 (evMax_ok hk _ _ hv)
   ·cases e
  ·cases e
 ·split at e
  ·rename_i h1
   split at e
   ·rename_i v' hv;cases e
    exact onOk_of h1 (evMax_ok hk _ _ hv)
   ·cases e
  ·cases e
 ·split at e
  ·rename_i h1
   split at e
   ·rename_i v' hv;cases e
    exact onOk_of h1 (evCap_ok hv hk)
   ·cases e
  ·cases e
 ·cases e
def bytesD : List D → Option (List UInt8)
 | []=>some []
 | .int .u8 (.ofNat n) :: l=>if decide (n < 256) then (match bytesD l with
  | some r=>some (UInt8.ofNat n :: r)
  | none=>none) else none
 | _=>none
theorem bytesD_ok : ∀ (l : List D) (s : List UInt8),bytesD l = some s → l = s.map (fun b=>D.int .u8 b.toNat)
 | [],s,e=>by simp only [bytesD,Option.some.injEq] at e;subst e;rfl
 | x :: l,s,e=>by
  unfold bytesD at e
  split at e
  ·rename_i h;cases h
  ·rename_i n l' h
   cases h
   split at e
   ·rename_i hn
    split at e
    ·rename_i r hr;cases e
     have:=bytesD_ok _ _ hr
     subst this
     have hn' : n < 256:=of_decide_eq_true hn
     simp only [List.map_cons,List.cons.injEq,D.int.injEq,true_and,and_true]
     have : (UInt8.ofNat n).toNat = n:=by simp [UInt8.toNat_ofNat'];omega
     rw [this];rfl
    ·cases e
   ·cases e
  ·cases e
def bytesA : List AV → Option (List UInt8)
 | []=>some []
 | .d (.int .u8 (.ofNat n)) :: l=>if decide (n < 256) then (match bytesA l with
  | some r=>some (UInt8.ofNat n :: r)
  | none=>none) else none
 | _=>none
theorem bytesA_ok : ∀ (l : List AV) (s : List UInt8),bytesA l = some s → l = s.map byteV
 | [],s,e=>by simp only [bytesA,Option.some.injEq] at e;subst e;rfl
 | x :: l,s,e=>by
  unfold bytesA at e
  split at e
  ·rename_i h;cases h
  ·rename_i n l' h
   cases h
   split at e
   ·rename_i hn
    split at e
    ·rename_i r hr;cases e
     have:=bytesA_ok _ _ hr
     subst this
     have hn' : n < 256:=of_decide_eq_true hn
     simp only [List.map_cons,List.cons.injEq,and_true,byteV,AV.d.injEq,D.int.injEq,true_and]
     have : (UInt8.ofNat n).toNat = n:=by simp [UInt8.toNat_ofNat'];omega
     rw [this];rfl
    ·cases e
   ·cases e
  ·cases e
def evConv (E : TE) (src dst : Nat) (x : AV) (h : Heap) : Option (AV × Heap):=
 match x with
 | .d (.int _ n)=>if (E dst).kind == 1 && !((E src).kind == 0) then frcI ((E dst).ik.wrap n) (fun m=>some (.d (.int (E dst).ik m),h)) else none
 | .d (.str s)=>
  if (E dst).kind == 3 then (if !((E src).kind == 0) then some (x,h) else none)
   else if ((E dst).kind == 4 && !((E src).kind == 0)) && ((E (E dst).elem).kind == 1 && (E (E dst).elem).ik == .u8) then some (.sl h.length 0 s.length 1 none,h ++ [{ elems:=s.map byteV,k:=1,st:=0 }]) else none
 | .nilS=>if ((E dst).kind == 3 && (E src).kind == 4) && ((E (E src).elem).kind == 1 && (E (E src).elem).ik == .u8) then some (.d (.str []),h) else none
 | .d (.fs l)=>if ((E dst).kind == 3 && (E src).kind == 4) && ((E (E src).elem).kind == 1 && (E (E src).elem).ik == .u8) then
   (match bytesD l with
   | some s=>some (.d (.str s),h)
   | none=>none) else none
 | .sl id s len k _=>if ((E dst).kind == 3 && (E src).kind == 4) && ((E (E src).elem).kind == 1 && (E (E src).elem).ik == .u8) then
   (match evLive h id with
   | some o=>if k == 1 && decide (s + len ≤ o.elems.length) then (match bytesA ((o.elems.drop s).take len) with
    | some b=>some (.d (.str b),h)
    | none=>none) else none
   | none=>none) else none
 | _=>none
theorem evConv_ok {E : TE} {src dst : Nat} {x : AV} {h h' : Heap} {v : AV} {K : KV} (e : evConv E src dst x h = some (v,h')) (hk : K v h') : convD E src dst x h K:=by
 unfold evConv at e
 unfold convD
 split at e
 ·split at e
  ·rename_i h1
   rw [frcI_eq] at e
   cases e
   exact onOk_of h1 hk
  ·cases e
 ·split at e
  ·rename_i h1
   refine onBool_t h1 ?_
   split at e
   ·rename_i h2;cases e;exact onOk_of h2 hk
   ·cases e
  ·rename_i h1
   refine onBool_f (by simpa using h1) ?_
   split at e
   ·rename_i h2;cases e
    refine onOk_of h2 ?_
    rw [newD_eq];exact hk
   ·cases e
 ·split at e
  ·rename_i h1;cases e;exact onOk_of h1 hk
  ·cases e
 ·split at e
  ·rename_i h1
   split at e
   ·rename_i s hs;cases e
    exact onOk_of h1 ⟨s,bytesD_ok _ _ hs,hk⟩
   ·cases e
  ·cases e
 ·split at e
  ·rename_i h1
   split at e
   ·rename_i o ho
    split at e
    ·rename_i h2
     simp only [Bool.and_eq_true,decide_eq_true_eq] at h2
     split at e
     ·rename_i b hb;cases e
      exact onOk_of h1 (evLive_ok ho (onOk_of h2.1 ⟨b,⟨h2.2,bytesA_ok _ _ hb⟩,hk⟩))
     ·cases e
    ·cases e
   ·cases e
  ·cases e
 ·cases e
def evFill (E : TE) (t : TI) (T : List AV) : List (Nat × Operand) → List AV → Option (List AV)
 | [],cs=>some cs
 | (i,x) :: l,cs=>
  if t.kind == 5 then
   (match t.fields[i]? with
   | some p=>if decide (p.1 + (E p.2).size ≤ cs.length) && (fits (E p.2) (opnd T x) && (E p.2).kind != 0) then evFill E t T l (puts cs p.1 (opnd T x).cells) else none
   | none=>none)
  else if (t.kind == 6 && (E t.elem).kind != 0) && (decide (i * (E t.elem).size + (E t.elem).size ≤ cs.length) && fits (E t.elem) (opnd T x)) then evFill E t T l (puts cs (i * (E t.elem).size) (opnd T x).cells) else none
theorem evFill_ok {E : TE} {t : TI} {T : List AV} {r : List AV} {K : List AV → Prop} (hk : K r) : ∀ (l : List (Nat × Operand)) (cs : List AV),evFill E t T l cs = some r → fillK E t T l cs K
 | [],cs,e=>by simp only [evFill,Option.some.injEq] at e;subst e;simpa [fillK] using hk
 | (i,x) :: l,cs,e=>by
  unfold evFill at e
  unfold fillK
  rw [opndK_eq]
  split at e
  ·rename_i h1
   refine onBool_t h1 ?_
   split at e
   ·rename_i p hp
    split at e
    ·rename_i h2
     refine nthK_of hp (onOk_of h2 ?_)
     rw [putK_eq]
     exact evFill_ok hk l _ e
    ·cases e
   ·cases e
  ·rename_i h1
   refine onBool_f (by simpa using h1) ?_
   split at e
   ·rename_i h2
    refine onOk_of h2 ?_
    rw [putK_eq]
    exact evFill_ok hk l _ e
   ·cases e
def evRow (t : TI) (T : List AV) : List (Nat × Operand) → List AV → Option (List AV)
 | [],es=>some es
 | (i,x) :: l,es=>if fits t (opnd T x) && decide (i < es.length) then evRow t T l (es.set i (opnd T x)) else none
theorem evRow_ok {t : TI} {T : List AV} {r : List AV} {K : List AV → Prop} (hk : K r) : ∀ (l : List (Nat × Operand)) (es : List AV),evRow t T l es = some r → rowK t T l es K
 | [],cs,e=>by simp only [evRow,Option.some.injEq] at e;subst e;simpa [rowK] using hk
 | (i,x) :: l,es,e=>by
  unfold evRow at e
  unfold rowK
  rw [opndK_eq]
  split at e
  ·rename_i h1
   refine onOk_of h1 ?_
   rw [setK_eq]
   exact evRow_ok hk l _ e
  ·cases e
def evOpt (T : List AV) : Option Operand → Option AV
 | none=>none
 | some x=>some (opnd T x)
theorem optK_evOpt (T : List AV) (o : Option Operand) (K : Option AV → Prop) : optK T o K = K (evOpt T o):=by
 cases o<;>simp [optK,evOpt,opndK_eq]
abbrev CallF:=Nat → List AV → Heap → Option (AV × Heap)
def evCall (call : CallF) (f : AV) (args : List AV) (h : Heap) : Option (AV × Heap):=
 match f with
 | .d (.fn f first cap)=>call f (first.map .d ++ (args ++ cap.map .d)) h
 | .fn f first cap=>call f (first ++ (args ++ cap)) h
 | _=>none
def addH (v : Option AV) (h : Heap) : Option (AV × Heap):=match v with
 | some v=>some (v,h)
 | none=>none
theorem addH_some {v : Option AV} {h : Heap} {r : AV × Heap} (e : addH v h = some r) : v = some r.1 ∧ r.2 = h:=by
 unfold addH at e
 split at e
 ·cases e;exact ⟨rfl,rfl⟩
 ·cases e
def evNil (a : AV) (h : Heap) : Option (AV × Heap):=match a with
 | .ptr ..=>some (a,h)
 | .fn ..=>some (a,h)
 | .d (.fp ..)=>some (a,h)
 | .d (.fn ..)=>some (a,h)
 | _=>none
def evMp (h : Heap) (id : Nat) : Option AO:=match h[id]? with
 | some o=>if Nat.beq o.st 3 then some o else none
 | none=>none
theorem evMp_ok {h : Heap} {id : Nat} {o : AO} {K : AO → Prop} (e : evMp h id = some o) (k : K o) : mapLK h id K:=by
 unfold evMp at e
 split at e
 ·rename_i o' ho
  split at e
  ·rename_i h1;cases e;exact nthK_of ho (onOk_of h1 k)
  ·cases e
 ·cases e
def evLookup (E : TE) (t : Nat) (x i : AV) (h : Heap) : Option AV:=
 match x with
 | .mp id=>(match zeroD (E (E t).elem).zero with
  | some z=>if (E (E t).elem).kind != 0 then (match evMp h id with
   | some o=>if (E t).kind == 9 && (E (E t).len).kind == 1 then (match keyOf (E (E t).len).ik i with
     | some n=>(match entsOf (E (E t).len).ik o.elems with
      | some L=>some (.d (mget z L n))
      | none=>none)
     | none=>none)
    else if (E t).kind == 9 && (E (E t).len).kind == 3 then (match keyOfS i with
     | some n=>(match entsOfS o.elems with
      | some L=>some (.d (mget z L n))
      | none=>none)
     | none=>none) else none
   | none=>none) else none
  | none=>none)
 | _=>none
theorem evLookup_ok {E : TE} {t : Nat} {x i : AV} {h : Heap} {v : AV} {K : AV → Prop} (e : evLookup E t x i h = some v) (k : K v) : lookupD E t x i h K:=by
 unfold evLookup at e
 unfold lookupD
 split at e
 ·split at e
  ·rename_i z hz
   split at e
   ·rename_i h1
    split at e
    ·rename_i o ho
     split at e
     ·rename_i h2
      split at e
      ·rename_i n hn
       split at e
       ·rename_i L hL;cases e
        refine onBool_t h2 ?_
        simp only [hn,hz]
        exact onOk_of h1 (evMp_ok ho ⟨L,hL,k⟩)
       ·cases e
      ·cases e
     ·rename_i h2
      split at e
      ·rename_i h3
       split at e
       ·rename_i n hn
        split at e
        ·rename_i L hL;cases e
         refine onBool_f (by simpa using h2) (onOk_of h3 ?_)
         simp only [hn,hz]
         exact onOk_of h1 (evMp_ok ho ⟨L,hL,k⟩)
        ·cases e
       ·cases e
      ·cases e
    ·cases e
   ·cases e
  ·cases e
 ·cases e
def evUpdate (E : TE) (t : Nat) (x i v : AV) (h : Heap) : Option Heap:=
 match x with
 | .mp id=>(match scalA v with
  | some d=>(match evMp h id with
   | some o=>if (E t).kind == 9 && (E (E t).len).kind == 1 then (match keyOf (E (E t).len).ik i with
     | some n=>(match entsOf (E (E t).len).ik o.elems with
      | some L=>some (h.set id { o with elems:=(mput L n d).map (entA (E (E t).len).ik) })
      | none=>none)
     | none=>none)
    else if (E t).kind == 9 && (E (E t).len).kind == 3 then (match keyOfS i with
     | some n=>(match entsOfS o.elems with
      | some L=>some (h.set id { o with elems:=(mput L n d).map entS })
      | none=>none)
     | none=>none) else none
   | none=>none)
  | none=>none)
 | _=>none
theorem evUpdate_ok {E : TE} {t : Nat} {x i v : AV} {h h' : Heap} {K : Heap → Prop} (e : evUpdate E t x i v h = some h') (k : K h') : updateD E t x i v h K:=by
 unfold evUpdate at e
 unfold updateD
 split at e
 ·split at e
  ·rename_i d hd
   split at e
   ·rename_i o ho
    split at e
    ·rename_i h2
     split at e
     ·rename_i n hn
      split at e
      ·rename_i L hL;cases e
       refine onBool_t h2 ?_
       simp only [hn,hd]
       exact evMp_ok ho ⟨L,hL,by rw [setK_eq];exact k⟩
      ·cases e
     ·cases e
    ·rename_i h2
     split at e
     ·rename_i h3
      split at e
      ·rename_i n hn
       split at e
       ·rename_i L hL;cases e
        refine onBool_f (by simpa using h2) (onOk_of h3 ?_)
        simp only [hn,hd]
        exact evMp_ok ho ⟨L,hL,by rw [setK_eq];exact k⟩
       ·cases e
      ·cases e
     ·cases e
   ·cases e
  ·cases e
 ·cases e
def evOp (E : TE) (call : CallF) (T : List AV) (h : Heap) (o : Op) : Option (AV × Heap):=
 match o with
 | .move x=>some (opnd T x,h)
 | .assign x=>some (opnd T x,h)
 | .pick c a b=>match opnd T c with
  | .d (.bool c)=>if c then some (opnd T a,h) else some (opnd T b,h)
  | _=>none
 | .alloc t=>if (E t).kind != 0 then some (.ptr h.length 0 0,h ++ [{ elems:=[(E t).zero],k:=(E t).size,st:=0 }]) else none
 | .box t x=>if (E t).kind != 0 && fits (E t) (opnd T x) then some (.ptr h.length 0 0,h ++ [{ elems:=[opnd T x],k:=(E t).size,st:=0 }]) else none
 | .build t ps=>if (E t).kind == 5 || ((E t).kind == 6 && (E (E t).elem).kind != 0) then (match evFill E (E t) T ps.toList (E t).zero.cells with
  | some cs=>some (.agg cs,h)
  | none=>none) else none
 | .buildSlice t n ps=>if (E t).kind == 4 && (decide (n * (E (E t).elem).size ≤ 16777216) && (E (E t).elem).kind != 0) then
   (if n == 0 then (if ps.toList.isEmpty then some (.nilS,h) else none)
   else (match evRow (E (E t).elem) T ps.toList (List.replicate n (E (E t).elem).zero) with
    | some es=>if (E t).len == 0 then some (.sl h.length 0 n (E (E t).elem).size (some n),h ++ [{ elems:=es,k:=(E (E t).elem).size,st:=0 }]) else (match vl (view 8 []) es with
     | some ds=>some (.d (.fs ds),h)
     | none=>none)
    | none=>none)) else none
 | .load t a=>addH (evLoad (E t) (opnd T a) h) h
 | .store t a v=>match evStore (E t) (opnd T a) (opnd T v) h with
  | some h'=>some (.und,h')
  | none=>none
 | .nilCheck x=>evNil (opnd T x) h
 | .binOp op t x y _=>if isNilC y then addH (evNilC E op t (opnd T x)) h else addH (evBin E op t (opnd T x) (opnd T y)) h
 | .unOp op _ x=>addH (evUn op (opnd T x)) h
 | .convert src dst x=>evConv E src dst (opnd T x) h
 | .makeFunc fn first cap=>match fn with
  | .func f=>some (.fn f (first.toList.map (opnd T)) (cap.toList.map (opnd T)),h)
  | _=>none
 | .makeSlice t l c=>match opnd T l,opnd T c with
  | .d (.int _ l),.d (.int _ c)=>if ((E t).kind == 4 && (E (E t).elem).kind != 0) && decide (0 ≤ l ∧ l ≤ c ∧ c < 9223372036854775808 ∧ c * (E (E t).elem).bytes ≤ 140737488355328) then
    some (.sl h.length 0 l.toNat (E (E t).elem).size (some c.toNat),h ++ [{ elems:=List.replicate c.toNat (E (E t).elem).zero,k:=(E (E t).elem).size,st:=0 }]) else none
  | _,_=>none
 | .slice t x lo hi mx=>addH (evSlice E t (opnd T x) (evOpt T lo) (evOpt T hi) (evOpt T mx) h) h
 | .fieldAddr s x f=>addH (evFieldAddr E s (opnd T x) f) h
 | .field s x f=>addH (evField E s (opnd T x) f) h
 | .indexAddr t x i=>addH (evIndexAddr E t (opnd T x) (opnd T i)) h
 | .index t x i=>addH (evIndex E t (opnd T x) (opnd T i)) h
 | .extract x i=>match opnd T x with
  | .tup l=>addH l[i]? h
  | .d (.tup l)=>(match l[i]? with
   | some v=>some (.d v,h)
   | none=>none)
  | _=>none
 | .call c=>match c.callee with
  | .value f=>evCall call (opnd T f) (c.args.toList.map (opnd T)) h
  | .builtin b=>evBuiltin E b c.argTypes.toList (c.args.toList.map (opnd T)) h
  | _=>none
 | .makeMap t r=>if (E t).kind == 9 && r.isNone then some (.mp h.length,h ++ [{ elems:=[],k:=1,st:=3 }]) else none
 | .lookup t x i c=>if c then none else addH (evLookup E t (opnd T x) (opnd T i) h) h
 | .mapUpdate t m i v=>match evUpdate E t (opnd T m) (opnd T i) (opnd T v) h with
  | some h'=>some (.und,h')
  | none=>none
 | .insert t m i v=>match evUpdate E t (opnd T m) (opnd T i) (opnd T v) h with
  | some h'=>some (.und,h')
  | none=>none
 | _=>none
theorem evOp_ok {E : TE} {R : Rel} {call : CallF} (hc : ∀ f args h r h', call f args h = some (r, h') → R.call f args h r h') {T : List AV} {h h' : Heap} {o : Op} {v : AV} {K : KV} (e : evOp E call T h o = some (v, h')) (hk : K v h') : opD E R T h o K := by
 cases o<;>simp only [evOp] at e<;>simp only [opD,opndK_eq,opndsK_eq,optK_evOpt,replK_eq,newD_eq]<;>try (cases e;done)
 case move x=>cases e;exact hk
 case assign x=>cases e;exact hk
 case pick c a b=>
  split at e
  ·rename_i c' hc'
   split at e
   ·rename_i h1;cases e;simp only [hc'];exact onBool_t h1 hk
   ·rename_i h1;cases e;simp only [hc'];exact onBool_f (by simpa using h1) hk
  ·cases e
 case alloc t=>
  split at e
  ·rename_i h1;cases e;exact onOk_of h1 hk
  ·cases e
 case box t x=>
  split at e
  ·rename_i h1;cases e;exact onOk_of h1 hk
  ·cases e
 case build t ps=>
  split at e
  ·rename_i h1
   split at e
   ·rename_i cs hcs;cases e;exact onOk_of h1 (evFill_ok (K:=fun cs=>K (.agg cs) _) hk _ _ hcs)
   ·cases e
  ·cases e
 case buildSlice t n ps=>
  split at e
  ·rename_i h1
   refine onOk_of h1 ?_
   split at e
   ·rename_i h2
    refine onBool_t h2 ?_
    split at e
    ·rename_i h3;cases e;exact onOk_of h3 hk
    ·cases e
   ·rename_i h2
    refine onBool_f (by simpa using h2) ?_
    split at e
    ·rename_i es hes
     refine evRow_ok ?_ _ _ hes
     split at e
     ·rename_i h3;cases e;exact onBool_t h3 hk
     ·rename_i h3
      split at e
      ·rename_i ds hds;cases e
       refine onBool_f (by simpa using h3) ?_
       unfold dataK
       simp only [hds]
       exact hk
      ·cases e
    ·cases e
  ·cases e
 case load t a=>
  obtain ⟨e1,e2⟩:=addH_some e
  cases e2
  exact evLoad_ok (K:=fun v=>K v _) e1 hk
 case store t a x=>
  split at e
  ·rename_i h1 he;cases e;exact evStore_ok he hk
  ·cases e
 case nilCheck x=>
  unfold evNil at e
  split at e<;>first | (cases e;done) | (rename_i hx;rw [hx];simp only [hx] at e;cases e;exact hk) | (rename_i hx;simp only [hx] at e ⊢;cases e;exact hk)
 case binOp op t x y b=>
  split at e
  ·rename_i h1
   obtain ⟨e1,e2⟩:=addH_some e
   cases e2
   exact onBool_t h1 (evNilC_ok (K:=fun v=>K v _) e1 hk)
  ·rename_i h1
   obtain ⟨e1,e2⟩:=addH_some e
   cases e2
   exact onBool_f (by simpa using h1) (evBin_ok (K:=fun v=>K v _) e1 hk)
 case unOp op t x=>
  obtain ⟨e1,e2⟩:=addH_some e
  cases e2
  exact evUn_ok (K:=fun v=>K v _) e1 hk
 case convert src dst x=>exact evConv_ok e hk
 case makeFunc fn first cap=>
  split at e
  ·cases e;exact hk
  ·cases e
 case makeSlice t l c=>
  split at e
  ·rename_i l' k1 c' h1 h2
   split at e
   ·rename_i h3;cases e
    simp only [Bool.and_eq_true,decide_eq_true_eq] at h3
    simp only [h1,h2]
    exact onOk_of (by simp only [Bool.and_eq_true];exact h3.1) ⟨h3.2,hk⟩
   ·cases e
  ·cases e
 case slice t x lo hi mx=>
  obtain ⟨e1,e2⟩:=addH_some e
  cases e2
  exact evSlice_ok (K:=fun v=>K v _) e1 hk
 case fieldAddr s x f=>
  obtain ⟨e1,e2⟩:=addH_some e
  cases e2
  exact evFieldAddr_ok (K:=fun v=>K v _) e1 hk
 case field s x f=>
  obtain ⟨e1,e2⟩:=addH_some e
  cases e2
  exact evField_ok (K:=fun v=>K v _) e1 hk
 case indexAddr t x i=>
  obtain ⟨e1,e2⟩:=addH_some e
  cases e2
  exact evIndexAddr_ok (K:=fun v=>K v _) e1 hk
 case index t x i=>
  obtain ⟨e1,e2⟩:=addH_some e
  cases e2
  exact evIndex_ok (K:=fun v=>K v _) e1 hk
 case extract x i=>
  split at e
  ·rename_i l hx
   obtain ⟨e1,e2⟩:=addH_some e
   cases e2
   simp only [hx]
   exact nthK_of e1 hk
  ·rename_i l hx
   split at e
   ·rename_i v' hv;cases e
    simp only [hx]
    exact nthK_of hv hk
   ·cases e
  ·cases e
 case call c=>
  split at e
  ·rename_i f hf
   simp only [hf]
   unfold evCall at e
   unfold callK
   split at e
   ·rename_i h1;simp only [h1];exact ⟨_,_,hc _ _ _ _ _ e,hk⟩
   ·rename_i h1;simp only [h1];exact ⟨_,_,hc _ _ _ _ _ e,hk⟩
   ·cases e
  ·rename_i f hf
   simp only [hf]
   exact evBuiltin_ok e hk
  ·cases e
 case makeMap t r=>
  split at e
  ·rename_i h1;cases e;exact onOk_of h1 hk
  ·cases e
 case lookup t x i c=>
  split at e
  ·cases e
  ·rename_i h1
   obtain ⟨e1,e2⟩:=addH_some e
   cases e2
   exact onOk_of (by simpa using h1) (evLookup_ok (K:=fun v=>K v _) e1 hk)
 case mapUpdate t m i v=>
  split at e
  ·rename_i h1 he;cases e;exact evUpdate_ok he hk
  ·cases e
 case insert t m i v=>
  split at e
  ·rename_i h1 he;cases e;exact evUpdate_ok he hk
  ·cases e
end Dw
namespace Dw
open Go Go.RowKit
mutual
def sameD : D → D → Bool
 | .int k n,.int k' m=>k == k' && decide (n = m)
 | .bool a,.bool b=>a == b
 | .str a,.str b=>decide (a = b)
 | .agg l,.agg r=>sameDs l r
 | .fs l,.fs r=>sameDs l r
 | .fp x o,.fp y p=>sameD x y && decide (o = p)
 | .fn f a c,.fn g b d=>decide (f = g) && (sameDs a b && sameDs c d)
 | .tup l,.tup r=>sameDs l r
 | _,_=>false
def sameDs : List D → List D → Bool
 | [],[]=>true
 | x :: l,y :: r=>sameD x y && sameDs l r
 | _,_=>false
end
mutual
theorem sameD_ok : ∀ (x y : D),sameD x y = true → x = y
 | .int k n,y,h=>by cases y<;>simp_all [sameD]
 | .bool a,y,h=>by cases y<;>simp_all [sameD]
 | .str a,y,h=>by cases y<;>simp_all [sameD]
 | .agg l,y,h=>by
  cases y<;>simp only [sameD,Bool.false_eq_true] at h
  rename_i r;rw [sameDs_ok l r h]
 | .fs l,y,h=>by
  cases y<;>simp only [sameD,Bool.false_eq_true] at h
  rename_i r;rw [sameDs_ok l r h]
 | .fp x o,y,h=>by
  cases y<;>simp only [sameD,Bool.false_eq_true,Bool.and_eq_true,decide_eq_true_eq] at h
  rename_i r p;rw [sameD_ok x r h.1,h.2]
 | .fn f a c,y,h=>by
  cases y<;>simp only [sameD,Bool.false_eq_true,Bool.and_eq_true,decide_eq_true_eq] at h
  rename_i g b d;rw [h.1,sameDs_ok a b h.2.1,sameDs_ok c d h.2.2]
 | .tup l,y,h=>by
  cases y<;>simp only [sameD,Bool.false_eq_true] at h
  rename_i r;rw [sameDs_ok l r h]
theorem sameDs_ok : ∀ (x y : List D),sameDs x y = true → x = y
 | [],y,h=>by cases y<;>simp_all [sameDs]
 | x :: l,y,h=>by
  cases y<;>simp only [sameDs,Bool.false_eq_true,Bool.and_eq_true] at h
  rename_i y r;rw [sameD_ok x y h.1,sameDs_ok l r h.2]
end
mutual
def sameA : AV → AV → Bool
 | .d x,.d y=>sameD x y
 | .nilS,.nilS=>true
 | .ptr i e o,.ptr i' e' o'=>decide (i = i') && (decide (e = e') && decide (o = o'))
 | .sl i s l k c,.sl i' s' l' k' c'=>decide (i = i') && (decide (s = s') && (decide (l = l') && (decide (k = k') && decide (c = c'))))
 | .agg l,.agg r=>sameAs l r
 | .fn f a c,.fn g b d=>decide (f = g) && (sameAs a b && sameAs c d)
 | .tup l,.tup r=>sameAs l r
 | .und,.und=>true
 | .junk,.junk=>true
 | .mp a,.mp b=>decide (a = b)
 | _,_=>false
def sameAs : List AV → List AV → Bool
 | [],[]=>true
 | x :: l,y :: r=>sameA x y && sameAs l r
 | _,_=>false
end
mutual
theorem sameA_ok : ∀ (x y : AV),sameA x y = true → x = y
 | .d x,y,h=>by
  cases y<;>simp only [sameA,Bool.false_eq_true] at h
  rename_i r;rw [sameD_ok x r h]
 | .nilS,y,h=>by cases y<;>simp_all [sameA]
 | .ptr ..,y,h=>by cases y<;>simp_all [sameA]
 | .sl ..,y,h=>by cases y<;>simp_all [sameA]
 | .agg l,y,h=>by
  cases y<;>simp only [sameA,Bool.false_eq_true] at h
  rename_i r;rw [sameAs_ok l r h]
 | .fn f a c,y,h=>by
  cases y<;>simp only [sameA,Bool.false_eq_true,Bool.and_eq_true,decide_eq_true_eq] at h
  rename_i g b d;rw [h.1,sameAs_ok a b h.2.1,sameAs_ok c d h.2.2]
 | .tup l,y,h=>by
  cases y<;>simp only [sameA,Bool.false_eq_true] at h
  rename_i r;rw [sameAs_ok l r h]
 | .raw v,y,h=>by cases y<;>simp_all [sameA]
 | .und,y,h=>by cases y<;>simp_all [sameA]
 | .junk,y,h=>by cases y<;>simp_all [sameA]
 | .mp a,y,h=>by cases y<;>simp_all [sameA]
theorem sameAs_ok : ∀ (x y : List AV),sameAs x y = true → x = y
 | [],y,h=>by cases y<;>simp_all [sameAs]
 | x :: l,y,h=>by
  cases y<;>simp only [sameAs,Bool.false_eq_true,Bool.and_eq_true] at h
  rename_i y r;rw [sameA_ok x y h.1,sameAs_ok l r h.2]
end
def sameO : Option AO → Option AO → Bool
 | none,none=>true
 | some a,some b=>sameAs a.elems b.elems && (decide (a.k = b.k) && decide (a.st = b.st))
 | _,_=>false
theorem sameO_ok {x y : Option AO} (h : sameO x y = true) : x = y:=by
 unfold sameO at h
 split at h
 ·rfl
 ·rename_i a b
  simp only [Bool.and_eq_true,decide_eq_true_eq] at h
  have:=sameAs_ok _ _ h.1
  cases a;cases b
  simp_all
 ·cases h
def evGuard (all : List Oper) (T : List AV) (g : Option (Nat × Bool)) : Option Bool:=
 match g with
 | none=>some true
 | some (j,want)=>match dstOf all j with
  | some t=>match nth T t with
   | .d (.bool b)=>some (b == want)
   | .und=>some false
   | _=>none
  | none=>none
theorem evGuard_ok {all : List Oper} {T : List AV} {g : Option (Nat × Bool)} {b : Bool} {A B : List AV → Prop} (e : evGuard all T g = some b) (ht : b = true → A T) (hf : b = false → B T) : guardD all T g A B:=by
 unfold evGuard at e
 unfold guardD
 split at e
 ·cases e;exact ht rfl
 ·split at e
  ·rename_i t hd
   simp only [hd]
   rw [getK_eq]
   split at e
   ·rename_i c hc
    simp only [hc,setK_eq]
    cases c
    ·rw [set_nth hc (by simp)]
     refine onBool_f rfl ?_
     exact onBool_split (fun hw=>hf (by cases e;rw [hw];rfl)) (fun hw=>ht (by cases e;rw [hw];rfl))
    ·rw [set_nth hc (by simp)]
     refine onBool_t rfl ?_
     exact onBool_split (fun hw=>ht (by cases e;rw [hw];rfl)) (fun hw=>hf (by cases e;rw [hw];rfl))
   ·rename_i hc
    simp only [hc]
    cases e
    exact hf rfl
   ·cases e
  ·cases e
section
variable (E : TE) (call : CallF)
def evReg (all : List Oper) : List Oper → List AV → Heap → Option (List AV × Heap)
 | [],T,h=>some (T,h)
 | o :: rest,T,h=>match evGuard all T o.guard with
  | some true=>match evOp E call T h o.op with
   | some (v,h')=>evReg all rest (putD o.dst v T) h'
   | none=>none
  | some false=>evReg all rest (putD o.dst .und T) h
  | none=>none
def evEv (ps : List (Nat × Nat)) : Ev → List Ev → Bool
 | _,[]=>true
 | .read i id,.heap j h h' :: l=>(if memB ps i j then sameO h[id]? h'[id]? else true) && evEv ps (.read i id) l
 | .heap j h h', .read i id :: l => (if memB ps i j then sameO h[id]? h'[id]? else true) && evEv ps (.heap j h h') l
 | .heap j h h', .made i id :: l => (if memB ps i j then sameO h[id]? h'[id]? else true) && evEv ps (.heap j h h') l
 | e,_ :: l=>evEv ps e l
def evReads (T : List AV) (o : Op) : Option Nat:=
 match o with
 | .load _ a=>(match opnd T a with | .ptr id _ _=>some id | _=>none)
 | .convert _ _ a=>(match opnd T a with | .sl id _ _ _ _=>some id | _=>none)
 | .slice _ a _ _ _=>(match opnd T a with | .sl id _ _ _ _=>some id | _=>none)
 | .lookup _ a _ _=>(match opnd T a with | .mp id=>some id | _=>none)
 | _=>none
def evDraw (all : List Oper) (ps : List (Nat × Nat)) : List (Nat × Oper) → List Ev → List AV → Heap → Option (List AV × Heap)
 | [],_,T,h=>some (T,h)
 | (i,o) :: rest,L,T,h=>match evGuard all T o.guard with
  | some true=>match evOp E call T h o.op with
   | some (v,h')=>match cls E o.op with
    | 0=>evDraw all ps rest L (putD o.dst v T) h'
    | 1=>match evReads T o.op with
     | some id=>if evEv ps (.read i id) L then evDraw all ps rest (.read i id :: L) (putD o.dst v T) h' else none
     | none=>evDraw all ps rest L (putD o.dst v T) h'
    | 2=>match v with
     | .ptr id _ _=>evDraw all ps rest (.made i id :: L) (putD o.dst v T) h'
     | _=>none
    | _=>if evEv ps (.heap i h h') L then evDraw all ps rest (.heap i h h' :: L) (putD o.dst v T) h' else none
   | none=>none
  | some false=>evDraw all ps rest L (putD o.dst .und T) h
  | none=>none
end
def psOf1 (E : TE) (ws : List Nat) (x : Nat × Oper) : List (Nat × Oper) → List (Nat × Nat) → List (Nat × Nat)
 | [],acc=>acc
 | y :: l,acc=>
  let acc:=psOf1 E ws x l acc
  if (ws.getD y.1 0).testBit x.1 then acc else
  let cx:=cls E x.2.op
  let cy:=cls E y.2.op
  if (cx == 1 || cx == 2) && cy == 3 then (x.1,y.1) :: acc else if cx == 3 && cy == 1 then (y.1,x.1) :: acc else acc
def psOf (E : TE) (ws : List Nat) : List (Nat × Oper) → List (Nat × Nat)
 | []=>[]
 | x :: l=>psOf1 E ws x l (psOf E ws l)
def flOf : List Oper → List Nat
 | []=>[]
 | o :: l=>match o.op with
  | .buildSlice t _ _=>t :: flOf l
  | _=>flOf l
def evTry (E : TE) (call : CallF) (ops : List Oper) (fl : List Nat) (T : List AV) (h : Heap) : Option (Option (List AV × Heap)):=
 let ps:=psOf (flagE E fl) (waitsFor ops []) (baseOrder ops)
 if drawOk (flagE E fl) ops ps then some (evDraw (flagE E fl) call ops ps (baseOrder ops) [] T h) else none
def evDrawn (E : TE) (call : CallF) (ops : List Oper) (T : List AV) (h : Heap) : Option (List AV × Heap):=
 match evTry E call ops [] T h with
 | some r=>r
 | none=>match evTry E call ops (flOf ops) T h with
  | some r=>r
  | none=>none
theorem evEv_ok {ps : List (Nat × Nat)} {K : Prop} (k : K) : ∀ (e : Ev) (L : List Ev),evEv ps e L = true → evD ps e L K
 | e,[],h=>by simp only [evD];exact k
 | .read i id,.heap j h h' :: l,hk=>by
  simp only [evEv,Bool.and_eq_true] at hk
  simp only [evD]
  have:=evEv_ok k _ l hk.2
  refine onBool_split (fun hm=>⟨?_,this⟩) (fun _=>this)
  rw [if_pos hm] at hk
  rw [sameO_ok hk.1]
 | .heap j h h', .read i id :: l, hk => by
  simp only [evEv,Bool.and_eq_true] at hk
  simp only [evD]
  have:=evEv_ok k _ l hk.2
  refine onBool_split (fun hm=>⟨?_,this⟩) (fun _=>this)
  rw [if_pos hm] at hk
  rw [sameO_ok hk.1]
 | .heap j h h', .made i id :: l, hk => by
  simp only [evEv,Bool.and_eq_true] at hk
  simp only [evD]
  have:=evEv_ok k _ l hk.2
  refine onBool_split (fun hm=>⟨?_,this⟩) (fun _=>this)
  rw [if_pos hm] at hk
  exact sameO_ok hk.1
 | .read i id,.read j jd :: l,hk=>by simp only [evD];exact evEv_ok k _ l (by simpa only [evEv] using hk)
 | .read i id,.made j jd :: l,hk=>by simp only [evD];exact evEv_ok k _ l (by simpa only [evEv] using hk)
 | .made i id,.read j jd :: l,hk=>by simp only [evD];exact evEv_ok k _ l (by simpa only [evEv] using hk)
 | .made i id,.made j jd :: l,hk=>by simp only [evD];exact evEv_ok k _ l (by simpa only [evEv] using hk)
 | .made i id,.heap j h h' :: l,hk=>by simp only [evD];exact evEv_ok k _ l (by simpa only [evEv] using hk)
 | .heap i g g', .heap j h h' :: l, hk => by simp only [evD]; exact evEv_ok k _ l (by simpa only [evEv] using hk)
theorem readsK_ev (T : List AV) (o : Op) (K : Option Nat → Prop) : readsK T o K = K (evReads T o):=by
 cases o<;>simp only [readsK,evReads,opndK_eq]<;>generalize opnd T _ = y<;>cases y<;>rfl
section
variable {E : TE} {R : Rel} {call : CallF} (hc : ∀ f args h r h', call f args h = some (r, h') → R.call f args h r h')
include hc
theorem evReg_ok {all : List Oper} {T' : List AV} {h' : Heap} {K : List AV → Heap → Prop} (hk : K T' h') : ∀ (l : List Oper) (T : List AV) (h : Heap), evReg E call all l T h = some (T', h') → regD E R all l T h K
 | [],T,h,e=>by simp only [evReg,Option.some.injEq,Prod.mk.injEq] at e;obtain ⟨rfl,rfl⟩:=e;exact hk
 | o :: rest,T,h,e=>by
  unfold evReg at e
  simp only [regD]
  split at e
  ·rename_i hg
   split at e
   ·rename_i v h1 ho
    refine evGuard_ok hg (fun _=>evOp_ok hc ho ?_) (fun h=>by cases h)
    rw [dstK_eq]
    exact evReg_ok hk rest _ _ e
   ·cases e
  ·rename_i hg
   refine evGuard_ok hg (fun h=>by cases h) (fun _=>?_)
   rw [dstK_eq]
   exact evReg_ok hk rest _ _ e
  ·cases e
theorem evDraw_ok {all : List Oper} {ps : List (Nat × Nat)} {T' : List AV} {h' : Heap} {K : List AV → Heap → Prop} (hk : K T' h') : ∀ (l : List (Nat × Oper)) (L : List Ev) (T : List AV) (h : Heap), evDraw E call all ps l L T h = some (T', h') → drawR E R all ps l L T h K
 | [],L,T,h,e=>by simp only [evDraw,Option.some.injEq,Prod.mk.injEq] at e;obtain ⟨rfl,rfl⟩:=e;exact hk
 | (i,o) :: rest,L,T,h,e=>by
  unfold evDraw at e
  simp only [drawR]
  split at e
  ·rename_i hg
   split at e
   ·rename_i v h1 ho
    refine evGuard_ok hg (fun _=>evOp_ok hc ho ?_) (fun h=>by cases h)
    rw [dstK_eq]
    split at e
    ·rename_i hcl;simp only [hcl];exact evDraw_ok hk rest _ _ _ e
    ·rename_i hcl;simp only [hcl]
     rw [readsK_ev]
     split at e
     ·rename_i id hid
      simp only [hid]
      split at e
      ·rename_i he;exact evEv_ok (evDraw_ok hk rest _ _ _ e) _ _ he
      ·cases e
     ·rename_i hid
      simp only [hid]
      exact evDraw_ok hk rest _ _ _ e
    ·rename_i hcl;simp only [hcl]
     split at e
     ·exact evDraw_ok hk rest _ _ _ e
     ·cases e
    ·rename_i n h0 h1' h2
     split at e
     ·rename_i he
      split
      ·exact (h0 (by assumption)).elim
      ·exact (h1' (by assumption)).elim
      ·exact (h2 (by assumption)).elim
      ·exact evEv_ok (evDraw_ok hk rest _ _ _ e) _ _ he
     ·cases e
   ·cases e
  ·rename_i hg
   refine evGuard_ok hg (fun h=>by cases h) (fun _=>?_)
   rw [dstK_eq]
   exact evDraw_ok hk rest _ _ _ e
  ·cases e
theorem evDrawn_ok {ops : List Oper} {T T' : List AV} {h h' : Heap} {K : List AV → Heap → Prop} (e : evDrawn E call ops T h = some (T', h')) (hk : K T' h') : drawD E R ops T h K := by
 have key : ∀ fl, evTry E call ops fl T h = some (some (T', h')) → drawD E R ops T h K := by
  intro fl e
  simp only [evTry] at e
  split at e
  ·rename_i h1
   exact ⟨fl,_,h1,evDraw_ok hc hk _ _ _ _ (Option.some.inj e)⟩
  ·cases e
 unfold evDrawn at e
 split at e
 ·rename_i r hr
  subst e;exact key _ hr
 ·split at e
  ·rename_i r hr
   subst e;exact key _ hr
  ·cases e
end
def evCond (T : List AV) (c : Operand) : Option Bool:=
 match c with
 | .tmp t=>(match nth T t with
  | .d (.bool b)=>some b
  | _=>none)
 | .const (.bool b)=>some b
 | _=>none
def evIter (W : List AV → Heap → Option (Ex × List AV × Heap)) : Nat → List AV → Heap → Option (Ex × List AV × Heap)
 | 0,_,_=>none
 | n + 1,T,h=>match W T h with
  | some (.normal, T', h') => evIter W n T' h'
  | some (.exit i, T', h') => some (.exit i, T', h')
  | some (.ret, T', h') => some (.ret, T', h')
  | none=>none
def evCode (E : TE) (call : CallF) (N : Nat) : Code → List AV → Heap → Option (Ex × List AV × Heap)
 | .skip,T,h=>some (.normal,T,h)
 | .region _ ops d,T,h=>match d with
  | true=>(match evDrawn E call ops.toList T h with
   | some (T', h') => some (.normal, T', h')
   | none=>none)
  | false=>(match evReg E call ops.toList ops.toList T h with
   | some (T', h') => some (.normal, T', h')
   | none=>none)
 | .seq a b,T,h=>match evCode E call N a T h with
  | some (.normal, T', h') => evCode E call N b T' h'
  | some (.exit i, T', h') => some (.exit i, T', h')
  | some (.ret, T', h') => some (.ret, T', h')
  | none=>none
 | .cond c a b,T,h=>match evCond T c with
  | some true=>evCode E call N a T h
  | some false=>evCode E call N b T h
  | none=>none
 | .block id c,T,h=>match evCode E call N c T h with
  | some (.normal, T', h') => some (.normal, T', h')
  | some (.exit i, T', h') => if Nat.beq i id then some (.normal, T', h') else some (.exit i, T', h')
  | some (.ret, T', h') => some (.ret, T', h')
  | none=>none
 | .loop c,T,h=>evIter (evCode E call N c) N T h
 | .exit id,T,h=>some (.exit id,T,h)
 | .ret,T,h=>some (.ret,T,h)
 | _,_,_=>none
section
variable {P : Program} {E : TE} (hE : EOK P E) {B : Nat} {W w0 : World} {st0 : St} {call : CallF} (hc : ∀ f args h r h', call f args h = some (r, h') → Run P f args h r h')
include hE hc
theorem evCode_ok {N : Nat} : ∀ (c : Code) (T : List AV) (h : Heap) (a : Act) (w : World) (ex : Ex) (T' : List AV) (h' : Heap) (Q : Exit → Act → World → Prop),
  evCode E call N c T h = some (ex, T', h') → (∀ a w, Inv [] B W w0 st0 T' h' a w → Q ex.to a w) → Inv [] B W w0 st0 T h a w → c.wp P Q a w
 | .skip, T, h, a, w, ex, T', h', Q, e, hQ, hI => by
  simp only [evCode,Option.some.injEq,Prod.mk.injEq] at e
  obtain ⟨rfl,rfl,rfl⟩:=e
  exact wp_skip (hQ a w hI)
 | .region id ops d, T, h, a, w, ex, T', h', Q, e, hQ, hI => by
  cases d
  ·simp only [evCode] at e
   split at e
   ·rename_i T1 h1 he
    cases e
    exact regD_sound hE Run.sub (K:=fun T h=>T = T' ∧ h = h') (fun T h a w ⟨e1,e2⟩ hI=>by subst e1;subst e2;exact hQ a w hI) hI (evReg_ok hc ⟨rfl,rfl⟩ _ _ _ he)
   ·cases e
  ·simp only [evCode] at e
   split at e
   ·rename_i T1 h1 he
    cases e
    exact drawSound hE Run.sub (K:=fun T h=>T = T' ∧ h = h') (fun T h a w ⟨e1,e2⟩ hI=>by subst e1;subst e2;exact hQ a w hI) hI (evDrawn_ok hc he ⟨rfl,rfl⟩)
   ·cases e
 | .seq x y, T, h, a, w, ex, T', h', Q, e, hQ, hI => by
  simp only [evCode] at e
  split at e
  ·rename_i T1 h1 he
   exact wp_seq (evCode_ok x T h a w _ _ _ _ he (fun a w hI=>evCode_ok y T1 h1 a w ex T' h' Q e hQ hI) hI)
  ·rename_i i T1 h1 he
   cases e
   exact wp_seq (evCode_ok x T h a w _ _ _ _ he (fun a w hI=>hQ a w hI) hI)
  ·rename_i T1 h1 he
   cases e
   exact wp_seq (evCode_ok x T h a w _ _ _ _ he (fun a w hI=>hQ a w hI) hI)
  ·cases e
 | .cond c x y, T, h, a, w, ex, T', h', Q, e, hQ, hI => by
  simp only [evCode] at e
  have hcond : ∀ b,evCond T c = some b → (if b then x.wp P Q a w else y.wp P Q a w) → (Code.cond c x y).wp P Q a w:=by
   intro b hb hk
   unfold evCond at hb
   split at hb
   ·rename_i t
    split at hb
    ·rename_i b' hb'
     cases hb
     have hv : a.eval (.tmp t) = .bool b:=by
      obtain ⟨_,st,_,h2,_⟩:=hI
      have:=h2.2 t
      rw [hb'] at this
      exact aV_bool.1 this
     cases b
     ·exact wp_cond_false hv hk
     ·exact wp_cond_true hv hk
    ·cases hb
   ·rename_i b'
    cases hb
    cases b
    ·exact wp_cond_false rfl hk
    ·exact wp_cond_true rfl hk
   ·cases hb
  split at e
  ·rename_i hb;exact hcond _ hb (evCode_ok x T h a w ex T' h' Q e hQ hI)
  ·rename_i hb;exact hcond _ hb (evCode_ok y T h a w ex T' h' Q e hQ hI)
  ·cases e
 | .block id c, T, h, a, w, ex, T', h', Q, e, hQ, hI => by
  simp only [evCode] at e
  split at e
  ·rename_i T1 h1 he
   cases e
   exact wp_block (evCode_ok c T h a w _ _ _ _ he (fun a w hI=>hQ a w hI) hI)
  ·rename_i i T1 h1 he
   refine wp_block (evCode_ok c T h a w _ _ _ _ he (fun a w hI=>?_) hI)
   simp only [Ex.to,Exit.inBlock]
   split at e
   ·rename_i hi;cases e
    rw [if_pos (by simpa using hi)]
    exact hQ a w hI
   ·rename_i hi;cases e
    rw [if_neg (by intro he;subst he;simp at hi)]
    exact hQ a w hI
  ·rename_i T1 h1 he
   cases e
   exact wp_block (evCode_ok c T h a w _ _ _ _ he (fun a w hI=>hQ a w hI) hI)
  ·cases e
 | .loop c, T, h, a, w, ex, T', h', Q, e, hQ, hI => by
  simp only [evCode] at e
  refine wp_loop_n (I := fun n a w => ∃ T h, evIter (evCode E call N c) n T h = some (ex, T', h') ∧ Inv [] B W w0 st0 T h a w) ?_ ?_ N a w ⟨T, h, e, hI⟩
  ·rintro a w ⟨T,h,hk,_⟩
   cases hk
  ·rintro m a w ⟨T,h,hk,hI⟩
   simp only [evIter] at hk
   split at hk
   ·rename_i T1 h1 he
    exact evCode_ok c T h a w _ _ _ _ he (fun a w hI=>⟨T1,h1,hk,hI⟩) hI
   ·rename_i i T1 h1 he
    cases hk
    exact evCode_ok c T h a w _ _ _ _ he (fun a w hI=>hQ a w hI) hI
   ·rename_i T1 h1 he
    cases hk
    exact evCode_ok c T h a w _ _ _ _ he (fun a w hI=>hQ a w hI) hI
   ·cases hk
 | .exit id, T, h, a, w, ex, T', h', Q, e, hQ, hI => by
  simp only [evCode,Option.some.injEq,Prod.mk.injEq] at e
  obtain ⟨rfl,rfl,rfl⟩:=e
  exact wp_exit (hQ a w hI)
 | .ret, T, h, a, w, ex, T', h', Q, e, hQ, hI => by
  simp only [evCode,Option.some.injEq,Prod.mk.injEq] at e
  obtain ⟨rfl,rfl,rfl⟩:=e
  exact wp_ret (hQ a w hI)
 | .rangeFunc ..,_,_,_,_,_,_,_,_,e,_,_=>by simp [evCode] at e
 | .scope ..,_,_,_,_,_,_,_,_,e,_,_=>by simp [evCode] at e
 | .label ..,_,_,_,_,_,_,_,_,e,_,_=>by simp [evCode] at e
 | .goto ..,_,_,_,_,_,_,_,_,e,_,_=>by simp [evCode] at e
 | .refuse ..,_,_,_,_,_,_,_,_,e,_,_=>by simp [evCode] at e
end
def ClSpec (P : Program) (f k : Nat) : Prop:=∀ (l : List D),l.length < 1000000 → (∀ y ∈ l,y.cells.length = k ∧ y.memOk = true) → Run P f [.d (.fs l)] [] (.sl 0 0 l.length k none) [⟨l.map .d,k,0⟩]
theorem run_rawE {P : Program} {f : Nat} {h1 : Heap} {r : AV} (hr : ∀ a c,Run P f [.raw (.slice a 0 c)] [] r h1) : Run P f [.d (.fs [])] [] r h1:=by
 intro B W w st vs hw hv
 simp only [aVs] at hv
 obtain ⟨v,t,us,rfl,h1,h2,rfl⟩:=hv
 obtain ⟨a,c,rfl,_,_⟩:=aV_fs.1 (⟨us,h1,h2⟩ : aV w st (.d (.fs [])) v)
 exact hr a c B W w st _ hw (by simp only [aVs];exact ⟨_,[],[_],rfl,rfl,by simp [aC],rfl⟩)
theorem clSpec_of {P : Program} {f k : Nat} (h0 : ∀ a c,Run P f [.raw (.slice a 0 c)] [] (.sl 0 0 0 k none) [⟨[],k,0⟩])
  (h1 : ∀ (x : D) (l : List D),(x :: l).length < 1000000 → (∀ y ∈ x :: l,y.cells.length = k ∧ y.memOk = true) → Run P f [.d (.fs (x :: l))] [] (.sl 0 0 (x :: l).length k none) [⟨(x :: l).map .d,k,0⟩]) : ClSpec P f k:=by
 intro l hl hk
 cases l with
 | nil=>exact run_rawE h0
 | cons x l=>exact h1 x l hl hk
theorem run_clone {P : Program} {f k : Nat} (hc : ClSpec P f k) {H : Heap} {a : AV} {l : List D} (hv : view 8 H a = some (.fs l)) (hl : l.length < 1000000) (hk : ∀ y ∈ l,y.cells.length = k ∧ y.memOk = true) (hf : ∀ y ∈ l,y.flat = true) :
  Run P f [a] H (.sl H.length 0 l.length k none) (H ++ [⟨l.map .d,k,0⟩]):=by
 refine run_at (σ:=[]) (F:=reach 8 H a) (fl:=true) (hc l hl hk) List.nodup_nil (fun _ _ h=>by cases h) ?_ (by simp [embH]) (fun _=>⟨rfl,fun o ho=>?_⟩) ?_ ?_
 ·exact embs_views H [a] [.fs l] _ (by simp) (by simp [vl,hv])
 ·simp only [List.mem_singleton] at ho
  subst ho
  exact ⟨flats_map l hf,Nat.zero_ne_one⟩
 ·simp [ren,tau]
 ·simp only [outH,setAll,List.length_nil,List.drop_zero,List.map_cons,List.map_nil,renO,rens_D,if_true]
def evRes (E : TE) (h : Heap) (T : List AV) : List ResultVar → Option (List AV)
 | []=>some []
 | .tmp t :: l=>(match evRes E h T l with
  | some r=>some (nth T t :: r)
  | none=>none)
 | .cell a t :: l=>(match evLoad (E t) (nth T a) h with
  | some v=>(match evRes E h T l with
   | some r=>some (v :: r)
   | none=>none)
  | none=>none)
theorem evRes_ok {E : TE} {h : Heap} {T : List AV} : ∀ (l : List ResultVar) (r : List AV) (K : List AV → Prop),evRes E h T l = some r → K r → resD E h T l K
 | [],r,K,e,hk=>by simp only [evRes,Option.some.injEq] at e;subst e;exact hk
 | .tmp t :: l,r,K,e,hk=>by
  simp only [evRes] at e
  simp only [resD]
  rw [getK_eq]
  split at e
  ·rename_i r' hr;cases e;exact evRes_ok l r' _ hr hk
  ·cases e
 | .cell a t :: l,r,K,e,hk=>by
  simp only [evRes] at e
  simp only [resD]
  rw [getK_eq]
  split at e
  ·rename_i v hv
   split at e
   ·rename_i r' hr;cases e;exact evLoad_ok hv (evRes_ok l r' _ hr hk)
   ·cases e
  ·cases e
def evBody (E : TE) (call : CallF) (N : Nat) (fn : Func) (args : List AV) (h : Heap) : Option (AV × Heap):=
 match fn.body with
 | some c=>match evCode E call N c (start fn.ntmps args) h with
  | some (.normal,T,h')=>(match evRes E h' T fn.results.toList with
   | some l=>some (tupD l,h')
   | none=>none)
  | some (.ret,T,h')=>(match evRes E h' T fn.results.toList with
   | some l=>some (tupD l,h')
   | none=>none)
  | _=>none
 | none=>none
def evClone (k : Nat) (args : List AV) (h : Heap) : Option (AV × Heap):=
 match args with
 | [a]=>(match view 8 h a with
  | some (.fs l)=>if decide (l.length < 1000000) && l.all (fun y=>y.flat && (y.cells.length == k && y.memOk)) then some (.sl h.length 0 l.length k none,h ++ [⟨l.map .d,k,0⟩]) else none
  | _=>none)
 | _=>none
section
variable {P : Program} {E : TE} (hE : EOK P E)
include hE
theorem body_ev {call : CallF} (hc : ∀ f args h r h', call f args h = some (r, h') → Run P f args h r h') {N f : Nat} {fn : Func} (hf : P.funcs[f]? = some fn) (hn : (fn.name == "runtime.NumGoroutine") = false) {args : List AV} {h h' : Heap} {r : AV} (e : evBody E call N fn args h = some (r, h')) :
  Run P f args h r h' ∧ ∀ x,view 8 h' r = some x → h = [] → Run P f args h (.d x) []:=by
 unfold evBody at e
 split at e
 ·rename_i c hb
  obtain ⟨ex, T', hev, hres, hex⟩ : ∃ ex T', evCode E call N c (start fn.ntmps args) h = some (ex, T', h') ∧ (∃ l, evRes E h' T' fn.results.toList = some l ∧ r = tupD l) ∧ (ex = .normal ∨ ex = .ret) := by
   split at e
   ·rename_i T1 h1 he
    split at e
    ·rename_i l hl;cases e;exact ⟨_,_,he,⟨l,hl,rfl⟩,.inl rfl⟩
    ·cases e
   ·rename_i T1 h1 he
    split at e
    ·rename_i l hl;cases e;exact ⟨_,_,he,⟨l,hl,rfl⟩,.inr rfl⟩
    ·cases e
   ·cases e
  obtain ⟨l,hl,rfl⟩:=hres
  have hbn : fn.body.isNone = false:=by simp [hb]
  have main : ∀ (r1 : AV) (h1 : Heap),(∀ {B : Nat} {W w0 w : World} {st0 : St} {a : Act},st0.n = h.length → (∀ i,st0.G i → i < st0.n) → Inv [] B W w0 st0 T' h' a w → a.defers = [] ∧ ∃ v,(results fn a.tmps).run P w = .ok v w ∧ RunPost B W w0 st0 r1 h1 v w) → Run P f args h r1 h1:=by
   intro r1 h1 hend B W w st vs hw ha
   have hcall : (callFunc f vs.toArray).run P w = .ok (.enter f vs.toArray) w:=by
    simp only [callFunc,Sem.run_bind,run_program,Result.andThen_ok,hf,hn,hbn,Bool.false_eq_true,if_false,Sem.run_pure]
   rw [hcall]
   show Calls P f vs.toArray w _
   refine calls_of_wp hf hb ?_
   have hl2:=((aVs_iff _ _).1 ha).1
   have hg0 : ∀ i,st.G i → i < st.n:=hw.gho
   have hlen:=hw.len
   have hT : aT w st (start fn.ntmps args) (vs.toArray ++ Array.replicate (fn.ntmps - vs.toArray.size) undef):=by
    refine ⟨by simp [start,hl2],fun i=>?_⟩
    rw [nth_get]
    by_cases hi : i < args.length
    ·have h1 : (start fn.ntmps args)[i]? = some args[i]:=by simp only [start];rw [List.getElem?_append_left hi];exact List.getElem?_eq_getElem hi
     have h2 : (vs.toArray ++ Array.replicate (fn.ntmps - vs.toArray.size) undef).getD i undef = vs[i]:=by
      simp [Array.getElem?_append,hl2,hi]
     rw [h1,h2]
     exact ((aVs_iff _ _).1 ha).2 i _ _ (List.getElem?_eq_getElem hi) (List.getElem?_eq_getElem (by omega))
    ·by_cases hi2 : i < fn.ntmps
     ·have h1 : (start fn.ntmps args)[i]? = some .und:=by
       simp only [start]
       rw [List.getElem?_append_right (by omega),List.getElem?_replicate,if_pos (by omega)]
      have h2 : (vs.toArray ++ Array.replicate (fn.ntmps - vs.toArray.size) undef).getD i undef = undef:=by
       simp only [Array.getD_eq_getD_getElem?]
       rw [Array.getElem?_append_right (by simp;omega),Array.getElem?_replicate]
       split<;>rfl
      rw [h1,h2]
      exact aV_one rfl (by simp [aC])
     ·have h1 : (start fn.ntmps args)[i]? = none:=by
       rw [List.getElem?_eq_none]
       simp [start];omega
      rw [h1]
      exact aV_junk _ _ _
   refine evCode_ok hE hc (B:=B) (W:=W) (w0:=w) (st0:=st) c _ h _ w ex T' h' _ hev ?_ ⟨rfl,st,hw,hT,Ext.refl _ _,rfl⟩
   intro a w' hI
   obtain ⟨hd,v,g1,g2⟩:=hend hlen hg0 hI
   rcases hex with rfl | rfl
   ·exact ⟨hd,v,g1,v,rfl,g2⟩
   ·exact ⟨hd,v,g1,v,rfl,g2⟩
  refine ⟨main _ _ ?_,fun x hx hh=>main _ _ ?_⟩
  ·intro B W w0 w st0 a _ _ hI
   obtain ⟨hd,st,i1,i2,i3,i4⟩:=hI
   obtain ⟨l2,vs,k1,k2,k3⟩:=resD_sound hE i1 i2 _ (fun r=>r = l) (evRes_ok _ _ _ hl rfl)
   subst k1
   have hv:=aV_tupD k2
   refine ⟨hd,(if h : vs.toArray.size = 1 then vs.toArray[0] else .tuple vs.toArray),?_,st,i1,hv,i3,i4⟩
   unfold results
   have hm : ∀ (f : ResultVar → Sem Value),fn.results.mapM f = (do let l ← fn.results.toList.mapM f;pure l.toArray):=by
    intro f
    rw [Array.mapM_eq_mapM_toList]
    rfl
   show ((do let vs ← fn.results.mapM (resV a.tmps);pure (if h : vs.size = 1 then vs[0] else .tuple vs) : Sem Value)).run P w = _
   rw [hm]
   simp only [Sem.run_bind,k3,Result.andThen_ok,Sem.run_pure]
  ·intro B W w0 w st0 a hn0 hg0 hI
   subst hh
   refine endD_sound hE (V:=[]) hI hg0 (fun _ h=>by cases h) (evRes_ok _ _ _ hl ?_)
   have : st0.n = 0:=hn0
   rw [this]
   exact .inl (.inr ⟨x,hx,rfl,[],rfl,rfl,trivial,trivial⟩)
 ·cases e
end
end Dw
namespace Dw
open Go Go.RowKit
section
variable (E : TE)
def shpF (S : Nat → D → Prop) : List (Nat × Nat) → List D → Prop
 | [],cs=>cs = []
 | p :: fs,cs=>∃ y r,S p.2 y ∧ cs = y.cells ++ r ∧ shpF S fs r
def shp : Nat → Nat → D → Prop
 | 0,_,_=>False
 | n + 1,t,x=>
  match (E t).kind with
  | 1=>∃ k,x = .int (E t).ik k ∧ (Lit.int (E t).ik k).wf = true
  | 2=>∃ b,x = .bool b
  | 3=>∃ s : List UInt8,x = .str s ∧ s.length ≤ maxLen
  | 4=>∃ l : List D,x = .fs l ∧ l.length ≤ maxLen ∧ ∀ y ∈ l,shp n (E t).elem y
  | 5=>∃ cs,x = .agg cs ∧ shpF (shp n) (E t).fields cs
  | 6=>∃ ys : List D,x = .agg (ys.flatMap D.cells) ∧ ys.length = (E t).len ∧ ∀ y ∈ ys,shp n (E t).elem y
  | _=>False
def laidF (okT : Nat → Bool) : List (Nat × Nat) → Nat → Nat → Bool
 | [],off,size=>off == size
 | p :: fs,off,size=>p.1 == off && okT p.2 && laidF okT fs (off + (E p.2).size) size
def okT : Nat → Nat → Bool
 | 0,_=>false
 | n + 1,t=>
  match (E t).kind with
  | 1=>true
  | 2=>true
  | 3=>true
  | 4=>okT n (E t).elem
  | 5=>laidF E (okT n) (E t).fields 0 (E t).size
  | 6=>okT n (E t).elem && ((E t).len * (E (E t).elem).size == (E t).size)
  | _=>false
theorem okT_kind {n t : Nat} (h : okT E n t = true) : (E t).kind ≠ 0:=by
 cases n with
 | zero=>simp [okT] at h
 | succ n=>
  intro h0
  simp [okT,h0] at h
end
theorem cC_piece {w : World} {S : Nat → Prop} {x : D} {us : List Value} (h : cC w S x us) (h1 : x.isAgg = true ∨ x.one = true) : cCs w S x.cells us:=by
 cases x<;>simp [D.isAgg,D.one] at h1<;>simp only [D.cells]<;>(try exact h)
 all_goals
  have hl:=cC_length _ _ h
  simp only [D.cells,List.length_cons,List.length_nil] at hl
  match us,hl with
  | [u],_=>
   simp only [cCs]
   exact ⟨u,[],rfl,rfl,h,rfl⟩
theorem cCs_app {w : World} {S : Nat → Prop} : ∀ {l r : List D} {us vs : List Value},cCs w S l us → cCs w S r vs → cCs w S (l ++ r) (us ++ vs)
 | [],r,us,vs,h,k=>by simp only [cCs] at h;subst h;simpa using k
 | x :: l,r,us,vs,h,k=>by
  simp only [cCs] at h
  obtain ⟨v,t,rfl,h2,h3,h4⟩:=h
  simp only [List.cons_append,cCs]
  exact ⟨v,t ++ vs,rfl,h2,h3,cCs_app h4 k⟩
theorem cells?_mem {w : World} {base : Nat} {a : Addr} {n : Nat} {cs : List Value} (h : w.cells? base a n = some cs) : cs.length = n ∧ ∀ j v,cs[j]? = some v → w.cell? (a.add j) = some v:=by
 unfold World.cells? at h
 split at h
 ·refine ⟨by simpa using mapM_some_length h,fun j v hj=>?_⟩
  have hl : cs.length = n:=by simpa using mapM_some_length h
  have hjn : j < n:=by rw [← hl];exact (List.getElem?_eq_some_iff.1 hj).1
  have:=mapM_some_get h j j (by simp [hjn])
  rw [this];exact hj
 ·cases h
theorem cell_plain {w : World} {a : Addr} {v : Value} (h : w.cell? a = some v) : a = ⟨a.block,a.off,none⟩ ∧ a.block < w.heap.size:=by
 unfold World.cell? at h
 split at h
 ·rename_i c _ _ hc
  split at h
  ·cases h
  ·rename_i hs
   refine ⟨?_,(Array.getElem?_eq_some_iff.1 hc).1⟩
   obtain ⟨b,o,s⟩:=a
   cases s with
   | none=>rfl
   | some s=>exact absurd rfl hs
 ·cases h
section
variable {P : Program} {E : TE} (hE : EOK P E) {H : Type} {enc : TypeId × Value → H} {w : World} {sp : Nat → Bool} {hd : Bool}
include hE
theorem cellsOf_eq {t : Nat} (h : (E t).kind ≠ 0) : P.cellsOf t = (E t).size:=by
 obtain ⟨i,d,z,h1,h2,h3,_⟩:=(hE.facts h).ex
 simp [Program.cellsOf,h1,h3]
omit hE in
theorem shp_piece {n t : Nat} {x : D} (h : shp E n t x) : x.isAgg = true ∨ x.one = true:=by
 cases n with
 | zero=>exact h.elim
 | succ n=>
  simp only [shp] at h
  split at h
  ·obtain ⟨k,rfl,_⟩:=h;exact .inr rfl
  ·obtain ⟨k,rfl⟩:=h;exact .inr rfl
  ·obtain ⟨k,rfl,_⟩:=h;exact .inr rfl
  ·obtain ⟨k,rfl,_⟩:=h;exact .inr rfl
  ·obtain ⟨k,rfl,_⟩:=h;exact .inl rfl
  ·obtain ⟨k,rfl,_⟩:=h;exact .inl rfl
  ·exact h.elim
end
end Dw
namespace Dw
open Go Go.RowKit Go.ChangeShapes
def St.entry (W : World) : St:=⟨0,fun _=>none,fun b=>b < W.heap.size,fun _=>False,fun _=>False,fun b=>b < W.heap.size⟩
theorem WR.entry (W : World) : WR W.heap.size W W (St.entry W) [] where
 below:=Below.refl _ _
 base:=Nat.le_refl _
 len:=rfl
 obj:=fun id o h=>by simp at h
 mobj:=fun id o h=>by simp at h
 dom:=fun id r h=>by simp [St.entry] at h
 inj:=fun i j r s h=>by simp [St.entry] at h
 stab:=fun b h=>h
 live:=fun id r o h=>by simp [St.entry] at h
 frz:=fun id r o h=>by simp [St.entry] at h
 gho:=fun id h=>h.elim
 x:=⟨fun id r h=>by simp [St.entry] at h,fun b h=>.inl h,fun b h=>h.elim⟩
def shps (E : TE) (n : Nat) : List Nat → List D → Prop
 | [],xs=>xs = []
 | t :: ts,xs=>∃ x r,xs = x :: r ∧ shp E n t x ∧ shps E n ts r
section
variable {P : Program} {E : TE} (hE : EOK P E) {H : Type} {enc : TypeId × Value → H}
include hE
omit hE in
theorem args_stay {W W' : World} (hl : laidOutB P = true) (hb : Below W.heap.size W W') : ∀ (ts : List Nat) (vs : List Value) (ds : List (DataW H)) (ps : List MemPlace),(∀ t ∈ ts,P.readableRec t = true ∧ t < P.types.size) →
  DataW.TrodAll enc P W 0 (fun _=>true) true ts vs ds ps → (∀ x ∈ ps,x.block < W.heap.size) → DataW.TrodAll enc P W' 0 (fun b=>decide (b < W.heap.size)) true ts vs ds ps
 | [],vs,ds,ps,_,h,_=>by
  obtain ⟨rfl,rfl,rfl⟩:=trodAll_nil h
  rfl
 | t :: ts,vs,ds,ps,hr,h,hp=>by
  obtain ⟨v, vs', d, ds', p, q, rfl, rfl, rfl, h1, h2⟩ := trodAll_cons h
  exact ⟨p,q,Below.trod hl (hr t (by simp)).1 (hr t (by simp)).2 h1 hb (fun x hx=>hp x (by simp [hx])),args_stay hl hb ts vs' ds' q (fun u hu=>hr u (by simp [hu])) h2 (fun x hx=>hp x (by simp [hx])),rfl⟩
end
end Dw
