/-
  Own lemmas, no conditions: DwZp, DwZzd, DwZo, DwZq, DwZr, DwZs, DwZt, DwZu, DwZv, DwZw, DwZx, DwZy, DwZz, DwZza, DwZzb.
-/
import Derived.Test.YtkeeienjocbkbaaGreatDoorGrpC
import Derived.Lib.Overlaps
import Derived.Calls
import Derived.RangeFuncFrom
import Derived.LoopNIn
import Derived.OrdersIn
set_option linter.unusedVariables false
set_option linter.unusedSimpArgs false
namespace Dw
open Go
theorem embs_views1 {σ : List Nat} (H : Heap) (args : List AV) (xs : List D) (F : List Nat) (hF : ∀ id ∈ args.flatMap (reach 8 H),id ∈ F) (hv : vl (view 8 H) args = some xs) : embs σ F H (xs.map .d) args:=by
 have:=embs_views H args xs F hF hv
 have key : ∀ (ys : List D) (bs : List AV),embs [] F H (ys.map .d) bs → embs σ F H (ys.map .d) bs:=by
  intro ys
  induction ys with
  | nil=>intro bs h;cases bs with
   | nil=>trivial
   | cons a bs=>exact h.elim
  | cons y ys ih=>intro bs h;cases bs with
   | nil=>exact h.elim
   | cons a bs=>exact ⟨h.1,ih bs h.2⟩
 exact key xs args this
theorem view_ptr {n : Nat} {h : Heap} {id e off : Nat} {o : AO} {x : AV} {d : D} (h1 : h[id]? = some o) (hst : o.st < 2) (he : o.elems[e]? = some x) (hv : view n h x = some d) : view (n + 1) h (.ptr id e off) = some (.fp d off):=by
 show (match h[id]? with
  | some o=>if o.st < 2 then (match o.elems[e]? with | some x=>(view n h x).map (D.fp · off) | none=>none) else none
  | none=>none) = _
 simp only [h1,if_pos hst,he,hv,Option.map_some]
theorem nthK_row {α : Type} {g : α → D} {l : List α} {n : Nat} {K : AV → Prop} (h : n < l.length) (hk : K (.d (g l[n]))) : nthK ((l.map g).map AV.d) n K:=
 nthK_of (x:=.d (g l[n])) (by simp [h]) hk
end Dw
namespace Dw
open Go Go.RowKit
def AV.off0 : AV → Bool
 | .d _=>true
 | .nilS=>true
 | .sl (_ + 1) _ _ _ _=>true
 | _=>false
def St.room (st : St) (c : Nat) : St:={ st with ρ:=fun i=>if i = 0 then (st.ρ 0).map (fun r=>{ r with n:=c }) else st.ρ i }
theorem aC_room {w : World} {st : St} {c : Nat} {x : AV} {us : List Value} (hx : x.off0 = true) (h : aC w st x us) : aC w (st.room c) x us:=by
 cases x
 case d d=>simpa [aC,St.room] using h
 case nilS=>simpa [aC] using h
 case sl id s l k cp=>
  cases id with
  | zero=>cases hx
  | succ id=>simpa [aC,St.room] using h
 all_goals cases hx
theorem aVs_room {w : World} {st : St} {c : Nat} {l : List AV} {vs : List Value} (hx : ∀ x ∈ l,x.off0 = true) (h : aVs w st l vs) : aVs w (st.room c) l vs:=by
 rw [aVs_iff] at *
 refine ⟨h.1,fun i x v h1 h2=>?_⟩
 obtain ⟨us,u1,u2⟩:=h.2 i x v h1 h2
 exact ⟨us,u1,aC_room (hx x (List.mem_iff_getElem?.2 ⟨i,h1⟩)) u2⟩
theorem run_grow {P : Program} {f n k : Nat} {elems : List AV} {args : List AV} {H H' : Heap} {j len k' : Nat} {D1 : AO}
  (hn : elems.length = n) (he : ∀ x ∈ elems,x.off0 = true) (ha : ∀ x ∈ args,x.off0 = true) (hH : ∀ o ∈ H,∀ x ∈ o.elems,x.off0 = true)
  (hD : D1.st = 2) (hj : ∃ o,H'[j]? = some o ∧ o.elems.length = len ∧ o.st < 2)
  (hr : ∀ c,n ≤ c → ∃ q,Run P f (.sl 0 0 n k (some c) :: args) (⟨elems ++ List.replicate (c - n) .junk,k,0⟩ :: H) (.sl (j + 1) 0 len k' q) (D1 :: H')) :
  Run P f (.sl 0 0 n k none :: args) (⟨elems,k,0⟩ :: H) (.sl (j + 1) 0 len k' none) (D1 :: H'):=by
 intro B W w st vs hw hv
 simp only [aVs] at hv
 obtain ⟨v,vr,us,rfl,u1,u2,hvr⟩:=hv
 have hv0 : aV w st (.sl 0 0 n k none) v:=⟨us,u1,u2⟩
 obtain ⟨a,c,rfl,a1,a2,a3,a4,a5,a6⟩:=aV_sl.1 hv0
 obtain ⟨r,hr0,hobj⟩:=hw.obj 0 _ rfl (by simp) a2
 obtain ⟨r1,r2,r3,r4⟩:=a6 r hr0
 have hrn:=hobj.n
 simp only at hrn
 have hρ : (st.room c).ρ 0 = some { r with n:=c }:=by simp [St.room,hr0]
 have hne : ∀ {i},i ≠ 0 → (st.room c).ρ i = st.ρ i:=fun h=>by simp [St.room,h]
 have hsome : ∀ {i s}, (st.room c).ρ i = some s → ∃ s', st.ρ i = some s' ∧ s.b = s'.b ∧ s.m = s'.m := by
  intro i s hs
  by_cases h0 : i = 0
  ·subst h0
   rw [hρ] at hs;cases hs
   exact ⟨r,hr0,rfl,rfl⟩
  ·rw [hne h0] at hs;exact ⟨s,hs,rfl,rfl⟩
 have hget : ∀ {i o},(⟨elems ++ List.replicate (c - n) .junk,k,0⟩ :: H : Heap)[i]? = some o → (i = 0 ∧ o = ⟨elems ++ List.replicate (c - n) .junk,k,0⟩) ∨ (i ≠ 0 ∧ (⟨elems,k,0⟩ :: H : Heap)[i]? = some o):=by
  intro i o h
  cases i with
  | zero=>left;simp at h;exact ⟨rfl,h.symm⟩
  | succ i=>right;exact ⟨by simp,by simpa using h⟩
 have hmem : ∀ {i : Nat} {o : AO},(⟨elems,k,0⟩ :: H : Heap)[i]? = some o → ∀ x ∈ o.elems,x.off0 = true:=by
  intro i o h
  cases i with
  | zero=>simp at h;subst h;exact he
  | succ i=>exact hH o (List.mem_iff_getElem?.2 ⟨i,by simpa using h⟩)
 have hst : ∀ {i : Nat} {o : AO}, (⟨elems ++ List.replicate (c - n) .junk, k, 0⟩ :: H : Heap)[i]? = some o → ∃ o', (⟨elems, k, 0⟩ :: H : Heap)[i]? = some o' ∧ o'.st = o.st := by
  intro i o h
  rcases hget h with ⟨rfl,rfl⟩ | ⟨h1,h2⟩
  ·exact ⟨_,rfl,rfl⟩
  ·exact ⟨o,h2,rfl⟩
 have hcell : ∀ (i : Nat) (o : AO) (s : Blk),(⟨elems,k,0⟩ :: H : Heap)[i]? = some o → ObjC B w st s o → ObjC B w (st.room c) s o:=by
  intro i o s ho hc
  refine ⟨hc.n,hc.m,hc.k,hc.k0,fun hm=>?_⟩
  obtain ⟨b1,cs,e,fr,m1,m2,m3,m4⟩:=hc.mem hm
  refine ⟨b1,cs,e,fr,m1,m2,m3,fun q x hx=>?_⟩
  obtain ⟨us,e1,e2,e3⟩:=m4 q x hx
  exact ⟨us,e1,aC_room (hmem ho x (List.mem_iff_getElem?.2 ⟨q,hx⟩)) e2,e3⟩
 have hw1 : WR B W w (st.room c) (⟨elems ++ List.replicate (c - n) .junk,k,0⟩ :: H):=by
  refine ⟨hw.below,hw.base,by simpa [St.room] using hw.len,fun i o h1 h2 h3=>?_,fun i o h1 h2 h3=>?_,fun i s hs=>?_,fun p q s t hp hq h1 h2 h3=>?_,hw.stab,fun i s o hs h1 h2 h3=>?_,fun i s o hs h1 h2 h3=>?_,hw.gho,fun i s hs hm=>?_,hw.x.low,hw.x.ub⟩
  ·rcases hget h1 with ⟨rfl,rfl⟩ | ⟨hi,h1'⟩
   ·refine ⟨_,hρ,by simp [hn];omega,by simp;omega,hobj.k,hobj.k0,fun hm=>?_⟩
    obtain ⟨b1,cs,e,fr,m1,m2,m3,m4⟩:=hobj.mem hm
    refine ⟨b1,cs,e,fr,m1,m2,m3,fun q x hx=>?_⟩
    simp only at hx
    rw [List.getElem?_append] at hx
    split at hx
    ·obtain ⟨us,e1,e2,e3⟩:=m4 q x hx
     exact ⟨us,e1,aC_room (he x (List.mem_iff_getElem?.2 ⟨q,hx⟩)) e2,e3⟩
    ·rename_i hq
     rw [List.getElem?_replicate] at hx
     split at hx
     ·rename_i hq2
      cases hx
      have hqc : q < r.m:=by omega
      have hq1 : (q + 1) * r.k ≤ r.m * r.k:=Nat.mul_le_mul_right _ hqc
      rw [Nat.add_mul,Nat.one_mul] at hq1
      refine ⟨(cs.toList.drop (r.o + q * r.k)).take r.k,?_,trivial,(memAt_iff _ _).2 fun z v hz=>?_⟩
      ·simp only [List.length_take,List.length_drop,Array.length_toList];omega
      ·rw [List.getElem?_take] at hz
       split at hz
       ·rw [List.getElem?_drop,Array.getElem?_toList] at hz
        rw [cell_blk m1];exact hz
       ·cases hz
     ·cases hx
   ·obtain ⟨s,e1,e2⟩:=hw.obj i o h1' h2 h3
    exact ⟨s,by rw [hne hi];exact e1,hcell i o s h1' e2⟩
  ·rcases hget h1 with ⟨rfl,rfl⟩ | ⟨hi,h1'⟩
   ·simp at h2
   ·obtain ⟨s,e1,e2⟩:=hw.mobj i o h1' h2 h3
    exact ⟨s,by rw [hne hi];exact e1,e2⟩
  ·obtain ⟨s', e1, _, _⟩ := hsome hs
   obtain ⟨o,o1,o2,o3⟩:=hw.dom i s' e1
   cases i with
   | zero=>exact ⟨_,rfl,by simp,o3⟩
   | succ i=>exact ⟨o,by simpa using o1,o2,o3⟩
  ·obtain ⟨s', e1, e2, e3⟩ := hsome hp
   obtain ⟨t', f1, f2, f3⟩ := hsome hq
   exact hw.inj p q s' t' e1 f1 (by omega) (by omega) (by omega)
  ·obtain ⟨s', e1, e2, e3⟩ := hsome hs
   obtain ⟨o', f1, f2⟩ := hst h1
   rw [e2];exact hw.live i s' o' e1 f1 (by omega) (by omega)
  ·obtain ⟨s', e1, e2, e3⟩ := hsome hs
   obtain ⟨o', f1, f2⟩ := hst h1
   rw [e2];exact hw.frz i s' o' e1 f1 (by omega) (by omega)
  ·obtain ⟨s', e1, e2, e3⟩ := hsome hs
   rw [e2];exact hw.x.own i s' e1 (by omega)
 have hv1 : aV w (st.room c) (.sl 0 0 n k (some c)) (.slice a n c):=aV_sl.2 ⟨a,c,rfl,a1,a2,a3,a4,fun c' h=>by cases h;rfl,fun s hs=>by
  rw [hρ] at hs;cases hs
  exact ⟨r1,r2,r3,fun h=>by cases h⟩⟩
 obtain ⟨us1,u11,u12⟩:=hv1
 obtain ⟨q,hrun⟩:=hr c a3
 have hgood:=hrun B W w (st.room c) (.slice a n c :: vr) hw1 (by
  simp only [aVs]
  exact ⟨_,_,us1,rfl,u11,u12,aVs_room ha hvr⟩)
 refine Good.mono (fun v w' hp=>?_) hgood
 obtain ⟨st', p1, p2, p3, p4⟩ := hp
 refine ⟨st', p1, ?_, ⟨p3.n, fun i hi hg s hs => ?_, p3.S, p3.G, p3.U⟩, p4⟩
 ·obtain ⟨o,o1,o2,o3⟩:=hj
  obtain ⟨a', c', rfl, b1, b2, b3, b4, b5, b6⟩ := aV_sl.1 p2
  refine aV_sl.2 ⟨a', c', rfl, b1, b2, b3, b4, (fun _ h => by cases h), fun s hs => ?_⟩
  obtain ⟨s1,s2,s3,s4⟩:=b6 s hs
  obtain ⟨s', t1, t2⟩ := p1.obj (j + 1) o (by simpa using o1) o3 b2
  rw [hs] at t1;cases t1
  have:=t2.n
  exact ⟨s1,s2,s3,fun _=>by omega⟩
 ·have h:=p3.ρ i hi hg s hs
  by_cases h0 : i = 0
  ·subst h0
   obtain ⟨o,o1,o2,o3⟩:=p1.dom 0 s hs
   simp at o1
   subst o1
   omega
  ·rwa [hne h0] at h
theorem run_overlaps {P : Program} {f tS tR e k : Nat} (ht : P.underlying tS = some (.slice e)) (hz : ∀ w,(Go.sizeOf e).run P w = .ok k w)
  (hcall : ∀ (vs : Array Value) (w : World),(callFunc f vs).run P w = ((Extern.SlicesOverlaps.overlaps #[tS,tS] #[tR] vs).run P w).andThen fun v w'=>.ok (.value v) w')
  {h : Heap} {i1 s1 l1 i2 s2 l2 : Nat} {c1 c2 : Option Nat} (o1 o2 : AO) (h1 : h[i1]? = some o1) (h2 : h[i2]? = some o2) (t1 : o1.st < 2) (t2 : o2.st < 2) (hne : i1 ≠ i2) (hk : k ≠ 1) (p1 : 0 < l1) (p2 : 0 < l2) :
  Run P f [.sl i1 s1 l1 k c1,.sl i2 s2 l2 k c2] h (.d (.bool false)) h:=by
 intro B W w st vs hw hv
 simp only [aVs] at hv
 obtain ⟨v1,r1,us1,rfl,x1,y1,v2,r2,us2,rfl,x2,y2,rfl⟩:=hv
 have g1 : aV w st (.sl i1 s1 l1 k c1) v1:=⟨us1,x1,y1⟩
 have g2 : aV w st (.sl i2 s2 l2 k c2) v2:=⟨us2,x2,y2⟩
 obtain ⟨a,ca,rfl,a1,a2,a3,a4,a5,a6⟩:=aV_sl.1 g1
 obtain ⟨b,cb,rfl,b1,b2,b3,b4,b5,b6⟩:=aV_sl.1 g2
 obtain ⟨r,hr,hobj⟩:=hw.obj i1 o1 h1 t1 a2
 obtain ⟨q,hq,hob2⟩:=hw.obj i2 o2 h2 t2 b2
 obtain ⟨e1,e2,e3,e4⟩:=a6 r hr
 obtain ⟨f1,f2,f3,f4⟩:=b6 q hq
 have hm1 : r.m ≠ 0:=by omega
 have hm2 : q.m ≠ 0:=by omega
 obtain ⟨_,cs,el,fr,m1,m2,m3,m4⟩:=hobj.mem hm1
 obtain ⟨_,cs2,el2,fr2,n1,n2,n3,n4⟩:=hob2.mem hm2
 have ha:=e3 (by omega)
 have hb:=f3 (by omega)
 subst ha;subst hb
 have hkp:=hob2.k0
 have hq0 : 0 < q.m * q.k:=Nat.mul_pos (by omega) hkp
 have hin : (s1 + 1) * r.k ≤ r.m * r.k:=Nat.mul_le_mul_right _ (by omega)
 rw [Nat.add_mul,Nat.one_mul] at hin
 have hk1:=hobj.k0
 have hblk : r.b ≠ q.b:=fun h=>hne (hw.inj i1 i2 r q hr hq hm1 hm2 h)
 rw [hcall]
 have:=Go.Lib.run_overlaps_apart (P:=P) w tS tR e ht k hz ⟨r.b,r.o + s1 * r.k,none⟩ ⟨q.b,q.o + s2 * q.k,none⟩ l1 ca l2 cb hblk el el2 cs.size cs2.size
  (by simp [World.shape?,m1]) (by simp [World.shape?,n1]) (by omega) (frozen_blk m1 _ (m3 _ (by omega) (.inl (by omega)))) (frozen_blk m1 _ (m3 _ (by omega) (.inr ⟨by omega,rfl⟩)))
 rw [this]
 exact ⟨st,hw,aV_bool.2 rfl,Ext.refl _ _,rfl⟩
end Dw
namespace Dw
open Go Go.RowKit
end Dw
namespace Dw
open Go Go.RowKit
inductive Orc where
 | clone (k : Nat)
 | fn (g : List D → Option D)
section
variable {P : Program} {E : TE} (hE : EOK P E)
include hE
end
end Dw
namespace Dw
open Go Go.RowKit
def RunG (P : Program) (GW : Nat → World → Prop) : CRel:=fun f a h r h'=>∀ B W,GW B W → RunAt P B W f a h r h'
section
variable {P : Program} {GW : Nat → World → Prop}
theorem RunG.sub {B : Nat} {W : World} (h : GW B W) : Sub P B W (RunG P GW):=.of fun _ _ _ _ _ hr=>hr B W h
end
end Dw
namespace Dw
open Go Go.RowKit
theorem srcB {l : List AV} {s len : Nat} {K : List AV → Prop} (h1 : s + len ≤ l.length) (h2 : ((l.drop s).take len).all AV.known = true) (hk : K ((l.drop s).take len)) : s + len ≤ l.length ∧ dropK l s (fun r=>onBool (r.length == len) (onOk (r.all AV.known) (K r)) (onOk ((r.take len).all AV.known) (takeK r len K))):=by
 refine ⟨h1,?_⟩
 rw [dropK_eq]
 by_cases h : ((l.drop s).length == len) = true
 ·refine onBool_t h (onOk_of ?_ ?_)
  ·have e : (l.drop s).take len = l.drop s:=List.take_of_length_le (by have:=beq_iff_eq.1 h;omega)
   rwa [e] at h2
  ·have e : (l.drop s).take len = l.drop s:=List.take_of_length_le (by have:=beq_iff_eq.1 h;omega)
   rwa [e] at hk
 ·refine onBool_f (by simpa using h) (onOk_of h2 ?_)
  rw [takeK_eq];exact hk
end Dw
namespace Dw
open Go Go.RowKit
theorem out_dstK (d : Option Nat) (v : AV) (T : List AV) : Out (dstK d v T):=by
 show Out (fun K=>dstK d v T K)
 unfold dstK
 split
 ·simp only [setK_eq];exact out_ret
 ·exact out_ret
abbrev KT:=List AV × Heap → Prop
theorem out_guardD {α : Type} (all : List Oper) (T : List AV) (g : Option (Nat × Bool)) {A B : List AV → (α → Prop) → Prop} (hA : ∀ T,Out (A T)) (hB : ∀ T,Out (B T)) : Out (fun K=>guardD all T g (fun T=>A T K) (fun T=>B T K)):=by
 unfold guardD
 split
 ·exact hA T
 ·split
  ·simp only [getK_eq]
   split
   ·simp only [setK_eq]
    exact out_bool (out_bool (hA _) (hB _)) (out_bool (hB _) (hA _))
   ·exact hB T
   ·exact out_false
  ·exact out_false
theorem out_op {α : Type} {E : TE} {R : Rel} {T : List AV} {h : Heap} {o : Op} {G : AV → Heap → (α → Prop) → Prop} (g : ∀ v h', Out (G v h')) : Out (fun K => opD E R T h o (fun v h' => G v h' K)) := fun K hk => by
 obtain ⟨v, h', h1, h2⟩ := opD_out hk
 obtain ⟨a,h3,h4⟩:=g v h' K h1
 exact ⟨a,h3,fun K' h5=>h2 _ (h4 K' h5)⟩
theorem out_regD (E : TE) (R : Rel) (all : List Oper) : ∀ (l : List Oper) (T : List AV) (h : Heap),Out (fun K : KT=>regD E R all l T h (fun T h=>K (T,h)))
 | [],T,h=>by simp only [regD];exact out_ret
 | o :: l,T,h=>by
  simp only [regD]
  refine out_guardD (α:=List AV × Heap) all T o.guard (A:=fun T K=>opD E R T h o.op (fun v h'=>dstK o.dst v T (fun T'=>regD E R all l T' h' (fun T h=>K (T,h))))) (B:=fun T K=>dstK o.dst .und T (fun T'=>regD E R all l T' h (fun T h=>K (T,h)))) (fun T=>?_) (fun T=>?_)
  ·exact out_op (G:=fun v h' K=>dstK o.dst v T (fun T'=>regD E R all l T' h' (fun T h=>K (T,h)))) fun v h'=>out_bind (out_dstK o.dst v T) fun T'=>out_regD E R all l T' h'
  ·exact out_bind (out_dstK o.dst .und T) fun T'=>out_regD E R all l T' h
theorem out_readsK {α : Type} (T : List AV) (o : Op) {G : Option Nat → (α → Prop) → Prop} (g : ∀ r,Out (G r)) : Out (fun K=>readsK T o (fun r=>G r K)):=by
 unfold readsK
 split<;>(try exact g none)<;>(rw [show (opndK T _ : (AV → Prop) → Prop) = _ from rfl];simp only [opndK_eq];split<;>exact g _)
theorem out_evD {α : Type} (ps : List (Nat × Nat)) (e : Ev) : ∀ (l : List Ev) {F : (α → Prop) → Prop},Out F → Out (fun K=>evD ps e l (F K))
 | [],F,hF=>by cases e<;>(simp only [evD];exact hF)
 | x :: l,F,hF=>by
  have ih:=out_evD ps e l hF
  cases e<;>cases x<;>simp only [evD]<;>first | exact ih | exact out_bool (out_and ih) ih
theorem out_drawR (E : TE) (R : Rel) (all : List Oper) (ps : List (Nat × Nat)) : ∀ (l : List (Nat × Oper)) (L : List Ev) (T : List AV) (h : Heap),Out (fun K : KT=>drawR E R all ps l L T h (fun T h=>K (T,h)))
 | [],L,T,h=>by simp only [drawR];exact out_ret
 | (i,o) :: l,L,T,h=>by
  simp only [drawR]
  refine out_guardD (α:=List AV × Heap) all T o.guard (A:=fun T K=>opD E R T h o.op (fun v h'=>dstK o.dst v T (fun T'=>
    match cls E o.op with
    | 0=>drawR E R all ps l L T' h' (fun T h=>K (T,h))
    | 1=>readsK T o.op (fun r=>match r with
     | some id=>evD ps (.read i id) L (drawR E R all ps l (.read i id :: L) T' h' (fun T h=>K (T,h)))
     | none=>drawR E R all ps l L T' h' (fun T h=>K (T,h)))
    | 2=>match v with
     | .ptr id _ _=>drawR E R all ps l (.made i id :: L) T' h' (fun T h=>K (T,h))
     | _=>False
    | _=>evD ps (.heap i h h') L (drawR E R all ps l (.heap i h h' :: L) T' h' (fun T h=>K (T,h)))))) (B:=fun T K=>dstK o.dst .und T (fun T'=>drawR E R all ps l L T' h (fun T h=>K (T,h)))) (fun T=>?_) (fun T=>?_)
  ·refine out_op (G:=fun v h' K=>dstK o.dst v T (fun T'=>_)) fun v h'=>out_bind (out_dstK o.dst v T) (G:=fun T' K=>match cls E o.op with
    | 0=>drawR E R all ps l L T' h' (fun T h=>K (T,h))
    | 1=>readsK T o.op (fun r=>match r with
     | some id=>evD ps (.read i id) L (drawR E R all ps l (.read i id :: L) T' h' (fun T h=>K (T,h)))
     | none=>drawR E R all ps l L T' h' (fun T h=>K (T,h)))
    | 2=>match v with
     | .ptr id _ _=>drawR E R all ps l (.made i id :: L) T' h' (fun T h=>K (T,h))
     | _=>False
    | _=>evD ps (.heap i h h') L (drawR E R all ps l (.heap i h h' :: L) T' h' (fun T h=>K (T,h)))) fun T'=>?_
   split
   ·exact out_drawR E R all ps l L T' h'
   ·refine out_readsK T o.op (G:=fun r K=>match r with
     | some id=>evD ps (.read i id) L (drawR E R all ps l (.read i id :: L) T' h' (fun T h=>K (T,h)))
     | none=>drawR E R all ps l L T' h' (fun T h=>K (T,h))) fun r=>?_
    cases r with
    | none=>exact out_drawR E R all ps l L T' h'
    | some id=>exact out_evD ps _ L (out_drawR E R all ps l _ T' h')
   ·split
    ·exact out_drawR E R all ps l _ T' h'
    ·exact out_false
   ·exact out_evD ps _ L (out_drawR E R all ps l _ T' h')
  ·exact out_bind (out_dstK o.dst .und T) fun T'=>out_drawR E R all ps l L T' h
abbrev KX:=Ex × List AV × Heap → Prop
theorem out_cutD {C V : List Nat} {n0 id : Nat} {T : List AV} {h : Heap} {F : List AV → Heap → (KX) → Prop} (hF : ∀ T h,Out (F T h)) : Out (fun K : KX=>cutD C V n0 id T h (fun T h=>F T h K)):=by
 unfold cutD
 split
 ·exact out_ex fun T1=>out_ex fun h1=>out_and (hF T1 h1)
 ·exact hF T h
theorem out_iterD {V : List Nat} {n0 : Nat} {W : List AV → Heap → (Ex → List AV → Heap → Prop) → Prop} (hW : ∀ T h,Out (fun K : KX=>W T h (fun ex T h=>K (ex,T,h)))) : ∀ (n : Nat) (T : List AV) (h : Heap),Out (fun K : KX=>iterD V n0 W (fun ex T h=>K (ex,T,h)) n T h)
 | 0,T,h=>out_false
 | n + 1,T,h=>by
  simp only [iterD]
  refine out_ex fun T1=>out_ex fun h1=>out_and ?_
  refine out_bind (F:=fun K : KX=>W T1 h1 (fun ex T h=>K (ex,T,h))) (G:=fun (x : Ex × List AV × Heap) (K : KX)=>match x.1 with
   | .normal=>iterD V n0 W (fun ex T h=>K (ex,T,h)) n x.2.1 x.2.2
   | .exit id=>K (.exit id,x.2.1,x.2.2)
   | .ret=>K (.ret,x.2.1,x.2.2)) (hW T1 h1) fun x=>?_
  obtain ⟨ex, T', h'⟩ := x
  cases ex with
  | normal=>exact out_iterD hW n T' h'
  | exit id=>exact out_ret
  | ret=>exact out_ret
theorem out_codeD (E : TE) (R : Rel) (C V : List Nat) (n0 : Nat) : ∀ (c : Code) (T : List AV) (h : Heap),Out (fun K : KX=>codeD E R C V n0 c T h (fun ex T h=>K (ex,T,h)))
 | .skip,T,h=>by simp only [codeD];exact out_ret
 | .region id ops false,T,h=>by
  simp only [codeD]
  exact out_cutD (F:=fun T h K=>regD E R ops.toList ops.toList T h (fun T h=>K (.normal,T,h))) fun T h K hk=>by
   obtain ⟨⟨T', h'⟩, h1, h2⟩ := out_regD E R ops.toList ops.toList T h (fun p => K (.normal, p.1, p.2)) hk
   exact ⟨(.normal, T', h'), h1, fun K' h3 => h2 (fun p => K' (.normal, p.1, p.2)) h3⟩
 | .region id ops true,T,h=>by
  simp only [codeD]
  exact out_cutD (F:=fun T h K=>drawD E R.mute ops.toList T h (fun T h=>K (.normal,T,h))) fun T h K hk=>by
   obtain ⟨fl,ps,hd,hk⟩:=hk
   obtain ⟨⟨T', h'⟩, h1, h2⟩ := out_drawR (flagE E fl) R.mute ops.toList ps _ [] T h (fun p => K (.normal, p.1, p.2)) hk
   exact ⟨(.normal, T', h'), h1, fun K' h3 => ⟨fl, ps, hd, h2 (fun p => K' (.normal, p.1, p.2)) h3⟩⟩
 | .seq x y,T,h=>by
  simp only [codeD]
  refine out_bind (F:=fun K : KX=>codeD E R C V n0 x T h (fun ex T h=>K (ex,T,h))) (G:=fun (p : Ex × List AV × Heap) (K : KX)=>match p.1 with
   | .normal=>codeD E R C V n0 y p.2.1 p.2.2 (fun ex T h=>K (ex,T,h))
   | .exit id=>K (.exit id,p.2.1,p.2.2)
   | .ret=>K (.ret,p.2.1,p.2.2)) (out_codeD E R C V n0 x T h) fun p=>?_
  obtain ⟨ex, T', h'⟩ := p
  cases ex with
  | normal=>exact out_codeD E R C V n0 y T' h'
  | exit id=>exact out_ret
  | ret=>exact out_ret
 | .cond c x y,T,h=>by
  simp only [codeD]
  unfold condK
  split
  ·simp only [getK_eq]
   split
   ·simp only [setK_eq]
    exact out_bool (out_codeD E R C V n0 x _ h) (out_codeD E R C V n0 y _ h)
   ·exact out_false
  ·exact out_bool (out_codeD E R C V n0 x _ h) (out_codeD E R C V n0 y _ h)
  ·exact out_false
 | .block id c,T,h=>by
  simp only [codeD]
  refine out_bind (F:=fun K : KX=>codeD E R C V n0 c T h (fun ex T h=>K (ex,T,h))) (G:=fun (p : Ex × List AV × Heap) (K : KX)=>match p.1 with
   | .normal=>K (.normal,p.2.1,p.2.2)
   | .exit i=>onBool (Nat.beq i id) (K (.normal,p.2.1,p.2.2)) (K (.exit i,p.2.1,p.2.2))
   | .ret=>K (.ret,p.2.1,p.2.2)) (out_codeD E R C V n0 c T h) fun p=>?_
  obtain ⟨ex, T', h'⟩ := p
  cases ex with
  | normal=>exact out_ret
  | exit id=>exact out_bool out_ret out_ret
  | ret=>exact out_ret
 | .loop c,T,h=>by
  simp only [codeD]
  exact out_ex fun n=>out_iterD (fun T h=>out_codeD E R C V n0 c T h) n T h
 | .exit id,T,h=>by simp only [codeD];exact out_ret
 | .ret,T,h=>by simp only [codeD];exact out_ret
 | .rangeFunc ..,T,h=>by simp only [codeD];exact out_false
 | .scope ..,T,h=>by simp only [codeD];exact out_false
 | .label ..,T,h=>by simp only [codeD];exact out_false
 | .goto ..,T,h=>by simp only [codeD];exact out_false
 | .refuse ..,T,h=>by simp only [codeD];exact out_false
theorem out_resD (E : TE) (h : Heap) (T : List AV) : ∀ (rs : List ResultVar),Out (resD E h T rs)
 | []=>by show Out (fun K=>resD E h T [] K);simp only [resD];exact out_ret
 | .tmp t :: l=>by
  show Out (fun K=>resD E h T (.tmp t :: l) K)
  simp only [resD,getK_eq]
  exact out_bind (out_resD E h T l) fun _=>out_ret
 | .cell a t :: l=>by
  show Out (fun K=>resD E h T (.cell a t :: l) K)
  simp only [resD,getK_eq]
  exact out_bind (out_loadD _ _ _) fun v=>out_bind (out_resD E h T l) fun _=>out_ret
structure EndQ (Q : AV → Heap → Prop) (a : AV) (h : Heap) : Prop where
 stop : Stop
 out : Q a h
noncomputable def endFQ (E : TE) (rs : List ResultVar) (Q : AV → Heap → Prop) : Ex → Env → Heap → Prop
 | .exit _,_,_=>False
 | .normal,A,h=>resF E h A rs (fun l=>EndQ Q (tupD l) h)
 | .ret,A,h=>resF E h A rs (fun l=>EndQ Q (tupD l) h)
noncomputable def BodyQ (E : TE) (R : Rel) (fn : Func) (args : List AV) (h : Heap) (Q : AV → Heap → Prop) : Prop:=
 match fn.body with
 | some c=>codeF E R [] [] h.length c (startF 0 args) h (endFQ E fn.results.toList Q)
 | none=>False
theorem start_rep {fn : Func} {c : Code} (args : List AV) (hbd : bdC fn.ntmps c = true) : ∃ N,Rep N (args ++ List.replicate (fn.ntmps - args.length) .junk) (startF 0 args) ∧ bdC N c = true:=by
 by_cases hN : args.length ≤ fn.ntmps
 ·refine ⟨fn.ntmps,⟨by simp;omega,fun n=>?_⟩,hbd⟩
  rw [look_startF,if_pos (Nat.zero_le _),Nat.sub_zero,nth_get,nth_get]
  by_cases hi : n < args.length
  ·rw [List.getElem?_append_left hi]
  ·rw [List.getElem?_append_right (by omega),List.getElem?_eq_none (by omega),List.getElem?_replicate]
   split<;>rfl
 ·refine ⟨args.length,?_,?_⟩
  ·have h0 : fn.ntmps - args.length = 0:=by omega
   rw [h0]
   refine ⟨by simp,fun n=>?_⟩
   rw [look_startF,if_pos (Nat.zero_le _),Nat.sub_zero]
   simp
  ·have hm : ∀ (o : Oper),bdO fn.ntmps o = true → bdO args.length o = true:=by
    intro o ho
    cases hd : o.dst with
    | none=>simp [bdO,hd]
    | some t=>
     simp only [bdO,hd,Nat.blt_eq] at ho ⊢
     omega
   have hc : ∀ (c : Code),bdC fn.ntmps c = true → bdC args.length c = true:=by
    intro c
    induction c using bdC.induct with
    | case1 _ ops _=>intro h;simp only [bdC,List.all_eq_true] at h ⊢;exact fun o ho=>hm o (h o ho)
    | case2 a b iha ihb=>intro h;simp only [bdC,Bool.and_eq_true] at h ⊢;exact ⟨iha h.1,ihb h.2⟩
    | case3 _ a b iha ihb=>intro h;simp only [bdC,Bool.and_eq_true] at h ⊢;exact ⟨iha h.1,ihb h.2⟩
    | case4 _ c ih=>intro h;simp only [bdC] at h ⊢;exact ih h
    | case5 c ih=>intro h;simp only [bdC] at h ⊢;exact ih h
    | case6=>intro h;simp_all [bdC]
   exact hc c hbd
section
variable {P : Program} {E : TE} (hE : EOK P E)
include hE
end
end Dw
namespace Dw
open Go Go.RowKit
end Dw
namespace Dw
open Go Go.RowKit
end Dw
namespace Dw
open Go Go.RowKit
variable {ds : List Deferred}
def FW (ro : Option Nat) : Fence:={ Fence.wide with round:=ro }
theorem comesIn_fw {ro : Option Nat} {P : Program} {m m' : Machine} {e : Ending} : ComesIn (Machine.fenced P (FW ro)) P m m' e ↔ Comes P m m' e:=comesIn_wide
theorem callsIn_fw {ro : Option Nat} {n : Nat} {P : Program} {f : FuncId} {args : Array Value} {w : World} {R : Ending → World → Prop} (h : Calls P f args w R) : CallsIn (FW ro) n P f args w R:=
 ⟨trivial, fun cs _ => let ⟨e, w', fr, r, s, x⟩ := h cs; ⟨e, w', fr, r, comesIn_fw.2 s, x⟩⟩
theorem wpIn_of_good {ro : Option Nat} {n : Nat} {P : Program} {o : Oper} {a : Act} {N : Value → World → Prop} {next : Act → World → Prop} {Q : Exit → Act → World → Prop} {r : Result Next} (hn : ∀ v w', N v w' → next (a.put o.dst v) w') (h : Good P N r) : o.uponIn (FW ro) n P a next Q r := by
 unfold Good at h
 split at h
 ·exact hn _ _ h
 ·exact hn _ _ h
 ·refine ⟨fun h=>by simp [FW,Fence.wide] at h,callsIn_fw (Calls.mono h fun e w' he=>?_)⟩
  obtain ⟨v,rfl,hv⟩:=he
  exact hn _ _ hv
 ·exact h.elim
theorem WR.move {B : Nat} {W w w' : World} {st : St} {h : Heap} (hw : WR B W w st h) (hb : Below B W w') (hB : B ≤ w'.heap.size) (hU : ∀ b,st.U b → b < w'.heap.size) (hS : ∀ b,st.S b → w'.heap[b]? = w.heap[b]?) (hO : ∀ id r,st.ρ id = some r → r.m ≠ 0 → w'.heap[r.b]? = w.heap[r.b]?) :
  WR B W w' st h ∧ ExtC w st w' st:=by
 have hE : ExtC w st w' st:=⟨Nat.le_refl _,fun _ _ _ _ h=>h,fun b hb=>⟨hb,hS b hb⟩,fun _ _ h=>h⟩
 refine ⟨⟨hb,hB,hw.len,fun id o h1 h2 h3=>?_,fun id o h1 h2 h3=>?_,hw.dom,hw.inj,fun b hb=>?_,hw.live,hw.frz,hw.gho,hw.x.own,hw.x.low,hU⟩,hE⟩
 ·obtain ⟨r,e1,e2⟩:=hw.obj id o h1 h2 h3
  exact ⟨r,e1,e2.monoC hE (hO id r e1)⟩
 ·obtain ⟨r,e1,e2⟩:=hw.mobj id o h1 h2 h3
  exact ⟨r,e1,e2.keep (hO id r e1 e2.m)⟩
 ·have h1:=hw.stab b hb
  have h2:=hS b hb
  rw [Array.getElem?_eq_getElem h1] at h2
  exact (Array.getElem?_eq_some_iff.1 h2).1
def KeepR (R : Rel) : Prop := (∀ f a h r h', R.call f a h r h' → h'[0]? = h[0]?) ∧ ∀ a h r h', ¬ R.yld a h r h'
section
variable {B : Nat} {W w : World} {st : St} {h h' : Heap}
theorem not_zero_ptr {id e off : Nat} {v : Value} (hg : st.G 0) (h : aV w st (.ptr id e off) v) : id ≠ 0:=by
 obtain ⟨us,_,hc⟩:=h
 simp only [aC] at hc
 obtain ⟨_,_,_,_,h4,_⟩:=hc
 rintro rfl
 exact h4 hg
theorem not_zero_sl {id s len k : Nat} {cap : Option Nat} {v : Value} (hg : st.G 0) (h : aV w st (.sl id s len k cap) v) : id ≠ 0:=by
 obtain ⟨us,_,hc⟩:=h
 simp only [aC] at hc
 obtain ⟨_,_,_,_,h4,_⟩:=hc
 rintro rfl
 exact h4 hg
theorem not_zero_mp {id : Nat} {v : Value} (hg : st.G 0) (h : aV w st (.mp id) v) : id ≠ 0:=by
 obtain ⟨us,_,hc⟩:=h
 simp only [aC] at hc
 obtain ⟨_,_,_,h4,_⟩:=hc
 rintro rfl
 exact h4 hg
theorem set_zero {id : Nat} {x : AO} (hi : id ≠ 0) : (h.set id x)[0]? = h[0]?:=List.getElem?_set_ne hi
theorem snoc_zero {x : AO} (hl : 0 < h.length) : (h ++ [x])[0]? = h[0]?:=List.getElem?_append_left hl
theorem storeD_keep {t : TI} {a v : AV} {va : Value} (hg : st.G 0) (ha : aV w st a va) (hk : storeD t a v h (fun h1=>h1 = h')) : h'[0]? = h[0]?:=by
 unfold storeD at hk
 split at hk
 ·have hi:=not_zero_ptr hg ha
  obtain ⟨o,_,hk⟩:=(nthK_iff _ _).1 hk
  obtain ⟨_,hk⟩:=onOk_spec hk
  obtain ⟨x,_,hk⟩:=(nthK_iff _ _).1 hk
  obtain ⟨_,hk⟩:=onOk_spec hk
  rcases onBool_spec hk with ⟨_,hk⟩ | ⟨_,hk⟩
  ·simp only [setK_eq] at hk
   rw [← hk];exact set_zero hi
  ·obtain ⟨_,hk⟩:=onOk_spec hk
   simp only [setK_eq,putK_eq] at hk
   rw [← hk];exact set_zero hi
 ·exact hk.elim
theorem appD_keep {t : TI} {a : AV} {new : List AV} {va : Value} (hl : 0 < h.length) (hg : st.G 0) (ha : aV w st a va) (hk : appD t a new h (fun _ h1=>h1 = h')) : h'[0]? = h[0]?:=by
 unfold appD at hk
 obtain ⟨_,hk⟩:=onOk_spec hk
 split at hk
 ·obtain ⟨_,hk⟩:=hk
  rw [newD_eq] at hk
  rw [← hk];exact snoc_zero hl
 ·have hi:=not_zero_sl hg ha
  obtain ⟨o,_,hk⟩:=(nthK_iff _ _).1 hk
  obtain ⟨_,hk⟩:=onOk_spec hk
  obtain ⟨_,hk⟩:=onOk_spec hk
  rcases onBool_spec hk with ⟨_,hk⟩ | ⟨_,_,hk⟩
  ·simp only [setK_eq] at hk
   rw [← hk];exact set_zero hi
  ·simp only [setK_eq,dropK_eq,newD_eq] at hk
   rw [← hk,snoc_zero (by simpa using hl)];exact set_zero hi
 ·have hi:=not_zero_sl hg ha
  rcases onBool_spec hk with ⟨_,hk⟩ | ⟨_,hk⟩
  ·obtain ⟨o,_,hk⟩:=(nthK_iff _ _).1 hk
   obtain ⟨_,hk⟩:=onOk_spec hk
   obtain ⟨_,hk⟩:=onOk_spec hk
   obtain ⟨_,hk⟩:=hk
   simp only [setK_eq] at hk
   rw [← hk];exact set_zero hi
  ·obtain ⟨o,_,hk⟩:=(nthK_iff _ _).1 hk
   obtain ⟨_,hk⟩:=onOk_spec hk
   obtain ⟨_,hk⟩:=onOk_spec hk
   obtain ⟨_,hk⟩:=hk
   rw [newD_eq] at hk
   rw [← hk];exact snoc_zero hl
 ·exact hk.elim
theorem srcK_keep {k : Nat} {x : AV} {K : List AV → Prop} {p : Prop} (hk : srcK k h x K) (hp : ∀ l,K l → p) : p:=by
 obtain ⟨l,h1,_⟩:=out_srcK k h x K hk
 exact hp l h1
theorem builtinD_keep {E : TE} {b : Builtin} {ts : List Nat} {args : List AV} {vs : List Value} (hl : 0 < h.length) (hg : st.G 0) (ha : aVs w st args vs) (hk : builtinD E b ts args h (fun _ h1=>h1 = h')) : h'[0]? = h[0]?:=by
 unfold builtinD at hk
 split at hk
 ·rcases onBool_spec hk with ⟨_,hk⟩ | ⟨_,hk⟩
  ·unfold lenMp at hk
   split at hk
   ·obtain ⟨_,hk⟩:=onOk_spec hk
    obtain ⟨o,_,hk⟩:=(nthK_iff _ _).1 hk
    obtain ⟨_,hk⟩:=onOk_spec hk
    rw [← hk]
   ·exact hk.elim
  obtain ⟨_,hk⟩:=onOk_spec hk
  obtain ⟨v,hk,_⟩:=out_lenD _ _ hk
  rw [← hk]
 ·simp only [aVs] at ha
  obtain ⟨v,r,us,_,u1,u2,_⟩:=ha
  split at hk
  ·obtain ⟨_,hk⟩:=onOk_spec hk
   rcases onBool_spec hk with ⟨_,hk⟩ | ⟨_,hk⟩
   ·split at hk
    ·exact appD_keep hl hg ⟨us,u1,u2⟩ hk.2
    ·exact hk.elim
   ·exact srcK_keep hk fun l hk=>appD_keep hl hg ⟨us,u1,u2⟩ hk
  ·exact hk.elim
 ·simp only [aVs] at ha
  obtain ⟨v,r,us,_,u1,u2,_⟩:=ha
  have hi:=not_zero_sl hg ⟨us,u1,u2⟩
  split at hk
  ·obtain ⟨_,hk⟩:=onOk_spec hk
   rw [shortK_eq] at hk
   refine srcK_keep hk fun l hk=>?_
   obtain ⟨o,_,hk⟩:=(nthK_iff _ _).1 hk
   obtain ⟨_,hk⟩:=onOk_spec hk
   obtain ⟨_,hk⟩:=onOk_spec hk
   obtain ⟨_,hk⟩:=hk
   simp only [setK_eq] at hk
   rw [← hk];exact set_zero hi
  ·exact hk.elim
 ·simp only [aVs] at ha
  obtain ⟨v,r,us,_,u1,u2,_⟩:=ha
  have hi:=not_zero_sl hg ⟨us,u1,u2⟩
  split at hk
  ·obtain ⟨_,hk⟩:=onOk_spec hk
   obtain ⟨o,_,hk⟩:=(nthK_iff _ _).1 hk
   obtain ⟨_,hk⟩:=onOk_spec hk
   obtain ⟨_,hk⟩:=onOk_spec hk
   obtain ⟨_,hk⟩:=hk
   simp only [setK_eq] at hk
   rw [← hk];exact set_zero hi
  ·exact hk.elim
 ·obtain ⟨_,hk⟩:=onOk_spec hk
  obtain ⟨v,hk,_⟩:=out_maxOf _ _ _ _ hk
  rw [← hk]
 ·obtain ⟨_,hk⟩:=onOk_spec hk
  obtain ⟨v,hk,_⟩:=out_maxOf _ _ _ _ hk
  rw [← hk]
 ·obtain ⟨_,hk⟩:=onOk_spec hk
  obtain ⟨v,hk,_⟩:=out_capD _ _ hk
  rw [← hk]
 ·exact hk.elim
theorem convD_keep {E : TE} {src dst : Nat} {x : AV} (hl : 0 < h.length) (hk : convD E src dst x h (fun _ h1=>h1 = h')) : h'[0]? = h[0]?:=by
 unfold convD at hk
 split at hk
 ·obtain ⟨_,hk⟩:=onOk_spec hk
  rw [← hk]
 ·rcases onBool_spec hk with ⟨_,hk⟩ | ⟨_,hk⟩
  ·obtain ⟨_,hk⟩:=onOk_spec hk
   rw [← hk]
  ·obtain ⟨_,hk⟩:=onOk_spec hk
   rw [newD_eq] at hk
   rw [← hk];exact snoc_zero hl
 ·obtain ⟨_,hk⟩:=onOk_spec hk
  rw [← hk]
 ·obtain ⟨_,hk⟩:=onOk_spec hk
  obtain ⟨_,_,hk⟩:=hk
  rw [← hk]
 ·obtain ⟨_,hk⟩:=onOk_spec hk
  obtain ⟨o,_,hk⟩:=(nthK_iff _ _).1 hk
  obtain ⟨_,hk⟩:=onOk_spec hk
  obtain ⟨_,hk⟩:=onOk_spec hk
  obtain ⟨_,_,hk⟩:=hk
  rw [← hk]
 ·exact hk.elim
theorem opD_keep {E : TE} {R : Rel} (hR : KeepR R) {T : List AV} {a : Act} {o : Op} (hw : WR B W w st h) (hT : aT w st T a.tmps) (hg : st.G 0) (hk : opD E R T h o (fun _ h1=>h1 = h')) : h'[0]? = h[0]?:=by
 have hl : 0 < h.length:=hw.len ▸ hw.gho 0 hg
 cases o<;>simp only [opD,opndK_eq,opndsK_eq,newD_eq,replK_eq] at hk<;>try exact hk.elim
 case makeMap=>
  obtain ⟨_,hk⟩:=onOk_spec hk
  rw [← hk];exact snoc_zero hl
 case lookup=>
  obtain ⟨_,hk⟩:=onOk_spec hk
  obtain ⟨v,hk,_⟩:=out_lookupD _ _ _ _ _ _ hk
  rw [← hk]
 case mapUpdate t m i v=>
  have hm:=aV_opnd hT m
  unfold updateD at hk
  split at hk
  ·rename_i id hid
   rw [hid] at hm
   have hi:=not_zero_mp hg hm
   obtain ⟨_,hk⟩:=onOk_spec hk
   split at hk
   ·split at hk
    ·obtain ⟨o,_,hk⟩:=(nthK_iff _ _).1 hk
     obtain ⟨_,hk⟩:=onOk_spec hk
     obtain ⟨L,_,hk⟩:=hk.out
     simp only [setK_eq] at hk
     rw [← hk];exact set_zero hi
    ·exact hk.elim
   ·exact hk.elim
  ·exact hk.elim
 case move=>rw [← hk]
 case assign=>rw [← hk]
 case pick c x y=>
  split at hk
  ·rcases onBool_spec hk with ⟨_,hk⟩ | ⟨_,hk⟩<;>rw [← hk]
  ·exact hk.elim
 case alloc=>
  obtain ⟨_,hk⟩:=onOk_spec hk
  rw [← hk];exact snoc_zero hl
 case box=>
  obtain ⟨_,hk⟩:=onOk_spec hk
  rw [← hk];exact snoc_zero hl
 case build=>
  obtain ⟨_,hk⟩:=onOk_spec hk
  obtain ⟨l,hk,_⟩:=out_fillK _ _ _ _ _ _ hk
  rw [← hk]
 case buildSlice=>
  obtain ⟨_,hk⟩:=onOk_spec hk
  rcases onBool_spec hk with ⟨_,hk⟩ | ⟨_,hk⟩
  ·obtain ⟨_,hk⟩:=onOk_spec hk
   rw [← hk]
  ·obtain ⟨l,hk,_⟩:=out_rowK _ _ _ _ _ hk
   rcases onBool_spec hk with ⟨_,hk⟩ | ⟨_,hk⟩
   ·rw [← hk];exact snoc_zero hl
   ·unfold dataK at hk
    split at hk
    ·rw [← hk]
    ·exact hk.elim
 case load=>
  obtain ⟨v,hk,_⟩:=out_loadD _ _ _ _ hk
  rw [← hk]
 case store t x y=>exact storeD_keep hg (aV_opnd hT x) hk
 case nilCheck=>split at hk<;>first | exact hk.elim | rw [← hk]
 case binOp=>
  rcases onBool_spec hk with ⟨_,hk⟩ | ⟨_,hk⟩
  ·obtain ⟨v,hk,_⟩:=out_nilD _ _ _ _ _ hk
   rw [← hk]
  ·obtain ⟨v,hk,_⟩:=out_binD _ _ _ _ _ _ hk
   rw [← hk]
 case unOp=>
  obtain ⟨v,hk,_⟩:=out_unD _ _ _ hk
  rw [← hk]
 case convert=>exact convD_keep hl hk
 case makeFunc=>split at hk<;>first | exact hk.elim | rw [← hk]
 case makeSlice=>
  split at hk
  ·obtain ⟨_,hk⟩:=onOk_spec hk
   rw [← hk.2];exact snoc_zero hl
  ·exact hk.elim
 case slice=>
  obtain ⟨a,hk,_⟩:=out_optK _ _ _ hk
  obtain ⟨b,hk,_⟩:=out_optK _ _ _ hk
  obtain ⟨c,hk,_⟩:=out_optK _ _ _ hk
  obtain ⟨v,hk,_⟩:=out_sliceD _ _ _ _ _ _ _ _ hk
  rw [← hk]
 case fieldAddr=>
  obtain ⟨v,hk,_⟩:=out_fieldAddrD _ _ _ _ _ hk
  rw [← hk]
 case field=>
  obtain ⟨v,hk,_⟩:=out_fieldD _ _ _ _ _ hk
  rw [← hk]
 case indexAddr=>
  obtain ⟨v,hk,_⟩:=out_indexAddrD _ _ _ _ _ hk
  rw [← hk]
 case index=>
  obtain ⟨v,hk,_⟩:=out_indexD _ _ _ _ _ hk
  rw [← hk]
 case extract=>
  split at hk
  ·obtain ⟨v,_,hk⟩:=(nthK_iff _ _).1 hk
   rw [← hk]
  ·obtain ⟨v,_,hk⟩:=(nthK_iff _ _).1 hk
   rw [← hk]
  ·exact hk.elim
 case call c=>
  split at hk
  ·unfold callK at hk
   split at hk
   ·obtain ⟨r,h1,hr,hk⟩:=hk
    rw [← hk];exact hR.1 _ _ _ _ _ hr
   ·obtain ⟨r,h1,hr,hk⟩:=hk
    rw [← hk];exact hR.1 _ _ _ _ _ hr
   ·obtain ⟨r,h1,hr,hk⟩:=hk
    exact absurd hr (hR.2 _ _ _ _)
   ·exact hk.elim
  ·exact builtinD_keep hl hg (aVs_map hT c.args.toList) hk
  ·exact hk.elim
end
section
variable {P : Program} {E : TE} (hE : EOK P E) {B : Nat} {W : World} {ro : Option Nat} {N : Nat}
include hE
theorem oper_soundIn {R : Rel} (hR : Sub P B W R) {w0 : World} {st0 : St} {T : List AV} {h : Heap} {a : Act} {w : World} {o : Oper} {K : KV} {next : Act → World → Prop} {Q : Exit → Act → World → Prop} (hI : Inv ds B W w0 st0 T h a w)
  (hk : opD E R T h o.op K) (hn : ∀ v h' a' w', K v h' → Inv ds B W w0 st0 (putD o.dst v T) h' a' w' → next a' w') : o.wpIn (FW ro) N P a w next Q := by
 obtain ⟨hd,st,h1,h2,h3,h4⟩:=hI
 refine ⟨fun _ _=>trivial,?_⟩
 rw [Oper.semAt_eq _ _ _ (fun c e=>by rw [e] at hk;simp [opD] at hk)]
 refine wpIn_of_good (N:=Post B W w st K) (fun v w' hp=>?_) (opD_sound hE hR h1 h2 hk)
 obtain ⟨st', av, h', p1, p2, p3, p4, p5⟩ := hp
 exact hn av h' _ w' p1 ⟨by rw [put_defers]; exact hd, st', p2, aT_put (aT_mono p4 h2) p3, h3.trans p4, p5.trans h4⟩
theorem regD_opsIn {R : Rel} (hR : Sub P B W R) {ops : Array Oper} {w0 : World} {st0 : St} {Q : Exit → Act → World → Prop} {K : List AV → Heap → Prop} (hQ : ∀ T h a w,K T h → Inv ds B W w0 st0 T h a w → Q .normal a w) :
  ∀ (rest : List Oper) (n : Nat) (T : List AV) (h : Heap) (a : Act) (w : World),ops.toList.drop n = rest → Inv ds B W w0 st0 T h a w → regD E R ops.toList rest T h K → wpOpsIn (FW ro) N P ops Q (List.range' n rest.length) a w
 | [],n,T,h,a,w,hd,hI,hk=>by simpa [wpOpsIn] using hQ T h a w hk hI
 | o :: rest,n,T,h,a,w,hd,hI,hk=>by
  simp only [regD] at hk
  have ho : ops[n]? = some o:=by
   have:=congrArg (·[0]?) hd
   simpa using this
  have hd' : ops.toList.drop (n + 1) = rest:=by
   have:=congrArg List.tail hd
   simpa using this
  simp only [List.length_cons,List.range'_succ,wpOpsIn,ho]
  obtain ⟨hdf,st,h1,h2,h3,h4⟩:=id hI
  rcases guardD_want hk with ⟨g1,g2⟩ | ⟨g1,g2⟩
  ·rw [wanted_of h2 g1]
   simp only [if_true]
   refine (oper_soundIn hE hR hI g2 fun v h' a' w' hk' hI'=>?_)
   rw [dstK_eq] at hk'
   exact regD_opsIn hR hQ rest (n + 1) _ h' a' w' hd' hI' hk'
  ·rw [wanted_of h2 g1]
   simp only [Bool.false_eq_true,if_false]
   rw [dstK_eq] at g2
   exact ⟨fun _ _=>trivial,regD_opsIn hR hQ rest (n + 1) _ h _ w hd' (skip_sound hI) g2⟩
theorem regD_soundIn {R : Rel} (hR : Sub P B W R) {id : Nat} {ops : Array Oper} {w0 : World} {st0 : St} {Q : Exit → Act → World → Prop} {K : List AV → Heap → Prop} (hQ : ∀ T h a w,K T h → Inv ds B W w0 st0 T h a w → Q .normal a w)
  {T : List AV} {h : Heap} {a : Act} {w : World} (hI : Inv ds B W w0 st0 T h a w) (hk : regD E R ops.toList ops.toList T h K) : (Code.region id ops false).wpIn (FW ro) N P Q a w:=by
 refine wpIn_region ?_
 have:=regD_opsIn hE (ro:=ro) (N:=N) hR hQ ops.toList 0 T h a w rfl hI hk
 rw [List.range_eq_range']
 simpa using this
end
theorem rounds_n {ro : Option Nat} {N : Nat} {P : Program} {Q : Exit → Act → World → Prop} {c : Code} {I : Nat → Act → World → Prop} (h0 : ∀ a w,¬ I 0 a w) (round : ∀ n a w,I (n + 1) a w → c.wpIn (FW ro) N P (Exit.then (I n) Q) a w) : ∀ (n : Nat) (a : Act) (w : World),I n a w → Code.roundsIn (FW ro) N P c Q n a w
 | 0,a,w,h=>absurd h (h0 a w)
 | n + 1,a,w,h=>by
  rw [roundsIn_succ]
  refine wpIn_mono (round n a w h) fun e a w he=>?_
  cases e with
  | normal=>exact rounds_n h0 round n a w he
  | _=>exact he
theorem wpIn_loop_n {ro : Option Nat} {N : Nat} {P : Program} {Q : Exit → Act → World → Prop} {c : Code} {I : Nat → Act → World → Prop} (h0 : ∀ a w,¬ I 0 a w) (round : ∀ n a w,I (n + 1) a w → c.wpIn (FW ro) N P (Exit.then (I n) Q) a w) (n : Nat) (a : Act) (w : World) (h : I n a w) : (Code.loop c).wpIn (FW ro) N P Q a w:=
 wpIn_loop_rounds n (rounds_n h0 round n a w h)
def DrawSoundIn (ro : Option Nat) (N : Nat) (P : Program) (E : TE) : Prop:=
 ∀ {ds : List Deferred} {id : Nat} {ops : Array Oper} {B : Nat} {W w0 : World} {st0 : St} {Q : Exit → Act → World → Prop} {K : List AV → Heap → Prop} {R : Rel},Sub P B W R → (∀ T h a w,K T h → Inv ds B W w0 st0 T h a w → Q .normal a w) →
  ∀ {T : List AV} {h : Heap} {a : Act} {w : World},Inv ds B W w0 st0 T h a w → drawD E R ops.toList T h K → (Code.region id ops true).wpIn (FW ro) N P Q a w
section
variable {P : Program} {E : TE} (hE : EOK P E) {B : Nat} {W w0 : World} {st0 : St} {ro : Option Nat} {N : Nat}
variable (hD : DrawSoundIn ro N P E)
include hE hD
end
end Dw
namespace Dw
open Go Go.RowKit
variable {ds : List Deferred}
section
variable {P : Program} {E : TE} (hE : EOK P E) {B : Nat} {W w0 : World} {st0 : St} {ps : List (Nat × Nat)} {ops : Array Oper} {T0 T' TA : List AV} {h0 h' hA : Heap} {trA trO : List Stp}
variable {R : Rel} (hR : Sub P B W R) (hD : DR E R ps ops.toList T0 h0 T' h' trA trO TA hA) (hg0 : ∀ i,st0.G i → i < st0.n) (hlen : st0.n = h0.length)
include hE hR hD hg0 hlen
variable {ro : Option Nat} {N : Nat}
theorem mid_stepIn {KP : Prop} (hKP : KP → KeepR R ∧ st0.G 0) {L : Nat → Bool} {s : Stp} {a : Act} {w : World} {Q : Exit → Act → World → Prop} {next : Act → World → Prop} (hs : s ∈ trA ++ trO) (hL : Cl ops.toList L) (hi : L s.i = false)
  (hd : ∀ o,ops.toList[s.i]? = some o → ∀ e ∈ o.after.toList,Region.binds .any e = true → L e.on = true) (hM : Mid ds E B W w0 st0 T0 h0 trA trO hA L a w)
  (hn : ∀ a' w', Mid ds E B W w0 st0 T0 h0 trA trO hA (more L s.i) a' w' → (KP → (hp E (more L s.i) trO hA)[0]? = (hp E L trO hA)[0]?) → next a' w') : wpOpIn (FW ro) N P ops Q s.i next a w := by
 have hL':=more_cl hL hd
 -- where it stands
 obtain ⟨A,C,hAC⟩:=List.append_of_mem hs
 have hnd : (trA ++ trO).Pairwise (fun x y=>x.i ≠ y.i):=by
  have:=base_nodup ops.toList
  rw [← hD.map,List.pairwise_map] at this
  exact this
 obtain ⟨nd1,nd2,_,_,_⟩:=pairwise_mem hnd hAC
 obtain ⟨p1,p2,_,_,_⟩:=pairwise_mem hD.pair hAC
 have hops : ops[s.i]? = some s.o:=by
  have : (s.i,s.o) ∈ baseOrder ops.toList:=by rw [← hD.map];exact List.mem_map.2 ⟨s,hs,rfl⟩
  rw [base_mem] at this
  simpa using this
 have moreA : ∀ x ∈ A,more L s.i x.i = L x.i:=fun x hx=>by simp [more,nd1 x hx]
 have moreC : ∀ y ∈ C,more L s.i y.i = L y.i:=fun y hy=>by simp [more,(nd2 y hy).symm]
 have moreS : more L s.i s.i = true:=by simp [more]
 -- temporaries
 have hch:=hD.ch
 rw [hAC] at hch
 obtain ⟨T1,g1,ch1,ch2⟩:=chain_append hch
 obtain ⟨hsT,hsh,hsok,ch3⟩:=ch2
 have hT1 : s.T = Tp (fun _=>true) A T0:=by rw [hsT];exact chain_T ch1
 have hTp : Tp L (trA ++ trO) T0 = Tp L C (Tp L A T0):=by
  rw [hAC,Tp_append]
  simp only [Tp,hi,Bool.false_eq_true,if_false]
 have huse : ∀ t ∈ usesOf ops.toList s.o,nth (Tp L (trA ++ trO) T0) t = nth s.T t:=by
  intro t ht
  rw [hTp,hT1,Tp_skip,Tp_agree A T0 T0 rfl ?_ rfl]
  ·intro x hx hdst
   have:=(pl hL' (p1 x hx)).1 (clash_left hdst ht) moreS
   rw [moreA x hx] at this
   exact this
  ·intro y hy hdst
   cases hly : L y.i with
   | false=>rfl
   | true=>
    have:=(pl hL (p2 y hy)).1 (clash_right hdst ht) hly
    rw [hi] at this;cases this
 have hopnd : ∀ x ∈ s.o.op.operands,opnd (Tp L (trA ++ trO) T0) x = opnd s.T x:=by
  intro x hx
  cases x with
  | tmp t=>
   refine huse t ?_
   simp only [usesOf,List.mem_append,List.mem_filterMap]
   exact .inl ⟨.tmp t,by simpa using hx,rfl⟩
  | const v=>rfl
  | global g=>rfl
  | func f=>rfl
 have hTnew : Tp (more L s.i) (trA ++ trO) T0 = putD s.o.dst s.v (Tp L (trA ++ trO) T0):=by
  rw [hTp,hAC,Tp_append]
  simp only [Tp,moreS,if_true]
  rw [Tp_ext A T0 moreA,Tp_ext C _ moreC]
  refine Tp_put C _ fun y hy hly t hdt hyt=>?_
  have:=(pl hL (p2 y hy)).1 (clash_same hdt hyt) hly
  rw [hi] at this;cases this
 obtain ⟨hdf,st,m1,m2,m3,m4⟩:=hM
 -- whether it is wanted
 have hwant : wantD ops.toList (Tp L (trA ++ trO) T0) s.o.guard s.tk:=by
  rcases hsok.1 with e | ⟨j,want,t,e1,e2,e3⟩
  ·exact .inl e
  ·refine .inr ⟨j,want,t,e1,e2,?_⟩
   have : t ∈ usesOf ops.toList s.o:=by
    simp only [usesOf,List.mem_append]
    exact .inr (by simp [e1,e2])
   rw [huse t this]
   exact e3
 have hw:=wanted_of m2 hwant
 -- an object out of nothing
 by_cases hc2 : cls E s.o.op = 2
 ·have hsA : s ∈ trA:=by
   rcases List.mem_append.1 hs with h | h
   ·exact h
   ·have:=hD.allO s h
    rw [cls_isAlloc.2 hc2] at this;cases this
  obtain ⟨os,o1,o2,o3⟩:=allocs hD.chA hD.allA hD.ung
  obtain ⟨k,hk⟩:=List.mem_iff_getElem?.1 hsA
  obtain ⟨f1,f2,t,f3,f4,f5,f6⟩:=o3 k s hk
  rw [f1] at hw
  unfold wpOpIn
  simp only [hops,hw,if_true]
  obtain ⟨us,u1,u2,u3,u4⟩:=run_alloc_at f4 hE w st
  have hrun : (execOp a.eval s.o).run P w = .ok (.value (.pointer (some ⟨w.heap.size,0,none⟩))) (w.alloc (.cells us.toArray t)):=by
   simp only [execOp,f3,Sem.run_bind,u4,Result.andThen_ok,Sem.run_pure]
  refine ⟨fun _ _=>trivial,?_⟩
  rw [Oper.semAt_eq _ _ _ (fun c e=>by rw [e] at f3;cases f3),hrun]
  show next _ _
  have hndO : ∀ y ∈ trO,more L s.i y.i = L y.i:=by
   intro y hy
   have hne : y.i ≠ s.i:=by
    rw [List.pairwise_append] at hnd
    exact (hnd.2.2 s hsA y hy).symm
   simp [more,hne]
  have hheap : hp E (more L s.i) trO hA = hp E L trO hA:=hp_ext trO hA hndO
  have hstill : Still (E:=E) trO:=fun y hy h3=>still_step (fun h2=>by have:=hD.allO y hy;rw [cls_isAlloc.2 h2] at this;cases this) h3 (chain_ok hD.chO y hy)
  have hpO : trO.Pairwise (fun x y=>cls E x.o.op = 3 → cls E y.o.op = 3 → L y.i = true → L x.i = true):=by
   have:=hD.pair
   rw [List.pairwise_append] at this
   exact this.2.1.imp fun h=>(pl hL h).2.1
  -- the object is as it was made
  have hobj : (hp E L trO hA)[h0.length + k]? = some ⟨[(E t).zero],(E t).size,0⟩:=by
   have:=phi_listed (φ:=fun g : Heap=>g[h0.length + k]?) hD.chO hstill hpO (fun y hy hy3 hly=>by
    have hpr : pairOk E ops.toList (waitsFor ops.toList []) ps (s.i,s.o) (y.i,y.o) = true:=by
     have:=hD.pair
     rw [List.pairwise_append] at this
     exact this.2.2 s hsA y hy
    have hst : StabR E ps s y:=by
     have:=hD.stab
     rw [List.pairwise_append] at this
     exact this.2.2 s hsA y hy
    have hmem:=(pl hL hpr).2.2.1 (.inr hc2) hy3 hly hi
    cases htk : y.tk with
    | false=>rw [((chain_ok hD.chO y hy).2.2 htk).2]
    | true=>
     have:=hst (.made s.i s.h.length) (.heap y.i y.h y.h') (by simp [evOf,f1,hc2]) (by simp [evOf,htk,hy3])
     rw [f2] at this
     exact this hmem)
   rw [this,o1,List.getElem?_append_right (by omega)]
   simpa using f6
  have hgid : st.G (h0.length + k):=by
   rw [m4]
   exact .inr ⟨k,s,hk,hi,rfl⟩
  obtain ⟨w1,e1⟩:=m1.wake hobj hgid u1 (by omega) u3 t
  refine hn _ _ ⟨by rw [put_defers];exact hdf,_,by rw [hheap];exact w1,?_,m3.trans e1,?_⟩ (fun _=>by rw [hheap])
  ·rw [hTnew,f5]
   refine aT_put (aT_mono e1 m2) (aV_ptr.2 ⟨w.heap.size,0,rfl,?_,fun h=>h.2 rfl,fun r hr=>?_⟩)
   ·exact m1.gho _ hgid
   ·simp only [St.wake,if_true,Option.some.injEq] at hr
    subst hr
    simp
  ·funext id
   apply propext
   simp only [St.wake,m4,Gh]
   constructor
   ·rintro ⟨h1 | ⟨k', s', h1, h2, h3⟩, hne⟩
    ·exact .inl h1
    ·refine .inr ⟨k', s', h1, ?_, h3⟩
     have : s'.i ≠ s.i:=by
      intro he
      have hndA : trA.Pairwise (fun x y=>x.i ≠ y.i):=by rw [List.pairwise_append] at hnd;exact hnd.1
      have hkk : k' ≠ k:=fun hh=>hne (by rw [h3,hh])
      rw [List.pairwise_iff_getElem] at hndA
      obtain ⟨a1,a2⟩:=List.getElem?_eq_some_iff.1 h1
      obtain ⟨b1,b2⟩:=List.getElem?_eq_some_iff.1 hk
      rcases Nat.lt_or_gt_of_ne hkk with hlt | hlt
      ·exact hndA k' k a1 b1 hlt (by rw [a2,b2,he])
      ·exact hndA k k' b1 a1 hlt (by rw [a2,b2,he])
     simp [more,h2,this]
   ·rintro (h1 | ⟨k', s', h1, h2, h3⟩)
    ·refine ⟨.inl h1,fun he=>?_⟩
     have:=hg0 id h1
     omega
    ·simp only [more,Bool.or_eq_false_iff,beq_eq_false_iff_ne] at h2
     refine ⟨.inr ⟨k', s', h1, h2.1, h3⟩, fun he => ?_⟩
     have : k' = k:=by omega
     subst this
     rw [hk] at h1
     cases h1
     exact h2.2 rfl
 ·-- any other
  have hsO : s ∈ trO:=by
   rcases List.mem_append.1 hs with h | h
   ·exact absurd (cls_isAlloc.1 (hD.allA s h)) hc2
   ·exact h
  have hndA : ∀ x ∈ trA,more L s.i x.i = L x.i:=by
   intro x hx
   have hne : x.i ≠ s.i:=by
    rw [List.pairwise_append] at hnd
    exact hnd.2.2 x hx s hsO
   simp [more,hne]
  have hGh : Gh st0 h0 trA (more L s.i) = Gh st0 h0 trA L:=by
   funext id
   apply propext
   simp only [Gh]
   constructor
   ·rintro (h1 | ⟨k', s', h1, h2, h3⟩)
    ·exact .inl h1
    ·exact .inr ⟨k', s', h1, by rw [← hndA s' (List.mem_of_getElem? h1)]; exact h2, h3⟩
   ·rintro (h1 | ⟨k', s', h1, h2, h3⟩)
    ·exact .inl h1
    ·exact .inr ⟨k', s', h1, by rw [hndA s' (List.mem_of_getElem? h1)]; exact h2, h3⟩
  -- where it stands among the others
  obtain ⟨A1,C1,hAC1⟩:=List.append_of_mem hsO
  have hndO : trO.Pairwise (fun x y=>x.i ≠ y.i):=by rw [List.pairwise_append] at hnd;exact hnd.2.1
  have hpairO : trO.Pairwise (fun x y=>pairOk E ops.toList (waitsFor ops.toList []) ps (x.i,x.o) (y.i,y.o) = true):=by have:=hD.pair;rw [List.pairwise_append] at this;exact this.2.1
  have hstabO : trO.Pairwise (StabR E ps):=by have:=hD.stab;rw [List.pairwise_append] at this;exact this.2.1
  obtain ⟨q1,q2,q3,q4,q5⟩:=pairwise_mem hpairO hAC1
  obtain ⟨r1,r2,_,_,_⟩:=pairwise_mem hstabO hAC1
  obtain ⟨n1,n2,_,_,_⟩:=pairwise_mem hndO hAC1
  have mA1 : ∀ x ∈ A1,more L s.i x.i = L x.i:=fun x hx=>by simp [more,n1 x hx]
  have mC1 : ∀ y ∈ C1,more L s.i y.i = L y.i:=fun y hy=>by simp [more,(n2 y hy).symm]
  have hstill : Still (E:=E) trO:=fun y hy h3=>still_step (fun h2=>by have:=hD.allO y hy;rw [cls_isAlloc.2 h2] at this;cases this) h3 (chain_ok hD.chO y hy)
  have hstA : Still (E:=E) A1:=fun y hy=>hstill y (by rw [hAC1];simp [hy])
  have hstC : Still (E:=E) C1:=fun y hy=>hstill y (by rw [hAC1];simp [hy])
  have hokO:=chain_ok hD.chO
  have hchO:=hD.chO
  rw [hAC1] at hchO
  obtain ⟨T2,g2,d1,d2⟩:=chain_append hchO
  obtain ⟨_,d3,_,d4⟩:=d2
  subst d3
  have pairs33 : ∀ (l : List Stp),l.Pairwise (fun x y=>pairOk E ops.toList (waitsFor ops.toList []) ps (x.i,x.o) (y.i,y.o) = true) → l.Pairwise (fun x y=>cls E x.o.op = 3 → cls E y.o.op = 3 → L y.i = true → L x.i = true):=
   fun l h=>h.imp fun h=>(pl hL h).2.1
  have hhp : hp E L trO hA = hp E L C1 (hp E L A1 hA):=by
   rw [hAC1,hp_append]
   simp [hp,hi]
  have hhp' : hp E (more L s.i) trO hA = hp E L C1 (if cls E s.o.op = 3 then s.h' else hp E L A1 hA):=by
   rw [hAC1,hp_append]
   simp only [hp,moreS,true_and]
   rw [hp_ext A1 hA mA1,hp_ext C1 _ mC1]
  -- the heap it meets
  have h3heap : cls E s.o.op = 3 → hp E L trO hA = s.h ∧ hp E (more L s.i) trO hA = s.h':=by
   intro hc3
   have hall : hp E L A1 hA = s.h:=hp_all d1 hstA (fun x hx hx3=>by
    have:=(pl hL' (q1 x hx)).2.1 hx3 hc3 moreS
    rw [mA1 x hx] at this;exact this)
   have hnone : ∀ y ∈ C1,cls E y.o.op = 3 → L y.i = false:=by
    intro y hy hy3
    cases hly : L y.i with
    | false=>rfl
    | true=>
     have:=(pl hL (q2 y hy)).2.1 hc3 hy3 hly
     rw [hi] at this;cases this
   exact ⟨by rw [hhp, hp_none C1 _ hnone, hall], by rw [hhp', if_pos hc3, hp_none C1 _ hnone]⟩
  have hNheap : cls E s.o.op ≠ 3 → hp E (more L s.i) trO hA = hp E L trO hA:=by
   intro hc3
   rw [hhp', if_neg hc3, hhp]
  have hread : cls E s.o.op = 1 → s.tk = true → ∀ id,readsOf s.T s.o.op = some id → visEq s.h (hp E L trO hA) id:=by
   intro hc1 htk id hid
   have hev : evOf E s = some (.read s.i id):=by simp [evOf,htk,hc1,hid]
   have a1 : visEq (hp E L A1 hA) s.h id:=phi_ahead (φ:=fun g : Heap=>(g[id]?).map AO.vis) d1 hstA (pairs33 A1 q4) (fun x hx hx3 hlx=>by
    have hmem:=(pl hL' (q1 x hx)).2.2.2 hx3 hc1 moreS (by rw [mA1 x hx];exact hlx)
    cases hxt : x.tk with
    | false=>rw [((hokO x (by rw [hAC1];simp [hx])).2.2 hxt).2]
    | true=>exact r1 x hx (.heap x.i x.h x.h') (.read s.i id) (by simp [evOf,hxt,hx3]) hev hmem)
   have hsh' : s.h' = s.h:=hstill s hsO (by omega)
   rw [hsh'] at d4
   by_cases hex : ∃ y ∈ C1,cls E y.o.op = 3 ∧ L y.i = true
   ·obtain ⟨y,hy,hy3,hly⟩:=hex
    have hallA : hp E L A1 hA = s.h:=hp_all d1 hstA (fun x hx hx3=>(pl hL (q3 x hx y hy)).2.1 hx3 hy3 hly)
    have:=phi_listed (φ:=fun g : Heap=>(g[id]?).map AO.vis) d4 hstC (pairs33 C1 q5) (fun y hy hy3 hly=>by
     have hmem:=(pl hL (q2 y hy)).2.2.1 (.inl hc1) hy3 hly hi
     cases hyt : y.tk with
     | false=>rw [((hokO y (by rw [hAC1];simp [hy])).2.2 hyt).2]
     | true=>exact r2 y hy (.read s.i id) (.heap y.i y.h y.h') hev (by simp [evOf,hyt,hy3]) hmem)
    show (s.h[id]?).map AO.vis = ((hp E L trO hA)[id]?).map AO.vis
    rw [hhp,hallA]
    exact this.symm
   ·have hnone : ∀ y ∈ C1,cls E y.o.op = 3 → L y.i = false:=by
     intro y hy hy3
     cases hly : L y.i with
     | false=>rfl
     | true=>exact absurd ⟨y,hy,hy3,hly⟩ hex
    rw [hhp,hp_none C1 _ hnone]
    exact a1.symm
  unfold wpOpIn
  simp only [hops,hw]
  cases htk : s.tk with
  | false=>
   simp only [Bool.false_eq_true,if_false]
   obtain ⟨v1,v2⟩:=hsok.2.2 htk
   have hsame : hp E (more L s.i) trO hA = hp E L trO hA:=by
    by_cases hc3 : cls E s.o.op = 3
    ·obtain ⟨e1,e2⟩:=h3heap hc3
     rw [e2,e1,v2]
    ·exact hNheap hc3
   refine ⟨fun _ _=>trivial,hn _ _ ⟨by rw [put_defers];exact hdf,st,?_,?_,m3,by rw [hGh];exact m4⟩ (fun _=>by rw [hsame])⟩
   ·rw [hsame]
    exact m1
   ·rw [hTnew,v1]
    exact aT_put m2 (aV_one rfl (by simp [aC]))
  | true=>
   simp only [if_true]
   have hop:=hsok.2.1 htk
   have hop2 : opD E R (Tp L (trA ++ trO) T0) s.h s.o.op (fun v h'=>v = s.v ∧ h' = s.h'):=by
    rw [opD_congr hopnd];exact hop
   have hop3 : opD E R (Tp L (trA ++ trO) T0) (hp E L trO hA) s.o.op (fun v h'=>v = s.v ∧ h' = hp E (more L s.i) trO hA):=by
    by_cases hc3 : cls E s.o.op = 3
    ·obtain ⟨e1,e2⟩:=h3heap hc3
     rw [e1,e2]
     exact hop2
    ·have hrT : readsOf (Tp L (trA ++ trO) T0) s.o.op = readsOf s.T s.o.op:=by
      unfold readsOf
      split
      ·rename_i t x hx
       rw [hopnd x (by rw [hx];simp [Op.operands])]
      ·rename_i t u x hx
       rw [hopnd x (by rw [hx];simp [Op.operands])]
      ·rename_i t x lo hi mx hx
       rw [hopnd x (by rw [hx];simp [Op.operands])]
      ·rfl
     have:=opD_elsewhere (g:=hp E L trO hA) (by
      rcases cls_le E s.o.op with hc | hc | hc | hc
      ·exact .inl hc
      ·refine .inr ⟨hc,fun id hid=>hread hc htk id (by rw [← hrT];exact hid)⟩
      ·exact absurd hc hc2
      ·exact absurd hc hc3) hop2
     obtain ⟨v,h2,⟨k1,k2,_⟩,k3⟩:=opD_out this
     exact k3 _ ⟨k2,by rw [k1,hNheap hc3]⟩
   refine ⟨fun _ _=>trivial,?_⟩
   rw [Oper.semAt_eq _ _ _ (fun c e=>by rw [e] at hop3;simp [opD] at hop3)]
   refine wpIn_of_good (N:=Post B W w st (fun v h'=>v = s.v ∧ h' = hp E (more L s.i) trO hA)) (fun v w' hpost=>?_) (opD_sound hE hR m1 m2 hop3)
   obtain ⟨st', av, h2, ⟨k1, k2⟩, k3, k4, k5, k6⟩ := hpost
   subst k1
   rw [k2] at k3
   refine hn _ _ ⟨by rw [put_defers]; exact hdf, st', k3, by rw [hTnew]; exact aT_put (aT_mono k5 m2) k4, m3.trans k5, by rw [k6, m4, hGh]⟩ (fun hkp => ?_)
   obtain ⟨v2,h3,⟨_,l2⟩,l3⟩:=opD_out hop3
   exact opD_keep (hKP hkp).1 m1 m2 (by rw [m4];exact .inl (hKP hkp).2) (l3 (fun _ h1=>h1 = hp E (more L s.i) trO hA) l2)
end
section
variable {P : Program} {E : TE} (hE : EOK P E) {B : Nat} {W w0 : World} {st0 : St} {ps : List (Nat × Nat)} {ops : Array Oper} {T0 T' TA : List AV} {h0 h' hA : Heap} {trA trO : List Stp}
variable {R : Rel} (hR : Sub P B W R) (hD : DR E R ps ops.toList T0 h0 T' h' trA trO TA hA) (hg0 : ∀ i,st0.G i → i < st0.n) (hlen : st0.n = h0.length)
include hE hR hD hg0 hlen
variable {ro : Option Nat} {N : Nat}
omit hE hR hg0 hlen in
theorem mid_heap {L : Nat → Bool} (hall : ∀ j,j < ops.size → L j = true) : hp E L trO hA = h':=by
 have hl : ∀ s ∈ trA ++ trO,L s.i = true:=by
  intro s hs
  have : (s.i,s.o) ∈ baseOrder ops.toList:=by rw [← hD.map];exact List.mem_map.2 ⟨s,hs,rfl⟩
  rw [base_mem] at this
  refine hall s.i ?_
  have:=(List.getElem?_eq_some_iff.1 this).1
  simpa using this
 have hstill : Still (E:=E) trO:=fun y hy h3=>still_step (fun h2=>by have:=hD.allO y hy;rw [cls_isAlloc.2 h2] at this;cases this) h3 (chain_ok hD.chO y hy)
 exact hp_all hD.chO hstill (fun x hx _=>hl x (by simp [hx]))
theorem mid_wpAnyIn {KP : Prop} (hKP : KP → KeepR R ∧ st0.G 0) {Q : Exit → Act → World → Prop} (hQ : ∀ a w,Inv ds B W w0 st0 T' h' a w → (KP → h'[0]? = h0[0]?) → Q .normal a w) : ∀ (fuel : Nat) (listed : Array Bool) (a : Act) (w : World),listed.size = ops.size → Cl ops.toList (lst listed) →
  Mid ds E B W w0 st0 T0 h0 trA trO hA (lst listed) a w → (KP → (hp E (lst listed) trO hA)[0]? = h0[0]?) → ((List.range ops.size).filter (fun j=>!lst listed j)).length ≤ fuel → wpAnyIn (FW ro) N P .any ops Q fuel listed a w:=by
 have hready : ∀ (listed : Array Bool),listed.size = ops.size → Cl ops.toList (lst listed) → Region.ready .any ops listed = [] → ∀ j,j < ops.size → lst listed j = true:=by
  intro listed hsz hL hr
  have key : ∀ n j,j < n → j < ops.size → lst listed j = true:=by
   intro n
   induction n with
   | zero=>intro j hj;omega
   | succ n ih=>
    intro j hj hjs
    cases hc : lst listed j with
    | true=>rfl
    | false=>
     have : j ∈ Region.ready .any ops listed:=by
      rw [mem_ready]
      refine ⟨?_,ops[j],Array.getElem?_eq_getElem hjs,fun e he hb=>?_⟩
      ·have hjl : j < listed.size:=by omega
       simp only [lst,Array.getD_eq_getD_getElem?,Array.getElem?_eq_getElem hjl,Option.getD_some] at hc ⊢
       exact hc
      ·have:=edgesOk_spec ops.toList 0 hD.edges j ops[j] (by simp [hjs]) e (by simpa using he) hb
       exact ih e.on (by omega) (by omega)
     rw [hr] at this
     cases this
  exact fun j hj=>key (j + 1) j (Nat.lt_succ_self j) hj
 have hstep : ∀ (listed : Array Bool) (i : Nat),listed.size = ops.size → i ∈ Region.ready .any ops listed → lst listed i = false ∧ i < ops.size ∧
   ∀ o,ops.toList[i]? = some o → ∀ e ∈ o.after.toList,Region.binds .any e = true → lst listed e.on = true:=by
  intro listed i hsz hi
  rw [mem_ready] at hi
  obtain ⟨h1,o,h2,h3⟩:=hi
  have hlt : i < ops.size:=(Array.getElem?_eq_some_iff.1 h2).1
  have hil : i < listed.size:=by omega
  refine ⟨?_,hlt,fun o' ho' e he hb=>?_⟩
  ·simp only [lst,Array.getD_eq_getD_getElem?,Array.getElem?_eq_getElem hil,Option.getD_some] at h1 ⊢
   exact h1
  ·have : o' = o:=by
    rw [Array.getElem?_toList,h2] at ho'
    exact (Option.some.inj ho').symm
   subst this
   exact h3 e (by simpa using he) hb
 intro fuel
 induction fuel with
 | zero=>
  intro listed a w hsz hL hM hM0 hf
  have hnil : (List.range ops.size).filter (fun j=>!lst listed j) = []:=List.length_eq_zero_iff.1 (by omega)
  have hall : ∀ j,j < ops.size → lst listed j = true:=by
   intro j hj
   cases hc : lst listed j with
   | true=>rfl
   | false=>
    have : j ∈ (List.range ops.size).filter (fun j=>!lst listed j):=List.mem_filter.2 ⟨List.mem_range.2 hj,by simp [hc]⟩
    rw [hnil] at this
    cases this
  refine ⟨?_,hQ a w (mid_end hD hall hM) (fun hkp=>by rw [← mid_heap (E:=E) hD hall];exact hM0 hkp)⟩
  cases hr : Region.ready .any ops listed with
  | nil=>rfl
  | cons i l=>
   obtain ⟨h1,h2,_⟩:=hstep listed i hsz (by rw [hr];simp)
   rw [hall i h2] at h1
   cases h1
 | succ fuel ih=>
  intro listed a w hsz hL hM hM0 hf
  refine ⟨fun hr=>hQ a w (mid_end hD (hready listed hsz hL hr) hM) (fun hkp=>by rw [← mid_heap (E:=E) hD (hready listed hsz hL hr)];exact hM0 hkp),fun i hi=>?_⟩
  obtain ⟨h1,h2,h3⟩:=hstep listed i hsz hi
  have hin : (i,ops[i]) ∈ baseOrder ops.toList:=by rw [base_mem];simp [h2]
  rw [← hD.map] at hin
  obtain ⟨s,hs,hse⟩:=List.mem_map.1 hin
  have hsi : s.i = i:=congrArg Prod.fst hse
  subst hsi
  refine mid_stepIn hE hR hD hg0 hlen hKP hs hL h1 h3 hM fun a' w' hM' hM1=>?_
  have hset:=lst_set (listed:=listed) (i:=s.i) (by omega)
  refine ih _ a' w' (by simp [hsz]) (by rw [hset];exact more_cl hL h3) (by rw [hset];exact hM') (fun hkp=>by rw [hset,hM1 hkp];exact hM0 hkp) ?_
  rw [hset]
  have:=filter_less (p:=fun j=>!lst listed j) (q:=fun j=>!more (lst listed) s.i j) (i:=s.i) (List.range ops.size) (fun j hj=>by
   simp only [more, Bool.not_eq_true', Bool.or_eq_false_iff] at hj ⊢
   exact hj.1) (List.mem_range.2 h2) (by simp [h1]) (by simp [more])
  omega
end
theorem drawSoundK {P : Program} {E : TE} {ro : Option Nat} {N : Nat} (hE : EOK P E) {id : Nat} {ops : Array Oper} {B : Nat} {W w0 : World} {st0 : St} {Q : Exit → Act → World → Prop} {K : List AV → Heap → Prop} {R : Rel} (hR : Sub P B W R) {KP : Prop} (hKP : KP → KeepR R ∧ st0.G 0)
  {T : List AV} {h : Heap} {a : Act} {w : World} (hQ : ∀ T h' a w,K T h' → (KP → h'[0]? = h[0]?) → Inv ds B W w0 st0 T h' a w → Q .normal a w) (hI : Inv ds B W w0 st0 T h a w) (hk : drawD E R ops.toList T h K) : (Code.region id ops true).wpIn (FW ro) N P Q a w:=by
 obtain ⟨hd,st,i1,i2,i3,i4⟩:=hI
 obtain ⟨fl, ps, T', h', trA, trO, TA, hA, hD, hK⟩ := DR.of_drawD hk
 have hE0:=hE
 replace hE:=hE.flag fl
 refine wpIn_region_any hE.1 ?_
 -- the draw of an order
 obtain ⟨j1,j2⟩:=i1.same (w':={ w with drawn:=w.drawn + 1 }) rfl rfl rfl rfl
 obtain ⟨os,o1,o2,o3⟩:=allocs hD.chA hD.allA hD.ung
 obtain ⟨k1,k2⟩:=j1.await os
 have hg0 : ∀ i,st.G i → i < st.n:=i1.gho
 refine mid_wpAnyIn (ds:=ds) hE hR (B:=B) (W:=W) (w0:=w) (st0:=st) hD hg0 i1.len (KP:=KP) (fun hkp=>⟨(hKP hkp).1,by rw [i4];exact (hKP hkp).2⟩) (fun a' w' hI' hkeep=>?_) ops.size _ a _ (by simp) ?_ ?_ (fun hkp=>?_) (by
  have:=List.length_filter_le (fun j=>!lst (Array.replicate ops.size false) j) (List.range ops.size)
  simpa using this)
 ·obtain ⟨hd', st', p1, p2, p3, p4⟩ := hI'
  exact hQ T' h' a' w' hK hkeep ⟨hd', st', p1, p2, i3.trans p3, p4.trans i4⟩
 ·intro y o ho hy
  have hyl : lst (Array.replicate ops.size false) y = false:=by
   simp only [lst,Array.getD_eq_getD_getElem?,Array.getElem?_replicate]
   split<;>rfl
  rw [hyl] at hy
  cases hy
 ·have hl : ∀ y,lst (Array.replicate ops.size false) y = false:=by
   intro y
   simp only [lst,Array.getD_eq_getD_getElem?,Array.getElem?_replicate]
   split<;>rfl
  refine ⟨hd,st.await os.length,?_,?_,j2.trans k2,?_⟩
  ·rw [hp_none trO hA (fun y _ _=>hl y.i),o1]
   exact k1
  ·have : Tp (lst (Array.replicate ops.size false)) (trA ++ trO) T = T:=by
    have : ∀ (l : List Stp) (T : List AV),Tp (lst (Array.replicate ops.size false)) l T = T:=by
     intro l
     induction l with
     | nil=>intro T;rfl
     | cons s l ih=>intro T;simp only [Tp,hl,Bool.false_eq_true,if_false];exact ih T
    exact this _ _
   rw [this]
   exact aT_mono k2 (aT_mono j2 i2)
  ·funext id
   apply propext
   simp only [St.await,Gh]
   constructor
   ·rintro (h1 | ⟨h1,h2⟩)
    ·exact .inl h1
    ·have hk : id - h.length < trA.length:=by rw [← o2];have:=i1.len;omega
     exact .inr ⟨id - h.length,trA[id - h.length],List.getElem?_eq_getElem hk,hl _,by have:=i1.len;omega⟩
   ·rintro (h1 | ⟨k,s,h1,h2,h3⟩)
    ·exact .inl h1
    ·have:=(List.getElem?_eq_some_iff.1 h1).1
     have:=i1.len
     exact .inr ⟨by omega,by omega⟩
 ·have hl : ∀ y,lst (Array.replicate ops.size false) y = false:=by
   intro y
   simp only [lst,Array.getD_eq_getD_getElem?,Array.getElem?_replicate]
   split<;>rfl
  rw [hp_none trO hA (fun y _ _=>hl y.i),o1]
  exact List.getElem?_append_left (by have:=i1.len;have:=i1.gho 0 (by rw [i4];exact (hKP hkp).2);omega)
theorem drawSoundIn {P : Program} {E : TE} {ro : Option Nat} {N : Nat} (hE : EOK P E) : DrawSoundIn ro N P E:=by
 intro ds id ops B W w0 st0 Q K R hR hQ T h a w hI hk
 exact drawSoundK hE hR (KP:=False) (fun h=>h.elim) (fun T h' a w hk _ hI=>hQ T h' a w hk hI) hI hk
end Dw
namespace Dw
open Go Go.RowKit
theorem codeI_sound {P : Program} {E : TE} {R : Rel} {ro : Option Nat} {N : Nat} {C V : List Nat} {n0 : Nat} (I : List AV → Heap → Act → World → Prop)
  (hev : ∀ {T h a w t b},I T h a w → nth T t = .d (.bool b) → a.eval (.tmp t) = .bool b)
  (hwk : ∀ {T T1 h h1 a w},WkE V n0 T h T1 h1 → I T h a w → I T1 h1 a w)
  (hreg : ∀ {id : Nat} {ops : Array Oper} {Q : Exit → Act → World → Prop} {K : List AV → Heap → Prop} {T h a w},(∀ T h a w,K T h → I T h a w → Q .normal a w) → I T h a w → regD E R ops.toList ops.toList T h K → (Code.region id ops false).wpIn (FW ro) N P Q a w)
  (hdrw : ∀ {id : Nat} {ops : Array Oper} {Q : Exit → Act → World → Prop} {K : List AV → Heap → Prop} {T h a w},(∀ T h a w,K T h → I T h a w → Q .normal a w) → I T h a w → drawD E R.mute ops.toList T h K → (Code.region id ops true).wpIn (FW ro) N P Q a w) :
  ∀ (c : Code) (T : List AV) (h : Heap) (a : Act) (w : World) (K : Ex → List AV → Heap → Prop) (Q : Exit → Act → World → Prop),
  (∀ ex T h a w,K ex T h → I T h a w → Q ex.to a w) → I T h a w → codeD E R C V n0 c T h K → c.wpIn (FW ro) N P Q a w
 | .skip,T,h,a,w,K,Q,hQ,hI,hk=>by
  simp only [codeD] at hk
  exact wpIn_skip (hQ .normal T h a w hk hI)
 | .region id ops false,T,h,a,w,K,Q,hQ,hI,hk=>by
  simp only [codeD] at hk
  unfold cutD at hk
  split at hk
  ·obtain ⟨T1,h1,k1,k2⟩:=hk
   exact hreg (fun T h a w hk hI=>hQ .normal T h a w hk hI) (hwk (.inr k1) hI) k2
  ·exact hreg (fun T h a w hk hI=>hQ .normal T h a w hk hI) hI hk
 | .region id ops true,T,h,a,w,K,Q,hQ,hI,hk=>by
  simp only [codeD] at hk
  unfold cutD at hk
  split at hk
  ·obtain ⟨T1,h1,k1,k2⟩:=hk
   exact hdrw (fun T h a w hk hI=>hQ .normal T h a w hk hI) (hwk (.inr k1) hI) k2
  ·exact hdrw (fun T h a w hk hI=>hQ .normal T h a w hk hI) hI hk
 | .seq x y,T,h,a,w,K,Q,hQ,hI,hk=>by
  simp only [codeD] at hk
  refine wpIn_seq (codeI_sound I hev hwk hreg hdrw x T h a w _ _ ?_ hI hk)
  intro ex T h a w hk hI
  cases ex with
  | normal=>exact codeI_sound I hev hwk hreg hdrw y T h a w K Q hQ hI hk
  | exit id=>exact hQ (.exit id) T h a w hk hI
  | ret=>exact hQ .ret T h a w hk hI
 | .cond c x y,T,h,a,w,K,Q,hQ,hI,hk=>by
  simp only [codeD] at hk
  unfold condK at hk
  split at hk
  ·rename_i t
   rw [getK_eq] at hk
   split at hk
   ·rename_i b hb
    have hv:=hev hI hb
    rcases onBool_spec hk with ⟨h1,h2⟩ | ⟨h1,h2⟩
    ·subst h1
     rw [setK_eq,set_nth hb (by simp)] at h2
     exact wpIn_cond_true hv (codeI_sound I hev hwk hreg hdrw x T h a w K Q hQ hI h2)
    ·subst h1
     rw [setK_eq,set_nth hb (by simp)] at h2
     exact wpIn_cond_false hv (codeI_sound I hev hwk hreg hdrw y T h a w K Q hQ hI h2)
   ·exact hk.elim
  ·rename_i b
   rcases onBool_spec hk with ⟨h1,h2⟩ | ⟨h1,h2⟩
   ·subst h1;exact wpIn_cond_true rfl (codeI_sound I hev hwk hreg hdrw x T h a w K Q hQ hI h2)
   ·subst h1;exact wpIn_cond_false rfl (codeI_sound I hev hwk hreg hdrw y T h a w K Q hQ hI h2)
  ·exact hk.elim
 | .block id c,T,h,a,w,K,Q,hQ,hI,hk=>by
  simp only [codeD] at hk
  refine wpIn_block (codeI_sound I hev hwk hreg hdrw c T h a w _ _ ?_ hI hk)
  intro ex T h a w hk hI
  cases ex with
  | normal=>exact hQ .normal T h a w hk hI
  | exit i=>
   simp only [Ex.to,Exit.inBlock]
   rcases onBool_spec hk with ⟨h1,h2⟩ | ⟨h1,h2⟩
   ·rw [if_pos (by simpa using h1)]
    exact hQ .normal T h a w h2 hI
   ·rw [if_neg (by intro he;subst he;simp at h1)]
    exact hQ (.exit i) T h a w h2 hI
  | ret=>exact hQ .ret T h a w hk hI
 | .loop c,T,h,a,w,K,Q,hQ,hI,hk=>by
  simp only [codeD] at hk
  obtain ⟨n,hk⟩:=hk
  refine wpIn_loop_n (I:=fun n a w=>∃ T h,iterD V n0 (codeD E R C V n0 c) K n T h ∧ I T h a w) ?_ ?_ n a w ⟨T,h,hk,hI⟩
  ·rintro a w ⟨T,h,hk,_⟩
   exact hk.elim
  ·rintro m a w ⟨T,h,⟨T1,h1,k1,k2⟩,hI⟩
   refine codeI_sound I hev hwk hreg hdrw c T1 h1 a w _ _ ?_ (hwk k1 hI) k2
   intro ex T h a w hk hI
   cases ex with
   | normal=>exact ⟨T,h,hk,hI⟩
   | exit id=>exact hQ (.exit id) T h a w hk hI
   | ret=>exact hQ .ret T h a w hk hI
 | .exit id,T,h,a,w,K,Q,hQ,hI,hk=>by
  simp only [codeD] at hk
  exact wpIn_exit (hQ (.exit id) T h a w hk hI)
 | .ret,T,h,a,w,K,Q,hQ,hI,hk=>by
  simp only [codeD] at hk
  exact wpIn_ret (hQ .ret T h a w hk hI)
 | .rangeFunc ..,_,_,_,_,_,_,_,_,hk=>by simp [codeD] at hk
 | .scope ..,_,_,_,_,_,_,_,_,hk=>by simp [codeD] at hk
 | .label ..,_,_,_,_,_,_,_,_,hk=>by simp [codeD] at hk
 | .goto ..,_,_,_,_,_,_,_,_,hk=>by simp [codeD] at hk
 | .refuse ..,_,_,_,_,_,_,_,_,hk=>by simp [codeD] at hk
def Bears (B : Nat) (W0 : World) (n : Nat) (J : Nat → (Nat → Prop) → (Nat → Prop) → World → Prop) : Prop:=
 ∀ i (O F O' F' : Nat → Prop) w w', J i O F w → Below B W0 w' → (∀ b, b < w.heap.size → (¬ O b ∨ F b) → w'.heap[b]? = w.heap[b]?) →
  (∀ b,O' b → O b ∨ w.heap.size ≤ b) → (∀ b,F b → F' b) → (∀ b,F' b → O' b) → (∀ b,O' b → n ≤ b ∧ b < w'.heap.size) → J i O' F' w'
def IterR (P : Program) (f : Nat) (first cap : List D) (xs : List (List D)) : Prop:=
 (∀ args w,(callFunc f args).run P w = .ok (.enter f args) w) ∧
 ∀ (s : Nat),s ≤ xs.length → ∀ (N l B : Nat) (W0 w : World) (S : Nat → Prop) (us vs : List Value) (J : Nat → (Nat → Prop) → (Nat → Prop) → World → Prop),
  B ≤ w.heap.size → Below B W0 w → (∀ b,S b → b < w.heap.size) → cVs w S first us → cVs w S cap vs → Bears B W0 w.heap.size J →
  (∀ i (O F : Nat → Prop) w1 xs', i ≤ s → J i O F w1 → Below B W0 w1 → (∀ b, F b → O b) → (∀ b, O b → w.heap.size ≤ b ∧ b < w1.heap.size) →
   (∃ x,xs[i]? = some x ∧ cVs w1 (fun b=>S b ∨ F b) x xs') →
   YieldAt (FW none) (N - 1) P l xs'.toArray w1 (fun e w2=>e = .returned (.bool (decide (i < s))) ∧ J (i + 1) O F w2 ∧ Below B W0 w2 ∧ w.heap.size ≤ w2.heap.size ∧ ∀ b,S b ∨ O b → w2.heap[b]? = w1.heap[b]?)) →
  J 0 (fun _=>False) (fun _=>False) w →
  CallsIn (FW none) N P f (us ++ .func (.yield l) #[] #[] :: vs).toArray w (fun e w'=>(∃ v,e = .returned v) ∧ ∃ O F,J (min (s + 1) xs.length) O F w' ∧ Below B W0 w')
def trO (i : Nat) : AO:=⟨List.replicate i (.d (.bool true)),1,0⟩
def yldT (l : Nat) (xs : List (List D)) (s : Nat) : List AV → Heap → AV → Heap → Prop:=fun args h r h'=>
 ∃ i rest ds,h = trO i :: rest ∧ i ≤ s ∧ xs[i]? = some ds ∧ args = .raw (.func (.yield l) #[] #[]) :: ds.map .d ∧ r = .d (.bool (decide (i < s))) ∧ h' = trO (i + 1) :: rest
def RI (P : Program) (l : Nat) (xs : List (List D)) (s : Nat) : Rel:=⟨fun f args h r h'=>Run P f args h r h' ∧ h'[0]? = h[0]?,yldT l xs s⟩
theorem trO_len (i : Nat) : (trO i).elems.length = i:=by simp [trO]
def InvH (P : Program) (B : Nat) (W0 : World) (S : Nat → Prop) (nc : Nat) (J : Nat → (Nat → Prop) → (Nat → Prop) → World → Prop) (s : Nat) (T : List AV) (h : Heap) (a : Act) (w : World) : Prop:=
 ∃ (tr : AO) (O F : Nat → Prop) (w1 : World) (st1 : St),h[0]? = some tr ∧ J tr.elems.length O F w1 ∧ Below B W0 w1 ∧ nc ≤ w1.heap.size ∧ (∀ b,F b → O b) ∧ (∀ b,O b → nc ≤ b ∧ b < w1.heap.size) ∧
  st1 = { n:=1,ρ:=fun _=>none,S:=fun b=>S b ∨ F b,G:=fun id=>id = 0,U:=fun b=>b < w1.heap.size ∧ ¬ O b,S0:=S } ∧ Inv [] B W0 w1 st1 T h a w
theorem WR.reset {B : Nat} {W w : World} {st : St} {h h' : Heap} (hw : WR B W w st h) (S' U' S0' : Nat → Prop) (hl : h'.length = h.length) (hh : ∀ i,¬ st.G i → h'[i]? = h[i]?) (hS : ∀ b,st.S b → S' b) (hS2 : ∀ b,S' b → b < w.heap.size)
  (hlive : ∀ id r,st.ρ id = some r → r.m ≠ 0 → S' r.b → st.S r.b) (hown : ∀ id r,st.ρ id = some r → r.m ≠ 0 → ¬ U' r.b) (hlow : ∀ b,S' b → S0' b ∨ ¬ U' b) (hub : ∀ b,U' b → b < w.heap.size) :
  WR B W w { st with S := S', U := U', S0 := S0' } h' ∧ ExtC w st w { st with S := S', U := U', S0 := S0' } := by
 have hE : ExtC w st w { st with S := S', U := U', S0 := S0' } := ⟨Nat.le_refl _, fun _ _ _ _ h => h, fun b hb => ⟨hS b hb, rfl⟩, fun _ _ h => h⟩
 have back : ∀ id r,st.ρ id = some r → h'[id]? = h[id]?:=fun id r hr=>by
  obtain ⟨o,_,_,h3⟩:=hw.dom id r hr
  exact hh id h3
 refine ⟨⟨hw.below,hw.base,by rw [hl];exact hw.len,fun id o h1 h2 h3=>?_,fun id o h1 h2 h3=>?_,fun id r hr=>?_,hw.inj,hS2,fun id r o hr h1 h2 hm hb=>?_,fun id r o hr h1 h2 hm=>?_,hw.gho,hown,hlow,hub⟩,hE⟩
 ·rw [hh id h3] at h1
  obtain ⟨r,e1,e2⟩:=hw.obj id o h1 h2 h3
  exact ⟨r,e1,e2.monoC hE (fun _=>rfl)⟩
 ·rw [hh id h3] at h1
  obtain ⟨r,e1,e2⟩:=hw.mobj id o h1 h2 h3
  exact ⟨r,e1,e2⟩
 ·obtain ⟨o,h1,h2,h3⟩:=hw.dom id r hr
  exact ⟨o,by rw [hh id h3];exact h1,h2,h3⟩
 ·rw [back id r hr] at h1
  exact hw.live id r o hr h1 h2 hm (hlive id r hr hm hb)
 ·rw [back id r hr] at h1
  exact hS _ (hw.frz id r o hr h1 h2 hm)
theorem opD_yield {E : TE} {R : Rel} {T : List AV} {h : Heap} {o : Op} {K : KV} (hk : opD E R T h o K) : opD E R.mute T h o K ∨
  ∃ c f l x y r h', o = .call c ∧ c.callee = .value f ∧ opnd T f = .raw (.func (.yield l) x y) ∧ R.yld (.raw (.func (.yield l) x y) :: c.args.toList.map (opnd T)) h r h' ∧ K r h' := by
 cases o<;>try exact .inl hk
 case call c=>
  simp only [opD] at hk ⊢
  cases hc : c.callee<;>simp only [hc] at hk ⊢<;>try exact .inl hk
  case value f=>
   simp only [opndK_eq,opndsK_eq] at hk ⊢
   unfold callK at hk ⊢
   split at hk
   ·rename_i e;simp only [e];exact .inl hk
   ·rename_i e;simp only [e];exact .inl hk
   ·rename_i l x y e
    obtain ⟨r, h', h1, h2⟩ := hk
    exact .inr ⟨c, f, l, x, y, r, h', rfl, hc, e, h1, h2⟩
   ·exact hk.elim
section
variable {P : Program} {E : TE} (hE : EOK P E) {B : Nat} {W0 : World} {S : Nat → Prop} {nc : Nat} {J : Nat → (Nat → Prop) → (Nat → Prop) → World → Prop} {s l N : Nat} {xs : List (List D)}
theorem RI.sub {W : World} : Sub P B W (RI P l xs s).mute:=.of fun _ _ _ _ _ h=>h.1 B W
theorem RI.keep : KeepR (RI P l xs s).mute:=⟨fun _ _ _ _ _ h=>h.2,fun _ _ _ _ h=>h⟩
def Rounds (P : Program) (B : Nat) (W0 : World) (S : Nat → Prop) (nc : Nat) (J : Nat → (Nat → Prop) → (Nat → Prop) → World → Prop) (s l N : Nat) (xs : List (List D)) : Prop:=
 ∀ i (O F : Nat → Prop) w1 xs', i ≤ s → J i O F w1 → Below B W0 w1 → (∀ b, F b → O b) → (∀ b, O b → nc ≤ b ∧ b < w1.heap.size) →
   (∃ x,xs[i]? = some x ∧ cVs w1 (fun b=>S b ∨ F b) x xs') →
   YieldAt (FW none) (N - 1) P l xs'.toArray w1 (fun e w2=>e = .returned (.bool (decide (i < s))) ∧ J (i + 1) O F w2 ∧ Below B W0 w2 ∧ nc ≤ w2.heap.size ∧ ∀ b,S b ∨ O b → w2.heap[b]? = w1.heap[b]?)
theorem InvH.now {T : List AV} {h : Heap} {a : Act} {w : World} (hJ : Bears B W0 nc J) (hI : InvH P B W0 S nc J s T h a w) :
  ∃ (tr : AO) (O F : Nat → Prop) (st : St),h[0]? = some tr ∧ J tr.elems.length O F w ∧ (∀ b,F b → O b) ∧ (∀ b,O b → nc ≤ b ∧ b < w.heap.size) ∧ a.defers = [] ∧ WR B W0 w st h ∧ aT w st T a.tmps ∧
   (∀ b,st.S b ↔ S b ∨ F b) ∧ (∀ id r,st.ρ id = some r → r.m ≠ 0 → O r.b) ∧ (st.G = fun id=>id = 0) ∧ 1 ≤ st.n ∧ st.S0 = S:=by
 obtain ⟨tr,O,F,w1,st1,i1,i2,i3,i4,i5,i6,rfl,hd,st,j1,j2,j3,j4⟩:=hI
 obtain ⟨u1,u2,u3⟩:=j3.U
 have hS1 : ∀ b,S b ∨ F b → st.S b ∧ w.heap[b]? = w1.heap[b]?:=j3.S
 have hlow : ∀ b,st.S b → S b ∨ (b < w.heap.size ∧ (O b ∨ w1.heap.size ≤ b)):=fun b hb=>by
  rcases j1.x.low b hb with h | h
  ·rw [u2] at h;exact .inl h
  ·rw [u1] at h
   refine .inr ⟨j1.stab b hb,?_⟩
   rcases Nat.lt_or_ge b w1.heap.size with hlt | hge
   ·by_cases hO : O b
    ·exact .inl hO
    ·exact absurd ⟨hlt,hO⟩ h
   ·exact .inr hge
 refine ⟨tr,fun b=>b < w.heap.size ∧ (O b ∨ w1.heap.size ≤ b),fun b=>st.S b ∧ b < w.heap.size ∧ (O b ∨ w1.heap.size ≤ b),st,i1,?_,fun b hb=>hb.2,fun b hb=>?_,hd,j1,j2,fun b=>?_,fun id r hr hm=>?_,j4,j3.n,u2⟩
 ·refine hJ _ O F _ _ w1 w i2 j1.below (fun b hb hob=>?_) (fun b hb=>hb.2) (fun b hb=>?_) (fun b hb=>hb.2) (fun b hb=>?_)
  ·rcases hob with h | h
   ·exact u3 b ⟨hb,h⟩
   ·exact (hS1 b (.inr h)).2
  ·exact ⟨(hS1 b (.inr hb)).1,j1.stab b (hS1 b (.inr hb)).1,.inl (i5 b hb)⟩
  ·rcases hb.2 with h | h
   ·exact ⟨(i6 b h).1,hb.1⟩
   ·exact ⟨by omega,hb.1⟩
 ·rcases hb.2 with h | h
  ·exact ⟨(i6 b h).1,hb.1⟩
  ·exact ⟨by omega,hb.1⟩
 ·constructor
  ·intro hb
   rcases hlow b hb with h | h
   ·exact .inl h
   ·exact .inr ⟨hb,h⟩
  ·rintro (h | h)
   ·exact (hS1 b (.inl h)).1
   ·exact h.1
 ·have h1:=j1.x.own id r hr hm
  rw [u1] at h1
  refine ⟨j1.blk_lt hr hm,?_⟩
  rcases Nat.lt_or_ge r.b w1.heap.size with hlt | hge
  ·by_cases hO : O r.b
   ·exact .inl hO
   ·exact absurd ⟨hlt,hO⟩ h1
  ·exact .inr hge
theorem run_yield_op {o : Oper} {c : Call} {f : Operand} {a : Act} {w : World} (ho : o.op = .call c) (hf : c.callee = .value f) (hv : a.eval f = .func (.yield l) #[] #[]) : (execOp a.eval o).run P w = (Instr.yield l (c.args.map a.eval)).run P w:=by
 obtain ⟨dst,op,type,pos,after,guard⟩:=o
 simp only at ho
 subst ho
 simp only [execOp,resolve,hf,hv,Deferred.ofValue,Sem.run_bind,Sem.run_pure,Result.andThen_ok,invoke]
 simp
include hE in
theorem op_soundH {T : List AV} {h : Heap} {a : Act} {w : World} {o : Oper} {K : KV} {next : Act → World → Prop} {Q : Exit → Act → World → Prop} (hJ : Bears B W0 nc J) (hB : B ≤ nc) (hS : ∀ b,S b → b < nc) (hY : Rounds P B W0 S nc J s l N xs) (hI : InvH P B W0 S nc J s T h a w)
  (hk : opD E (RI P l xs s) T h o.op K) (hn : ∀ v h' a' w', K v h' → InvH P B W0 S nc J s (putD o.dst v T) h' a' w' → next a' w') : o.wpIn (FW none) N P a w next Q := by
 rcases opD_yield hk with hk | ⟨c, f, l', x, y, r, h', e1, e2, e3, hy, hk⟩
 ·obtain ⟨tr,O,F,w1,st1,i1,i2,i3,i4,i5,i6,i7,hI⟩:=hI
  obtain ⟨v, h', k1, k2⟩ := opD_out hk
  obtain ⟨hd,st,j1,j2,j3,j4⟩:=id hI
  have hG : st.G 0:=by rw [j4,i7]
  have hkeep : h'[0]? = h[0]?:=opD_keep RI.keep j1 j2 hG (k2 (fun _ h1=>h1 = h') rfl)
  refine oper_soundIn hE RI.sub hI (k2 (fun v1 h1=>v1 = v ∧ h1 = h') ⟨rfl,rfl⟩) (fun v1 h1 a' w' e hI'=>?_)
  obtain ⟨rfl,rfl⟩:=e
  exact hn _ _ a' w' k1 ⟨tr,O,F,w1,st1,by rw [hkeep];exact i1,i2,i3,i4,i5,i6,i7,hI'⟩
 ·obtain ⟨i,rest,ds,rfl,y2,y3,y4,rfl,rfl⟩:=hy
  obtain ⟨tr,O,F,st,i1,i2,i3,i4,i5,i6,i7,i8,i9,i10,i11,i12⟩:=hI.now hJ
  simp only [List.getElem?_cons_zero,Option.some.injEq] at i1
  subst i1
  rw [trO_len] at i2
  obtain ⟨y5,y6⟩:=List.cons.inj y4
  cases y5
  have hfv : a.eval f = .func (.yield l) #[] #[]:=by
   have:=aV_opnd i7 f
   rw [e3] at this
   obtain ⟨us,u1,u2⟩:=this
   simp only [AV.isAgg,Bool.false_eq_true,if_false] at u1
   simp only [aC] at u2
   rw [u1] at u2
   exact (List.cons.inj u2).1
  have hargs : aVs w st (ds.map .d) (c.args.toList.map a.eval):=by rw [← y6];exact aVs_map i7 _
  have hds : cVs w (fun b=>S b ∨ F b) ds (c.args.toList.map a.eval):=by
   have hm : ∀ (l : List D) (vs : List Value),aVs w st (l.map .d) vs → cVs w st.S l vs:=by
    intro l
    induction l with
    | nil=>intro vs h;simpa [aVs,cVs] using h
    | cons x l ih=>
     intro vs h
     simp only [List.map_cons,aVs] at h
     obtain ⟨v,t,ws,h1,h2,h3,h4⟩:=h
     simp only [cVs]
     have hx : (AV.d x).isAgg = x.isAgg:=by cases x<;>rfl
     rw [hx] at h2
     exact ⟨v,t,ws,h1,h2,by simpa [aC] using h3,ih _ h4⟩
   exact cVs_mono (fun b hb=>⟨(i8 b).1 hb,rfl⟩) _ _ (hm _ _ hargs)
  obtain ⟨fn,tmps,assign,body,g1,g2⟩:=hY i O F w (c.args.toList.map a.eval) y2 i2 i6.below i3 i4 ⟨ds,y3,hds⟩
  refine ⟨fun _ _=>trivial,?_⟩
  have hsem : (o.semAt (FW none).round a.eval).run P w = .ok (.round l fn tmps assign body) w:=by
   rw [Oper.semAt_eq _ _ _ (fun c' e=>by rw [e1] at e;cases e),run_yield_op e1 e2 hfv]
   have : c.args.map a.eval = (c.args.toList.map a.eval).toArray:=by rw [← Array.toList_map]
   rw [this]
   exact g1
  rw [hsem,Oper.uponIn_round]
  refine ⟨fun h=>by simp [FW,Fence.wide] at h,g2.mono ?_⟩
  rintro e w2 ⟨rfl,q1,q2,q3,q4⟩
  refine hn _ _ _ w2 hk ?_
  -- the walk goes on from here
  have hSt : ∀ b,st.S b → w2.heap[b]? = w.heap[b]?:=fun b hb=>by
   rcases (i8 b).1 hb with h | h
   ·exact q4 b (.inl h)
   ·exact q4 b (.inr (i3 b h))
  have hlt : ∀ b,S b ∨ O b → b < w.heap.size → b < w2.heap.size:=fun b hb hlt=>by
   have:=q4 b hb
   rw [Array.getElem?_eq_getElem hlt] at this
   exact (Array.getElem?_eq_some_iff.1 this).1
  obtain ⟨m0,me0⟩:=(i6.reset (h':=trO (i + 1) :: rest) st.S (fun _=>False) st.S0 (by simp) (fun j hj=>by
   cases j with
   | zero=>exact absurd (by rw [i10]) hj
   | succ j=>rfl) (fun _ h=>h) i6.stab (fun _ _ _ _ h=>h) (fun _ _ _ _ h=>h) (fun _ _=>.inr (fun h=>h)) (fun _ h=>h.elim))
  obtain ⟨m1,me1⟩:=m0.move q2 (by omega) (fun _ h=>h.elim) hSt (fun id r hr hm=>q4 _ (.inr (i9 id r hr hm)))
  obtain ⟨m2,me2⟩:=m1.reset (h':=trO (i + 1) :: rest) st.S (fun b=>b < w2.heap.size ∧ ¬ O b) S rfl (fun _ _=>rfl) (fun _ h=>h) m1.stab (fun _ _ _ _ h=>h) (fun id r hr hm hu=>hu.2 (i9 id r hr hm)) (fun b hb=>by
    rcases (i8 b).1 hb with h | h
    ·exact .inl h
    ·exact .inr (fun hu=>hu.2 (i3 b h))) (fun b hb=>hb.1)
  refine ⟨trO (i + 1),O,F,w2,_,rfl,by rw [trO_len];exact q1,q2,q3,i3,fun b hb=>⟨(i4 b hb).1,hlt b (.inr hb) (i4 b hb).2⟩,rfl,by rw [put_defers];exact i5,_,m2,?_,?_,i10⟩
  ·refine aT_put (x:=.d (.bool (decide (i < s)))) ⟨i7.1,fun j=>?_⟩ (aV_bool.2 rfl)
   exact aV_monoC me2 (aV_monoC me1 (aV_monoC me0 (i7.2 j)))
  ·refine ⟨i11,fun _ hlt hg _ _=>absurd (by simp at hlt;exact hlt) hg,fun b hb=>⟨(i8 b).2 hb,rfl⟩,fun id hlt hg=>by simpa using hlt,rfl,rfl,fun _ _=>rfl⟩
theorem regD_opsH (hJ : Bears B W0 nc J) (hB : B ≤ nc) (hS : ∀ b,S b → b < nc) (hY : Rounds P B W0 S nc J s l N xs) {ops : Array Oper} {Q : Exit → Act → World → Prop} {K : List AV → Heap → Prop} (hQ : ∀ T h a w,K T h → InvH P B W0 S nc J s T h a w → Q .normal a w) (hE : EOK P E) :
  ∀ (rest : List Oper) (n : Nat) (T : List AV) (h : Heap) (a : Act) (w : World),ops.toList.drop n = rest → InvH P B W0 S nc J s T h a w → regD E (RI P l xs s) ops.toList rest T h K → wpOpsIn (FW none) N P ops Q (List.range' n rest.length) a w
 | [],n,T,h,a,w,hd,hI,hk=>by simpa [wpOpsIn] using hQ T h a w hk hI
 | o :: rest,n,T,h,a,w,hd,hI,hk=>by
  simp only [regD] at hk
  have ho : ops[n]? = some o:=by
   have:=congrArg (·[0]?) hd
   simpa using this
  have hd' : ops.toList.drop (n + 1) = rest:=by
   have:=congrArg List.tail hd
   simpa using this
  simp only [List.length_cons,List.range'_succ,wpOpsIn,ho]
  obtain ⟨tr,O,F,w1,st1,i1,i2,i3,i4,i5,i6,i7,hI0⟩:=id hI
  obtain ⟨hdf,st,h1,h2,h3,h4⟩:=id hI0
  rcases guardD_want hk with ⟨g1,g2⟩ | ⟨g1,g2⟩
  ·rw [wanted_of h2 g1]
   simp only [if_true]
   refine (op_soundH hE hJ hB hS hY hI g2 fun v h' a' w' hk' hI'=>?_)
   rw [dstK_eq] at hk'
   exact regD_opsH hJ hB hS hY hQ hE rest (n + 1) _ h' a' w' hd' hI' hk'
  ·rw [wanted_of h2 g1]
   simp only [Bool.false_eq_true,if_false]
   rw [dstK_eq] at g2
   exact ⟨fun _ _=>trivial,regD_opsH hJ hB hS hY hQ hE rest (n + 1) _ h _ w hd' ⟨tr,O,F,w1,st1,i1,i2,i3,i4,i5,i6,i7,skip_sound hI0⟩ g2⟩
theorem wk_first {T T1 : List AV} {h h1 : Heap} {tr : AO} (hk : WkE [] 1 T h T1 h1) (h0 : h[0]? = some tr) : ∃ tr1,h1[0]? = some tr1 ∧ tr1.elems.length = tr.elems.length:=by
 rcases hk with ⟨rfl,_⟩ | ⟨μ,f1,f2,f3,f4⟩
 ·exact ⟨tr,h0,rfl⟩
 ·cases μ with
  | nil=>simp [fixUp] at f1
  | cons m μ=>
   cases m with
   | old j=>
    simp only [fixUp,Bool.and_true] at f1
    have : j = 0:=(Nat.eq_of_beq_eq_true f1).symm
    subst this
    cases h1 with
    | nil=>simp [wkH] at f4
    | cons o1 h1=>
     simp only [wkH,wkO] at f4
     obtain ⟨o,e1,_,_,e2⟩:=(nthK_iff _ _).1 f4.1
     rw [h0] at e1
     cases e1
     refine ⟨o1,rfl,?_⟩
     rcases e2 with ⟨l,e3,e4⟩ | e2
     ·rw [e3,e4]
     ·exact (wks_length e2).symm
   | void k=>simp [fixUp] at f1
   | dead=>simp [fixUp] at f1
   | cut j n=>simp [fixUp] at f1
theorem freeze_first : ∀ (l : List Nat) {h : Heap} {tr : AO},h[0]? = some tr → ∃ tr1,(freeze h l)[0]? = some tr1 ∧ tr1.elems.length = tr.elems.length
 | [],h,tr,h0=>⟨tr,h0,rfl⟩
 | i :: l,h,tr,h0=>by
  simp only [freeze]
  have : ∃ tr1,(match h[i]? with | some o=>h.set i o.freeze | none=>h)[0]? = some tr1 ∧ tr1.elems.length = tr.elems.length:=by
   split
   ·rename_i o ho
    by_cases hi : i = 0
    ·subst hi
     rw [h0] at ho
     cases ho
     refine ⟨tr.freeze,?_,by unfold AO.freeze;split<;>rfl⟩
     rw [List.getElem?_set_self (List.getElem?_eq_some_iff.1 h0).1]
    ·exact ⟨tr,by rw [List.getElem?_set_ne hi];exact h0,rfl⟩
   ·exact ⟨tr,h0,rfl⟩
  obtain ⟨t1,e1,e2⟩:=this
  obtain ⟨t2,e3,e4⟩:=freeze_first l e1
  exact ⟨t2,e3,e4.trans e2⟩
theorem end_first {h : Heap} {x r : AV} {k : Nat} {tr : AO} (hk : EndR [] 1 h x r [trO k] ∨ (x = r ∧ h = [trO k])) (h0 : h[0]? = some tr) : tr.elems.length = k:=by
 have key : ∀ {T T1 : List AV} {g : Heap} {t : AO},Wk [] 1 T g T1 [trO k] → g[0]? = some t → t.elems.length = k:=fun hk h0=>by
  obtain ⟨t1,e1,e2⟩:=wk_first (.inr hk) h0
  simp only [List.getElem?_cons_zero,Option.some.injEq] at e1
  subst e1
  rw [← e2,trO_len]
 rcases hk with (hk | ⟨y,_,_,hk⟩) | ⟨_,hk⟩
 ·exact key hk h0
 ·obtain ⟨t1,e1,e2⟩:=freeze_first (reach 8 h x) h0
  rw [← e2];exact key hk e1
 ·subst hk
  simp only [List.getElem?_cons_zero,Option.some.injEq] at h0
  subst h0
  exact trO_len k
end
theorem start_aT {w : World} {st : St} {args : List AV} {vs : List Value} (n : Nat) (ha : aVs w st args vs) : aT w st (args ++ List.replicate (n - args.length) .junk) (vs.toArray ++ Array.replicate (n - vs.toArray.size) undef):=by
 have hl:=((aVs_iff _ _).1 ha).1
 refine ⟨by simp [hl],fun i=>?_⟩
 rw [nth_get]
 by_cases hi : i < args.length
 ·have h1 : (args ++ List.replicate (n - args.length) AV.junk)[i]? = some args[i]:=by rw [List.getElem?_append_left hi];exact List.getElem?_eq_getElem hi
  have h2 : (vs.toArray ++ Array.replicate (n - vs.toArray.size) undef).getD i undef = vs[i]:=by
   simp [Array.getElem?_append,hl,hi]
  rw [h1,h2]
  exact ((aVs_iff _ _).1 ha).2 i _ _ (List.getElem?_eq_getElem hi) (List.getElem?_eq_getElem (by omega))
 ·have h1 : ((args ++ List.replicate (n - args.length) AV.junk)[i]?).getD .junk = .junk:=by
   rw [List.getElem?_append_right (by omega),List.getElem?_replicate]
   split<;>rfl
  rw [h1]
  exact aV_junk _ _ _
theorem iter_of {P : Program} {E : TE} (hE : EOK P E) {f : Nat} {fn : Func} (hf : P.funcs[f]? = some fn) (hn : (fn.name == "runtime.NumGoroutine") = false) (hbd : bdF fn = true) {first cap : List D} {xs : List (List D)}
    (hk : ∀ s l,s ≤ xs.length → BodyF E (RI P l xs s) [] [] fn (first.map .d ++ .raw (.func (.yield l) #[] #[]) :: cap.map .d) [trO 0] (.tup []) [trO (min (s + 1) xs.length)]) : IterR P f first cap xs:=by
  have hb : fn.body.isNone = false:=by
    unfold bdF at hbd
    split at hbd
    · rename_i c hc;simp [hc]
    · cases hbd
  refine ⟨fun args w=>by simp only [callFunc,Sem.run_bind,run_program,Result.andThen_ok,hf,hn,hb,Bool.false_eq_true,if_false,Sem.run_pure],fun s hs N l B W0 w S us vs J hB hbl hS hus hvs hJ hY h0=>?_⟩
  have hk:=hk s l hs
  unfold BodyF at hk
  unfold bdF at hbd
  split at hk
  · rename_i c hc
    simp only [hc] at hbd
    refine callsIn_of_wp hf hc trivial ?_
    obtain ⟨M,hr,hbc⟩:=start_rep (fn:=fn) (first.map .d ++ .raw (.func (.yield l) #[] #[]) :: cap.map .d) hbd
    have hk:=codeF_sound (N:=M) c _ _ [trO 0] (endD E [] 1 fn.results.toList (.tup []) [trO (min (s + 1) xs.length)]) _ hbc hr (fun ex T' A' h' hr' hk'=>by
      cases ex with
      | normal=>exact endX_sound hr' hk'
      | exit id=>exact hk'.elim
      | ret=>exact endX_sound hr' hk') hk
    have hSF : ∀ b,S b → (S b ∨ False) ∧ w.heap[b]? = w.heap[b]?:=fun b h=>⟨.inl h,rfl⟩
    let st1 : St:={ n:=1,ρ:=fun _=>none,S:=fun b=>S b ∨ False,G:=fun id=>id = 0,U:=fun b=>b < w.heap.size ∧ ¬ False,S0:=S }
    have hw1 : WR B W0 w st1 [trO 0]:=by
      refine ⟨hbl,hB,rfl,fun id o h1 _ h3=>?_,fun id o h1 _ h3=>?_,fun id r hr=>(nomatch hr),fun i j r s hr=>(nomatch hr),fun b hb=>hS b (hb.resolve_right id),fun id r o hr=>(nomatch hr),fun id r o hr=>(nomatch hr),fun id hid=>?_,fun id r hr=>(nomatch hr),fun b hb=>.inl (hb.resolve_right id),fun b hb=>hb.1⟩
      · exact absurd (by have:=(List.getElem?_eq_some_iff.1 h1).1;simp at this;exact this) h3
      · exact absurd (by have:=(List.getElem?_eq_some_iff.1 h1).1;simp at this;exact this) h3
      · have : id = 0:=hid
        subst this;exact Nat.zero_lt_one
    have ha1 : aVs w st1 (first.map .d ++ .raw (.func (.yield l) #[] #[]) :: cap.map .d) (us ++ .func (.yield l) #[] #[] :: vs):=by
      refine aVs_append (cVs_aVs (cVs_mono hSF _ _ hus)) ?_
      simp only [aVs]
      exact ⟨.func (.yield l) #[] #[],vs,[.func (.yield l) #[] #[]],rfl,by simp [AV.isAgg],by simp [aC],cVs_aVs (cVs_mono hSF _ _ hvs)⟩
    have hI0 : InvH P B W0 S w.heap.size J s (((first.map AV.d ++ AV.raw (.func (.yield l) #[] #[]) :: cap.map AV.d) : List AV) ++ List.replicate (fn.ntmps - (first.map AV.d ++ AV.raw (.func (.yield l) #[] #[]) :: cap.map AV.d).length) .junk) [trO 0]
        { tmps:=(us ++ .func (.yield l) #[] #[] :: vs).toArray ++ Array.replicate (fn.ntmps - (us ++ .func (.yield l) #[] #[] :: vs).toArray.size) undef,defers:=[] } w:=
      ⟨trO 0,fun _=>False,fun _=>False,w,st1,rfl,by rw [trO_len];exact h0,hbl,Nat.le_refl _,fun _ h=>h,fun _ h=>h.elim,rfl,rfl,st1,hw1,start_aT _ ha1,Ext.refl _ _,rfl⟩
    refine codeI_sound (E:=E) (R:=RI P l xs s) (C:=[]) (V:=[]) (n0:=1) (InvH P B W0 S w.heap.size J s) ?_ ?_ ?_ ?_ c _ _ _ w _ _ ?_ hI0 hk
    · rintro T h a w' t b ⟨tr,O,F,w1,s1,i1,i2,i3,i4,i5,i6,i7,hd,st,j1,j2,j3⟩ hb
      have:=j2.2 t
      rw [hb] at this
      exact aV_bool.1 this
    · rintro T T1 h h1 a w' hk ⟨tr,O,F,w1,s1,i1,i2,i3,i4,i5,i6,i7,hI⟩
      obtain ⟨tr1,e1,e2⟩:=wk_first hk i1
      refine ⟨tr1,O,F,w1,s1,e1,by rw [e2];exact i2,i3,i4,i5,i6,i7,wke_inv ?_ ?_ (fun _ h=>by cases h) hk hI⟩
      · subst i7;intro i hi;simp only at hi ⊢;omega
      · subst i7;exact Nat.le_refl _
    · intro id ops Q K T h a w' hQ hI hk
      refine wpIn_region ?_
      have:=regD_opsH (l:=l) (N:=N) hJ hB hS hY hQ hE ops.toList 0 T h a w' rfl hI hk
      rw [List.range_eq_range']
      simpa using this
    · rintro id ops Q K T h a w' hQ ⟨tr,O,F,w1,s1,i1,i2,i3,i4,i5,i6,i7,hI⟩ hk
      refine drawSoundK hE RI.sub (KP:=True) (fun _=>⟨RI.keep,by rw [i7]⟩) (fun T1 h1 a1 w2 hk1 hkeep hI1=>hQ T1 h1 a1 w2 hk1 ⟨tr,O,F,w1,s1,by rw [hkeep trivial];exact i1,i2,i3,i4,i5,i6,i7,hI1⟩) hI hk
    · have fin : ∀ (T : List AV) (h : Heap) (a : Act) (w' : World), resD E h T fn.results.toList (fun l => EndR [] 1 h (tupD l) (.tup []) [trO (min (s + 1) xs.length)] ∨ (tupD l = .tup [] ∧ h = [trO (min (s + 1) xs.length)])) → InvH P B W0 S w.heap.size J s T h a w' →
          a.defers = [] ∧ ∃ v,(results fn a.tmps).run P w' = .ok v w' ∧ (∃ u,Ending.returned v = .returned u) ∧ ∃ O F,J (min (s + 1) xs.length) O F w' ∧ Below B W0 w':=by
        intro T h a w' hk hI
        obtain ⟨tr', O', F', st', n1, n2, n3, n4, n5, n6, _⟩ := hI.now hJ
        obtain ⟨tr,O,F,w1,s1,i1,i2,i3,i4,i5,i6,i7,hI⟩:=hI
        have hlen : tr.elems.length = min (s + 1) xs.length:=by
          obtain ⟨l,k1,_⟩:=out_resD E h T _ _ hk
          exact end_first k1 i1
        have hn1 : s1.n = 1:=by rw [i7]
        have hg1 : ∀ i,s1.G i → i < s1.n:=by subst i7;intro i hi;simp only at hi ⊢;omega
        obtain ⟨hd,v,k1,k2⟩:=endD_sound hE (h1:=[trO (min (s + 1) xs.length)]) (r:=.tup []) (V:=[]) (fn:=fn) hI hg1 (fun _ h=>by cases h) (by rw [hn1];exact hk)
        refine ⟨hd, v, k1, ⟨v, rfl⟩, O', F', ?_, n6.below⟩
        rw [i1] at n1
        cases n1
        rw [← hlen];exact n2
      intro ex T h a w' hk hI
      cases ex with
      | exit id=>exact hk.elim
      | normal=>exact fin T h a w' hk hI
      | ret=>exact fin T h a w' hk hI
  · exact hk.elim
end Dw
namespace Dw
open Go Go.RowKit
def psT : List Nat → List D → List AV → Option (List AV)
 | [],[],T=>some T
 | p :: ps,x :: xs,T=>psT ps xs (T.set p (.d x))
 | _,_,_=>none
abbrev RW:=Nat → List AV → Heap → (Ex → List AV → Heap → Prop) → Prop
def roundsD (V : List Nat) (n0 : Nat) (ps : List Nat) (W : RW) (K : Ex → List AV → Heap → Prop) : List (List D) → List AV → Heap → Prop
 | [],T,h=>∃ T1 h1,WkE V n0 T h T1 h1 ∧ K .normal T1 h1
 | x :: xs,T,h=>∃ T1 h1 T2,WkE V n0 T h T1 h1 ∧ psT ps x T1 = some T2 ∧ W h1.length T2 h1 (fun ex _ h'=>match ex with
  | .normal=>roundsD V n0 ps W K xs T1 h'
  | .exit id=>K (.exit id) T1 h'
  | .ret=>K .ret T1 h')
def itK (g : AV) (K : Nat → List D → List D → Prop) : Prop:=
 match g with
 | .d (.fn f a c)=>K f a c
 | .fn f a c=>match dcells a with
  | some a=>match dcells c with
   | some c=>K f a c
   | none=>False
  | none=>False
 | _=>False
def roundW (E : TE) (R : Rel) (assign body : Code) : RW:=fun n T h K=>codeD E R [] [] n assign T h (fun ex T' h'=>match ex with
 | .normal=>codeD E R [] [] n body T' h' K
 | _=>False)
def codeR (P : Program) (E : TE) (R : Rel) (C V : List Nat) (n0 : Nat) : Code → List AV → Heap → (Ex → List AV → Heap → Prop) → Prop
 | .seq a b,T,h,K=>codeR P E R C V n0 a T h (fun ex T h=>match ex with
   | .normal=>codeR P E R C V n0 b T h K
   | .exit id=>K (.exit id) T h
   | .ret=>K .ret T h)
 | .cond c a b,T,h,K=>condK T c (fun T=>codeR P E R C V n0 a T h K) (fun T=>codeR P E R C V n0 b T h K)
 | .block id c,T,h,K=>codeR P E R C V n0 c T h (fun ex T h=>match ex with
   | .normal=>K .normal T h
   | .exit i=>onBool (Nat.beq i id) (K .normal T h) (K (.exit i) T h)
   | .ret=>K .ret T h)
 | .rangeFunc g ps assign body,T,h,K=>opndK T g (fun g=>itK g (fun f a c=>∃ xs,IterR P f a c xs ∧ roundsD V n0 ps.toList (roundW E R assign body) K xs T h))
 | c,T,h,K=>codeD E R C V n0 c T h K
def RC (V : List Nat) (n0 : Nat) (ps : List Nat) (W : RW) (K : Ex → List AV → Heap → Prop) : Nat → List (List D) → List AV → Heap → Prop
 | 0,[],T,h=>∃ T1 h1,WkE V n0 T h T1 h1 ∧ K .normal T1 h1
 | _ + 1,[],_,_=>False
 | 0,x :: xs,T,h=>∃ T1 h1 T2,WkE V n0 T h T1 h1 ∧ psT ps x T1 = some T2 ∧ W h1.length T2 h1 (fun ex _ h'=>ex ≠ .normal ∧ K ex T1 h')
 | s + 1,x :: xs,T,h=>∃ T1 h1 T2,WkE V n0 T h T1 h1 ∧ psT ps x T1 = some T2 ∧ W h1.length T2 h1 (fun ex _ h'=>ex = .normal ∧ RC V n0 ps W K s xs T1 h')
theorem out_roundW (E : TE) (R : Rel) (assign body : Code) (n : Nat) (T : List AV) (h : Heap) : Out (fun K : KX=>roundW E R assign body n T h (fun ex T h=>K (ex,T,h))):=by
 unfold roundW
 refine out_bind (F:=fun K : KX=>codeD E R [] [] n assign T h (fun ex T h=>K (ex,T,h))) (G:=fun (p : Ex × List AV × Heap) (K : KX)=>match p.1 with
  | .normal=>codeD E R [] [] n body p.2.1 p.2.2 (fun ex T h=>K (ex,T,h))
  | _=>False) (out_codeD E R [] [] n assign T h) fun p=>?_
 obtain ⟨ex, T', h'⟩ := p
 cases ex with
 | normal=>exact out_codeD E R [] [] n body T' h'
 | exit id=>exact out_false
 | ret=>exact out_false
theorem rc_of {V : List Nat} {n0 : Nat} {ps : List Nat} {W : RW} {K : Ex → List AV → Heap → Prop} (hW : ∀ n T h,Out (fun K : KX=>W n T h (fun ex T h=>K (ex,T,h)))) : ∀ (xs : List (List D)) (T : List AV) (h : Heap),roundsD V n0 ps W K xs T h → ∃ s,s ≤ xs.length ∧ RC V n0 ps W K s xs T h
 | [],T,h,hk=>⟨0,Nat.le_refl _,hk⟩
 | x :: xs,T,h,hk=>by
  obtain ⟨T1,h1,T2,k1,k2,k3⟩:=hk
  obtain ⟨⟨ex, T', h'⟩, q1, q2⟩ := hW h1.length T2 h1 (fun p => match p.1 with
   | .normal=>roundsD V n0 ps W K xs T1 p.2.2
   | .exit id=>K (.exit id) T1 p.2.2
   | .ret=>K .ret T1 p.2.2) k3
  cases ex with
  | normal=>
   obtain ⟨s,hs,hr⟩:=rc_of hW xs T1 h' q1
   exact ⟨s + 1,Nat.succ_le_succ hs,T1,h1,T2,k1,k2,q2 (fun p=>p.1 = .normal ∧ RC V n0 ps W K s xs T1 p.2.2) ⟨rfl,hr⟩⟩
  | exit id=>exact ⟨0,Nat.zero_le _,T1,h1,T2,k1,k2,q2 (fun p=>p.1 ≠ .normal ∧ K p.1 T1 p.2.2) ⟨by simp,q1⟩⟩
  | ret=>exact ⟨0,Nat.zero_le _,T1,h1,T2,k1,k2,q2 (fun p=>p.1 ≠ .normal ∧ K p.1 T1 p.2.2) ⟨by simp,q1⟩⟩
theorem RC.round {V : List Nat} {n0 : Nat} {ps : List Nat} {W : RW} {K : Ex → List AV → Heap → Prop} {s i : Nat} {xs : List (List D)} {x : List D} {T : List AV} {h : Heap} (hW : ∀ n T h,Out (fun K : KX=>W n T h (fun ex T h=>K (ex,T,h)))) (hi : i ≤ s) (hx : xs[i]? = some x) (hk : RC V n0 ps W K (s - i) (xs.drop i) T h) :
  ∃ T1 h1 T2,WkE V n0 T h T1 h1 ∧ psT ps x T1 = some T2 ∧ W h1.length T2 h1 (fun ex _ h'=>(i < s ∧ ex = .normal ∧ RC V n0 ps W K (s - (i + 1)) (xs.drop (i + 1)) T1 h') ∨ (i = s ∧ ex ≠ .normal ∧ K ex T1 h')):=by
 have hlt : i < xs.length:=(List.getElem?_eq_some_iff.1 hx).1
 have hd : xs.drop i = x :: xs.drop (i + 1):=by
  rw [List.drop_eq_getElem_cons hlt]
  rw [List.getElem?_eq_getElem hlt] at hx
  rw [Option.some.inj hx]
 rw [hd] at hk
 rcases Nat.lt_or_ge i s with h1 | h1
 ·rw [show s - i = (s - (i + 1)) + 1 by omega] at hk
  obtain ⟨T1, h1', T2, k1, k2, k3⟩ := hk
  refine ⟨T1, h1', T2, k1, k2, ?_⟩
  obtain ⟨⟨ex, T', h'⟩, q1, q2⟩ := hW _ _ _ (fun p => p.1 = .normal ∧ RC V n0 ps W K (s - (i + 1)) (xs.drop (i + 1)) T1 p.2.2) k3
  exact q2 (fun p=>(i < s ∧ p.1 = .normal ∧ RC V n0 ps W K (s - (i + 1)) (xs.drop (i + 1)) T1 p.2.2) ∨ (i = s ∧ p.1 ≠ .normal ∧ K p.1 T1 p.2.2)) (.inl ⟨h1,q1.1,q1.2⟩)
 ·have hs : s = i:=by omega
  subst hs
  rw [show s - s = 0 by omega] at hk
  obtain ⟨T1, h1', T2, k1, k2, k3⟩ := hk
  refine ⟨T1, h1', T2, k1, k2, ?_⟩
  obtain ⟨⟨ex, T', h'⟩, q1, q2⟩ := hW _ _ _ (fun p => p.1 ≠ .normal ∧ K p.1 T1 p.2.2) k3
  exact q2 (fun p=>(s < s ∧ p.1 = .normal ∧ RC V n0 ps W K (s - (s + 1)) (xs.drop (s + 1)) T1 p.2.2) ∨ (s = s ∧ p.1 ≠ .normal ∧ K p.1 T1 p.2.2)) (.inr ⟨rfl,q1.1,q1.2⟩)
theorem psT_len : ∀ {ps : List Nat} {x : List D} {T T2 : List AV},psT ps x T = some T2 → x.length = ps.length
 | [],[],_,_,_=>rfl
 | [],_ :: _,_,_,h=>by simp [psT] at h
 | _ :: _,[],_,_,h=>by simp [psT] at h
 | p :: ps,x :: xs,T,T2,h=>by simp only [psT] at h;simp [psT_len h]
theorem cVs_length {w : World} {S : Nat → Prop} : ∀ {l : List D} {vs : List Value},cVs w S l vs → vs.length = l.length
 | [],vs,h=>by simp only [cVs] at h;simp [h]
 | x :: l,vs,h=>by
  simp only [cVs] at h
  obtain ⟨v,r,us,rfl,_,_,h4⟩:=h
  simp [cVs_length h4]
theorem psT_aT {w : World} {st : St} : ∀ {ps : List Nat} {x : List D} {T T2 : List AV} {tm : Array Value} {vs : List Value},psT ps x T = some T2 → aT w st T tm → cVs w st.S x vs → aT w st T2 ((ps.zip vs).foldl (fun t p=>t.setIfInBounds p.1 p.2) tm)
 | [],[],T,T2,tm,vs,h,hT,_=>by simp only [psT,Option.some.injEq] at h;subst h;simpa using hT
 | [],_ :: _,_,_,_,_,h,_,_=>by simp [psT] at h
 | _ :: _,[],_,_,_,_,h,_,_=>by simp [psT] at h
 | p :: ps,x :: xs,T,T2,tm,vs,h,hT,hv=>by
  simp only [psT] at h
  simp only [cVs] at hv
  obtain ⟨v,r,us,rfl,h2,h3,h4⟩:=hv
  simp only [List.zip_cons_cons,List.foldl_cons]
  refine psT_aT h ?_ h4
  have hx : (AV.d x).isAgg = x.isAgg:=by cases x<;>rfl
  have:=aT_put (a:={ tmps:=tm,defers:=[] }) (dst:=some p) (x:=.d x) (v:=v) hT ⟨us,by rw [hx];exact h2,by simpa [aC] using h3⟩
  exact this
theorem dcells_eq : ∀ {l : List AV} {ds : List D},dcells l = some ds → l = ds.map .d
 | [],ds,h=>by simp only [dcells,Option.some.injEq] at h;subst h;rfl
 | a :: l,ds,h=>by
  cases a<;>simp only [dcells] at h<;>try (cases h;done)
  rename_i x
  split at h
  ·rename_i r hr
   cases h
   simp [dcells_eq hr]
  ·cases h
theorem aVs_cVsD {w : World} {st : St} : ∀ {l : List D} {vs : List Value},aVs w st (l.map .d) vs → cVs w st.S l vs
 | [],vs,h=>by simpa [aVs,cVs] using h
 | x :: l,vs,h=>by
  simp only [List.map_cons,aVs] at h
  obtain ⟨v,t,ws,h1,h2,h3,h4⟩:=h
  simp only [cVs]
  have hx : (AV.d x).isAgg = x.isAgg:=by cases x<;>rfl
  rw [hx] at h2
  exact ⟨v,t,ws,h1,h2,by simpa [aC] using h3,aVs_cVsD h4⟩
theorem itK_spec {w : World} {st : St} {g : AV} {v : Value} {K : Nat → List D → List D → Prop} (hv : aV w st g v) (hk : itK g K) : ∃ f a c us vs,v = .func (.func f) us.toArray vs.toArray ∧ cVs w st.S a us ∧ cVs w st.S c vs ∧ K f a c:=by
 unfold itK at hk
 split at hk
 ·obtain ⟨us,e1,e2⟩:=hv
  simp only [AV.isAgg,Bool.false_eq_true,if_false] at e1
  subst e1
  simp only [aC,cC] at e2
  obtain ⟨us,ts,e2,e3,e4⟩:=e2
  cases e2
  exact ⟨_,_,_,us,ts,rfl,e3,e4,hk⟩
 ·split at hk
  ·rename_i a' ha
   split at hk
   ·rename_i c' hc
    obtain ⟨us,e1,e2⟩:=hv
    simp only [AV.isAgg,Bool.false_eq_true,if_false] at e1
    subst e1
    simp only [aC] at e2
    obtain ⟨us,ts,e2,e3,e4⟩:=e2
    cases e2
    rw [dcells_eq ha] at e3
    rw [dcells_eq hc] at e4
    exact ⟨_,_,_,us,ts,rfl,aVs_cVsD e3,aVs_cVsD e4,hk⟩
   ·exact hk.elim
  ·exact hk.elim
 ·exact hk.elim
section
variable {P : Program} {E : TE} (hE : EOK P E) {B : Nat} {W : World} {R : Rel} (hR : Sub P B W R)
include hE hR
theorem codeD_round {w0 : World} {st0 : St} {ro : Option Nat} {N n : Nat} (hg0 : ∀ i,st0.G i → i < st0.n) (hn : st0.n ≤ n) (c : Code) (T : List AV) (h : Heap) (a : Act) (w : World) (K : Ex → List AV → Heap → Prop) (Q : Exit → Act → World → Prop) (ds : List Deferred)
  (hQ : ∀ ex T h a w,K ex T h → Inv ds B W w0 st0 T h a w → Q ex.to a w) (hI : Inv ds B W w0 st0 T h a w) (hk : codeD E R [] [] n c T h K) : c.wpIn (FW ro) N P Q a w:=by
 refine codeI_sound (E:=E) (R:=R) (C:=[]) (V:=[]) (n0:=n) (Inv ds B W w0 st0) ?_ ?_ ?_ ?_ c T h a w K Q hQ hI hk
 ·rintro T h a w t b ⟨hd,st,j1,j2,j3⟩ hb
  have:=j2.2 t
  rw [hb] at this
  exact aV_bool.1 this
 ·intro T T1 h h1 a w hk hI
  exact wke_inv hg0 hn (fun _ h=>by cases h) hk hI
 ·intro id ops Q K T h a w hQ hI hk
  exact regD_soundIn hE hR hQ hI hk
 ·intro id ops Q K T h a w hQ hI hk
  exact drawSoundIn hE hR.mute hQ hI hk
theorem round_sound {l dB fn nc N : Nat} {tm : Array Value} {ps : Array Nat} {assign body : Code} {x : List D} {w : World} {xs' : List Value} {w1 : World} {st1 st : St} {T : List AV} {h : Heap} {V : List Nat} {n0 : Nat} {S O F : Nat → Prop} {Kr : Ex → List AV → Heap → Prop} {rec : LoopState → Option Code → Loop}
  (hrec : rec = fun s p=>{ state:=s,pending:=p,fn,tmps:=tm,params:=ps,assign,body,defers:=dB })
  (hDl : dB ≠ l) (hBl : B ≤ dB ∧ B ≤ l)
  (hg0 : ∀ i,st1.G i → i < st1.n) (hn0 : st1.n ≤ n0) (hv0 : ∀ i ∈ V,¬ st1.G i)
  (hw : WR B W w st h) (hT : aT w st T tm) (hE1 : Ext w1 st1 w st) (hG : st.G = st1.G)
  (hl : w.heap[l]? = some (.loop (rec .ready none))) (hD : w.heap[dB]? = some (.deferred (some [])))
  (hFO : ∀ b,F b → O b) (hO : ∀ b,O b → b < w.heap.size ∧ b ≠ dB ∧ b ≠ l ∧ ¬ st1.U b) (hUD : ¬ st1.U dB ∧ ¬ st1.U l) (hown : ∀ id r,st.ρ id = some r → r.m ≠ 0 → ¬ O r.b ∧ r.b ≠ dB ∧ r.b ≠ l) (hSo : ∀ b,st.S b → (¬ O b ∨ F b) ∧ b ≠ dB ∧ b ≠ l) (hSS : ∀ b,S b → st.S b)
  (hx : cVs w (fun b=>S b ∨ F b) x xs')
  (hk : ∃ T1 h1 T2,WkE V n0 T h T1 h1 ∧ psT ps.toList x T1 = some T2 ∧ roundW E R assign body h1.length T2 h1 (fun ex _ h'=>Kr ex T1 h'))
  (Post : Value → World → Prop)
  (hPost : ∀ ex T1 h' st' w', Kr ex T1 h' → WR B W w' st' h' → aT w' st' T1 tm → Ext w1 st1 w' st' → st'.G = st1.G → (w'.heap[l]? = some (.loop (match ex with | .normal => rec .ready none | .exit id => rec .done (some (.exit id)) | .ret => rec .done (some .ret)))) → w'.heap[dB]? = some (.deferred (some [])) →
   (∀ id r,st'.ρ id = some r → r.m ≠ 0 → ¬ O r.b ∧ r.b ≠ dB ∧ r.b ≠ l) → (∀ b,st'.S b → (¬ O b ∨ F b) ∧ b ≠ dB ∧ b ≠ l) → (∀ b,st.S b → st'.S b) → (∀ b,S b ∨ O b → w'.heap[b]? = w.heap[b]?) →
   Post (.bool (match ex with | .normal=>true | _=>false)) w') :
  YieldAt (FW none) N P l xs'.toArray w (fun e w'=>∃ v,e = .returned v ∧ Post v w'):=by
 obtain ⟨T1,h1,T2,k1,k2,k3⟩:=hk
 have hlen : xs'.toArray.size = (rec .ready none).params.size:=by
  rw [hrec]
  simp only [List.size_toArray]
  rw [cVs_length hx,psT_len k2]
  simp
 refine ⟨_,_,_,_,run_yield hl hlen,roundIn_of_wpIn trivial ?_⟩
 have hps : (rec .ready none).params = ps:=by rw [hrec]
 have htm : (rec .ready none).tmps = tm:=by rw [hrec]
 have has : (rec .ready none).assign = assign:=by rw [hrec]
 have hbd : (rec .ready none).body = body:=by rw [hrec]
 rw [hps,htm,has,hbd]
 -- the sets of the round
 obtain ⟨S', hS'⟩ : ∃ S' : Nat → Prop, S' = fun b => st.S b ∨ F b := ⟨_, rfl⟩
 obtain ⟨U', hU'⟩ : ∃ U' : Nat → Prop, U' = fun b => st1.U b ∨ O b ∨ b = dB ∨ b = l := ⟨_, rfl⟩
 obtain ⟨S0', hS0'⟩ : ∃ S0' : Nat → Prop, S0' = fun b => ((st1.S0 b ∧ ¬ O b) ∨ F b) ∧ b ≠ dB ∧ b ≠ l := ⟨_, rfl⟩
 have hlsz : l < w.heap.size:=(Array.getElem?_eq_some_iff.1 hl).1
 have hDsz : dB < w.heap.size:=(Array.getElem?_eq_some_iff.1 hD).1
 obtain ⟨eU,eS0,eUw⟩:=hE1.U
 obtain ⟨m1,me1⟩:=hw.reset (h':=h) S' U' S0' rfl (fun _ _=>rfl) (fun b hb=>by rw [hS'];exact .inl hb) (fun b hb=>by
   rw [hS'] at hb
   rcases hb with hb | hb
   ·exact hw.stab b hb
   ·exact (hO b (hFO b hb)).1) (fun id r hr hm hb=>by
   rw [hS'] at hb
   rcases hb with hb | hb
   ·exact hb
   ·exact absurd (hFO _ hb) (hown id r hr hm).1) (fun id r hr hm hu=>by
   rw [hU'] at hu
   rcases hu with hu | hu | hu | hu
   ·exact hw.x.own id r hr hm (by rw [eU];exact hu)
   ·exact (hown id r hr hm).1 hu
   ·exact (hown id r hr hm).2.1 hu
   ·exact (hown id r hr hm).2.2 hu) (fun b hb=>by
   rw [hS'] at hb
   rw [hS0', hU']
   rcases hb with hb | hb
   ·obtain ⟨q1,q2,q3⟩:=hSo b hb
    by_cases hOb : O b
    ·exact .inl ⟨.inr (q1.resolve_left (fun h=>h hOb)),q2,q3⟩
    ·rcases hw.x.low b hb with q | q
     ·exact .inl ⟨.inl ⟨by rw [← eS0];exact q,hOb⟩,q2,q3⟩
     ·refine .inr (fun hu=>?_)
      rcases hu with hu | hu | hu | hu
      ·exact q (by rw [eU];exact hu)
      ·exact hOb hu
      ·exact q2 hu
      ·exact q3 hu
   ·exact .inl ⟨.inr hb,(hO b (hFO b hb)).2.1,(hO b (hFO b hb)).2.2.1⟩) (fun b hb=>by
   rw [hU'] at hb
   rcases hb with hb | hb | hb | hb
   ·exact hw.x.ub b (by rw [eU];exact hb)
   ·exact (hO b hb).1
   ·rw [hb];exact hDsz
   ·rw [hb];exact hlsz)
 -- the start of the round
 let sr : St := { st with S := S', U := U', S0 := S0' }
 let s0 : St := { n := st1.n, ρ := st1.ρ, S := S', G := st1.G, U := U', S0 := S0' }
 have hEr : Ext w s0 w sr:=⟨hE1.n,fun id hid hg r hr=>hE1.ρ id hid hg r hr,fun b hb=>⟨hb,rfl⟩,fun id hid hg=>by simpa [sr,s0,hG] using hg,rfl,rfl,fun _ _=>rfl⟩
 have hI0 : Inv [] B W w s0 T h { tmps:=tm,defers:=[] } w:=⟨rfl,sr,m1,⟨hT.1,fun j=>aV_monoC me1 (hT.2 j)⟩,hEr,hG⟩
 obtain ⟨_,st2,a1,a2,a3,a4⟩:=wke_inv (st0:=s0) hg0 hn0 hv0 k1 hI0
 have hS2 : ∀ b,S' b → st2.S b:=fun b hb=>(a3.S b hb).1
 have hx2 : cVs w st2.S x xs':=cVs_mono (fun b hb=>⟨hS2 b (by
  rw [hS']
  rcases hb with hb | hb
  ·exact .inl (hSS b hb)
  ·exact .inr hb),rfl⟩) _ _ hx
 have a2' : aT w st2 T1 tm:=a2
 have hT2 : aT w st2 T2 ((ps.zip xs'.toArray).foldl (fun t p=>t.setIfInBounds p.1 p.2) tm):=by
  have:=psT_aT k2 a2' hx2
  have he : (ps.zip xs'.toArray).foldl (fun t p=>t.setIfInBounds p.1 p.2) tm = (ps.toList.zip xs').foldl (fun t p=>t.setIfInBounds p.1 p.2) tm:=by
   rw [← Array.foldl_toList]
   simp
  rw [he];exact this
 have hn2 : st2.n = h1.length:=a1.len
 -- the assignment
 refine codeD_round hE hR (w0:=w) (st0:=st2) (ds:=[]) a1.gho (by omega) assign T2 h1 _ w _ _ ?_ ⟨rfl,st2,a1,hT2,Ext.refl _ _,rfl⟩ k3
 intro ex T3 h3 a3' w3 hk3 hI3
 cases ex with
 | exit id=>exact hk3.elim
 | ret=>exact hk3.elim
 | normal=>
 obtain ⟨hd3,st3,b1,b2,b3,b4⟩:=hI3
 obtain ⟨fU,fS0,fUw⟩:=b3.U
 obtain ⟨gU,gS0,gUw⟩:=a3.U
 have hUl : st2.U l:=by rw [gU];show U' l;rw [hU'];exact .inr (.inr (.inr rfl))
 have hUD2 : st2.U dB:=by rw [gU];show U' dB;rw [hU'];exact .inr (.inr (.inl rfl))
 have hl3 : w3.heap[l]? = some (.loop (rec .ready none)):=(fUw l hUl).trans hl
 have hlsz3 : l < w3.heap.size:=(Array.getElem?_eq_some_iff.1 hl3).1
 refine ⟨_,run_beginRound hl3 (by rw [hrec]),?_⟩
 -- l lies apart
 have apart : ∀ (s : St) (g : Heap) (v : World),WR B W v s g → s.U = U' → s.S0 = S0' → (∀ b,s.S b → b ≠ dB ∧ b ≠ l) ∧ ∀ id r,s.ρ id = some r → r.m ≠ 0 → r.b ≠ dB ∧ r.b ≠ l:=by
  intro s g v hv h1 h2
  refine ⟨fun b hb=>?_,fun id r hr hm=>?_⟩
  ·rcases hv.x.low b hb with q | q
   ·rw [h2,hS0'] at q;exact q.2
   ·rw [h1,hU'] at q
    exact ⟨fun e=>q (.inr (.inr (.inl e))),fun e=>q (.inr (.inr (.inr e)))⟩
  ·have q:=hv.x.own id r hr hm
   rw [h1,hU'] at q
   exact ⟨fun e=>q (.inr (.inr (.inl e))),fun e=>q (.inr (.inr (.inr e)))⟩
 have put : ∀ (s : St) (g : Heap) (v : World) (o : Obj),WR B W v s g → s.U = U' → s.S0 = S0' → l < v.heap.size → WR B W (v.putObj l o) s g ∧ ExtC v s (v.putObj l o) s:=by
  intro s g v o hv h1 h2 hlv
  obtain ⟨q1,q2⟩:=apart s g v hv h1 h2
  refine hv.move ?_ (by simpa using hv.base) (fun b hb=>by simpa using hv.x.ub b hb) (fun b hb=>World.putObj_heap_other (q1 b hb).2) (fun id r hr hm=>World.putObj_heap_other (q2 id r hr hm).2)
  exact hv.below.trans ⟨rfl,rfl,rfl,by simp,fun k hk=>World.putObj_heap_other (by omega)⟩
 have u3 : st3.U = U':=fU.trans gU
 have v3 : st3.S0 = S0':=fS0.trans gS0
 obtain ⟨c1,c2⟩:=put st3 h3 w3 (.loop { rec .ready none with state:=.busy }) b1 u3 v3 hlsz3
 obtain ⟨w4,hw4⟩ : ∃ w4,w3.putObj l (.loop { rec .ready none with state:=.busy }) = w4:=⟨_,rfl⟩
 rw [hw4] at c1 c2 ⊢
 let sb : St := { n := st2.n, ρ := st2.ρ, S := st3.S, G := st2.G, U := U', S0 := S0' }
 have hl4 : w4.heap[l]? = some (.loop { rec .ready none with state:=.busy }):=by rw [← hw4];exact World.putObj_heap_same hlsz3
 have hE4 : Ext w4 sb w4 st3:=⟨b3.n,fun id hid hg r hr=>b3.ρ id hid hg r hr,fun b hb=>⟨hb,rfl⟩,fun id hid hg=>by simpa [sb,b4] using hg,u3,v3,fun _ _=>rfl⟩
 refine codeD_round hE hR (w0:=w4) (st0:=sb) (ds:=[]) a1.gho (by show st2.n ≤ h1.length;omega) body T3 h3 _ w4 _ _ ?_ ⟨hd3,st3,c1,⟨b2.1,fun j=>aV_monoC c2 (b2.2 j)⟩,hE4,b4⟩ hk3
 intro ex T5 h5 a5 w5 hk5 hI5
 obtain ⟨hd5,st5,d1,d2,d3,d4⟩:=hI5
 obtain ⟨kU,kS0,kUw⟩:=d3.U
 have u5 : st5.U = U':=kU
 have v5 : st5.S0 = S0':=kS0
 have hl5 : w5.heap[l]? = some (.loop { rec .ready none with state:=.busy }):=(kUw l (by show U' l;rw [hU'];exact .inr (.inr (.inr rfl)))).trans hl4
 have hlsz5 : l < w5.heap.size:=(Array.getElem?_eq_some_iff.1 hl5).1
 have hO4 : ∀ b,b ≠ l → w4.heap[b]? = w3.heap[b]?:=fun b hb=>by rw [← hw4];exact World.putObj_heap_other hb
 -- blocks from the start of the round to its end
 have sameS : ∀ b,st2.S b → st5.S b ∧ w5.heap[b]? = w.heap[b]? ∧ b ≠ l:=fun b hb=>by
  obtain ⟨q1,q2⟩:=b3.S b hb
  obtain ⟨q3,q4⟩:=d3.S b q1
  have hne:=((apart st3 h3 w3 b1 u3 v3).1 b q1).2
  exact ⟨q3,q4.trans ((hO4 b hne).trans q2),hne⟩
 have sameU : ∀ b,U' b → b ≠ l → w5.heap[b]? = w.heap[b]?:=fun b hb hne=>(kUw b hb).trans ((hO4 b hne).trans (fUw b (by rw [gU];exact hb)))
 have hC25 : ∀ v', (∀ b, b ≠ l → v'.heap[b]? = w5.heap[b]?) → ExtC w st2 v' st5 := fun v' hv' =>
  ⟨by have:=d3.n;exact this,fun id hid hg r hr=>d3.ρ id hid hg r hr,fun b hb=>⟨(sameS b hb).1,(hv' b (sameS b hb).2.2).trans (sameS b hb).2.1⟩,fun id hid hg=>d3.G id hid hg⟩
 -- where the round ends
 have fin : ∀ (jump : Option Code) (rc : Loop),rc = { rec .ready none with state:=(if jump.isNone then .ready else .done),pending:=jump } → Kr ex T1 h5 →
   (∃ v w', (Instr.endRound l jump).run P w5 = .ok v w' ∧ v = .bool jump.isNone ∧ w' = w5.putObj l (.loop rc)) ∧
   ∃ st6,WR B W (w5.putObj l (.loop rc)) st6 h5 ∧ aT (w5.putObj l (.loop rc)) st6 T1 tm ∧ Ext w1 st1 (w5.putObj l (.loop rc)) st6 ∧ st6.G = st1.G ∧ (w5.putObj l (.loop rc)).heap[l]? = some (.loop rc) ∧ (w5.putObj l (.loop rc)).heap[dB]? = some (.deferred (some [])) ∧
    (∀ id r,st6.ρ id = some r → r.m ≠ 0 → ¬ O r.b ∧ r.b ≠ dB ∧ r.b ≠ l) ∧ (∀ b,st6.S b → (¬ O b ∨ F b) ∧ b ≠ dB ∧ b ≠ l) ∧ (∀ b,st.S b → st6.S b) ∧ (∀ b,S b ∨ O b → (w5.putObj l (.loop rc)).heap[b]? = w.heap[b]?):=by
  intro jump rc hrc hK
  refine ⟨⟨_,_,run_endRound jump hl5,rfl,by rw [hrc]⟩,?_⟩
  obtain ⟨e1,e2⟩:=put st5 h5 w5 (.loop rc) d1 u5 v5 hlsz5
  obtain ⟨z1,z2⟩:=apart st5 h5 w5 d1 u5 v5
  have hlow5 : ∀ b,st5.S b → (st1.S0 b ∨ F b) ∨ ¬ (st1.U b ∨ O b):=fun b hb=>by
   rcases d1.x.low b hb with q | q
   ·rw [v5,hS0'] at q
    rcases q.1 with q | q
    ·exact .inl (.inl q.1)
    ·exact .inl (.inr q)
   ·rw [u5,hU'] at q
    exact .inr (fun hu=>q (hu.elim .inl (fun h=>.inr (.inl h))))
  obtain ⟨n1,ne1⟩:=e1.reset (h':=h5) st5.S st1.U st1.S0 rfl (fun _ _=>rfl) (fun _ h=>h) e1.stab (fun _ _ _ _ h=>h) (fun id r hr hm hu=>by
    have q:=d1.x.own id r hr hm
    rw [u5,hU'] at q
    exact q (.inl hu)) (fun b hb=>by
    rcases hlow5 b hb with (q | q) | q
    ·exact .inl q
    ·exact .inr (hO b (hFO b q)).2.2.2
    ·exact .inr (fun hu=>q (.inl hu))) (fun b hb=>by
    have:=e1.x.ub b (by rw [u5,hU'];exact .inl hb)
    exact this)
  have hoth : ∀ b,b ≠ l → (w5.putObj l (.loop rc)).heap[b]? = w5.heap[b]?:=fun b hb=>World.putObj_heap_other hb
  refine ⟨_,n1,⟨a2'.1,fun j=>aV_monoC ne1 (aV_monoC (hC25 _ hoth) (a2'.2 j))⟩,?_,?_,World.putObj_heap_same hlsz5,?_,?_,?_,?_,?_⟩
  ·refine ⟨Nat.le_trans a3.n d3.n,fun id hid hg r hr=>?_,fun b hb=>?_,fun id hid hg=>?_,rfl,rfl,fun b hb=>?_⟩
   ·have hid2 : id < st2.n:=Nat.lt_of_lt_of_le hid a3.n
    have hg2 : ¬ st2.G id:=by rw [a4];exact hg
    exact a3.ρ id hid hg r (d3.ρ id hid2 hg2 r hr)
   ·obtain ⟨q1,q2⟩:=hE1.S b hb
    have q3:=sameS b (hS2 b (by rw [hS'];exact .inl q1))
    exact ⟨q3.1,(hoth b q3.2.2).trans (q3.2.1.trans q2)⟩
   ·have hid2 : id < st2.n:=Nat.lt_of_lt_of_le hid a3.n
    have:=d3.G id hid2 hg
    have h2 : st2.G id:=this
    rw [a4] at h2;exact h2
   ·have hne : b ≠ l:=fun e=>hUD.2 (e ▸ hb)
    exact (hoth b hne).trans ((sameU b (by rw [hU'];exact .inl hb) hne).trans (eUw b hb))
  ·show st5.G = st1.G
   rw [d4];exact a4
  ·exact (hoth dB hDl).trans ((sameU dB (by rw [hU'];exact .inr (.inr (.inl rfl))) hDl).trans hD)
  ·intro id r hr hm
   have q:=d1.x.own id r hr hm
   rw [u5,hU'] at q
   exact ⟨fun h=>q (.inr (.inl h)),(z2 id r hr hm).1,(z2 id r hr hm).2⟩
  ·intro b hb
   refine ⟨?_,(z1 b hb).1,(z1 b hb).2⟩
   rcases d1.x.low b hb with q | q
   ·rw [v5,hS0'] at q
    rcases q.1 with q | q
    ·exact .inl q.2
    ·exact .inr q
   ·rw [u5,hU'] at q
    exact .inl (fun h=>q (.inr (.inl h)))
  ·intro b hb
   exact (sameS b (hS2 b (by rw [hS'];exact .inl hb))).1
  ·intro b hb
   rcases hb with hb | hb
   ·have q3:=sameS b (hS2 b (by rw [hS'];exact .inl (hSS b hb)))
    exact (hoth b q3.2.2).trans q3.2.1
   ·have hne:=(hO b hb).2.2.1
    exact (hoth b hne).trans (sameU b (by rw [hU'];exact .inr (.inl hb)) hne)
 cases ex with
 | normal=>
  obtain ⟨⟨v, w', q1, q2, q3⟩, st6, r1, r2, r3, r4, r5, r6, r7, r8, r9, r10⟩ := fin none (rec .ready none) (by rw [hrec]; rfl) hk5
  subst q2 q3
  exact ⟨_,_,q1,_,rfl,hPost .normal T1 h5 st6 _ hk5 r1 r2 r3 r4 r5 r6 r7 r8 r9 r10⟩
 | exit id=>
  obtain ⟨⟨v, w', q1, q2, q3⟩, st6, r1, r2, r3, r4, r5, r6, r7, r8, r9, r10⟩ := fin (some (.exit id)) (rec .done (some (.exit id))) (by rw [hrec]; rfl) hk5
  subst q2 q3
  exact ⟨_,_,q1,_,rfl,hPost (.exit id) T1 h5 st6 _ hk5 r1 r2 r3 r4 r5 r6 r7 r8 r9 r10⟩
 | ret=>
  obtain ⟨⟨v, w', q1, q2, q3⟩, st6, r1, r2, r3, r4, r5, r6, r7, r8, r9, r10⟩ := fin (some .ret) (rec .done (some .ret)) (by rw [hrec]; rfl) hk5
  subst q2 q3
  exact ⟨_,_,q1,_,rfl,hPost .ret T1 h5 st6 _ hk5 r1 r2 r3 r4 r5 r6 r7 r8 r9 r10⟩
def markD (b : Nat) : Deferred:={ target:=.collected b,args:=#[] }
def InvM (B : Nat) (W w0 : World) (st0 : St) (T : List AV) (h : Heap) (a : Act) (w : World) : Prop:=
 ∃ (M : List Nat) (w1 : World) (st1 : St),st1.n = st0.n ∧ st1.ρ = st0.ρ ∧ st1.G = st0.G ∧ st1.U = (fun b=>st0.U b ∨ b ∈ M) ∧ st1.S0 = (fun b=>st0.S0 b ∧ b ∉ M) ∧
  (∀ b,st0.S b → st1.S b ∧ w1.heap[b]? = w0.heap[b]?) ∧ (∀ b,st0.U b → w1.heap[b]? = w0.heap[b]?) ∧ (∀ b ∈ M,w1.heap[b]? = some (.deferred (some [])) ∧ B ≤ b ∧ ¬ st0.U b) ∧ M.Nodup ∧ Inv (M.map markD) B W w1 st1 T h a w
theorem range_sound {w0 : World} {st0 : St} {V : List Nat} {n0 : Nat} (hg0 : ∀ i,st0.G i → i < st0.n) (hn0 : st0.n ≤ n0) (hv0 : ∀ i ∈ V,¬ st0.G i) {N : Nat} {g : Operand} {ps : Array Tmp} {assign body : Code} {T : List AV} {h : Heap} {a : Act} {w : World} {K : Ex → List AV → Heap → Prop} {Q : Exit → Act → World → Prop}
  (hQ : ∀ ex T h a w,K ex T h → InvM B W w0 st0 T h a w → Q ex.to a w) (hI : InvM B W w0 st0 T h a w)
  (hk : itK (opnd T g) (fun f first cap=>∃ xs,IterR P f first cap xs ∧ roundsD V n0 ps.toList (roundW E R assign body) K xs T h)) : (Code.rangeFunc g ps assign body).wpIn (FW none) N P Q a w:=by
 obtain ⟨M,w1,st1,m1,m2,m3,m4,m5,m6,m7,m8,m9,hd,st,i1,i2,i3,i4⟩:=hI
 obtain ⟨f,first,cap,us,vs,hv,hus,hvs,xs,hit,hr⟩:=itK_spec (aV_opnd i2 g) hk
 have hW:=out_roundW E R assign body
 obtain ⟨s,hs,hrc⟩:=rc_of hW xs T h hr
 obtain ⟨hcall,hit⟩:=hit
 have hg1 : ∀ i,st1.G i → i < st1.n:=by rw [m3,m1];exact hg0
 have hv1 : ∀ i ∈ V,¬ st1.G i:=by rw [m3];exact hv0
 obtain ⟨jU,jS0,jUw⟩:=i3.U
 refine wpIn_rangeFunc ?_
 intro fn _
 obtain ⟨rec,hrec⟩ : ∃ rec : LoopState → Option Code → Loop,rec = fun st pe=>{ state:=st,pending:=pe,fn,tmps:=a.tmps,params:=ps,assign,body,defers:=w.heap.size }:=⟨_,rfl⟩
 obtain ⟨W1,hW1⟩ : ∃ W1,(w.alloc (.deferred (some []))).alloc (.loop (rec .ready none)) = W1:=⟨_,rfl⟩
 have hsz1 : W1.heap.size = w.heap.size + 2:=by rw [← hW1];simp
 have hL1 : W1.heap[w.heap.size + 1]? = some (.loop (rec .ready none)):=by
  rw [← hW1];have:=World.alloc_heap_new (w.alloc (.deferred (some []))) (.loop (rec .ready none));rwa [World.size_alloc] at this
 have hK1 : W1.heap[w.heap.size]? = some (.deferred (some [])):=by
  rw [← hW1];exact (Below.heap_alloc _ _ _ (by simp)).trans (World.alloc_heap_new w _)
 have hold : ∀ b,b < w.heap.size → W1.heap[b]? = w.heap[b]?:=fun b hb=>by
  rw [← hW1];exact (Below.heap_alloc _ _ _ (by simp;omega)).trans (Below.heap_alloc _ _ _ hb)
 have hb1 : Below B W W1:=by rw [← hW1];exact (i1.below.alloc i1.base _).alloc (by simp;have:=i1.base;omega) _
 obtain ⟨c1,c2⟩:=i1.move hb1 (by have:=i1.base;omega) (fun b hb=>by have:=i1.x.ub b hb;omega) (fun b hb=>hold b (i1.stab b hb)) (fun id r hr hm=>hold _ (i1.blk_lt hr hm))
 have hE1 : Ext w1 st1 W1 st:=i3.trans ⟨Nat.le_refl _,fun _ _ _ _ h=>h,fun b hb=>⟨hb,hold b (i1.stab b hb)⟩,fun _ _ h=>h,rfl,rfl,fun b hb=>hold b (i1.x.ub b hb)⟩
 have hU1 : ∀ b,st1.U b → b < w.heap.size:=fun b hb=>i1.x.ub b (by rw [jU];exact hb)
 refine ⟨w.heap.size + 1,[markD w.heap.size],W1,{ target:=.fn (.func f) vs.toArray,args:=us.toArray ++ #[.func (.yield (w.heap.size + 1)) #[] #[]] },W1,f,(us ++ .func (.yield (w.heap.size + 1)) #[] #[] :: vs).toArray,W1,?_,?_,fun _ _=>trivial,?_,fun h=>by simp [FW,Fence.wide] at h,?_⟩
 ·rw [← hW1,hrec];exact run_enterLoop_outer _ _ _ _ _
 ·simp only [resolve,hv]
  simp [go_sem]
 ·have : us.toArray ++ #[Value.func (.yield (w.heap.size + 1)) #[] #[]] ++ vs.toArray = (us ++ .func (.yield (w.heap.size + 1)) #[] #[] :: vs).toArray:=by simp
  simp only [invoke]
  rw [this]
  exact hcall _ _
 ·-- what holds between two rounds
  let Common : (Nat → Prop) → (Nat → Prop) → List AV → Heap → St → World → Loop → Prop:=fun O F T' h' st' w' rc=>
   WR B W w' st' h' ∧ aT w' st' T' a.tmps ∧ Ext w1 st1 w' st' ∧ st'.G = st1.G ∧ w'.heap[w.heap.size + 1]? = some (.loop rc) ∧ w'.heap[w.heap.size]? = some (.deferred (some [])) ∧
    (∀ id r,st'.ρ id = some r → r.m ≠ 0 → ¬ O r.b ∧ r.b ≠ w.heap.size ∧ r.b ≠ w.heap.size + 1) ∧ (∀ b,st'.S b → (¬ O b ∨ F b) ∧ b ≠ w.heap.size ∧ b ≠ w.heap.size + 1) ∧ (∀ b,st.S b → st'.S b)
  let J : Nat → (Nat → Prop) → (Nat → Prop) → World → Prop:=fun i O F w'=>(∀ b,O b → W1.heap.size ≤ b ∧ b < w'.heap.size) ∧ ∃ T' h' st' rc,Common O F T' h' st' w' rc ∧
   ((i ≤ s ∧ rc = rec .ready none ∧ RC V n0 ps.toList (roundW E R assign body) K (s - i) (xs.drop i) T' h') ∨ (i = s + 1 ∧ ∃ ex : Ex,ex ≠ .normal ∧ rc = rec .done (some (match ex with | .normal=>.skip | .exit id=>.exit id | .ret=>.ret)) ∧ K ex T' h'))
  have hbears : Bears B W W1.heap.size J:=by
   rintro i O F O' F' w' w'' ⟨hO, T', h', st', rc, ⟨k1, k2, k3, k4, k5, k6, k7, k8, k9⟩, hcase⟩ hb hsame hO' hF hF' hO2
   have hsz : ∀ b,b < w'.heap.size → (¬ O b ∨ F b) → b < w''.heap.size:=fun b hb hob=>by
    have:=hsame b hb hob
    rw [Array.getElem?_eq_getElem hb] at this
    exact (Array.getElem?_eq_some_iff.1 this).1
   have hnO : ∀ b,b < W1.heap.size → ¬ O b:=fun b hb h=>by have:=(hO b h).1;omega
   have hU : ∀ b,st'.U b → b < w'.heap.size ∧ ¬ O b:=fun b hb=>⟨k1.x.ub b hb,hnO b (by have:=hU1 b (by rw [← k3.U.1];exact hb);omega)⟩
   have hL : w.heap.size + 1 < w'.heap.size:=(Array.getElem?_eq_some_iff.1 k5).1
   obtain ⟨d1,d2⟩:=k1.move hb (by have:=hsz w.heap.size (by omega) (.inl (hnO _ (by omega)));have:=i1.base;omega) (fun b hb=>hsz b (hU b hb).1 (.inl (hU b hb).2)) (fun b hb=>hsame b (k1.stab b hb) (k8 b hb).1) (fun id r hr hm=>hsame _ (k1.blk_lt hr hm) (.inl (k7 id r hr hm).1))
   refine ⟨hO2, T', h', st', rc, ⟨d1, ⟨k2.1, fun j => aV_monoC d2 (k2.2 j)⟩, k3.trans ⟨Nat.le_refl _, fun _ _ _ _ h => h, fun b hb => ⟨hb, hsame b (k1.stab b hb) (k8 b hb).1⟩, fun _ _ h => h, rfl, rfl, fun b hb => hsame b (hU b hb).1 (.inl (hU b hb).2)⟩, k4,
    (hsame _ hL (.inl (hnO _ (by omega)))).trans k5,(hsame _ (by omega) (.inl (hnO _ (by omega)))).trans k6,fun id r hr hm=>⟨fun h=>?_,(k7 id r hr hm).2⟩,fun b hb=>⟨?_,(k8 b hb).2⟩,k9⟩,hcase⟩
   ·rcases hO' _ h with h | h
    ·exact (k7 id r hr hm).1 h
    ·have:=k1.blk_lt hr hm;omega
   ·rcases (k8 b hb).1 with h | h
    ·refine .inl (fun ho=>?_)
     rcases hO' b ho with h2 | h2
     ·exact h h2
     ·have:=k1.stab b hb;omega
    ·exact .inr (hF b h)
  have hrounds : ∀ i (O F : Nat → Prop) w' xs', i ≤ s → J i O F w' → Below B W w' → (∀ b, F b → O b) → (∀ b, O b → W1.heap.size ≤ b ∧ b < w'.heap.size) → (∃ x, xs[i]? = some x ∧ cVs w' (fun b => st.S b ∨ F b) x xs') →
    YieldAt (FW none) (N - 1 - 1) P (w.heap.size + 1) xs'.toArray w' (fun e w2=>e = .returned (.bool (decide (i < s))) ∧ J (i + 1) O F w2 ∧ Below B W w2 ∧ W1.heap.size ≤ w2.heap.size ∧ ∀ b,st.S b ∨ O b → w2.heap[b]? = w'.heap[b]?):=by
   rintro i O F w' xs' his ⟨hO, T', h', st', rc, ⟨k1, k2, k3, k4, k5, k6, k7, k8, k9⟩, hcase⟩ hbel hFO hOb ⟨x, hx, hxv⟩
   obtain ⟨_,rfl,hrc'⟩:=hcase.resolve_right (fun h=>by have:=h.1;omega)
   have hround:=hrc'.round hW his hx
   obtain ⟨fn', tmps', as', bd', y1, y2⟩ := round_sound hE hR (l := w.heap.size + 1) (dB := w.heap.size) (nc := 0) (N := N - 1 - 1) (S := st.S) (O := O) (F := F) (V := V) (n0 := n0) hrec (by omega) ⟨i1.base, by have := i1.base; omega⟩ hg1 (by omega) hv1 k1 k2 k3 k4 k5 k6 hFO
    (fun b hb=>⟨(hOb b hb).2,by have:=(hOb b hb).1;omega,by have:=(hOb b hb).1;omega,fun hu=>by have:=hU1 b hu;have:=(hOb b hb).1;omega⟩) ⟨fun hu=>by have:=hU1 _ hu;omega,fun hu=>by have:=hU1 _ hu;omega⟩ k7 k8 k9 hxv
    (Kr:=fun ex T1 h'=>(i < s ∧ ex = .normal ∧ RC V n0 ps.toList (roundW E R assign body) K (s - (i + 1)) (xs.drop (i + 1)) T1 h') ∨ (i = s ∧ ex ≠ .normal ∧ K ex T1 h')) hround
    (fun v w2=>v = .bool (decide (i < s)) ∧ J (i + 1) O F w2 ∧ Below B W w2 ∧ W1.heap.size ≤ w2.heap.size ∧ ∀ b,st.S b ∨ O b → w2.heap[b]? = w'.heap[b]?)
    (fun ex T1 h5 st6 w2 hkr r1 r2 r3 r4 r5 r6 r7 r8 r9 r10=>by
     have hL2 : w.heap.size + 1 < w2.heap.size:=(Array.getElem?_eq_some_iff.1 r5).1
     have hOs : ∀ b,O b → W1.heap.size ≤ b ∧ b < w2.heap.size:=fun b hb=>by
      have:=r10 b (.inr hb)
      rw [Array.getElem?_eq_getElem (hOb b hb).2] at this
      exact ⟨(hOb b hb).1,(Array.getElem?_eq_some_iff.1 this).1⟩
     refine ⟨?_,⟨hOs,T1,h5,st6,_,⟨r1,r2,r3,r4,r5,r6,r7,r8,fun b hb=>r9 b (k9 b hb)⟩,?_⟩,r1.below,by omega,r10⟩
     ·rcases hkr with ⟨q1,rfl,_⟩ | ⟨q1,q2,_⟩
      ·simp [q1]
      ·have : ¬ i < s:=by omega
       cases ex with
       | normal=>exact absurd rfl q2
       | exit id=>simp [this]
       | ret=>simp [this]
     ·rcases hkr with ⟨q1,rfl,q3⟩ | ⟨q1,q2,q3⟩
      ·exact .inl ⟨by omega,rfl,q3⟩
      ·refine .inr ⟨by omega,ex,q2,?_,q3⟩
       cases ex with
       | normal=>exact absurd rfl q2
       | exit id=>rfl
       | ret=>rfl)
   exact ⟨fn', tmps', as', bd', y1, y2.mono fun e w2 ⟨v, e1, e2, e3⟩ => ⟨by rw [e1, e2], e3⟩⟩
  have h00 : J 0 (fun _=>False) (fun _=>False) W1:=by
   refine ⟨fun _ h=>h.elim,T,h,st,rec .ready none,⟨c1,⟨i2.1,fun j=>aV_monoC c2 (i2.2 j)⟩,hE1,i4,hL1,hK1,fun id r hr hm=>?_,fun b hb=>?_,fun _ h=>h⟩,.inl ⟨Nat.zero_le _,rfl,by simpa using hrc⟩⟩
   ·have:=i1.blk_lt hr hm
    exact ⟨fun h=>h,by omega,by omega⟩
   ·have:=i1.stab b hb
    exact ⟨.inl (fun h=>h),by omega,by omega⟩
  have hSb : ∀ b,st.S b → st.S b ∧ W1.heap[b]? = w.heap[b]?:=fun b hb=>⟨hb,hold b (i1.stab b hb)⟩
  refine (hit s hs (N - 1) (w.heap.size + 1) B W W1 st.S us vs J (by have:=i1.base;omega) hb1 (fun b hb=>by have:=i1.stab b hb;omega) (cVs_mono hSb _ _ hus) (cVs_mono hSb _ _ hvs) hbears hrounds h00).mono ?_
  rintro e w7 ⟨⟨v, rfl⟩, O, F, ⟨hO, T', h', st', rc, ⟨k1, k2, k3, k4, k5, k6, k7, k8, k9⟩, hcase⟩, hbel⟩
  -- behind the loop
  have hLs : w.heap.size + 1 < w7.heap.size:=(Array.getElem?_eq_some_iff.1 k5).1
  have hoth : ∀ b,b ≠ w.heap.size + 1 → (w7.putObj (w.heap.size + 1) (.loop { rc with state:=.exhausted })).heap[b]? = w7.heap[b]?:=fun b hb=>World.putObj_heap_other hb
  obtain ⟨d1,d2⟩:=k1.move (w':=w7.putObj (w.heap.size + 1) (.loop { rc with state:=.exhausted })) (hbel.trans ⟨rfl,rfl,rfl,by simp,fun k hk=>hoth k (by have:=i1.base;omega)⟩) (by simpa using k1.base) (fun b hb=>by simpa using k1.x.ub b hb) (fun b hb=>hoth b (k8 b hb).2.2) (fun id r hr hm=>hoth _ (k7 id r hr hm).2.2)
  have hlow : ∀ b,st'.S b → (st0.S0 b ∧ b ∉ w.heap.size :: M) ∨ ¬ (st0.U b ∨ b ∈ w.heap.size :: M):=fun b hb=>by
   have hne:=(k8 b hb).2.1
   rcases k1.x.low b hb with q | q
   ·rw [k3.U.2.1,m5] at q
    exact .inl ⟨q.1,fun hm=>(List.mem_cons.1 hm).elim hne q.2⟩
   ·rw [k3.U.1,m4] at q
    exact .inr (fun hu=>hu.elim (fun h=>q (.inl h)) (fun h=>(List.mem_cons.1 h).elim hne (fun h=>q (.inr h))))
  obtain ⟨n1,ne1⟩:=d1.reset (h':=h') st'.S (fun b=>st0.U b ∨ b ∈ w.heap.size :: M) (fun b=>st0.S0 b ∧ b ∉ w.heap.size :: M) rfl (fun _ _=>rfl) (fun _ h=>h) d1.stab (fun _ _ _ _ h=>h) (fun id r hr hm hu=>by
    rcases hu with hu | hu
    ·exact k1.x.own id r hr hm (by rw [k3.U.1,m4];exact .inl hu)
    ·rcases List.mem_cons.1 hu with hu | hu
     ·exact (k7 id r hr hm).2.1 hu
     ·exact k1.x.own id r hr hm (by rw [k3.U.1,m4];exact .inr hu)) hlow (fun b hb=>by
    have hs7 : (w7.putObj (w.heap.size + 1) (.loop { rc with state:=.exhausted })).heap.size = w7.heap.size:=by simp
    rw [hs7]
    rcases hb with hb | hb
    ·exact k1.x.ub b (by rw [k3.U.1,m4];exact .inl hb)
    ·rcases List.mem_cons.1 hb with hb | hb
     ·omega
     ·exact k1.x.ub b (by rw [k3.U.1,m4];exact .inr hb))
  have hMw : ∀ b ∈ M,b < w.heap.size:=fun b hb=>hU1 b (by rw [m4];exact .inr hb)
  have hinv : InvM B W w0 st0 T' h' { a with defers:=[markD w.heap.size] ++ a.defers } (w7.putObj (w.heap.size + 1) (.loop { rc with state:=.exhausted })):=by
   refine ⟨w.heap.size :: M,w7.putObj (w.heap.size + 1) (.loop { rc with state:=.exhausted }),{ n:=st0.n,ρ:=st0.ρ,S:=st'.S,G:=st0.G,U:=fun b=>st0.U b ∨ b ∈ w.heap.size :: M,S0:=fun b=>st0.S0 b ∧ b ∉ w.heap.size :: M },rfl,rfl,rfl,rfl,rfl,fun b hb=>?_,fun b hb=>?_,fun b hb=>?_,?_,?_⟩
   ·obtain ⟨q1,q2⟩:=m6 b hb
    obtain ⟨q3,q4⟩:=k3.S b q1
    exact ⟨q3,(hoth b (k8 b q3).2.2).trans (q4.trans q2)⟩
   ·have hu : st1.U b:=by rw [m4];exact .inl hb
    have:=hU1 b hu
    exact (hoth b (by omega)).trans ((k3.U.2.2 b hu).trans (m7 b hb))
   ·rcases List.mem_cons.1 hb with rfl | hb
    ·refine ⟨(hoth _ (by omega)).trans k6,i1.base,fun hu=>?_⟩
     have:=hU1 _ (by rw [m4];exact .inl hu)
     omega
    ·obtain ⟨q1,q2,q3⟩:=m8 b hb
     have:=hMw b hb
     exact ⟨(hoth b (by omega)).trans ((k3.U.2.2 b (by rw [m4];exact .inr hb)).trans q1),q2,q3⟩
   ·refine List.nodup_cons.2 ⟨fun hm=>?_,m9⟩
    have:=hMw _ hm
    omega
   ·refine ⟨by simp [hd],_,n1,⟨k2.1,fun j=>aV_monoC ne1 (aV_monoC d2 (k2.2 j))⟩,⟨by have:=k3.n;rw [m1] at this;exact this,fun id hid hg r hr=>?_,fun b hb=>⟨hb,rfl⟩,fun id hid hg=>?_,rfl,rfl,fun _ _=>rfl⟩,?_⟩
    ·have:=k3.ρ id (by rw [m1];exact hid) (by rw [m3];exact hg) r hr
     rw [m2] at this;exact this
    ·have h2 : st'.G id:=hg
     rw [k4,m3] at h2;exact h2
    ·show st'.G = st0.G
     rw [k4,m3]
  have hnb : rc.state ≠ .busy:=by
   rcases hcase with ⟨_,e,_⟩ | ⟨_,ex,_,e,_⟩<;>(rw [e,hrec];simp)
  have hend:=run_endLoop (P:=P) k5 hnb
  obtain ⟨w8,hw8⟩ : ∃ w8,w7.putObj (w.heap.size + 1) (.loop { rc with state:=.exhausted }) = w8:=⟨_,rfl⟩
  rw [hw8] at hend hinv
  rcases hcase with ⟨q1,e,q3⟩ | ⟨q1,ex,q2,e,q3⟩
  ·have hsl : s = xs.length:=by omega
   have hz : min (s + 1) xs.length = xs.length:=by omega
   rw [hz,hsl] at q3
   simp only [Nat.sub_self,List.drop_length] at q3
   obtain ⟨T1,h1,z1,z2⟩:=q3
   have hp : rc.pending = none:=by rw [e,hrec]
   rw [hp] at hend
   refine ⟨none,_,hend,hQ .normal T1 h1 _ _ z2 ?_⟩
   obtain ⟨M', w1', st1', x1, x2, x3, x4, x5, x6, x7, x8, x9, x10⟩ := hinv
   exact ⟨M', w1', st1', x1, x2, x3, x4, x5, x6, x7, x8, x9, wke_inv (by rw [x3, x1]; exact hg0) (by rw [x1]; exact hn0) (by rw [x3]; exact hv0) z1 x10⟩
  ·cases ex with
   | normal=>exact absurd rfl q2
   | exit id=>
    have hp : rc.pending = some (.exit id):=by rw [e,hrec]
    rw [hp] at hend
    exact ⟨_,_,hend,wpIn_exit (hQ (.exit id) T' h' _ _ q3 hinv)⟩
   | ret=>
    have hp : rc.pending = some .ret:=by rw [e,hrec]
    rw [hp] at hend
    exact ⟨_,_,hend,wpIn_ret (hQ .ret T' h' _ _ q3 hinv)⟩
end
end Dw
namespace Dw
open Go Go.RowKit
section
variable {P : Program} {E : TE} (hE : EOK P E) {B : Nat} {W : World} {R : Rel} (hR : Sub P B W R)
include hE hR
omit hE hR in
theorem invM_wk {w0 w : World} {st0 : St} {V : List Nat} {n0 : Nat} (hg0 : ∀ i,st0.G i → i < st0.n) (hn0 : st0.n ≤ n0) (hv0 : ∀ i ∈ V,¬ st0.G i) {T T1 : List AV} {h h1 : Heap} {a : Act} (hk : WkE V n0 T h T1 h1) (hI : InvM B W w0 st0 T h a w) : InvM B W w0 st0 T1 h1 a w:=by
 obtain ⟨M', w1', st1', x1, x2, x3, x4, x5, x6, x7, x8, x9, x10⟩ := hI
 exact ⟨M', w1', st1', x1, x2, x3, x4, x5, x6, x7, x8, x9, wke_inv (by rw [x3, x1]; exact hg0) (by rw [x1]; exact hn0) (by rw [x3]; exact hv0) hk x10⟩
theorem codeR_sound {w0 : World} {st0 : St} {C V : List Nat} {n0 : Nat} (hg0 : ∀ i,st0.G i → i < st0.n) (hn0 : st0.n ≤ n0) (hv0 : ∀ i ∈ V,¬ st0.G i) {N : Nat} : ∀ (c : Code) (T : List AV) (h : Heap) (a : Act) (w : World) (K : Ex → List AV → Heap → Prop) (Q : Exit → Act → World → Prop),
  (∀ ex T h a w,K ex T h → InvM B W w0 st0 T h a w → Q ex.to a w) → InvM B W w0 st0 T h a w → codeR P E R C V n0 c T h K → c.wpIn (FW none) N P Q a w:=by
 have hev : ∀ {T : List AV} {h : Heap} {a : Act} {w : World} {t : Nat} {b : Bool},InvM B W w0 st0 T h a w → nth T t = .d (.bool b) → a.eval (.tmp t) = .bool b:=by
  rintro T h a w t b ⟨M', w1', st1', x1, x2, x3, x4, x5, x6, x7, x8, x9, hd, st, j1, j2, j3⟩ hb
  have:=j2.2 t
  rw [hb] at this
  exact aV_bool.1 this
 have base : ∀ (c : Code) (T : List AV) (h : Heap) (a : Act) (w : World) (K : Ex → List AV → Heap → Prop) (Q : Exit → Act → World → Prop),
   (∀ ex T h a w,K ex T h → InvM B W w0 st0 T h a w → Q ex.to a w) → InvM B W w0 st0 T h a w → codeD E R C V n0 c T h K → c.wpIn (FW none) N P Q a w:=by
  intro c T h a w K Q hQ hI hk
  refine codeI_sound (E:=E) (R:=R) (C:=C) (V:=V) (n0:=n0) (InvM B W w0 st0) hev (fun hk hI=>invM_wk hg0 hn0 hv0 hk hI) ?_ ?_ c T h a w K Q hQ hI hk
  ·rintro id ops Q K T h a w hQ ⟨M', w1', st1', x1, x2, x3, x4, x5, x6, x7, x8, x9, hI⟩ hk
   exact regD_soundIn hE hR (fun T h a w hk hI => hQ T h a w hk ⟨M', w1', st1', x1, x2, x3, x4, x5, x6, x7, x8, x9, hI⟩) hI hk
  ·rintro id ops Q K T h a w hQ ⟨M', w1', st1', x1, x2, x3, x4, x5, x6, x7, x8, x9, hI⟩ hk
   exact drawSoundIn hE hR.mute (fun T h a w hk hI => hQ T h a w hk ⟨M', w1', st1', x1, x2, x3, x4, x5, x6, x7, x8, x9, hI⟩) hI hk
 intro c
 induction c with
 | seq x y ihx ihy=>
  intro T h a w K Q hQ hI hk
  simp only [codeR] at hk
  refine wpIn_seq (ihx T h a w _ _ ?_ hI hk)
  intro ex T h a w hk hI
  cases ex with
  | normal=>exact ihy T h a w K Q hQ hI hk
  | exit id=>exact hQ (.exit id) T h a w hk hI
  | ret=>exact hQ .ret T h a w hk hI
 | cond c x y ihx ihy=>
  intro T h a w K Q hQ hI hk
  simp only [codeR] at hk
  unfold condK at hk
  split at hk
  ·rename_i t
   rw [getK_eq] at hk
   split at hk
   ·rename_i b hb
    have hv:=hev hI hb
    rcases onBool_spec hk with ⟨h1,h2⟩ | ⟨h1,h2⟩
    ·subst h1
     rw [setK_eq,set_nth hb (by simp)] at h2
     exact wpIn_cond_true hv (ihx T h a w K Q hQ hI h2)
    ·subst h1
     rw [setK_eq,set_nth hb (by simp)] at h2
     exact wpIn_cond_false hv (ihy T h a w K Q hQ hI h2)
   ·exact hk.elim
  ·rename_i b
   rcases onBool_spec hk with ⟨h1,h2⟩ | ⟨h1,h2⟩
   ·subst h1;exact wpIn_cond_true rfl (ihx T h a w K Q hQ hI h2)
   ·subst h1;exact wpIn_cond_false rfl (ihy T h a w K Q hQ hI h2)
  ·exact hk.elim
 | block id c ih=>
  intro T h a w K Q hQ hI hk
  simp only [codeR] at hk
  refine wpIn_block (ih T h a w _ _ ?_ hI hk)
  intro ex T h a w hk hI
  cases ex with
  | normal=>exact hQ .normal T h a w hk hI
  | exit i=>
   simp only [Ex.to,Exit.inBlock]
   rcases onBool_spec hk with ⟨h1,h2⟩ | ⟨h1,h2⟩
   ·rw [if_pos (by simpa using h1)]
    exact hQ .normal T h a w h2 hI
   ·rw [if_neg (by intro he;subst he;simp at h1)]
    exact hQ (.exit i) T h a w h2 hI
  | ret=>exact hQ .ret T h a w hk hI
 | rangeFunc g ps assign body _ _=>
  intro T h a w K Q hQ hI hk
  simp only [codeR,opndK_eq] at hk
  exact range_sound hE hR hg0 hn0 hv0 hQ hI hk
 | skip=>exact fun T h a w K Q hQ hI hk=>base _ T h a w K Q hQ hI hk
 | region=>exact fun T h a w K Q hQ hI hk=>base _ T h a w K Q hQ hI hk
 | loop=>exact fun T h a w K Q hQ hI hk=>base _ T h a w K Q hQ hI hk
 | exit=>exact fun T h a w K Q hQ hI hk=>base _ T h a w K Q hQ hI hk
 | scope=>exact fun T h a w K Q hQ hI hk=>base _ T h a w K Q hQ hI hk
 | label=>exact fun T h a w K Q hQ hI hk=>base _ T h a w K Q hQ hI hk
 | goto=>exact fun T h a w K Q hQ hI hk=>base _ T h a w K Q hQ hI hk
 | ret=>exact fun T h a w K Q hQ hI hk=>base _ T h a w K Q hQ hI hk
 | refuse=>exact fun T h a w K Q hQ hI hk=>base _ T h a w K Q hQ hI hk
omit hE hR in
theorem invM_close {w0 : World} {st0 : St} {T : List AV} {h : Heap} {N : Nat} {fn : Func} {Rr : Ending → World → Prop} : ∀ (M : List Nat) (a : Act) (w w1 : World) (st1 : St),a.defers = M.map markD → st1.n = st0.n → st1.ρ = st0.ρ → st1.G = st0.G → st1.U = (fun b=>st0.U b ∨ b ∈ M) → st1.S0 = (fun b=>st0.S0 b ∧ b ∉ M) →
  (∀ b,st0.S b → st1.S b ∧ w1.heap[b]? = w0.heap[b]?) → (∀ b,st0.U b → w1.heap[b]? = w0.heap[b]?) → (∀ b ∈ M,w1.heap[b]? = some (.deferred (some [])) ∧ B ≤ b ∧ ¬ st0.U b) → M.Nodup → Inv (M.map markD) B W w1 st1 T h a w →
  (∀ w', Inv [] B W w0 st0 T h { a with defers := [] } w' → LeavesIn (FW none) N P fn a.tmps Rr [] .returning w') → LeavesInM (FW none) N P fn a.tmps Rr (M.map markD) .returning w
 | [],a,w,w1,st1,hd,x1,x2,x3,x4,x5,x6,x7,x8,x9,x10,hL=>by
  simp only [List.map_nil,LeavesInM]
  refine hL w ?_
  obtain ⟨_,st,j1,j2,j3,j4⟩:=x10
  have e4 : st1.U = st0.U:=by rw [x4];funext b;simp
  have e5 : st1.S0 = st0.S0:=by rw [x5];funext b;simp
  refine ⟨rfl,st,j1,j2,⟨by rw [← x1];exact j3.n,fun id hid hg r hr=>?_,fun b hb=>?_,fun id hid hg=>?_,j3.U.1.trans e4,j3.U.2.1.trans e5,fun b hb=>?_⟩,j4.trans x3⟩
  ·have:=j3.ρ id (by rw [x1];exact hid) (by rw [x3];exact hg) r hr
   rw [x2] at this;exact this
  ·obtain ⟨q1,q2⟩:=x6 b hb
   obtain ⟨q3,q4⟩:=j3.S b q1
   exact ⟨q3,q4.trans q2⟩
  ·have:=j3.G id (by rw [x1];exact hid) hg
   rw [x3] at this;exact this
  ·exact (j3.U.2.2 b (by rw [e4];exact hb)).trans (x7 b hb)
 | d :: M,a,w,w1,st1,hd,x1,x2,x3,x4,x5,x6,x7,x8,x9,x10,hL=>by
  simp only [List.map_cons,LeavesInM]
  obtain ⟨_,st,j1,j2,j3,j4⟩:=x10
  obtain ⟨kU,kS0,kUw⟩:=j3.U
  have hdU : st1.U d:=by rw [x4];exact .inr (by simp)
  obtain ⟨y1,y2,y3⟩:=x8 d (by simp)
  have hw : w.heap[d]? = some (.deferred (some [])):=(kUw d hdU).trans y1
  have hnd:=List.nodup_cons.1 x9
  have hoth : ∀ b,b ≠ d → (w.putObj d (.deferred none)).heap[b]? = w.heap[b]?:=fun b hb=>World.putObj_heap_other hb
  have hSd : ∀ b,st.S b → b ≠ d:=fun b hb e=>by
   rcases j1.x.low b hb with q | q
   ·rw [kS0,x5] at q;exact q.2 (by rw [e];simp)
   ·rw [kU] at q;exact q (by rw [e];exact hdU)
  have hOd : ∀ id r,st.ρ id = some r → r.m ≠ 0 → r.b ≠ d:=fun id r hr hm e=>j1.x.own id r hr hm (by rw [kU,e];exact hdU)
  obtain ⟨d1,d2⟩:=j1.move (w':=w.putObj d (.deferred none)) (j1.below.trans ⟨rfl,rfl,rfl,by simp,fun k hk=>hoth k (by omega)⟩) (by simpa using j1.base) (fun b hb=>by simpa using j1.x.ub b hb) (fun b hb=>hoth b (hSd b hb)) (fun id r hr hm=>hoth _ (hOd id r hr hm))
  obtain ⟨n1,ne1⟩:=d1.reset (h':=h) st.S (fun b=>st0.U b ∨ b ∈ M) (fun b=>st0.S0 b ∧ b ∉ M) rfl (fun _ _=>rfl) (fun _ h=>h) d1.stab (fun _ _ _ _ h=>h) (fun id r hr hm hu=>j1.x.own id r hr hm (by rw [kU,x4];exact hu.elim .inl (fun h=>.inr (by simp [h])))) (fun b hb=>by
    rcases j1.x.low b hb with q | q
    ·rw [kS0,x5] at q
     exact .inl ⟨q.1,fun hm=>q.2 (by simp [hm])⟩
    ·rw [kU,x4] at q
     exact .inr (fun hu=>q (hu.elim .inl (fun h=>.inr (by simp [h]))))) (fun b hb=>by
    have:=j1.x.ub b (by rw [kU,x4];exact hb.elim .inl (fun h=>.inr (by simp [h])))
    simpa using this)
  refine ⟨by simp,.inl ⟨d,_,rfl,run_takeDeferred hw,?_⟩⟩
  refine invM_close (w0:=w0) (st0:=st0) M { a with defers:=M.map markD } (w.putObj d (.deferred none)) (w.putObj d (.deferred none)) { n:=st0.n,ρ:=st0.ρ,S:=st.S,G:=st0.G,U:=fun b=>st0.U b ∨ b ∈ M,S0:=fun b=>st0.S0 b ∧ b ∉ M } rfl rfl rfl rfl rfl rfl (fun b hb=>?_) (fun b hb=>?_) (fun b hb=>?_) hnd.2 ⟨rfl,_,n1,⟨j2.1,fun j=>aV_monoC ne1 (aV_monoC d2 (j2.2 j))⟩,⟨by have:=j3.n;rw [x1] at this;exact this,fun id hid hg r hr=>?_,fun b hb=>⟨hb,rfl⟩,fun id hid hg=>?_,rfl,rfl,fun _ _=>rfl⟩,?_⟩ hL
  ·obtain ⟨q1,q2⟩:=x6 b hb
   obtain ⟨q3,q4⟩:=j3.S b q1
   exact ⟨q3,(hoth b (hSd b q3)).trans (q4.trans q2)⟩
  ·have hne : b ≠ d:=fun e=>y3 (e ▸ hb)
   exact (hoth b hne).trans ((kUw b (by rw [x4];exact .inl hb)).trans (x7 b hb))
  ·have hne : b ≠ d:=fun e=>hnd.1 (e ▸ hb)
   obtain ⟨q1,q2,q3⟩:=x8 b (by simp [hb])
   exact ⟨(hoth b hne).trans ((kUw b (by rw [x4];exact .inr (by simp [hb]))).trans q1),q2,q3⟩
  ·have:=j3.ρ id (by rw [x1];exact hid) (by rw [x3];exact hg) r hr
   rw [x2] at this;exact this
  ·have h2 : st.G id:=hg
   rw [j4,x3] at h2;exact h2
  ·show st.G = st0.G
   rw [j4,x3]
theorem codeR_calls {f : Nat} {fn : Func} {c : Code} (hf : P.funcs[f]? = some fn) (hc : fn.body = some c) {args : List AV} {h h1 : Heap} {r : AV} {C V : List Nat} {w : World} {st : St} {vs : List Value} (hv0 : ∀ i ∈ V,¬ st.G i) (hw : WR B W w st h) (ha : aVs w st args vs)
  (hk : codeR P E R C V h.length c (args ++ List.replicate (fn.ntmps - args.length) .junk) h (endD E V h.length fn.results.toList r h1)) : Calls P f vs.toArray w (fun e w'=>∃ v,e = .returned v ∧ RunPost B W w st r h1 v w'):=by
 have hlen:=hw.len
 refine (callsIn_wide (n:=0)).1 (callsIn_of_wp_marks (F:=FW none) hf hc trivial ?_)
 refine codeR_sound hE hR (w0:=w) (st0:=st) (C:=C) (V:=V) (n0:=h.length) hw.gho (by omega) hv0 c _ h _ w _ _ ?_ ⟨[],w,st,rfl,rfl,rfl,by simp,by simp,fun b hb=>⟨hb,rfl⟩,fun _ _=>rfl,fun _ h=>by simp at h,List.nodup_nil,rfl,st,hw,start_aT _ ha,Ext.refl _ _,rfl⟩ hk
 have fin : ∀ (T : List AV) (h' : Heap) (a : Act) (w' : World),resD E h' T fn.results.toList (fun l=>EndR V h.length h' (tupD l) r h1 ∨ (tupD l = r ∧ h' = h1)) → InvM B W w st T h' a w' → LeavesInM (FW none) 0 P fn a.tmps (fun e w'=>∃ v,e = .returned v ∧ RunPost B W w st r h1 v w') a.defers .returning w':=by
  rintro T h' a w' hk ⟨M,w1,st1,x1,x2,x3,x4,x5,x6,x7,x8,x9,x10⟩
  rw [x10.1]
  refine invM_close M a w' w1 st1 x10.1 x1 x2 x3 x4 x5 x6 x7 x8 x9 x10 (fun w2 hI=>?_)
  rw [← hlen] at hk
  obtain ⟨_,v,k1,k2⟩:=endD_sound hE (fn:=fn) hI hw.gho hv0 hk
  exact ⟨v,k1,v,rfl,k2⟩
 intro ex T h' a w' hk hI
 cases ex with
 | exit id=>exact hk.elim
 | normal=>exact fin T h' a w' hk hI
 | ret=>exact fin T h' a w' hk hI
end
def psF : List Nat → List D → Env → Option Env
 | [],[],A=>some A
 | p :: ps,x :: xs,A=>psF ps xs ((p,.d x) :: A)
 | _,_,_=>none
abbrev RWF:=Nat → Env → Heap → (Ex → Env → Heap → Prop) → Prop
def roundsF (V : List Nat) (n0 : Nat) (ps : List Nat) (W : RWF) (K : Ex → Env → Heap → Prop) : List (List D) → Env → Heap → Prop
 | [],A,h=>∃ A1 h1,WkG V n0 A h A1 h1 ∧ K .normal A1 h1
 | x :: xs,A,h=>∃ A1 h1 A2,WkG V n0 A h A1 h1 ∧ psF ps x A1 = some A2 ∧ W h1.length A2 h1 (fun ex _ h'=>match ex with
  | .normal=>roundsF V n0 ps W K xs A1 h'
  | .exit id=>K (.exit id) A1 h'
  | .ret=>K .ret A1 h')
noncomputable def roundWF (E : TE) (R : Rel) (assign body : Code) : RWF:=fun n A h K=>codeF E R [] [] n assign A h (fun ex A' h'=>match ex with
 | .normal=>codeF E R [] [] n body A' h' K
 | _=>False)
structure RangeX (P : Program) (V : List Nat) (n0 : Nat) (ps : List Nat) (W : RWF) (K : Ex → Env → Heap → Prop) (f : Nat) (a c : List D) (A : Env) (h : Heap) : Prop where
 stop : Stop
 out : ∃ xs,IterR P f a c xs ∧ roundsF V n0 ps W K xs A h
noncomputable def codeRF (P : Program) (E : TE) (R : Rel) (C V : List Nat) (n0 : Nat) (c : Code) : Env → Heap → (Ex → Env → Heap → Prop) → Prop:=
 Code.rec (motive:=fun _=>Env → Heap → (Ex → Env → Heap → Prop) → Prop)
  (skip:=fun A h K=>K .normal A h)
  (region:=fun id ops d A h K=>codeF E R C V n0 (.region id ops d) A h K)
  (seq:=fun _ _ x y A h K=>x A h (fun ex A h=>match ex with
   | .normal=>y A h K
   | .exit id=>K (.exit id) A h
   | .ret=>K .ret A h))
  (cond:=fun c _ _ x y A h K=>condF A c (fun A=>x A h K) (fun A=>y A h K))
  (block:=fun id _ x A h K=>x A h (fun ex A h=>match ex with
   | .normal=>K .normal A h
   | .exit i=>onBool (Nat.beq i id) (K .normal A h) (K (.exit i) A h)
   | .ret=>K .ret A h))
  (loop:=fun c _ A h K=>codeF E R C V n0 (.loop c) A h K)
  (rangeFunc:=fun g ps assign body _ _ A h K=>opndF A g (fun g=>itK g (fun f a c=>RangeX P V n0 ps.toList (roundWF E R assign body) K f a c A h)))
  (exit:=fun id A h K=>K (.exit id) A h)
  (scope:=fun _ _ _ _ _=>False)
  (label:=fun _ _ _ _=>False)
  (goto:=fun _ _ _ _=>False)
  (ret:=fun A h K=>K .ret A h)
  (refuse:=fun _ _ _ _=>False)
  c
def bdRC (N : Nat) : Code → Bool
 | .region id ops d=>bdC N (.region id ops d)
 | .seq a b=>bdRC N a && bdRC N b
 | .cond _ a b=>bdRC N a && bdRC N b
 | .block _ c=>bdRC N c
 | .loop c=>bdC N c
 | .rangeFunc _ ps a b=>ps.toList.all (fun t=>Nat.blt t N) && (bdC N a && bdC N b)
 | _=>true
section
variable {N : Nat} {P : Program} {E : TE} {R : Rel}
theorem psF_sound : ∀ {ps : List Nat} {x : List D} {T : List AV} {A A2 : Env},ps.all (fun t=>Nat.blt t N) = true → Rep N T A → psF ps x A = some A2 → ∃ T2,psT ps x T = some T2 ∧ Rep N T2 A2
 | [],[],T,A,A2,_,hr,h=>by simp only [psF,Option.some.injEq] at h;subst h;exact ⟨T,rfl,hr⟩
 | [],_ :: _,_,_,_,_,_,h=>by simp [psF] at h
 | _ :: _,[],_,_,_,_,_,h=>by simp [psF] at h
 | p :: ps,x :: xs,T,A,A2,hb,hr,h=>by
  simp only [List.all_cons,Bool.and_eq_true] at hb
  simp only [psF] at h
  simp only [psT]
  exact psF_sound hb.2 (hr.set (by simpa using hb.1) (.d x)) h
theorem roundWF_sound {assign body : Code} (ha : bdC N assign = true) (hb : bdC N body = true) {n : Nat} {T : List AV} {A : Env} {h : Heap} {K : Ex → List AV → Heap → Prop} {K' : Ex → Env → Heap → Prop} (hr : Rep N T A) (hK : ∀ ex T' A' h', Rep N T' A' → K' ex A' h' → K ex T' h')
  (hk : roundWF E R assign body n A h K') : roundW E R assign body n T h K:=by
 unfold roundWF at hk
 unfold roundW
 refine codeF_sound assign T A h _ _ ha hr (fun ex T' A' h' hr' hk'=>?_) hk
 cases ex with
 | normal=>exact codeF_sound body T' A' h' K K' hb hr' hK hk'
 | exit id=>exact hk'.elim
 | ret=>exact hk'.elim
theorem roundsF_sound {V : List Nat} {n0 : Nat} {ps : List Nat} {assign body : Code} (hp : ps.all (fun t => Nat.blt t N) = true) (ha : bdC N assign = true) (hb : bdC N body = true) {K : Ex → List AV → Heap → Prop} {K' : Ex → Env → Heap → Prop} (hK : ∀ ex T' A' h', Rep N T' A' → K' ex A' h' → K ex T' h') :
  ∀ (xs : List (List D)) (T : List AV) (A : Env) (h : Heap),Rep N T A → roundsF V n0 ps (roundWF E R assign body) K' xs A h → roundsD V n0 ps (roundW E R assign body) K xs T h
 | [],T,A,h,hr,hk=>by
  obtain ⟨A1,h1,k1,k2⟩:=hk
  obtain ⟨T1,r1,r2⟩:=k1.to hr
  exact ⟨T1,h1,r2,hK _ _ _ _ r1 k2⟩
 | x :: xs,T,A,h,hr,hk=>by
  obtain ⟨A1,h1,A2,k1,k2,k3⟩:=hk
  obtain ⟨T1,r1,r2⟩:=k1.to hr
  obtain ⟨T2,s1,s2⟩:=psF_sound hp r1 k2
  refine ⟨T1,h1,T2,r2,s1,roundWF_sound ha hb s2 (fun ex T' A' h' hr' hk'=>?_) k3⟩
  cases ex with
  | normal=>exact roundsF_sound hp ha hb hK xs T1 A1 h' r1 hk'
  | exit id=>exact hK _ _ _ _ r1 hk'
  | ret=>exact hK _ _ _ _ r1 hk'
theorem out_itK {K K' : Nat → List D → List D → Prop} {g : AV} (hK : ∀ f a c,K' f a c → K f a c) (hk : itK g K') : itK g K:=by
 cases g with
 | d x=>cases x<;>first | exact hk.elim | exact hK _ _ _ hk
 | fn f a c=>
  simp only [itK] at hk ⊢
  cases ha : dcells a with
  | none=>simp only [ha] at hk
  | some a'=>
   cases hc : dcells c with
   | none=>simp only [ha,hc] at hk
   | some c'=>simp only [ha,hc] at hk ⊢;exact hK _ _ _ hk
 | _=>exact hk.elim
theorem codeRF_sound {n0 : Nat} {C V : List Nat} : ∀ (c : Code) (T : List AV) (A : Env) (h : Heap) (K : Ex → List AV → Heap → Prop) (K' : Ex → Env → Heap → Prop), bdRC N c = true → Rep N T A → (∀ ex T' A' h', Rep N T' A' → K' ex A' h' → K ex T' h') →
  codeRF P E R C V n0 c A h K' → codeR P E R C V n0 c T h K
 | .skip, T, A, h, K, K', _, hr, hK, hk => by
  simp only [codeR,codeD]
  exact hK _ _ _ _ hr hk
 | .region id ops d, T, A, h, K, K', hb, hr, hK, hk => by
  show codeD E R C V n0 (.region id ops d) T h K
  exact codeF_sound (.region id ops d) T A h K K' hb hr hK hk
 | .seq x y, T, A, h, K, K', hb, hr, hK, hk => by
  simp only [bdRC,Bool.and_eq_true] at hb
  simp only [codeR]
  refine codeRF_sound x T A h _ _ hb.1 hr (fun ex T' A' h' hr' hk'=>?_) hk
  cases ex with
  | normal=>exact codeRF_sound y T' A' h' K K' hb.2 hr' hK hk'
  | exit id=>exact hK _ _ _ _ hr' hk'
  | ret=>exact hK _ _ _ _ hr' hk'
 | .cond c x y, T, A, h, K, K', hb, hr, hK, hk => by
  simp only [bdRC,Bool.and_eq_true] at hb
  simp only [codeR]
  exact condF_sound hr (fun T' A' hr' hk'=>codeRF_sound x T' A' h K K' hb.1 hr' hK hk') (fun T' A' hr' hk'=>codeRF_sound y T' A' h K K' hb.2 hr' hK hk') hk
 | .block id c, T, A, h, K, K', hb, hr, hK, hk => by
  simp only [bdRC] at hb
  simp only [codeR]
  refine codeRF_sound c T A h _ _ hb hr (fun ex T' A' h' hr' hk'=>?_) hk
  cases ex with
  | normal=>exact hK _ _ _ _ hr' hk'
  | exit i=>
   rcases onBool_spec hk' with ⟨h1,h2⟩ | ⟨h1,h2⟩
   ·exact onBool_t h1 (hK _ _ _ _ hr' h2)
   ·exact onBool_f h1 (hK _ _ _ _ hr' h2)
  | ret=>exact hK _ _ _ _ hr' hk'
 | .loop c, T, A, h, K, K', hb, hr, hK, hk => by
  show codeD E R C V n0 (.loop c) T h K
  exact codeF_sound (.loop c) T A h K K' hb hr hK hk
 | .rangeFunc g ps assign body, T, A, h, K, K', hb, hr, hK, hk => by
  simp only [bdRC,Bool.and_eq_true] at hb
  have hk : opndF A g (fun g=>itK g (fun f a c=>RangeX P V n0 ps.toList (roundWF E R assign body) K' f a c A h)):=hk
  rw [hr.opnd,opndK_eq] at hk
  simp only [codeR,opndK_eq]
  refine out_itK (fun f a c hx=>?_) hk
  obtain ⟨xs,h1,h2⟩:=hx.out
  exact ⟨xs,h1,roundsF_sound hb.1 hb.2.1 hb.2.2 hK xs T A h hr h2⟩
 | .exit id, T, A, h, K, K', _, hr, hK, hk => by
  simp only [codeR,codeD]
  exact hK _ _ _ _ hr hk
 | .ret, T, A, h, K, K', _, hr, hK, hk => by
  simp only [codeR,codeD]
  exact hK _ _ _ _ hr hk
 | .scope ..,_,_,_,_,_,_,_,_,hk=>hk.elim
 | .label ..,_,_,_,_,_,_,_,_,hk=>hk.elim
 | .goto ..,_,_,_,_,_,_,_,_,hk=>hk.elim
 | .refuse ..,_,_,_,_,_,_,_,_,hk=>hk.elim
end
noncomputable def BodyRF (P : Program) (E : TE) (R : Rel) (C V : List Nat) (fn : Func) (args : List AV) (h : Heap) (r : AV) (h1 : Heap) : Prop:=
 match fn.body with
 | some c=>codeRF P E R C V h.length c (startF 0 args) h (endF E V h.length fn.results.toList r h1)
 | none=>False
def bdRF (fn : Func) (n : Nat) : Bool:=
 match fn.body with
 | some c=>Nat.ble n fn.ntmps && bdRC fn.ntmps c
 | none=>false
theorem run_walkRV {P : Program} {E : TE} (hE : EOK P E) {f : Nat} {fn : Func} (hf : P.funcs[f]? = some fn) (hn : (fn.name == "runtime.NumGoroutine") = false) {args : List AV} (hbd : bdRF fn args.length = true) {h h1 : Heap} {r : AV} (V : List Nat) (hV : seenB h args [] V = true) (C : List Nat) (hk : BodyRF P E (Run P) C V fn args h r h1) : Run P f args h r h1 := by
 intro B W w st vs hw ha
 unfold BodyRF at hk
 unfold bdRF at hbd
 split at hk
 ·rename_i c hc
  simp only [hc,Bool.and_eq_true,Nat.ble_eq] at hbd
  have hb : fn.body.isNone = false:=by simp [hc]
  have hcall : (callFunc f vs.toArray).run P w = .ok (.enter f vs.toArray) w:=by
   simp only [callFunc,Sem.run_bind,run_program,Result.andThen_ok,hf,hn,hb,Bool.false_eq_true,if_false,Sem.run_pure]
  rw [hcall]
  have hv0 : ∀ i ∈ V,¬ st.G i:=seenB_sound hw ha V [] (fun _ h=>by cases h) hV
  have hr : Rep fn.ntmps (args ++ List.replicate (fn.ntmps - args.length) .junk) (startF 0 args):=by
   refine ⟨by simp;omega,fun n=>?_⟩
   rw [look_startF,if_pos (Nat.zero_le _),Nat.sub_zero,nth_get,nth_get]
   by_cases hi : n < args.length
   ·rw [List.getElem?_append_left hi]
   ·rw [List.getElem?_append_right (by omega),List.getElem?_eq_none (by omega),List.getElem?_replicate]
    split<;>rfl
  have hk:=codeRF_sound (N:=fn.ntmps) c _ _ h (endD E V h.length fn.results.toList r h1) _ hbd.2 hr (fun ex T' A' h' hr' hk'=>by
   cases ex with
   | normal=>exact endX_sound hr' hk'
   | exit id=>exact hk'.elim
   | ret=>exact endX_sound hr' hk') hk
  exact codeR_calls hE Run.sub hf hc hv0 hw ha hk
 ·exact hk.elim
theorem run_walkRF {P : Program} {E : TE} (hE : EOK P E) {f : Nat} {fn : Func} (hf : P.funcs[f]? = some fn) (hn : (fn.name == "runtime.NumGoroutine") = false) {args : List AV} (hbd : bdRF fn args.length = true) {h h1 : Heap} {r : AV} (hk : BodyRF P E (Run P) [] [] fn args h r h1) : Run P f args h r h1 :=
 run_walkRV hE hf hn hbd [] rfl [] hk
end Dw
namespace Dw
open Go Go.RowKit
theorem rg_len (n : Nat) (g : Nat → List D) : ((List.range n).map g).length = n:=by simp
theorem rg_at {n : Nat} {g : Nat → List D} {i : Nat} (h : i < n) : ((List.range n).map g)[i]? = some (g i):=by simp [h]
theorem iter_rg {P : Program} {E : TE} (hE : EOK P E) {f : Nat} {fn : Func} (hf : P.funcs[f]? = some fn) (hn : (fn.name == "runtime.NumGoroutine") = false) (hbd : bdF fn = true) {first cap : List D} {n : Nat} {g : Nat → List D}
  (hk : ∀ s l,s ≤ n → BodyF E (RI P l ((List.range n).map g) s) [] [] fn (first.map .d ++ .raw (.func (.yield l) #[] #[]) :: cap.map .d) [trO 0] (.tup []) [trO (min (s + 1) n)]) : IterR P f first cap ((List.range n).map g):=
 iter_of hE hf hn hbd fun s l hs=>by rw [rg_len] at hs ⊢;exact hk s l hs
section
variable {P : Program} {l s : Nat} {xs : List (List D)} {K : KV}
theorem yield_go {args : List AV} {h : Heap} (e : ∃ r h', (RI P l xs s).yld args h r h' ∧ K r h') : ∃ r h', (RI P l xs s).yld args h r h' ∧ K r h' := e
theorem yield_1 {rest : Heap} {i : Nat} {a : D} (his : i ≤ s) (hx : xs[i]? = some [a]) (k : K (.d (.bool (decide (i < s)))) (trO (i + 1) :: rest)) : ∃ r h', (RI P l xs s).yld [.raw (.func (.yield l) #[] #[]), .d a] (trO i :: rest) r h' ∧ K r h' :=
 ⟨_,_,⟨i,rest,[a],rfl,his,hx,rfl,rfl,rfl⟩,k⟩
theorem yield_rg1 {n : Nat} {g : Nat → List D} {rest : Heap} {i : Nat} {a : D} (his : i ≤ s) (hi : i < n) (hx : g i = [a]) (k : K (.d (.bool (decide (i < s)))) (trO (i + 1) :: rest)) : ∃ r h', (RI P l ((List.range n).map g) s).yld [.raw (.func (.yield l) #[] #[]), .d a] (trO i :: rest) r h' ∧ K r h' :=
 yield_1 his (by rw [rg_at hi,hx]) k
end
theorem trO_same (k : Nat) : (trO k).k = (trO k).k ∧ (trO k).st = (trO k).st ∧ ((∃ l : List D,(trO k).elems = l.map .d ∧ (trO k).elems = l.map .d) ∨ wks [.old 0] (trO k).elems (trO k).elems):=
 ⟨rfl,rfl,.inl ⟨List.replicate k (.bool true),by simp [trO],by simp [trO]⟩⟩
theorem trO_sameM (k : Nat) (μ : List Mu) : (trO k).k = (trO k).k ∧ (trO k).st = (trO k).st ∧ ((∃ l : List D,(trO k).elems = l.map .d ∧ (trO k).elems = l.map .d) ∨ wks μ (trO k).elems (trO k).elems):=
 ⟨rfl,rfl,.inl ⟨List.replicate k (.bool true),by simp [trO],by simp [trO]⟩⟩
theorem endx_tr {k m : Nat} {h : Heap} (e : k = m) : EndX [] 1 (trO k :: h) (.tup []) (.tup []) [trO m]:=by
 subst e
 exact endX_of (.inl ⟨[.old 0],rfl,rfl,⟨trivial,trivial⟩,⟨trO_sameM k _,trivial⟩⟩)
section
variable {P : Program} {V : List Nat} {n0 : Nat} {ps : List Nat} {W : RWF} {K : Ex → Env → Heap → Prop} {f : Nat} {a c : List D} {A : Env} {h : Heap}
theorem range_go (e : RangeX P V n0 ps W K f a c A h) : RangeX P V n0 ps W K f a c A h:=e
theorem rounds_st {σ : Type} {n : Nat} {g : Nat → List D} (hit : IterR P f a c ((List.range n).map g)) (I : Nat → σ → Prop) (As : Nat → σ → Env) (hs : Nat → σ → Heap) (s0 : σ) (hI0 : I 0 s0) (h0 : WkG V n0 A h (As 0 s0) (hs 0 s0))
  (step : ∀ i (s : σ) (hi : i < n) (C : Heap → Prop), I i s → (∀ s' h', I (i + 1) s' → WkG V n0 (As i s) h' (As (i + 1) s') (hs (i + 1) s') → C h') → ∃ A2, psF ps (g i) (As i s) = some A2 ∧ W (hs i s).length A2 (hs i s) (fun ex _ h' => match ex with
   | .normal=>C h'
   | .exit id=>K (.exit id) (As i s) h'
   | .ret=>K .ret (As i s) h'))
  (done : ∀ s,I n s → K .normal (As n s) (hs n s)) : RangeX P V n0 ps W K f a c A h:=by
 refine ⟨.mk,_,hit,?_⟩
 have key : ∀ (m i : Nat) (s : σ) (A : Env) (h : Heap),i + m = n → I i s → WkG V n0 A h (As i s) (hs i s) → roundsF V n0 ps W K (((List.range n).map g).drop i) A h:=by
  intro m
  induction m with
  | zero=>
   intro i s A h hi hI hk
   have : i = n:=by omega
   subst this
   rw [List.drop_eq_nil_of_le (by simp)]
   exact ⟨_,_,hk,done s hI⟩
  | succ m ih=>
   intro i s A h hi hI hk
   have hlt : i < n:=by omega
   rw [List.drop_eq_getElem_cons (by simpa using hlt)]
   obtain ⟨A2,s1,s2⟩:=step i s hlt (fun h'=>roundsF V n0 ps W K (((List.range n).map g).drop (i + 1)) (As i s) h') hI (fun s' h' hI' hk'=>ih (i + 1) s' (As i s) h' (by omega) hI' hk')
   exact ⟨As i s,hs i s,A2,hk,by simpa using s1,s2⟩
 simpa using key n 0 s0 A h (by omega) hI0 h0
end
end Dw
