/-
  Own lemmas, no conditions: DwZo, DwZzc, DwZq, DwZr, DwZs, DwZt, DwZu, DwZv, DwZw, DwZx, DwZy, DwZz, DwZza, DwZzb, DwZp, DwUp.
-/
import Derived.Test.YtogifnjnpljnfaaGreatDoorGrpC
import Derived.Calls
import Derived.Sort.Row
import Derived.Sort.Grow
import Derived.RangeFuncFrom
import Derived.LoopNIn
import Derived.OrdersIn
set_option linter.unusedVariables false
set_option linter.unusedSimpArgs false
namespace Dw
open Go Go.RowKit
theorem mr {w w' : World} {st : St} {h : ae} {B : Nat} {W : World} (hw : WR B W w st h) (hb : Below w.heap.size w w') : dO w st w' st where
 n:=Nat.le_refl _
 ρ:=fun _ _ _ _ h=>h
 S b hs:=⟨hs,hb.block b (hw.stab b hs)⟩
 G:=fun _ _ h=>h
 U:=⟨rfl,rfl,fun b hu=>hb.block b (hw.x.ub b hu)⟩
theorem wZ {w : World} {b : Nat} {o : Obj} (h : w.heap[b]? = some o) : b < w.heap.size:=by
 rcases Nat.lt_or_ge b w.heap.size with h' | h'
 ·exact h'
 ·simp [Array.getElem?_eq_none h'] at h
theorem Az {w w' : World} {st : St} {h : ae} {B : Nat} {W : World} (hw : WR B W w st h) (hb : Below w.heap.size w w') : WR B W w' st h where
 below:=hw.below.trans (hb.mono hw.base)
 base:=Nat.le_trans hw.base hb.size
 seat:=hw.seat.mono (mr hw hb).S
 len:=hw.len
 obj id o ho h2 hg:=by
  obtain ⟨r,e1,e2⟩:=hw.obj id o ho h2 hg
  refine ⟨r,e1,e2.n,e2.m,e2.k,e2.k0,fun hm=>?_⟩
  obtain ⟨f1,cs,e,fr,f2,f3,f4,f5⟩:=e2.mem hm
  have hbk : w'.heap[r.b]? = w.heap[r.b]?:=hb.block r.b (wZ f2)
  refine ⟨f1,cs,e,fr,hbk.trans f2,f3,f4,fun i x hx=>?_⟩
  obtain ⟨us,g1,g2,g3⟩:=f5 i x hx
  exact ⟨us,g1,ic (mr hw hb) x us g2,dW hbk g3⟩
 mobj id o ho h2 hg:=by
  obtain ⟨r,e1,e2⟩:=hw.mobj id o ho h2 hg
  exact ⟨r,e1,e2.keep (hb.block r.b (hw.blk_lt e1 e2.m))⟩
 dom:=hw.dom
 inj:=hw.inj
 stab b hs:=Nat.lt_of_lt_of_le (hw.stab b hs) hb.size
 live:=hw.live
 frz:=hw.frz
 gho:=hw.gho
 x:=⟨hw.x.own,hw.x.low,fun b hu=>Nat.lt_of_lt_of_le (hw.x.ub b hu) hb.size⟩
theorem vK {P : Program} {f : Nat} {args : List AV} {h : ae} {r : AV}
  (he : ∀ vs w,(callFunc f vs).run P w = .ok (.enter f vs) w)
  (hc : ∀ (B : Nat) (W w : World) (st : St) (vs : List Value),WR B W w st h -> cS w st args vs ->
   ∃ v, (∀ w', aV w' st r v) /\ Calls P f vs.toArray w (fun e w' => e = .returned v /\ Below w.heap.size w w')) : bn P f args h r h := by
 intro B W w st vs hw ha
 obtain ⟨v,hv,hcl⟩:=hc B W w st vs hw ha
 rw [he]
 exact Calls.mono hcl fun e w' ⟨h1, h2⟩ => ⟨v, h1, st, Az hw h2, hv w', mr hw h2, rfl⟩
end Dw
namespace Dw
open Go Go.RowKit
theorem oZ {α : Type} [Inhabited α] (enc : α -> Value) (off : Nat) (d : Array α) (cs : Array Value) (j : Nat) (hj : j < cs.size) : (Sort.putCells enc off d cs)[j]? = some (if off <= j /\ j < off + d.size then enc d[j - off]! else cs[j]):=by
 simp [Sort.putCells,Array.getElem?_mapIdx,Array.getElem?_eq_getElem hj]
theorem HG {α : Type} [Inhabited α] {enc : α -> Value} {w : World} {b off n : Nat} {d : Array α} {cs : Array Value} {e : Nat} {fr : Nat × Nat} {os : Array Obj} (hb : w.heap[b]? = some (.cells cs e fr)) (B : Nat) (hB : B <= w.heap.size) :
  Below B (eK w b (.cells (Sort.putCells enc off d cs) e fr)) (Sort.grow (Sort.putRow enc (Sort.ahead w n) b off d) os):=by
 have hlt : b < w.heap.size:=wZ hb
 have key : ∀ k,k < w.heap.size -> (Sort.grow (Sort.putRow enc (Sort.ahead w n) b off d) os).heap[k]? = (eK w b (.cells (Sort.putCells enc off d cs) e fr)).heap[k]?:=by
  intro k hk
  rw [fo]
  simp only [Sort.grow,Sort.putRow,Sort.mapBlock,Sort.ahead]
  rw [Array.getElem?_append_left (by simpa using hk),Array.getElem?_modify]
  by_cases h : b = k
  ·subst h
   rw [if_pos rfl,if_pos ⟨rfl,hlt⟩,hb]
   rfl
  ·rw [if_neg h,if_neg (fun c=>h c.1.symm)]
 exact ⟨rfl,rfl,rfl,by simp [Sort.grow,Sort.putRow,Sort.mapBlock,Sort.ahead,eK],fun k hk=>key k (by omega)⟩
theorem Fj {P : Program} {f : Nat} {α : Type} [Inhabited α] (enc : α -> Value) (dat : α -> D)
  (hd : ∀ w st x us,aC w st (.d (dat x)) us ↔ us = [enc x])
  (he : ∀ vs w,(callFunc f vs).run P w = .ok (.enter f vs) w) (l r : List α) (hlen : r.length = l.length) (h0 : l ≠ [])
  (hc : ∀ (blk off cap : Nat) (w : World),Sort.Holds enc w blk off l.toArray -> blk < w.heap.size -> Calls P f #[.slice (some ⟨blk,off,none⟩) l.length cap] w fun e w'=>
   e = .returned (.tuple #[]) /\ ∃ n os,w' = Sort.grow (Sort.putRow enc (Sort.ahead w n) blk off r.toArray) os) (c : Option Nat) (bJ : List AV) :
  bn P f [.sl 0 0 l.length 1 c] [{ elems:=l.map (fun x=>.d (dat x)) ++ bJ,k:=1,st:=0 }] (.tup []) [{ elems:=r.map (fun x=>.d (dat x)) ++ bJ,k:=1,st:=0 }]:=by
 intro B W w st vs hw ha
 simp only [cS] at ha
 obtain ⟨v,rr,us,rfl,h2,h3,rfl⟩:=ha
 have hv : aV w st (.sl 0 0 l.length 1 c) v:=⟨us,h2,h3⟩
 obtain ⟨a,cp,rfl,a1,a2,a3,a4,a5,a6⟩:=eT.1 hv
 obtain ⟨rb,hr,hobj⟩:=hw.obj 0 _ rfl (by simp) a2
 obtain ⟨r1,r2,r3,r4⟩:=a6 rb hr
 have hl : 0 < l.length:=List.length_pos_iff.2 h0
 have hm : rb.m ≠ 0:=by omega
 have hlive:=hw.live 0 rb _ hr rfl (.inl rfl) hm
 obtain ⟨hB,cs,e,fr,m1,m2,m3,m4⟩:=hobj.mem hm
 have ha:=r3 (by omega)
 rw [r1] at ha m2 m3 m4
 simp only [Nat.zero_mul,Nat.add_zero,Nat.mul_one] at ha m2 m3 m4
 subst ha
 have hel : ∀ (j : Nat) (hj : j < l.length),cs[rb.o + j]? = some (enc (l[j]'hj)):=by
  intro j hj
  obtain ⟨us,u1,u2,u3⟩:=m4 j (.d (dat (l[j]'hj))) (by rw [List.getElem?_append_left (by simpa using hj),List.getElem?_map,List.getElem?_eq_getElem hj];rfl)
  rw [hd] at u2
  subst u2
  have:=u3.1
  rw [cN m1] at this
  exact this
 have hH : Sort.Holds enc w rb.b rb.o l.toArray:=by
  intro j hj
  have hj : j < l.length:=by simpa using hj
  refine ⟨?_,sO m1 _ (m3 _ (by omega) (by omega))⟩
  rw [cN m1,hel j hj]
  simp [hj]
 have hcl:=hc rb.b rb.o cp w hH (wZ m1)
 rw [show ([Value.slice (some ⟨rb.b,rb.o,none⟩) l.length cp] : List Value).toArray = #[.slice (some ⟨rb.b,rb.o,none⟩) l.length cp] from rfl,he]
 refine Calls.mono hcl fun ex w' ⟨h1,n,os,h4⟩=>⟨.tuple #[],h1,st,?_⟩
 subst h4
 have hw2:=hw.write (id:=0) (o:={ elems:=l.map (fun x=>.d (dat x)) ++ bJ,k:=1,st:=0 }) rfl rfl hr hm m1 (Sort.putCells enc rb.o r.toArray cs) (by simp [Sort.putCells]) (r.map (fun x=>.d (dat x)) ++ bJ) (by simp [hlen]) (fun i x hi=>by
  rw [r1]
  simp only [Nat.mul_one]
  have hil : i < r.length + bJ.length:=by have:=(List.getElem?_eq_some_iff.1 hi).1;simpa using this
  have hn:=hobj.n
  have hmm:=hobj.m
  simp only [List.length_append,List.length_map] at hn
  by_cases hir : i < r.length
  ·rw [List.getElem?_append_left (by simpa using hir),List.getElem?_map,List.getElem?_eq_getElem hir] at hi
   cases hi
   refine ⟨[enc (r[i]'hir)],rfl,(hd _ _ _ _).2 rfl,fun j v hj=>?_⟩
   cases j with
   | succ j=>simp at hj
   | zero=>
    cases hj
    rw [oZ _ _ _ _ _ (by omega),if_pos ⟨by omega,by simp;omega⟩]
    simp [hir]
  ·have hi' : (l.map (fun x=>AV.d (dat x)) ++ bJ)[i]? = some x:=by
    rw [List.getElem?_append_right (by simp;omega)] at hi ⊢
    simpa [hlen] using hi
   obtain ⟨us,u1,u2,u3⟩:=m4 i x hi'
   refine ⟨us,u1,u2,fun j v hj=>?_⟩
   have hj0 : j = 0:=by have:=(List.getElem?_eq_some_iff.1 hj).1;omega
   subst hj0
   have:=(bE us _).1 u3 0 v hj
   rw [cN m1] at this
   have hlt2:=(Array.getElem?_eq_some_iff.1 this).1
   rw [oZ _ _ _ _ _ hlt2,if_neg (by simp;omega)]
   rw [Array.getElem?_eq_getElem hlt2] at this
   exact this)
 have hbl:=HG (enc:=enc) (off:=rb.o) (n:=n) (d:=r.toArray) (os:=os) m1
 have hsz : (eK w rb.b (.cells (Sort.putCells enc rb.o r.toArray cs) e fr)).heap.size = w.heap.size:=by simp [eK]
 have hB2:=hbl w.heap.size (Nat.le_refl _)
 rw [<- hsz] at hB2
 exact ⟨Az hw2.1 hB2,cw rfl (by simp [aC,cS]),hw2.2.trans (mr hw2.1 hB2),rfl⟩
theorem ML {w : World} {st : St} (x : List UInt8) (us : List Value) : aC w st (.d (.str x)) us ↔ us = [.string ⟨x.toArray⟩]:=by simp [aC,cC]
end Dw
namespace Dw
open Go Go.RowKit
inductive M0 where
 | clone (k : Nat)
 | fn (g : List D -> Option D)
 | at (g : List AV -> ae -> Option (AV × ae))
def B6 (P : Program) (orc : Nat -> Option M0) : Prop:=∀ f o,orc f = some o -> match o with
 | .clone k=>AH P f k
 | .fn g=>∀ xs y,g xs = some y -> bn P f (xs.map .d) [] (.d y) []
 | .at g => ∀ args h r h', g args h = some (r, h') -> bn P f args h r h'
def OV (g : List D -> Option D) (args : List AV) (h : ae) : Option (AV × ae):=match vl (bl 8 h) args with
 | some xs=>(match g xs with
  | some y=>if y.flat then some (.d y,h) else (match args.flatMap (bC 8 h) with
    | []=>some (.d y,h)
    | F=>some (.d y,freeze h F))
  | none=>none)
 | none=>none
def lC (E : TE) (fs : List Func) (orc : Nat -> Option M0) (dm : Nat -> Bool) (N : Nat) : Nat -> kR
  | 0,_,_,_=>none
  | n + 1,f,args,h=>match orc f with
   | some (.clone k)=>(match wK k args h with
     | some r=>some r
     | none=>match fs[f]? with
       | some fn=>sx E (lC E fs orc dm N n) N fn args h
       | none=>none)
   | some (.fn g)=>OV g args h
   | some (.at g)=>g args h
   | none=>match fs[f]? with
    | some fn => if dm f then (match vl (bl 8 h) args with
        | some xs=>(match sx E (lC E fs orc dm N n) N fn (xs.map .d) [] with
          | some (a,h')=>(match bl 8 h' a with
            | some x=>if x.flat then some (.d x,h) else none
            | none=>none)
          | none=>none)
        | none=>none)
      else sx E (lC E fs orc dm N n) N fn args h
    | none=>none
theorem A3 {P : Program} {f k : Nat} (hc : AH P f k) {args : List AV} {h h' : ae} {r : AV} (e : wK k args h = some (r,h')) : bn P f args h r h':=by
 unfold wK at e
 split at e
 ·split at e
  ·rename_i l hl
   split at e
   ·rename_i h1;cases e
    simp only [Bool.and_eq_true,decide_eq_true_eq,List.all_eq_true,beq_iff_eq] at h1
    exact Fi hc hl h1.1 (fun y hy=>(h1.2 y hy).2) (fun y hy=>(h1.2 y hy).1)
   ·cases e
  ·cases e
 ·cases e
section
variable {P : Program} {E : TE} (hE : gJ P E)
include hE
theorem mo {fs : List Func} {orc : Nat -> Option M0} (horc : B6 P orc) (hfs : fs = P.funcs.toList) (hnm : fs.all (fun fn => !(fn.name == "runtime.NumGoroutine")) = true) {dm : Nat -> Bool} {N : Nat} : ∀ (n f : Nat) (args : List AV) (h : ae) (r : AV) (h' : ae), lC E fs orc dm N n f args h = some (r, h') -> bn P f args h r h'
 | 0, f, args, h, r, h', e => by simp [lC] at e
 | n + 1, f, args, h, r, h', e => by
  simp only [lC] at e
  split at e
  ·rename_i k hk
   split at e
   ·rename_i r0 hr0
    cases e
    exact A3 (horc f _ hk) hr0
   ·split at e
    ·rename_i fn hfn
     have hf : P.funcs[f]? = some fn:=by rw [hfs] at hfn;simpa using hfn
     have hn : (fn.name == "runtime.NumGoroutine") = false := by
      have:=(List.all_eq_true.1 hnm) fn (List.mem_of_getElem? hfn)
      simpa using this
     exact (rg hE (mo horc hfs hnm n) hf hn e).1
    ·cases e
  ·rename_i g hg
   unfold OV at e
   split at e
   ·rename_i xs hxs
    split at e
    ·rename_i y hy
     split at e
     ·rename_i hfl;cases e
      exact ah (horc f _ hg xs y hy) hfl hxs
     ·have hz:=aA (horc f _ hg xs y hy) hxs
      split at e
      ·rename_i hF;cases e
       rw [hF] at hz
       exact hz
      ·cases e
       exact hz
    ·cases e
   ·cases e
  ·rename_i g hg
   exact horc f _ hg _ _ _ _ e
  split at e
  ·rename_i fn hfn
   have hf : P.funcs[f]? = some fn:=by rw [hfs] at hfn;simpa using hfn
   have hn : (fn.name == "runtime.NumGoroutine") = false := by
    have:=(List.all_eq_true.1 hnm) fn (List.mem_of_getElem? hfn)
    simpa using this
   split at e
   ·split at e
    ·rename_i xs hxs
     split at e
     ·rename_i a h1 he
      split at e
      ·rename_i x hx
       split at e
       ·rename_i hfl;cases e
        exact ah ((rg hE (mo horc hfs hnm n) hf hn he).2 x hx rfl) hfl hxs
       ·cases e
      ·cases e
     ·cases e
    ·cases e
   ·exact (rg hE (mo horc hfs hnm n) hf hn e).1
  ·cases e
theorem fe {fs : List Func} {orc : Nat -> Option M0} (horc : B6 P orc) (hfs : fs = P.funcs.toList) (hnm : fs.all (fun fn => !(fn.name == "runtime.NumGoroutine")) = true) (dm : Nat -> Bool) (N n : Nat) {f : Nat} {xs : List D} {x : D} (e : (match lC E fs orc dm N (n + 1) f (xs.map .d) [] with
  | some (a,h')=>(match bl 8 h' a with
   | some y=>kc y x
   | none=>false)
  | none=>false) = true) (hd : dm f = false) (ho : (orc f).isNone = true) : bn P f (xs.map .d) [] (.d x) []:=by
 have ho : orc f = none:=by cases h : orc f<;>simp_all
 split at e
 ·rename_i a h' he
  split at e
  ·rename_i y hy
   have:=pk _ _ e
   subst this
   simp only [lC,ho] at he
   split at he
   ·rename_i fn hfn
    have hf : P.funcs[f]? = some fn:=by rw [hfs] at hfn;simpa using hfn
    have hn : (fn.name == "runtime.NumGoroutine") = false := by
     have:=(List.all_eq_true.1 hnm) fn (List.mem_of_getElem? hfn)
     simpa using this
    rw [hd] at he
    simp only [Bool.false_eq_true,if_false] at he
    exact (rg hE (mo hE horc hfs hnm n) hf hn he).2 _ hy rfl
   ·cases he
  ·cases e
 ·cases e
end
theorem HX {P : Program} {f : Nat} {xs : List D} {y : D}
  (h : ∀ (w : World) (st : St) (vs : List Value),cS w st (xs.map .d) vs -> ∃ v,(callFunc f vs.toArray).run P w = .ok (.value v) w /\ aV w st (.d y) v) : bn P f (xs.map .d) [] (.d y) []:=by
 intro B W w st vs hw ha
 obtain ⟨v,e,hv⟩:=h w st vs ha
 rw [e]
 exact ⟨st,hw,hv,dO.refl _ _,rfl⟩
theorem tP {P : Program} {f : Nat} {s : List UInt8} {c : Int} {y : Int}
  (h : ∀ w,(callFunc f #[.string ⟨s.toArray⟩,.int .u8 c]).run P w = .ok (.value (.int .i64 y)) w) : bn P f [.d (.str s),.d (.int .u8 c)] [] (.d (.int .i64 y)) []:=by
 refine HX (xs:=[.str s,.int .u8 c]) fun w st vs ha=>⟨.int .i64 y,?_,⟨[.int .i64 y],rfl,rfl⟩⟩
 simp only [List.map_cons,List.map_nil,cS,aC,cC,AV.isAgg] at ha
 obtain ⟨v,r,us,rfl,hv,rfl,v2,r2,us2,rfl,hv2,rfl,rfl⟩:=ha
 simp only [Bool.false_eq_true,if_false,List.cons.injEq,and_true] at hv hv2
 subst hv;subst hv2
 exact h w
end Dw
namespace Dw
open Go Go.RowKit
def Na (P : Program) (GW : Nat -> World -> Prop) : AG:=fun f a h r h'=>∀ B W,GW B W -> uE P B W f a h r h'
section
variable {P : Program} {GW : Nat -> World -> Prop}
theorem Na.sub {B : Nat} {W : World} (h : GW B W) : pv P B W (Na P GW):=.of fun _ _ _ _ _ hr=>hr B W h
end
end Dw
namespace Dw
open Go Go.RowKit
theorem bN {α : Type} {H H' : List α} {n m : Nat} {y : Option α} (hf : ∀ i,i < m -> H'[i]? = H[i]?) (hn : n < m) (h : H[n]? = y) : H'[n]? = y:=(hf n hn).trans h
theorem b7 {α : Type} {H H' : List α} {n a : Nat} {y : Option α} (hf : ∀ i,i ≠ a -> H'[i]? = H[i]?) (hn : n ≠ a) (h : H[n]? = y) : H'[n]? = y:=(hf n hn).trans h
theorem KY {o : AO} {K : Nat -> ae -> Prop} (k : K 0 [o]) : eR [] o K:=k
theorem PG {a o : AO} {K : Nat -> ae -> Prop} (k : K 1 [a,o]) : eR [a] o K:=k
theorem PH {a b o : AO} {K : Nat -> ae -> Prop} (k : K 2 [a,b,o]) : eR [a,b] o K:=k
theorem PI {a b c o : AO} {K : Nat -> ae -> Prop} (k : K 3 [a,b,c,o]) : eR [a,b,c] o K:=k
theorem L9 {H : ae} {o : AO} {K : Nat -> ae -> Prop} (k : ∀ (n : Nat) (H' : ae),H.length = n -> H'.length = n + 1 -> (∀ i,i < n -> H'[i]? = H[i]?) -> H'[n]? = some o -> K n H') : eR H o K:=by
 rw [bT]
 exact k _ _ rfl (by simp) (fun i hi=>List.getElem?_append_left hi) (by simp)
theorem Mz {α : Type} {l : List α} {n : Nat} {v : α} {K : List α -> Prop} (hn : n < l.length) (k : ∀ l' : List α,l'.length = l.length -> (∀ i,i ≠ n -> l'[i]? = l[i]?) -> l'[n]? = some v -> K l') : fb l n v K:=by
 rw [aU]
 exact k _ (by simp) (fun i hi=>List.getElem?_set_ne (by omega)) (by simp [hn])
theorem Mm {α : Type} {l : List α} {n : Nat} {x : α} {K : α -> Prop} (h : l[n]? = some x) (k : K x) : cX l n K:=cj h k
theorem lM {α : Type} {l : List α} {n : Nat} {x : α} (h : l[n]? = some x) : n < l.length:=(List.getElem?_eq_some_iff.1 h).1
theorem L6 {α : Type} {n0 : Nat} {V : List Nat} {W : bL -> ae -> (Ex -> bL -> ae -> Prop) -> Prop} {K : Ex -> bL -> ae -> Prop} {A : bL} {h : ae} (m : α -> ae -> Nat) (I : α -> ae -> Prop) (As : α -> ae -> bL) (a0 : α) (H0 : ae)
  (h0 : I a0 H0) (hw : DY V n0 A h (As a0 H0) H0)
  (step : ∀ (a : α) (H : ae) (C : bL -> ae -> Prop), I a H -> (∀ (a' : α) A' H', I a' H' -> m a' H' < m a H -> zW A' (As a' H') -> C A' H') ->
   W (As a H) H (fun ex A' h'=>match ex with
    | .normal=>C A' h'
    | .exit id=>K (.exit id) A' h'
    | .ret=>K .ret A' h')) : ∃ n,gC V n0 W K n A h:=by
 have key : ∀ n A h s H0,m s H0 < n -> I s H0 -> DY V n0 A h (As s H0) H0 -> gC V n0 W K n A h:=by
  intro n
  induction n with
  | zero=>intro A h s H0 hm;omega
  | succ n ih=>
   intro A h s H0 hm hI hk
   exact ⟨As s H0,H0,hk,step s H0 (gC V n0 W K n) hI fun s' A' h' hI' hm' hk'=>ih A' h' s' h' (by omega) hI' (.inl ⟨rfl,hk'⟩)⟩
 exact ⟨m a0 H0 + 1,key _ A h a0 H0 (Nat.lt_succ_self _) h0 hw⟩
theorem Bw {α β : Type} {n0 : Nat} {V : List Nat} {W : bL -> ae -> (Ex -> bL -> ae -> Prop) -> Prop} {K : Ex -> bL -> ae -> Prop} {A : bL} {h : ae} (m : α -> β -> ae -> Nat) (I : α -> β -> ae -> Prop) (As : α -> β -> ae -> bL) (a0 : α) (b0 : β) (H0 : ae)
  (h0 : I a0 b0 H0) (hw : DY V n0 A h (As a0 b0 H0) H0)
  (step : ∀ (a : α) (b : β) (H : ae) (C : bL -> ae -> Prop), I a b H -> (∀ (a' : α) (b' : β) A' H', I a' b' H' -> m a' b' H' < m a b H -> zW A' (As a' b' H') -> C A' H') ->
   W (As a b H) H (fun ex A' h'=>match ex with
    | .normal=>C A' h'
    | .exit id=>K (.exit id) A' h'
    | .ret=>K .ret A' h')) : ∃ n,gC V n0 W K n A h:=
 L6 (α := α × β) (fun s => m s.1 s.2) (fun s => I s.1 s.2) (fun s => As s.1 s.2) (a0, b0) H0 h0 hw (fun s H C hI hC => step s.1 s.2 H C hI (fun a' b' A' h' h1 h2 h3 => hC (a', b') A' h' h1 h2 h3))
end Dw
namespace Dw
open Go Go.RowKit
theorem oT (d : Option Nat) (v : AV) (T : List AV) : cU (mQ d v T):=by
 show cU (fun K=>mQ d v T K)
 unfold mQ
 split
 ·simp only [aU];exact ap
 ·exact ap
abbrev KT:=List AV × ae -> Prop
theorem tq {α : Type} (all : List Oper) (T : List AV) (g : Option (Nat × Bool)) {A B : List AV -> (α -> Prop) -> Prop} (hA : ∀ T,cU (A T)) (hB : ∀ T,cU (B T)) : cU (fun K=>iG all T g (fun T=>A T K) (fun T=>B T K)):=by
 unfold iG
 split
 ·exact hA T
 ·split
  ·simp only [cF]
   split
   ·simp only [aU]
    exact bw (bw (hA _) (hB _)) (bw (hB _) (hA _))
   ·exact hB T
   ·exact az
  ·exact az
theorem Hw {α : Type} {E : TE} {R : ep} {T : List AV} {h : ae} {o : Op} {G : AV -> ae -> (α -> Prop) -> Prop} (g : ∀ v h', cU (G v h')) : cU (fun K => kG E R T h o (fun v h' => G v h' K)) := fun K hk => by
 obtain ⟨v, h', h1, h2⟩ := jj hk
 obtain ⟨a,h3,h4⟩:=g v h' K h1
 exact ⟨a,h3,fun K' h5=>h2 _ (h4 K' h5)⟩
theorem tu (E : TE) (R : ep) (all : List Oper) : ∀ (l : List Oper) (T : List AV) (h : ae),cU (fun K : KT=>iL E R all l T h (fun T h=>K (T,h)))
 | [],T,h=>by simp only [iL];exact ap
 | o :: l,T,h=>by
  simp only [iL]
  refine tq (α:=List AV × ae) all T o.guard (A:=fun T K=>kG E R T h o.op (fun v h'=>mQ o.dst v T (fun T'=>iL E R all l T' h' (fun T h=>K (T,h))))) (B:=fun T K=>mQ o.dst .und T (fun T'=>iL E R all l T' h (fun T h=>K (T,h)))) (fun T=>?_) (fun T=>?_)
  ·exact Hw (G:=fun v h' K=>mQ o.dst v T (fun T'=>iL E R all l T' h' (fun T h=>K (T,h)))) fun v h'=>aQ (oT o.dst v T) fun T'=>tu E R all l T' h'
  ·exact aQ (oT o.dst .und T) fun T'=>tu E R all l T' h
theorem BM {α : Type} (T : List AV) (o : Op) {G : Option Nat -> (α -> Prop) -> Prop} (g : ∀ r,cU (G r)) : cU (fun K=>gY T o (fun r=>G r K)):=by
 unfold gY
 split<;>(try exact g none)<;>(rw [show (bB T _ : (AV -> Prop) -> Prop) = _ from rfl];simp only [aG];split<;>exact g _)
theorem xl {α : Type} (ps : List (Nat × Nat)) (e : Ev) : ∀ (l : List Ev) {F : (α -> Prop) -> Prop},cU F -> cU (fun K=>iC ps e l (F K))
 | [],F,hF=>by cases e<;>(simp only [iC];exact hF)
 | x :: l,F,hF=>by
  have ih:=xl ps e l hF
  cases e<;>cases x<;>simp only [iC]<;>first | exact ih | exact bw (bH ih) ih
theorem gc (E : TE) (R : ep) (all : List Oper) (ps : List (Nat × Nat)) : ∀ (l : List (Nat × Oper)) (L : List Ev) (T : List AV) (h : ae),cU (fun K : KT=>dg E R all ps l L T h (fun T h=>K (T,h)))
 | [],L,T,h=>by simp only [dg];exact ap
 | (i,o) :: l,L,T,h=>by
  simp only [dg]
  refine tq (α:=List AV × ae) all T o.guard (A:=fun T K=>kG E R T h o.op (fun v h'=>mQ o.dst v T (fun T'=>
    match d6 E o.op with
    | 0=>dg E R all ps l L T' h' (fun T h=>K (T,h))
    | 1=>gY T o.op (fun r=>match r with
     | some id=>iC ps (.read i id) L (dg E R all ps l (.read i id :: L) T' h' (fun T h=>K (T,h)))
     | none=>dg E R all ps l L T' h' (fun T h=>K (T,h)))
    | 2=>match v with
     | .ptr id _ _=>dg E R all ps l (.made i id :: L) T' h' (fun T h=>K (T,h))
     | _=>False
    | _=>iC ps (.heap i h h') L (dg E R all ps l (.heap i h h' :: L) T' h' (fun T h=>K (T,h)))))) (B:=fun T K=>mQ o.dst .und T (fun T'=>dg E R all ps l L T' h (fun T h=>K (T,h)))) (fun T=>?_) (fun T=>?_)
  ·refine Hw (G:=fun v h' K=>mQ o.dst v T (fun T'=>_)) fun v h'=>aQ (oT o.dst v T) (G:=fun T' K=>match d6 E o.op with
    | 0=>dg E R all ps l L T' h' (fun T h=>K (T,h))
    | 1=>gY T o.op (fun r=>match r with
     | some id=>iC ps (.read i id) L (dg E R all ps l (.read i id :: L) T' h' (fun T h=>K (T,h)))
     | none=>dg E R all ps l L T' h' (fun T h=>K (T,h)))
    | 2=>match v with
     | .ptr id _ _=>dg E R all ps l (.made i id :: L) T' h' (fun T h=>K (T,h))
     | _=>False
    | _=>iC ps (.heap i h h') L (dg E R all ps l (.heap i h h' :: L) T' h' (fun T h=>K (T,h)))) fun T'=>?_
   split
   ·exact gc E R all ps l L T' h'
   ·refine BM T o.op (G:=fun r K=>match r with
     | some id=>iC ps (.read i id) L (dg E R all ps l (.read i id :: L) T' h' (fun T h=>K (T,h)))
     | none=>dg E R all ps l L T' h' (fun T h=>K (T,h))) fun r=>?_
    cases r with
    | none=>exact gc E R all ps l L T' h'
    | some id=>exact xl ps _ L (gc E R all ps l _ T' h')
   ·split
    ·exact gc E R all ps l _ T' h'
    ·exact az
   ·exact xl ps _ L (gc E R all ps l _ T' h')
  ·exact aQ (oT o.dst .und T) fun T'=>gc E R all ps l L T' h
abbrev KX:=Ex × List AV × ae -> Prop
theorem zC {C V : List Nat} {n0 id : Nat} {T : List AV} {h : ae} {F : List AV -> ae -> (KX) -> Prop} (hF : ∀ T h,cU (F T h)) : cU (fun K : KX=>uq C V n0 id T h (fun T h=>F T h K)):=by
 unfold uq
 split
 ·exact gd fun T1=>gd fun h1=>bH (hF T1 h1)
 ·exact hF T h
theorem vC {V : List Nat} {n0 : Nat} {W : List AV -> ae -> (Ex -> List AV -> ae -> Prop) -> Prop} (hW : ∀ T h,cU (fun K : KX=>W T h (fun ex T h=>K (ex,T,h)))) : ∀ (n : Nat) (T : List AV) (h : ae),cU (fun K : KX=>qF V n0 W (fun ex T h=>K (ex,T,h)) n T h)
 | 0,T,h=>az
 | n + 1,T,h=>by
  simp only [qF]
  refine gd fun T1=>gd fun h1=>bH ?_
  refine aQ (F:=fun K : KX=>W T1 h1 (fun ex T h=>K (ex,T,h))) (G:=fun (x : Ex × List AV × ae) (K : KX)=>match x.1 with
   | .normal=>qF V n0 W (fun ex T h=>K (ex,T,h)) n x.2.1 x.2.2
   | .exit id=>K (.exit id,x.2.1,x.2.2)
   | .ret=>K (.ret,x.2.1,x.2.2)) (hW T1 h1) fun x=>?_
  obtain ⟨ex, T', h'⟩ := x
  cases ex with
  | normal=>exact vC hW n T' h'
  | exit id=>exact ap
  | ret=>exact ap
theorem ea (E : TE) (R : ep) (C V : List Nat) (n0 : Nat) : ∀ (c : Code) (T : List AV) (h : ae),cU (fun K : KX=>a7 E R C V n0 c T h (fun ex T h=>K (ex,T,h)))
 | .skip,T,h=>by simp only [a7];exact ap
 | .region id ops false,T,h=>by
  simp only [a7]
  exact zC (F:=fun T h K=>iL E R ops.toList ops.toList T h (fun T h=>K (.normal,T,h))) fun T h K hk=>by
   obtain ⟨⟨T', h'⟩, h1, h2⟩ := tu E R ops.toList ops.toList T h (fun p => K (.normal, p.1, p.2)) hk
   exact ⟨(.normal, T', h'), h1, fun K' h3 => h2 (fun p => K' (.normal, p.1, p.2)) h3⟩
 | .region id ops true,T,h=>by
  simp only [a7]
  exact zC (F:=fun T h K=>mY E R.mute ops.toList T h (fun T h=>K (.normal,T,h))) fun T h K hk=>by
   obtain ⟨fl,ps,hd,hk⟩:=hk
   obtain ⟨⟨T', h'⟩, h1, h2⟩ := gc (kT E fl) R.mute ops.toList ps _ [] T h (fun p => K (.normal, p.1, p.2)) hk
   exact ⟨(.normal, T', h'), h1, fun K' h3 => ⟨fl, ps, hd, h2 (fun p => K' (.normal, p.1, p.2)) h3⟩⟩
 | .seq x y,T,h=>by
  simp only [a7]
  refine aQ (F:=fun K : KX=>a7 E R C V n0 x T h (fun ex T h=>K (ex,T,h))) (G:=fun (p : Ex × List AV × ae) (K : KX)=>match p.1 with
   | .normal=>a7 E R C V n0 y p.2.1 p.2.2 (fun ex T h=>K (ex,T,h))
   | .exit id=>K (.exit id,p.2.1,p.2.2)
   | .ret=>K (.ret,p.2.1,p.2.2)) (ea E R C V n0 x T h) fun p=>?_
  obtain ⟨ex, T', h'⟩ := p
  cases ex with
  | normal=>exact ea E R C V n0 y T' h'
  | exit id=>exact ap
  | ret=>exact ap
 | .cond c x y,T,h=>by
  simp only [a7]
  unfold ow
  split
  ·simp only [cF]
   split
   ·simp only [aU]
    exact bw (ea E R C V n0 x _ h) (ea E R C V n0 y _ h)
   ·exact az
  ·exact bw (ea E R C V n0 x _ h) (ea E R C V n0 y _ h)
  ·exact az
 | .block id c,T,h=>by
  simp only [a7]
  refine aQ (F:=fun K : KX=>a7 E R C V n0 c T h (fun ex T h=>K (ex,T,h))) (G:=fun (p : Ex × List AV × ae) (K : KX)=>match p.1 with
   | .normal=>K (.normal,p.2.1,p.2.2)
   | .exit i=>aR (Nat.beq i id) (K (.normal,p.2.1,p.2.2)) (K (.exit i,p.2.1,p.2.2))
   | .ret=>K (.ret,p.2.1,p.2.2)) (ea E R C V n0 c T h) fun p=>?_
  obtain ⟨ex, T', h'⟩ := p
  cases ex with
  | normal=>exact ap
  | exit id=>exact bw ap ap
  | ret=>exact ap
 | .loop c,T,h=>by
  simp only [a7]
  exact gd fun n=>vC (fun T h=>ea E R C V n0 c T h) n T h
 | .exit id,T,h=>by simp only [a7];exact ap
 | .ret,T,h=>by simp only [a7];exact ap
 | .rangeFunc ..,T,h=>by simp only [a7];exact az
 | .scope ..,T,h=>by simp only [a7];exact az
 | .label ..,T,h=>by simp only [a7];exact az
 | .goto ..,T,h=>by simp only [a7];exact az
 | .refuse ..,T,h=>by simp only [a7];exact az
theorem tv (E : TE) (h : ae) (T : List AV) : ∀ (rs : List ResultVar),cU (ij E h T rs)
 | []=>by show cU (fun K=>ij E h T [] K);simp only [ij];exact ap
 | .tmp t :: l=>by
  show cU (fun K=>ij E h T (.tmp t :: l) K)
  simp only [ij,cF]
  exact aQ (tv E h T l) fun _=>ap
 | .cell a t :: l=>by
  show cU (fun K=>ij E h T (.cell a t :: l) K)
  simp only [ij,cF]
  exact aQ (mD _ _ _) fun v=>aQ (tv E h T l) fun _=>ap
structure M9 (Q : AV -> ae -> Prop) (a : AV) (h : ae) : Prop where
 stop : Stop
 out : Q a h
noncomputable def OP (E : TE) (rs : List ResultVar) (Q : AV -> ae -> Prop) : Ex -> bL -> ae -> Prop
 | .exit _,_,_=>False
 | .normal,A,h=>zM E h A rs (fun l=>M9 Q (gj l) h)
 | .ret,A,h=>zM E h A rs (fun l=>M9 Q (gj l) h)
noncomputable def TQ (E : TE) (R : ep) (fn : Func) (args : List AV) (h : ae) (Q : AV -> ae -> Prop) : Prop:=
 match fn.body with
 | some c=>qw E R [] [] h.length c (iO 0 args) h (OP E fn.results.toList Q)
 | none=>False
theorem Fw {fn : Func} {c : Code} (args : List AV) (hbd : jt fn.ntmps c = true) : ∃ N,jL N (args ++ List.replicate (fn.ntmps - args.length) .junk) (iO 0 args) /\ jt N c = true:=by
 by_cases hN : args.length <= fn.ntmps
 ·refine ⟨fn.ntmps,⟨by simp;omega,fun n=>?_⟩,hbd⟩
  rw [fq,if_pos (Nat.zero_le _),Nat.sub_zero,cG,cG]
  by_cases hi : n < args.length
  ·rw [List.getElem?_append_left hi]
  ·rw [List.getElem?_append_right (by omega),List.getElem?_eq_none (by omega),List.getElem?_replicate]
   split<;>rfl
 ·refine ⟨args.length,?_,?_⟩
  ·have h0 : fn.ntmps - args.length = 0:=by omega
   rw [h0]
   refine ⟨by simp,fun n=>?_⟩
   rw [fq,if_pos (Nat.zero_le _),Nat.sub_zero]
   simp
  ·have hm : ∀ (o : Oper),D2 fn.ntmps o = true -> D2 args.length o = true:=by
    intro o ho
    cases hd : o.dst with
    | none=>simp [D2,hd]
    | some t=>
     simp only [D2,hd,Nat.blt_eq] at ho ⊢
     omega
   have hc : ∀ (c : Code),jt fn.ntmps c = true -> jt args.length c = true:=by
    intro c
    induction c using jt.induct with
    | case1 _ ops _=>intro h;simp only [jt,List.all_eq_true] at h ⊢;exact fun o ho=>hm o (h o ho)
    | case2 a b iha ihb=>intro h;simp only [jt,Bool.and_eq_true] at h ⊢;exact ⟨iha h.1,ihb h.2⟩
    | case3 _ a b iha ihb=>intro h;simp only [jt,Bool.and_eq_true] at h ⊢;exact ⟨iha h.1,ihb h.2⟩
    | case4 _ c ih=>intro h;simp only [jt] at h ⊢;exact ih h
    | case5 c ih=>intro h;simp only [jt] at h ⊢;exact ih h
    | case6=>intro h;simp_all [jt]
   exact hc c hbd
section
variable {P : Program} {E : TE} (hE : gJ P E)
include hE
end
end Dw
namespace Dw
open Go Go.RowKit
end Dw
namespace Dw
open Go Go.RowKit
end Dw
namespace Dw
open Go Go.RowKit
variable {ds : List Deferred}
def FW (ro : Option Nat) : Fence:={ Fence.wide with round:=ro }
theorem AQ {ro : Option Nat} {P : Program} {m m' : Machine} {e : Ending} : ComesIn (Machine.fenced P (FW ro)) P m m' e ↔ Comes P m m' e:=comesIn_wide
theorem AM {ro : Option Nat} {n : Nat} {P : Program} {f : FuncId} {args : Array Value} {w : World} {R : Ending -> World -> Prop} (h : Calls P f args w R) : CallsIn (FW ro) n P f args w R:=
 ⟨trivial, fun cs _ => let ⟨e, w', fr, r, s, x⟩ := h cs; ⟨e, w', fr, r, AQ.2 s, x⟩⟩
theorem pu {ro : Option Nat} {n : Nat} {P : Program} {o : Oper} {a : Act} {N : Value -> World -> Prop} {next : Act -> World -> Prop} {Q : Exit -> Act -> World -> Prop} {r : Result Next} (hn : ∀ v w', N v w' -> next (a.put o.dst v) w') (h : cM P N r) : o.uponIn (FW ro) n P a next Q r := by
 unfold cM at h
 split at h
 ·exact hn _ _ h
 ·exact hn _ _ h
 ·refine ⟨fun h=>by simp [FW,Fence.wide] at h,AM (Calls.mono h fun e w' he=>?_)⟩
  obtain ⟨v,rfl,hv⟩:=he
  exact hn _ _ hv
 ·exact h.elim
theorem WR.move {B : Nat} {W w w' : World} {st : St} {h : ae} (hw : WR B W w st h) (hb : Below B W w') (hB : B <= w'.heap.size) (hU : ∀ b,st.U b -> b < w'.heap.size) (hS : ∀ b,st.S b -> w'.heap[b]? = w.heap[b]?) (hO : ∀ id r,st.ρ id = some r -> r.m ≠ 0 -> w'.heap[r.b]? = w.heap[r.b]?) :
  WR B W w' st h /\ qS w st w' st:=by
 have hE : qS w st w' st:=⟨Nat.le_refl _,fun _ _ _ _ h=>h,fun b hb=>⟨hb,hS b hb⟩,fun _ _ h=>h⟩
 refine ⟨⟨hb,hB,hw.seat.mono hE.S,hw.len,fun id o h1 h2 h3=>?_,fun id o h1 h2 h3=>?_,hw.dom,hw.inj,fun b hb=>?_,hw.live,hw.frz,hw.gho,hw.x.own,hw.x.low,hU⟩,hE⟩
 ·obtain ⟨r,e1,e2⟩:=hw.obj id o h1 h2 h3
  exact ⟨r,e1,e2.monoC hE (hO id r e1)⟩
 ·obtain ⟨r,e1,e2⟩:=hw.mobj id o h1 h2 h3
  exact ⟨r,e1,e2.keep (hO id r e1 e2.m)⟩
 ·have h1:=hw.stab b hb
  have h2:=hS b hb
  rw [Array.getElem?_eq_getElem h1] at h2
  exact (Array.getElem?_eq_some_iff.1 h2).1
def xO (R : ep) : Prop := (∀ f a h r h', R.call f a h r h' -> h'[0]? = h[0]?) /\ ∀ a h r h', ¬ R.yld a h r h'
section
variable {B : Nat} {W w : World} {st : St} {h h' : ae}
theorem xh {id e off : Nat} {v : Value} (hg : st.G 0) (h : aV w st (.ptr id e off) v) : id ≠ 0:=by
 obtain ⟨us,_,hc⟩:=h
 simp only [aC] at hc
 obtain ⟨_,_,_,_,h4,_⟩:=hc
 rintro rfl
 exact h4 hg
theorem ji {id s len k : Nat} {cap : Option Nat} {v : Value} (hg : st.G 0) (h : aV w st (.sl id s len k cap) v) : id ≠ 0:=by
 obtain ⟨us,_,hc⟩:=h
 simp only [aC] at hc
 obtain ⟨_,_,_,_,h4,_⟩:=hc
 rintro rfl
 exact h4 hg
theorem qK {id : Nat} {v : Value} (hg : st.G 0) (h : aV w st (.mp id) v) : id ≠ 0:=by
 obtain ⟨us,_,hc⟩:=h
 simp only [aC] at hc
 obtain ⟨_,_,_,h4,_⟩:=hc
 rintro rfl
 exact h4 hg
theorem fN {id : Nat} {x : AO} (hi : id ≠ 0) : (h.set id x)[0]? = h[0]?:=List.getElem?_set_ne hi
theorem eL {x : AO} (hl : 0 < h.length) : (h ++ [x])[0]? = h[0]?:=List.getElem?_append_left hl
theorem Aj {t : TI} {a v : AV} {va : Value} (hg : st.G 0) (ha : aV w st a va) (hk : iP t a v h (fun h1=>h1 = h')) : h'[0]? = h[0]?:=by
 unfold iP at hk
 split at hk
 ·have hi:=xh hg ha
  obtain ⟨o,_,hk⟩:=(aE _ _).1 hk
  obtain ⟨_,hk⟩:=ai hk
  obtain ⟨x,_,hk⟩:=(aE _ _).1 hk
  obtain ⟨_,hk⟩:=ai hk
  rcases aq hk with ⟨_,hk⟩ | ⟨_,hk⟩
  ·simp only [aU] at hk
   rw [<- hk];exact fN hi
  ·obtain ⟨_,hk⟩:=ai hk
   simp only [aU,gw] at hk
   rw [<- hk];exact fN hi
 ·exact hk.elim
theorem uG {t : TI} {a : AV} {new : List AV} {va : Value} (hl : 0 < h.length) (hg : st.G 0) (ha : aV w st a va) (hk : pE t a new h (fun _ h1=>h1 = h')) : h'[0]? = h[0]?:=by
 unfold pE at hk
 obtain ⟨_,hk⟩:=ai hk
 split at hk
 ·obtain ⟨_,hk⟩:=hk
  rw [bT] at hk
  rw [<- hk];exact eL hl
 ·have hi:=ji hg ha
  obtain ⟨o,_,hk⟩:=(aE _ _).1 hk
  obtain ⟨_,hk⟩:=ai hk
  obtain ⟨_,hk⟩:=ai hk
  rcases aq hk with ⟨_,hk⟩ | ⟨_,_,hk⟩
  ·simp only [aU] at hk
   rw [<- hk];exact fN hi
  ·simp only [aU,cO,bT] at hk
   rw [<- hk,eL (by simpa using hl)];exact fN hi
 ·have hi:=ji hg ha
  rcases aq hk with ⟨_,hk⟩ | ⟨_,hk⟩
  ·obtain ⟨o,_,hk⟩:=(aE _ _).1 hk
   obtain ⟨_,hk⟩:=ai hk
   obtain ⟨_,hk⟩:=ai hk
   obtain ⟨_,hk⟩:=hk
   simp only [aU] at hk
   rw [<- hk];exact fN hi
  ·obtain ⟨o,_,hk⟩:=(aE _ _).1 hk
   obtain ⟨_,hk⟩:=ai hk
   obtain ⟨_,hk⟩:=ai hk
   obtain ⟨_,hk⟩:=hk
   rw [bT] at hk
   rw [<- hk];exact eL hl
 ·exact hk.elim
theorem vQ {k : Nat} {x : AV} {K : List AV -> Prop} {p : Prop} (hk : nV k h x K) (hp : ∀ l,K l -> p) : p:=by
 obtain ⟨l,h1,_⟩:=tx k h x K hk
 exact hp l h1
theorem um {E : TE} {b : Builtin} {ts : List Nat} {args : List AV} {vs : List Value} (hl : 0 < h.length) (hg : st.G 0) (ha : cS w st args vs) (hk : et E b ts args h (fun _ h1=>h1 = h')) : h'[0]? = h[0]?:=by
 unfold et at hk
 split at hk
 ·rcases aq hk with ⟨_,hk⟩ | ⟨_,hk⟩
  ·unfold qI at hk
   split at hk
   ·obtain ⟨_,hk⟩:=ai hk
    obtain ⟨o,_,hk⟩:=(aE _ _).1 hk
    obtain ⟨_,hk⟩:=ai hk
    rw [<- hk]
   ·exact hk.elim
  obtain ⟨_,hk⟩:=ai hk
  obtain ⟨v,hk,_⟩:=zD _ _ hk
  rw [<- hk]
 ·simp only [cS] at ha
  obtain ⟨v,r,us,_,u1,u2,_⟩:=ha
  split at hk
  ·obtain ⟨_,hk⟩:=ai hk
   rcases aq hk with ⟨_,hk⟩ | ⟨_,hk⟩
   ·split at hk
    ·exact uG hl hg ⟨us,u1,u2⟩ hk.2
    ·exact hk.elim
   ·exact vQ hk fun l hk=>uG hl hg ⟨us,u1,u2⟩ hk
  ·exact hk.elim
 ·simp only [cS] at ha
  obtain ⟨v,r,us,_,u1,u2,_⟩:=ha
  have hi:=ji hg ⟨us,u1,u2⟩
  split at hk
  ·obtain ⟨_,hk⟩:=ai hk
   rw [qo] at hk
   refine vQ hk fun l hk=>?_
   obtain ⟨o,_,hk⟩:=(aE _ _).1 hk
   obtain ⟨_,hk⟩:=ai hk
   obtain ⟨_,hk⟩:=ai hk
   obtain ⟨_,hk⟩:=hk
   simp only [aU] at hk
   rw [<- hk];exact fN hi
  ·exact hk.elim
 ·simp only [cS] at ha
  obtain ⟨v,r,us,_,u1,u2,_⟩:=ha
  have hi:=ji hg ⟨us,u1,u2⟩
  split at hk
  ·obtain ⟨_,hk⟩:=ai hk
   obtain ⟨o,_,hk⟩:=(aE _ _).1 hk
   obtain ⟨_,hk⟩:=ai hk
   obtain ⟨_,hk⟩:=ai hk
   obtain ⟨_,hk⟩:=hk
   simp only [aU] at hk
   rw [<- hk];exact fN hi
  ·exact hk.elim
 ·obtain ⟨_,hk⟩:=ai hk
  obtain ⟨v,hk,_⟩:=j6 _ _ _ _ hk
  rw [<- hk]
 ·obtain ⟨_,hk⟩:=ai hk
  obtain ⟨v,hk,_⟩:=j6 _ _ _ _ hk
  rw [<- hk]
 ·obtain ⟨_,hk⟩:=ai hk
  obtain ⟨v,hk,_⟩:=zB _ _ hk
  rw [<- hk]
 ·exact hk.elim
theorem AR {E : TE} {src dst : Nat} {x : AV} (hl : 0 < h.length) (hk : jQ E src dst x h (fun _ h1=>h1 = h')) : h'[0]? = h[0]?:=by
 unfold jQ at hk
 split at hk
 ·obtain ⟨_,hk⟩:=ai hk
  rw [<- hk]
 ·rcases aq hk with ⟨_,hk⟩ | ⟨_,hk⟩
  ·obtain ⟨_,hk⟩:=ai hk
   rw [<- hk]
  ·obtain ⟨_,hk⟩:=ai hk
   rw [bT] at hk
   rw [<- hk];exact eL hl
 ·obtain ⟨_,hk⟩:=ai hk
  rw [<- hk]
 ·obtain ⟨_,hk⟩:=ai hk
  obtain ⟨_,_,hk⟩:=hk
  rw [<- hk]
 ·obtain ⟨_,hk⟩:=ai hk
  obtain ⟨o,_,hk⟩:=(aE _ _).1 hk
  obtain ⟨_,hk⟩:=ai hk
  obtain ⟨_,hk⟩:=ai hk
  obtain ⟨_,_,hk⟩:=hk
  rw [<- hk]
 ·exact hk.elim
theorem zx {E : TE} {R : ep} (hR : xO R) {T : List AV} {a : Act} {o : Op} (hw : WR B W w st h) (hT : aT w st T a.tmps) (hg : st.G 0) (hk : kG E R T h o (fun _ h1=>h1 = h')) : h'[0]? = h[0]?:=by
 have hl : 0 < h.length:=hw.len ▸ hw.gho 0 hg
 cases o<;>simp only [kG,aG,dJ,bT,j8] at hk<;>try exact hk.elim
 case makeMap=>
  obtain ⟨_,hk⟩:=ai hk
  rw [<- hk];exact eL hl
 case lookup=>
  obtain ⟨_,hk⟩:=ai hk
  obtain ⟨v,hk,_⟩:=qL _ _ _ _ _ _ hk
  rw [<- hk]
 case mapUpdate t m i v=>
  have hm:=bc hT m
  unfold eN at hk
  split at hk
  ·rename_i id hid
   rw [hid] at hm
   have hi:=qK hg hm
   rcases aq hk with ⟨_,hk⟩ | ⟨_,hk⟩
   case' inr=>obtain ⟨_,hk⟩:=ai hk
   all_goals
    split at hk
    ·split at hk
     ·obtain ⟨o,_,hk⟩:=(aE _ _).1 hk
      obtain ⟨_,hk⟩:=ai hk
      obtain ⟨L,_,hk⟩:=hk.out
      simp only [aU] at hk
      rw [<- hk];exact fN hi
     ·exact hk.elim
    ·exact hk.elim
  ·exact hk.elim
 case insert t m i v=>
  have hm:=bc hT m
  unfold eN at hk
  split at hk
  ·rename_i id hid
   rw [hid] at hm
   have hi:=qK hg hm
   rcases aq hk with ⟨_,hk⟩ | ⟨_,hk⟩
   case' inr=>obtain ⟨_,hk⟩:=ai hk
   all_goals
    split at hk
    ·split at hk
     ·obtain ⟨o,_,hk⟩:=(aE _ _).1 hk
      obtain ⟨_,hk⟩:=ai hk
      obtain ⟨L,_,hk⟩:=hk.out
      simp only [aU] at hk
      rw [<- hk];exact fN hi
     ·exact hk.elim
    ·exact hk.elim
  ·exact hk.elim
 case move=>rw [<- hk]
 case assign=>rw [<- hk]
 case pick c x y=>
  split at hk
  ·rcases aq hk with ⟨_,hk⟩ | ⟨_,hk⟩<;>rw [<- hk]
  ·exact hk.elim
 case alloc=>
  obtain ⟨_,hk⟩:=ai hk
  rw [<- hk];exact eL hl
 case box=>
  obtain ⟨_,hk⟩:=ai hk
  rw [<- hk];exact eL hl
 case build=>
  obtain ⟨_,hk⟩:=ai hk
  obtain ⟨l,hk,_⟩:=mC _ _ _ _ _ _ hk
  rw [<- hk]
 case buildSlice=>
  obtain ⟨_,hk⟩:=ai hk
  rcases aq hk with ⟨_,hk⟩ | ⟨_,hk⟩
  ·obtain ⟨_,hk⟩:=ai hk
   rw [<- hk]
  ·obtain ⟨l,hk,_⟩:=oW _ _ _ _ _ hk
   rcases aq hk with ⟨_,hk⟩ | ⟨_,hk⟩
   ·rw [<- hk];exact eL hl
   ·unfold kS at hk
    split at hk
    ·rw [<- hk]
    ·exact hk.elim
 case load=>
  obtain ⟨v,hk,_⟩:=mD _ _ _ _ hk
  rw [<- hk]
 case store t x y=>exact Aj hg (bc hT x) hk
 case nilCheck=>split at hk<;>first | exact hk.elim | rw [<- hk]
 case binOp=>
  rcases aq hk with ⟨_,hk⟩ | ⟨_,hk⟩
  ·obtain ⟨v,hk,_⟩:=zE _ _ _ _ _ hk
   rw [<- hk]
  ·obtain ⟨v,hk,_⟩:=zz _ _ _ _ _ _ hk
   rw [<- hk]
 case unOp=>
  obtain ⟨v,hk,_⟩:=Dm _ _ _ hk
  rw [<- hk]
 case convert=>exact AR hl hk
 case makeFunc=>split at hk<;>first | exact hk.elim | rw [<- hk]
 case makeSlice=>
  split at hk
  ·obtain ⟨_,hk⟩:=ai hk
   rw [<- hk.2];exact eL hl
  ·exact hk.elim
 case slice=>
  obtain ⟨a,hk,_⟩:=j7 _ _ _ hk
  obtain ⟨b,hk,_⟩:=j7 _ _ _ hk
  obtain ⟨c,hk,_⟩:=j7 _ _ _ hk
  obtain ⟨v,hk,_⟩:=tw _ _ _ _ _ _ _ _ hk
  rw [<- hk]
 case fieldAddr=>
  obtain ⟨v,hk,_⟩:=lX _ _ _ _ _ hk
  rw [<- hk]
 case field=>
  obtain ⟨v,hk,_⟩:=tp _ _ _ _ _ hk
  rw [<- hk]
 case indexAddr=>
  obtain ⟨v,hk,_⟩:=lY _ _ _ _ _ hk
  rw [<- hk]
 case index=>
  obtain ⟨v,hk,_⟩:=tt _ _ _ _ _ hk
  rw [<- hk]
 case extract=>
  split at hk
  ·obtain ⟨v,_,hk⟩:=(aE _ _).1 hk
   rw [<- hk]
  ·obtain ⟨v,_,hk⟩:=(aE _ _).1 hk
   rw [<- hk]
  ·exact hk.elim
 case call c=>
  split at hk
  ·unfold om at hk
   split at hk
   ·obtain ⟨r,h1,hr,hk⟩:=hk
    rw [<- hk];exact hR.1 _ _ _ _ _ hr
   ·obtain ⟨r,h1,hr,hk⟩:=hk
    rw [<- hk];exact hR.1 _ _ _ _ _ hr
   ·obtain ⟨r,h1,hr,hk⟩:=hk
    exact absurd hr (hR.2 _ _ _ _)
   ·exact hk.elim
  ·exact um hl hg (md hT c.args.toList) hk
  ·exact hk.elim
end
section
variable {P : Program} {E : TE} (hE : gJ P E) {B : Nat} {W : World} {ro : Option Nat} {N : Nat}
include hE
theorem oR {R : ep} (hR : pv P B W R) {w0 : World} {st0 : St} {T : List AV} {h : ae} {a : Act} {w : World} {o : Oper} {K : KV} {next : Act -> World -> Prop} {Q : Exit -> Act -> World -> Prop} (hI : iS ds B W w0 st0 T h a w)
  (hk : kG E R T h o.op K) (hn : ∀ v h' a' w', K v h' -> iS ds B W w0 st0 (eB o.dst v T) h' a' w' -> next a' w') : o.wpIn (FW ro) N P a w next Q := by
 obtain ⟨hd,st,h1,h2,h3,h4⟩:=hI
 refine ⟨fun _ _=>trivial,?_⟩
 rw [Oper.semAt_eq _ _ _ (fun c e=>by rw [e] at hk;simp [kG] at hk)]
 refine pu (N:=dE B W w st K) (fun v w' hp=>?_) (mB hE hR h1 h2 hk)
 obtain ⟨st', av, h', p1, p2, p3, p4, p5⟩ := hp
 exact hn av h' _ w' p1 ⟨by rw [dw]; exact hd, st', p2, ix (gp p4 h2) p3, h3.trans p4, p5.trans h4⟩
theorem nN {R : ep} (hR : pv P B W R) {ops : Array Oper} {w0 : World} {st0 : St} {Q : Exit -> Act -> World -> Prop} {K : List AV -> ae -> Prop} (hQ : ∀ T h a w,K T h -> iS ds B W w0 st0 T h a w -> Q .normal a w) :
  ∀ (rest : List Oper) (n : Nat) (T : List AV) (h : ae) (a : Act) (w : World),ops.toList.drop n = rest -> iS ds B W w0 st0 T h a w -> iL E R ops.toList rest T h K -> wpOpsIn (FW ro) N P ops Q (List.range' n rest.length) a w
 | [],n,T,h,a,w,hd,hI,hk=>by simpa [wpOpsIn] using hQ T h a w hk hI
 | o :: rest,n,T,h,a,w,hd,hI,hk=>by
  simp only [iL] at hk
  have ho : ops[n]? = some o:=by
   have:=congrArg (·[0]?) hd
   simpa using this
  have hd' : ops.toList.drop (n + 1) = rest:=by
   have:=congrArg List.tail hd
   simpa using this
  simp only [List.length_cons,List.range'_succ,wpOpsIn,ho]
  obtain ⟨hdf,st,h1,h2,h3,h4⟩:=id hI
  rcases je hk with ⟨g1,g2⟩ | ⟨g1,g2⟩
  ·rw [fx h2 g1]
   simp only [if_true]
   refine (oR hE hR hI g2 fun v h' a' w' hk' hI'=>?_)
   rw [eH] at hk'
   exact nN hR hQ rest (n + 1) _ h' a' w' hd' hI' hk'
  ·rw [fx h2 g1]
   simp only [Bool.false_eq_true,if_false]
   rw [eH] at g2
   exact ⟨fun _ _=>trivial,nN hR hQ rest (n + 1) _ h _ w hd' (nU hI) g2⟩
theorem o7 {R : ep} (hR : pv P B W R) {id : Nat} {ops : Array Oper} {w0 : World} {st0 : St} {Q : Exit -> Act -> World -> Prop} {K : List AV -> ae -> Prop} (hQ : ∀ T h a w,K T h -> iS ds B W w0 st0 T h a w -> Q .normal a w)
  {T : List AV} {h : ae} {a : Act} {w : World} (hI : iS ds B W w0 st0 T h a w) (hk : iL E R ops.toList ops.toList T h K) : (Code.region id ops false).wpIn (FW ro) N P Q a w:=by
 refine wpIn_region ?_
 have:=nN hE (ro:=ro) (N:=N) hR hQ ops.toList 0 T h a w rfl hI hk
 rw [List.range_eq_range']
 simpa using this
end
theorem zP {ro : Option Nat} {N : Nat} {P : Program} {Q : Exit -> Act -> World -> Prop} {c : Code} {I : Nat -> Act -> World -> Prop} (h0 : ∀ a w,¬ I 0 a w) (round : ∀ n a w,I (n + 1) a w -> c.wpIn (FW ro) N P (Exit.then (I n) Q) a w) : ∀ (n : Nat) (a : Act) (w : World),I n a w -> Code.roundsIn (FW ro) N P c Q n a w
 | 0,a,w,h=>absurd h (h0 a w)
 | n + 1,a,w,h=>by
  rw [roundsIn_succ]
  refine wpIn_mono (round n a w h) fun e a w he=>?_
  cases e with
  | normal=>exact zP h0 round n a w he
  | _=>exact he
theorem Ay {ro : Option Nat} {N : Nat} {P : Program} {Q : Exit -> Act -> World -> Prop} {c : Code} {I : Nat -> Act -> World -> Prop} (h0 : ∀ a w,¬ I 0 a w) (round : ∀ n a w,I (n + 1) a w -> c.wpIn (FW ro) N P (Exit.then (I n) Q) a w) (n : Nat) (a : Act) (w : World) (h : I n a w) : (Code.loop c).wpIn (FW ro) N P Q a w:=
 wpIn_loop_rounds n (zP h0 round n a w h)
def qr (ro : Option Nat) (N : Nat) (P : Program) (E : TE) : Prop:=
 ∀ {ds : List Deferred} {id : Nat} {ops : Array Oper} {B : Nat} {W w0 : World} {st0 : St} {Q : Exit -> Act -> World -> Prop} {K : List AV -> ae -> Prop} {R : ep},pv P B W R -> (∀ T h a w,K T h -> iS ds B W w0 st0 T h a w -> Q .normal a w) ->
  ∀ {T : List AV} {h : ae} {a : Act} {w : World},iS ds B W w0 st0 T h a w -> mY E R ops.toList T h K -> (Code.region id ops true).wpIn (FW ro) N P Q a w
section
variable {P : Program} {E : TE} (hE : gJ P E) {B : Nat} {W w0 : World} {st0 : St} {ro : Option Nat} {N : Nat}
variable (hD : qr ro N P E)
include hE hD
end
end Dw
namespace Dw
open Go Go.RowKit
variable {ds : List Deferred}
section
variable {P : Program} {E : TE} (hE : gJ P E) {B : Nat} {W w0 : World} {st0 : St} {ps : List (Nat × Nat)} {ops : Array Oper} {T0 T' TA : List AV} {h0 h' hA : ae} {trA trO : List jM}
variable {R : ep} (hR : pv P B W R) (hD : DR E R ps ops.toList T0 h0 T' h' trA trO TA hA) (hg0 : ∀ i,st0.G i -> i < st0.n) (hlen : st0.n = h0.length)
include hE hR hD hg0 hlen
variable {ro : Option Nat} {N : Nat}
theorem BC {KP : Prop} (hKP : KP -> xO R /\ st0.G 0) {L : Nat -> Bool} {s : jM} {a : Act} {w : World} {Q : Exit -> Act -> World -> Prop} {next : Act -> World -> Prop} (hs : s ∈ trA ++ trO) (hL : Cl ops.toList L) (hi : L s.i = false)
  (hd : ∀ o,ops.toList[s.i]? = some o -> ∀ e ∈ o.after.toList,Region.binds .any e = true -> L e.on = true) (hM : K6 ds E B W w0 st0 T0 h0 trA trO hA L a w)
  (hn : ∀ a' w', K6 ds E B W w0 st0 T0 h0 trA trO hA (bJ L s.i) a' w' -> (KP -> (hp E (bJ L s.i) trO hA)[0]? = (hp E L trO hA)[0]?) -> next a' w') : wpOpIn (FW ro) N P ops Q s.i next a w := by
 have hL':=rv hL hd
 -- where it stands
 obtain ⟨A,C,hAC⟩:=List.append_of_mem hs
 have hnd : (trA ++ trO).Pairwise (fun x y=>x.i ≠ y.i):=by
  have:=rT ops.toList
  rw [<- hD.map,List.pairwise_map] at this
  exact this
 obtain ⟨Dl,nd2,_,_,_⟩:=cr hnd hAC
 obtain ⟨p1,p2,_,_,_⟩:=cr hD.pair hAC
 have hops : ops[s.i]? = some s.o:=by
  have : (s.i,s.o) ∈ bQ ops.toList:=by rw [<- hD.map];exact List.mem_map.2 ⟨s,hs,rfl⟩
  rw [jO] at this
  simpa using this
 have moreA : ∀ x ∈ A,bJ L s.i x.i = L x.i:=fun x hx=>by simp [bJ,Dl x hx]
 have moreC : ∀ y ∈ C,bJ L s.i y.i = L y.i:=fun y hy=>by simp [bJ,(nd2 y hy).symm]
 have moreS : bJ L s.i s.i = true:=by simp [bJ]
 -- temporaries
 have hch:=hD.ch
 rw [hAC] at hch
 obtain ⟨T1,g1,ch1,ch2⟩:=eF hch
 obtain ⟨hsT,hsh,hsok,ch3⟩:=ch2
 have hT1 : s.T = Tp (fun _=>true) A T0:=by rw [hsT];exact ri ch1
 have hTp : Tp L (trA ++ trO) T0 = Tp L C (Tp L A T0):=by
  rw [hAC,jN]
  simp only [Tp,hi,Bool.false_eq_true,if_false]
 have huse : ∀ t ∈ g0 ops.toList s.o,g9 (Tp L (trA ++ trO) T0) t = g9 s.T t:=by
  intro t ht
  rw [hTp,hT1,wa,rK A T0 T0 rfl ?_ rfl]
  ·intro x hx hdst
   have:=(pl hL' (p1 x hx)).1 (se hdst ht) moreS
   rw [moreA x hx] at this
   exact this
  ·intro y hy hdst
   cases hly : L y.i with
   | false=>rfl
   | true=>
    have:=(pl hL (p2 y hy)).1 (qu hdst ht) hly
    rw [hi] at this;cases this
 have hopnd : ∀ x ∈ s.o.op.operands,opnd (Tp L (trA ++ trO) T0) x = opnd s.T x:=by
  intro x hx
  cases x with
  | tmp t=>
   refine huse t ?_
   simp only [g0,List.mem_append,List.mem_filterMap]
   exact .inl ⟨.tmp t,by simpa using hx,rfl⟩
  | const v=>rfl
  | global g=>rfl
  | func f=>rfl
 have hTnew : Tp (bJ L s.i) (trA ++ trO) T0 = eB s.o.dst s.v (Tp L (trA ++ trO) T0):=by
  rw [hTp,hAC,jN]
  simp only [Tp,moreS,if_true]
  rw [pB A T0 moreA,pB C _ moreC]
  refine v8 C _ fun y hy hly t hdt hyt=>?_
  have:=(pl hL (p2 y hy)).1 (sf hdt hyt) hly
  rw [hi] at this;cases this
 obtain ⟨hdf,st,m1,m2,m3,m4⟩:=hM
 -- whether it is wanted
 have hwant : vW ops.toList (Tp L (trA ++ trO) T0) s.o.guard s.tk:=by
  rcases hsok.1 with e | ⟨j,want,t,e1,e2,e3⟩
  ·exact .inl e
  ·refine .inr ⟨j,want,t,e1,e2,?_⟩
   have : t ∈ g0 ops.toList s.o:=by
    simp only [g0,List.mem_append]
    exact .inr (by simp [e1,e2])
   rw [huse t this]
   exact e3
 have hw:=fx m2 hwant
 -- an object out of nothing
 by_cases hc2 : d6 E s.o.op = 2
 ·have hsA : s ∈ trA:=by
   rcases List.mem_append.1 hs with h | h
   ·exact h
   ·have:=hD.allO s h
    rw [cB.2 hc2] at this;cases this
  obtain ⟨os,o1,o2,o3⟩:=rP hD.chA hD.allA hD.ung
  obtain ⟨k,hk⟩:=List.mem_iff_getElem?.1 hsA
  obtain ⟨f1,f2,t,f3,f4,f5,f6⟩:=o3 k s hk
  rw [f1] at hw
  unfold wpOpIn
  simp only [hops,hw,if_true]
  obtain ⟨us,u1,u2,u3,u4⟩:=pi f4 hE w st
  have hrun : (execOp a.eval s.o).run P w = .ok (.value (.pointer (some ⟨w.heap.size,0,none⟩))) (w.alloc (.cells us.toArray t)):=by
   simp only [execOp,f3,Sem.run_bind,u4,Result.andThen_ok,Sem.run_pure]
  refine ⟨fun _ _=>trivial,?_⟩
  rw [Oper.semAt_eq _ _ _ (fun c e=>by rw [e] at f3;cases f3),hrun]
  show next _ _
  have hndO : ∀ y ∈ trO,bJ L s.i y.i = L y.i:=by
   intro y hy
   have hne : y.i ≠ s.i:=by
    rw [List.pairwise_append] at hnd
    exact (hnd.2.2 s hsA y hy).symm
   simp [bJ,hne]
  have hheap : hp E (bJ L s.i) trO hA = hp E L trO hA:=nA trO hA hndO
  have hstill : fQ (E:=E) trO:=fun y hy h3=>gi (fun h2=>by have:=hD.allO y hy;rw [cB.2 h2] at this;cases this) h3 (eu hD.chO y hy)
  have hpO : trO.Pairwise (fun x y=>d6 E x.o.op = 3 -> d6 E y.o.op = 3 -> L y.i = true -> L x.i = true):=by
   have:=hD.pair
   rw [List.pairwise_append] at this
   exact this.2.1.imp fun h=>(pl hL h).2.1
  -- the object is as it was made
  have hobj : (hp E L trO hA)[h0.length + k]? = some ⟨[(E t).zero],(E t).size,0⟩:=by
   have:=gf (φ:=fun g : ae=>g[h0.length + k]?) hD.chO hstill hpO (fun y hy hy3 hly=>by
    have hpr : jI E ops.toList (cQ ops.toList []) ps (s.i,s.o) (y.i,y.o) = true:=by
     have:=hD.pair
     rw [List.pairwise_append] at this
     exact this.2.2 s hsA y hy
    have hst : rJ E ps s y:=by
     have:=hD.stab
     rw [List.pairwise_append] at this
     exact this.2.2 s hsA y hy
    have hmem:=(pl hL hpr).2.2.1 (.inr hc2) hy3 hly hi
    cases htk : y.tk with
    | false=>rw [((eu hD.chO y hy).2.2 htk).2]
    | true=>
     have:=hst (.made s.i s.h.length) (.heap y.i y.h y.h') (by simp [gP,f1,hc2]) (by simp [gP,htk,hy3])
     rw [f2] at this
     exact this hmem)
   rw [this,o1,List.getElem?_append_right (by omega)]
   simpa using f6
  have hgid : st.G (h0.length + k):=by
   rw [m4]
   exact .inr ⟨k,s,hk,hi,rfl⟩
  obtain ⟨w1,e1⟩:=m1.wake hobj hgid u1 (by omega) u3 t
  refine hn _ _ ⟨by rw [dw];exact hdf,_,by rw [hheap];exact w1,?_,m3.trans e1,?_⟩ (fun _=>by rw [hheap])
  ·rw [hTnew,f5]
   refine ix (gp e1 m2) (gL.2 ⟨w.heap.size,0,rfl,?_,fun h=>h.2 rfl,fun r hr=>?_⟩)
   ·exact m1.gho _ hgid
   ·simp only [St.wake,if_true,Option.some.injEq] at hr
    subst hr
    simp
  ·funext id
   apply propext
   simp only [St.wake,m4,Gh]
   constructor
   ·rintro ⟨h1 | ⟨k', s', h1, h2, h3⟩, hne⟩
    ·exact .inl h1
    ·refine .inr ⟨k', s', h1, ?_, h3⟩
     have : s'.i ≠ s.i:=by
      intro he
      have hndA : trA.Pairwise (fun x y=>x.i ≠ y.i):=by rw [List.pairwise_append] at hnd;exact hnd.1
      have hkk : k' ≠ k:=fun hh=>hne (by rw [h3,hh])
      rw [List.pairwise_iff_getElem] at hndA
      obtain ⟨a1,a2⟩:=List.getElem?_eq_some_iff.1 h1
      obtain ⟨b1,b2⟩:=List.getElem?_eq_some_iff.1 hk
      rcases Nat.lt_or_gt_of_ne hkk with hlt | hlt
      ·exact hndA k' k a1 b1 hlt (by rw [a2,b2,he])
      ·exact hndA k k' b1 a1 hlt (by rw [a2,b2,he])
     simp [bJ,h2,this]
   ·rintro (h1 | ⟨k', s', h1, h2, h3⟩)
    ·refine ⟨.inl h1,fun he=>?_⟩
     have:=hg0 id h1
     omega
    ·simp only [bJ,Bool.or_eq_false_iff,beq_eq_false_iff_ne] at h2
     refine ⟨.inr ⟨k', s', h1, h2.1, h3⟩, fun he => ?_⟩
     have : k' = k:=by omega
     subst this
     rw [hk] at h1
     cases h1
     exact h2.2 rfl
 ·-- any other
  have hsO : s ∈ trO:=by
   rcases List.mem_append.1 hs with h | h
   ·exact absurd (cB.1 (hD.allA s h)) hc2
   ·exact h
  have hndA : ∀ x ∈ trA,bJ L s.i x.i = L x.i:=by
   intro x hx
   have hne : x.i ≠ s.i:=by
    rw [List.pairwise_append] at hnd
    exact hnd.2.2 x hx s hsO
   simp [bJ,hne]
  have hGh : Gh st0 h0 trA (bJ L s.i) = Gh st0 h0 trA L:=by
   funext id
   apply propext
   simp only [Gh]
   constructor
   ·rintro (h1 | ⟨k', s', h1, h2, h3⟩)
    ·exact .inl h1
    ·exact .inr ⟨k', s', h1, by rw [<- hndA s' (List.mem_of_getElem? h1)]; exact h2, h3⟩
   ·rintro (h1 | ⟨k', s', h1, h2, h3⟩)
    ·exact .inl h1
    ·exact .inr ⟨k', s', h1, by rw [hndA s' (List.mem_of_getElem? h1)]; exact h2, h3⟩
  -- where it stands among the others
  obtain ⟨A1,C1,hAC1⟩:=List.append_of_mem hsO
  have hndO : trO.Pairwise (fun x y=>x.i ≠ y.i):=by rw [List.pairwise_append] at hnd;exact hnd.2.1
  have hpairO : trO.Pairwise (fun x y=>jI E ops.toList (cQ ops.toList []) ps (x.i,x.o) (y.i,y.o) = true):=by have:=hD.pair;rw [List.pairwise_append] at this;exact this.2.1
  have hstabO : trO.Pairwise (rJ E ps):=by have:=hD.stab;rw [List.pairwise_append] at this;exact this.2.1
  obtain ⟨q1,q2,q3,q4,q5⟩:=cr hpairO hAC1
  obtain ⟨r1,r2,_,_,_⟩:=cr hstabO hAC1
  obtain ⟨n1,n2,_,_,_⟩:=cr hndO hAC1
  have mA1 : ∀ x ∈ A1,bJ L s.i x.i = L x.i:=fun x hx=>by simp [bJ,n1 x hx]
  have mC1 : ∀ y ∈ C1,bJ L s.i y.i = L y.i:=fun y hy=>by simp [bJ,(n2 y hy).symm]
  have hstill : fQ (E:=E) trO:=fun y hy h3=>gi (fun h2=>by have:=hD.allO y hy;rw [cB.2 h2] at this;cases this) h3 (eu hD.chO y hy)
  have hstA : fQ (E:=E) A1:=fun y hy=>hstill y (by rw [hAC1];simp [hy])
  have hstC : fQ (E:=E) C1:=fun y hy=>hstill y (by rw [hAC1];simp [hy])
  have hokO:=eu hD.chO
  have hchO:=hD.chO
  rw [hAC1] at hchO
  obtain ⟨T2,g2,d1,d2⟩:=eF hchO
  obtain ⟨_,d3,_,d4⟩:=d2
  subst d3
  have pairs33 : ∀ (l : List jM),l.Pairwise (fun x y=>jI E ops.toList (cQ ops.toList []) ps (x.i,x.o) (y.i,y.o) = true) -> l.Pairwise (fun x y=>d6 E x.o.op = 3 -> d6 E y.o.op = 3 -> L y.i = true -> L x.i = true):=
   fun l h=>h.imp fun h=>(pl hL h).2.1
  have hhp : hp E L trO hA = hp E L C1 (hp E L A1 hA):=by
   rw [hAC1,jV]
   simp [hp,hi]
  have hhp' : hp E (bJ L s.i) trO hA = hp E L C1 (if d6 E s.o.op = 3 then s.h' else hp E L A1 hA):=by
   rw [hAC1,jV]
   simp only [hp,moreS,true_and]
   rw [nA A1 hA mA1,nA C1 _ mC1]
  -- the heap it meets
  have h3heap : d6 E s.o.op = 3 -> hp E L trO hA = s.h /\ hp E (bJ L s.i) trO hA = s.h':=by
   intro hc3
   have hall : hp E L A1 hA = s.h:=lJ d1 hstA (fun x hx hx3=>by
    have:=(pl hL' (q1 x hx)).2.1 hx3 hc3 moreS
    rw [mA1 x hx] at this;exact this)
   have hnone : ∀ y ∈ C1,d6 E y.o.op = 3 -> L y.i = false:=by
    intro y hy hy3
    cases hly : L y.i with
    | false=>rfl
    | true=>
     have:=(pl hL (q2 y hy)).2.1 hc3 hy3 hly
     rw [hi] at this;cases this
   exact ⟨by rw [hhp, fd C1 _ hnone, hall], by rw [hhp', if_pos hc3, fd C1 _ hnone]⟩
  have hNheap : d6 E s.o.op ≠ 3 -> hp E (bJ L s.i) trO hA = hp E L trO hA:=by
   intro hc3
   rw [hhp', if_neg hc3, hhp]
  have hread : d6 E s.o.op = 1 -> s.tk = true -> ∀ id,cH s.T s.o.op = some id -> ib s.h (hp E L trO hA) id:=by
   intro hc1 htk id hid
   have hev : gP E s = some (.read s.i id):=by simp [gP,htk,hc1,hid]
   have a1 : ib (hp E L A1 hA) s.h id:=mG (φ:=fun g : ae=>(g[id]?).map AO.vis) d1 hstA (pairs33 A1 q4) (fun x hx hx3 hlx=>by
    have hmem:=(pl hL' (q1 x hx)).2.2.2 hx3 hc1 moreS (by rw [mA1 x hx];exact hlx)
    cases hxt : x.tk with
    | false=>rw [((hokO x (by rw [hAC1];simp [hx])).2.2 hxt).2]
    | true=>exact r1 x hx (.heap x.i x.h x.h') (.read s.i id) (by simp [gP,hxt,hx3]) hev hmem)
   have hsh' : s.h' = s.h:=hstill s hsO (by omega)
   rw [hsh'] at d4
   by_cases hex : ∃ y ∈ C1,d6 E y.o.op = 3 /\ L y.i = true
   ·obtain ⟨y,hy,hy3,hly⟩:=hex
    have hallA : hp E L A1 hA = s.h:=lJ d1 hstA (fun x hx hx3=>(pl hL (q3 x hx y hy)).2.1 hx3 hy3 hly)
    have:=gf (φ:=fun g : ae=>(g[id]?).map AO.vis) d4 hstC (pairs33 C1 q5) (fun y hy hy3 hly=>by
     have hmem:=(pl hL (q2 y hy)).2.2.1 (.inl hc1) hy3 hly hi
     cases hyt : y.tk with
     | false=>rw [((hokO y (by rw [hAC1];simp [hy])).2.2 hyt).2]
     | true=>exact r2 y hy (.read s.i id) (.heap y.i y.h y.h') hev (by simp [gP,hyt,hy3]) hmem)
    show (s.h[id]?).map AO.vis = ((hp E L trO hA)[id]?).map AO.vis
    rw [hhp,hallA]
    exact this.symm
   ·have hnone : ∀ y ∈ C1,d6 E y.o.op = 3 -> L y.i = false:=by
     intro y hy hy3
     cases hly : L y.i with
     | false=>rfl
     | true=>exact absurd ⟨y,hy,hy3,hly⟩ hex
    rw [hhp,fd C1 _ hnone]
    exact a1.symm
  unfold wpOpIn
  simp only [hops,hw]
  cases htk : s.tk with
  | false=>
   simp only [Bool.false_eq_true,if_false]
   obtain ⟨v1,v2⟩:=hsok.2.2 htk
   have hsame : hp E (bJ L s.i) trO hA = hp E L trO hA:=by
    by_cases hc3 : d6 E s.o.op = 3
    ·obtain ⟨e1,e2⟩:=h3heap hc3
     rw [e2,e1,v2]
    ·exact hNheap hc3
   refine ⟨fun _ _=>trivial,hn _ _ ⟨by rw [dw];exact hdf,st,?_,?_,m3,by rw [hGh];exact m4⟩ (fun _=>by rw [hsame])⟩
   ·rw [hsame]
    exact m1
   ·rw [hTnew,v1]
    exact ix m2 (cw rfl (by simp [aC]))
  | true=>
   simp only [if_true]
   have hop:=hsok.2.1 htk
   have hop2 : kG E R (Tp L (trA ++ trO) T0) s.h s.o.op (fun v h'=>v = s.v /\ h' = s.h'):=by
    rw [vw hopnd];exact hop
   have hop3 : kG E R (Tp L (trA ++ trO) T0) (hp E L trO hA) s.o.op (fun v h'=>v = s.v /\ h' = hp E (bJ L s.i) trO hA):=by
    by_cases hc3 : d6 E s.o.op = 3
    ·obtain ⟨e1,e2⟩:=h3heap hc3
     rw [e1,e2]
     exact hop2
    ·have hrT : cH (Tp L (trA ++ trO) T0) s.o.op = cH s.T s.o.op:=by
      unfold cH
      split
      ·rename_i t x hx
       rw [hopnd x (by rw [hx];simp [Op.operands])]
      ·rename_i t u x hx
       rw [hopnd x (by rw [hx];simp [Op.operands])]
      ·rename_i t x lo hi mx hx
       rw [hopnd x (by rw [hx];simp [Op.operands])]
      ·rename_i t x i c hx
       rw [hopnd x (by rw [hx];simp [Op.operands])]
      ·rfl
     have:=jz (g:=hp E L trO hA) (by
      rcases wy E s.o.op with hc | hc | hc | hc
      ·exact .inl hc
      ·refine .inr ⟨hc,fun id hid=>hread hc htk id (by rw [<- hrT];exact hid)⟩
      ·exact absurd hc hc2
      ·exact absurd hc hc3) hop2
     obtain ⟨v,h2,⟨k1,k2,_⟩,k3⟩:=jj this
     exact k3 _ ⟨k2,by rw [k1,hNheap hc3]⟩
   refine ⟨fun _ _=>trivial,?_⟩
   rw [Oper.semAt_eq _ _ _ (fun c e=>by rw [e] at hop3;simp [kG] at hop3)]
   refine pu (N:=dE B W w st (fun v h'=>v = s.v /\ h' = hp E (bJ L s.i) trO hA)) (fun v w' hpost=>?_) (mB hE hR m1 m2 hop3)
   obtain ⟨st', av, h2, ⟨k1, k2⟩, k3, k4, k5, k6⟩ := hpost
   subst k1
   rw [k2] at k3
   refine hn _ _ ⟨by rw [dw]; exact hdf, st', k3, by rw [hTnew]; exact ix (gp k5 m2) k4, m3.trans k5, by rw [k6, m4, hGh]⟩ (fun hkp => ?_)
   obtain ⟨v2,h3,⟨_,l2⟩,l3⟩:=jj hop3
   exact zx (hKP hkp).1 m1 m2 (by rw [m4];exact .inl (hKP hkp).2) (l3 (fun _ h1=>h1 = hp E (bJ L s.i) trO hA) l2)
end
section
variable {P : Program} {E : TE} (hE : gJ P E) {B : Nat} {W w0 : World} {st0 : St} {ps : List (Nat × Nat)} {ops : Array Oper} {T0 T' TA : List AV} {h0 h' hA : ae} {trA trO : List jM}
variable {R : ep} (hR : pv P B W R) (hD : DR E R ps ops.toList T0 h0 T' h' trA trO TA hA) (hg0 : ∀ i,st0.G i -> i < st0.n) (hlen : st0.n = h0.length)
include hE hR hD hg0 hlen
variable {ro : Option Nat} {N : Nat}
omit hE hR hg0 hlen in
theorem zl {L : Nat -> Bool} (hall : ∀ j,j < ops.size -> L j = true) : hp E L trO hA = h':=by
 have hl : ∀ s ∈ trA ++ trO,L s.i = true:=by
  intro s hs
  have : (s.i,s.o) ∈ bQ ops.toList:=by rw [<- hD.map];exact List.mem_map.2 ⟨s,hs,rfl⟩
  rw [jO] at this
  refine hall s.i ?_
  have:=(List.getElem?_eq_some_iff.1 this).1
  simpa using this
 have hstill : fQ (E:=E) trO:=fun y hy h3=>gi (fun h2=>by have:=hD.allO y hy;rw [cB.2 h2] at this;cases this) h3 (eu hD.chO y hy)
 exact lJ hD.chO hstill (fun x hx _=>hl x (by simp [hx]))
theorem zm {KP : Prop} (hKP : KP -> xO R /\ st0.G 0) {Q : Exit -> Act -> World -> Prop} (hQ : ∀ a w,iS ds B W w0 st0 T' h' a w -> (KP -> h'[0]? = h0[0]?) -> Q .normal a w) : ∀ (fuel : Nat) (listed : Array Bool) (a : Act) (w : World),listed.size = ops.size -> Cl ops.toList (gv listed) ->
  K6 ds E B W w0 st0 T0 h0 trA trO hA (gv listed) a w -> (KP -> (hp E (gv listed) trO hA)[0]? = h0[0]?) -> ((List.range ops.size).filter (fun j=>!gv listed j)).length <= fuel -> wpAnyIn (FW ro) N P .any ops Q fuel listed a w:=by
 have hready : ∀ (listed : Array Bool),listed.size = ops.size -> Cl ops.toList (gv listed) -> Region.ready .any ops listed = [] -> ∀ j,j < ops.size -> gv listed j = true:=by
  intro listed hsz hL hr
  have key : ∀ n j,j < n -> j < ops.size -> gv listed j = true:=by
   intro n
   induction n with
   | zero=>intro j hj;omega
   | succ n ih=>
    intro j hj hjs
    cases hc : gv listed j with
    | true=>rfl
    | false=>
     have : j ∈ Region.ready .any ops listed:=by
      rw [mem_ready]
      refine ⟨?_,ops[j],Array.getElem?_eq_getElem hjs,fun e he hb=>?_⟩
      ·have hjl : j < listed.size:=by omega
       simp only [gv,Array.getD_eq_getD_getElem?,Array.getElem?_eq_getElem hjl,Option.getD_some] at hc ⊢
       exact hc
      ·have:=kr ops.toList 0 hD.edges j ops[j] (by simp [hjs]) e (by simpa using he) hb
       exact ih e.on (by omega) (by omega)
     rw [hr] at this
     cases this
  exact fun j hj=>key (j + 1) j (Nat.lt_succ_self j) hj
 have hstep : ∀ (listed : Array Bool) (i : Nat),listed.size = ops.size -> i ∈ Region.ready .any ops listed -> gv listed i = false /\ i < ops.size /\
   ∀ o,ops.toList[i]? = some o -> ∀ e ∈ o.after.toList,Region.binds .any e = true -> gv listed e.on = true:=by
  intro listed i hsz hi
  rw [mem_ready] at hi
  obtain ⟨h1,o,h2,h3⟩:=hi
  have hlt : i < ops.size:=(Array.getElem?_eq_some_iff.1 h2).1
  have hil : i < listed.size:=by omega
  refine ⟨?_,hlt,fun o' ho' e he hb=>?_⟩
  ·simp only [gv,Array.getD_eq_getD_getElem?,Array.getElem?_eq_getElem hil,Option.getD_some] at h1 ⊢
   exact h1
  ·have : o' = o:=by
    rw [Array.getElem?_toList,h2] at ho'
    exact (Option.some.inj ho').symm
   subst this
   exact h3 e (by simpa using he) hb
 intro fuel
 induction fuel with
 | zero=>
  intro listed a w hsz hL hM hM0 hf
  have hnil : (List.range ops.size).filter (fun j=>!gv listed j) = []:=List.length_eq_zero_iff.1 (by omega)
  have hall : ∀ j,j < ops.size -> gv listed j = true:=by
   intro j hj
   cases hc : gv listed j with
   | true=>rfl
   | false=>
    have : j ∈ (List.range ops.size).filter (fun j=>!gv listed j):=List.mem_filter.2 ⟨List.mem_range.2 hj,by simp [hc]⟩
    rw [hnil] at this
    cases this
  refine ⟨?_,hQ a w (rt hD hall hM) (fun hkp=>by rw [<- zl (E:=E) hD hall];exact hM0 hkp)⟩
  cases hr : Region.ready .any ops listed with
  | nil=>rfl
  | cons i l=>
   obtain ⟨h1,h2,_⟩:=hstep listed i hsz (by rw [hr];simp)
   rw [hall i h2] at h1
   cases h1
 | succ fuel ih=>
  intro listed a w hsz hL hM hM0 hf
  refine ⟨fun hr=>hQ a w (rt hD (hready listed hsz hL hr) hM) (fun hkp=>by rw [<- zl (E:=E) hD (hready listed hsz hL hr)];exact hM0 hkp),fun i hi=>?_⟩
  obtain ⟨h1,h2,h3⟩:=hstep listed i hsz hi
  have hin : (i,ops[i]) ∈ bQ ops.toList:=by rw [jO];simp [h2]
  rw [<- hD.map] at hin
  obtain ⟨s,hs,hse⟩:=List.mem_map.1 hin
  have hsi : s.i = i:=congrArg Prod.fst hse
  subst hsi
  refine BC hE hR hD hg0 hlen hKP hs hL h1 h3 hM fun a' w' hM' hM1=>?_
  have hset:=Dj (listed:=listed) (i:=s.i) (by omega)
  refine ih _ a' w' (by simp [hsz]) (by rw [hset];exact rv hL h3) (by rw [hset];exact hM') (fun hkp=>by rw [hset,hM1 hkp];exact hM0 hkp) ?_
  rw [hset]
  have:=lG (p:=fun j=>!gv listed j) (q:=fun j=>!bJ (gv listed) s.i j) (i:=s.i) (List.range ops.size) (fun j hj=>by
   simp only [bJ, Bool.not_eq_true', Bool.or_eq_false_iff] at hj ⊢
   exact hj.1) (List.mem_range.2 h2) (by simp [h1]) (by simp [bJ])
  omega
end
theorem sk {P : Program} {E : TE} {ro : Option Nat} {N : Nat} (hE : gJ P E) {id : Nat} {ops : Array Oper} {B : Nat} {W w0 : World} {st0 : St} {Q : Exit -> Act -> World -> Prop} {K : List AV -> ae -> Prop} {R : ep} (hR : pv P B W R) {KP : Prop} (hKP : KP -> xO R /\ st0.G 0)
  {T : List AV} {h : ae} {a : Act} {w : World} (hQ : ∀ T h' a w,K T h' -> (KP -> h'[0]? = h[0]?) -> iS ds B W w0 st0 T h' a w -> Q .normal a w) (hI : iS ds B W w0 st0 T h a w) (hk : mY E R ops.toList T h K) : (Code.region id ops true).wpIn (FW ro) N P Q a w:=by
 obtain ⟨hd,st,i1,i2,i3,i4⟩:=hI
 obtain ⟨fl, ps, T', h', trA, trO, TA, hA, hD, hK⟩ := DR.of_drawD hk
 have hE0:=hE
 replace hE:=hE.flag fl
 refine wpIn_region_any hE.1 ?_
 -- the draw of an order
 obtain ⟨j1,j2⟩:=i1.same (w':={ w with drawn:=w.drawn + 1 }) rfl rfl rfl rfl
 obtain ⟨os,o1,o2,o3⟩:=rP hD.chA hD.allA hD.ung
 obtain ⟨k1,k2⟩:=j1.await os
 have hg0 : ∀ i,st.G i -> i < st.n:=i1.gho
 refine zm (ds:=ds) hE hR (B:=B) (W:=W) (w0:=w) (st0:=st) hD hg0 i1.len (KP:=KP) (fun hkp=>⟨(hKP hkp).1,by rw [i4];exact (hKP hkp).2⟩) (fun a' w' hI' hkeep=>?_) ops.size _ a _ (by simp) ?_ ?_ (fun hkp=>?_) (by
  have:=List.length_filter_le (fun j=>!gv (Array.replicate ops.size false) j) (List.range ops.size)
  simpa using this)
 ·obtain ⟨hd', st', p1, p2, p3, p4⟩ := hI'
  exact hQ T' h' a' w' hK hkeep ⟨hd', st', p1, p2, i3.trans p3, p4.trans i4⟩
 ·intro y o ho hy
  have hyl : gv (Array.replicate ops.size false) y = false:=by
   simp only [gv,Array.getD_eq_getD_getElem?,Array.getElem?_replicate]
   split<;>rfl
  rw [hyl] at hy
  cases hy
 ·have hl : ∀ y,gv (Array.replicate ops.size false) y = false:=by
   intro y
   simp only [gv,Array.getD_eq_getD_getElem?,Array.getElem?_replicate]
   split<;>rfl
  refine ⟨hd,st.await os.length,?_,?_,j2.trans k2,?_⟩
  ·rw [fd trO hA (fun y _ _=>hl y.i),o1]
   exact k1
  ·have : Tp (gv (Array.replicate ops.size false)) (trA ++ trO) T = T:=by
    have : ∀ (l : List jM) (T : List AV),Tp (gv (Array.replicate ops.size false)) l T = T:=by
     intro l
     induction l with
     | nil=>intro T;rfl
     | cons s l ih=>intro T;simp only [Tp,hl,Bool.false_eq_true,if_false];exact ih T
    exact this _ _
   rw [this]
   exact gp k2 (gp j2 i2)
  ·funext id
   apply propext
   simp only [St.await,Gh]
   constructor
   ·rintro (h1 | ⟨h1,h2⟩)
    ·exact .inl h1
    ·have hk : id - h.length < trA.length:=by rw [<- o2];have:=i1.len;omega
     exact .inr ⟨id - h.length,trA[id - h.length],List.getElem?_eq_getElem hk,hl _,by have:=i1.len;omega⟩
   ·rintro (h1 | ⟨k,s,h1,h2,h3⟩)
    ·exact .inl h1
    ·have:=(List.getElem?_eq_some_iff.1 h1).1
     have:=i1.len
     exact .inr ⟨by omega,by omega⟩
 ·have hl : ∀ y,gv (Array.replicate ops.size false) y = false:=by
   intro y
   simp only [gv,Array.getD_eq_getD_getElem?,Array.getElem?_replicate]
   split<;>rfl
  rw [fd trO hA (fun y _ _=>hl y.i),o1]
  exact List.getElem?_append_left (by have:=i1.len;have:=i1.gho 0 (by rw [i4];exact (hKP hkp).2);omega)
theorem qy {P : Program} {E : TE} {ro : Option Nat} {N : Nat} (hE : gJ P E) : qr ro N P E:=by
 intro ds id ops B W w0 st0 Q K R hR hQ T h a w hI hk
 exact sk hE hR (KP:=False) (fun h=>h.elim) (fun T h' a w hk _ hI=>hQ T h' a w hk hI) hI hk
end Dw
namespace Dw
open Go Go.RowKit
theorem cD {P : Program} {E : TE} {R : ep} {ro : Option Nat} {N : Nat} {C V : List Nat} {n0 : Nat} (I : List AV -> ae -> Act -> World -> Prop)
  (hev : ∀ {T h a w t b},I T h a w -> g9 T t = .d (.bool b) -> a.eval (.tmp t) = .bool b)
  (hwk : ∀ {T T1 h h1 a w},DX V n0 T h T1 h1 -> I T h a w -> I T1 h1 a w)
  (hreg : ∀ {id : Nat} {ops : Array Oper} {Q : Exit -> Act -> World -> Prop} {K : List AV -> ae -> Prop} {T h a w},(∀ T h a w,K T h -> I T h a w -> Q .normal a w) -> I T h a w -> iL E R ops.toList ops.toList T h K -> (Code.region id ops false).wpIn (FW ro) N P Q a w)
  (hdrw : ∀ {id : Nat} {ops : Array Oper} {Q : Exit -> Act -> World -> Prop} {K : List AV -> ae -> Prop} {T h a w},(∀ T h a w,K T h -> I T h a w -> Q .normal a w) -> I T h a w -> mY E R.mute ops.toList T h K -> (Code.region id ops true).wpIn (FW ro) N P Q a w) :
  ∀ (c : Code) (T : List AV) (h : ae) (a : Act) (w : World) (K : Ex -> List AV -> ae -> Prop) (Q : Exit -> Act -> World -> Prop),
  (∀ ex T h a w,K ex T h -> I T h a w -> Q ex.to a w) -> I T h a w -> a7 E R C V n0 c T h K -> c.wpIn (FW ro) N P Q a w
 | .skip,T,h,a,w,K,Q,hQ,hI,hk=>by
  simp only [a7] at hk
  exact wpIn_skip (hQ .normal T h a w hk hI)
 | .region id ops false,T,h,a,w,K,Q,hQ,hI,hk=>by
  simp only [a7] at hk
  unfold uq at hk
  split at hk
  ·obtain ⟨T1,h1,k1,k2⟩:=hk
   exact hreg (fun T h a w hk hI=>hQ .normal T h a w hk hI) (hwk (.inr k1) hI) k2
  ·exact hreg (fun T h a w hk hI=>hQ .normal T h a w hk hI) hI hk
 | .region id ops true,T,h,a,w,K,Q,hQ,hI,hk=>by
  simp only [a7] at hk
  unfold uq at hk
  split at hk
  ·obtain ⟨T1,h1,k1,k2⟩:=hk
   exact hdrw (fun T h a w hk hI=>hQ .normal T h a w hk hI) (hwk (.inr k1) hI) k2
  ·exact hdrw (fun T h a w hk hI=>hQ .normal T h a w hk hI) hI hk
 | .seq x y,T,h,a,w,K,Q,hQ,hI,hk=>by
  simp only [a7] at hk
  refine wpIn_seq (cD I hev hwk hreg hdrw x T h a w _ _ ?_ hI hk)
  intro ex T h a w hk hI
  cases ex with
  | normal=>exact cD I hev hwk hreg hdrw y T h a w K Q hQ hI hk
  | exit id=>exact hQ (.exit id) T h a w hk hI
  | ret=>exact hQ .ret T h a w hk hI
 | .cond c x y,T,h,a,w,K,Q,hQ,hI,hk=>by
  simp only [a7] at hk
  unfold ow at hk
  split at hk
  ·rename_i t
   rw [cF] at hk
   split at hk
   ·rename_i b hb
    have hv:=hev hI hb
    rcases aq hk with ⟨h1,h2⟩ | ⟨h1,h2⟩
    ·subst h1
     rw [aU,gy hb (by simp)] at h2
     exact wpIn_cond_true hv (cD I hev hwk hreg hdrw x T h a w K Q hQ hI h2)
    ·subst h1
     rw [aU,gy hb (by simp)] at h2
     exact wpIn_cond_false hv (cD I hev hwk hreg hdrw y T h a w K Q hQ hI h2)
   ·exact hk.elim
  ·rename_i b
   rcases aq hk with ⟨h1,h2⟩ | ⟨h1,h2⟩
   ·subst h1;exact wpIn_cond_true rfl (cD I hev hwk hreg hdrw x T h a w K Q hQ hI h2)
   ·subst h1;exact wpIn_cond_false rfl (cD I hev hwk hreg hdrw y T h a w K Q hQ hI h2)
  ·exact hk.elim
 | .block id c,T,h,a,w,K,Q,hQ,hI,hk=>by
  simp only [a7] at hk
  refine wpIn_block (cD I hev hwk hreg hdrw c T h a w _ _ ?_ hI hk)
  intro ex T h a w hk hI
  cases ex with
  | normal=>exact hQ .normal T h a w hk hI
  | exit i=>
   simp only [Ex.to,Exit.inBlock]
   rcases aq hk with ⟨h1,h2⟩ | ⟨h1,h2⟩
   ·rw [if_pos (by simpa using h1)]
    exact hQ .normal T h a w h2 hI
   ·rw [if_neg (by intro he;subst he;simp at h1)]
    exact hQ (.exit i) T h a w h2 hI
  | ret=>exact hQ .ret T h a w hk hI
 | .loop c,T,h,a,w,K,Q,hQ,hI,hk=>by
  simp only [a7] at hk
  obtain ⟨n,hk⟩:=hk
  refine Ay (I:=fun n a w=>∃ T h,qF V n0 (a7 E R C V n0 c) K n T h /\ I T h a w) ?_ ?_ n a w ⟨T,h,hk,hI⟩
  ·rintro a w ⟨T,h,hk,_⟩
   exact hk.elim
  ·rintro m a w ⟨T,h,⟨T1,h1,k1,k2⟩,hI⟩
   refine cD I hev hwk hreg hdrw c T1 h1 a w _ _ ?_ (hwk k1 hI) k2
   intro ex T h a w hk hI
   cases ex with
   | normal=>exact ⟨T,h,hk,hI⟩
   | exit id=>exact hQ (.exit id) T h a w hk hI
   | ret=>exact hQ .ret T h a w hk hI
 | .exit id,T,h,a,w,K,Q,hQ,hI,hk=>by
  simp only [a7] at hk
  exact wpIn_exit (hQ (.exit id) T h a w hk hI)
 | .ret,T,h,a,w,K,Q,hQ,hI,hk=>by
  simp only [a7] at hk
  exact wpIn_ret (hQ .ret T h a w hk hI)
 | .rangeFunc ..,_,_,_,_,_,_,_,_,hk=>by simp [a7] at hk
 | .scope ..,_,_,_,_,_,_,_,_,hk=>by simp [a7] at hk
 | .label ..,_,_,_,_,_,_,_,_,hk=>by simp [a7] at hk
 | .goto ..,_,_,_,_,_,_,_,_,hk=>by simp [a7] at hk
 | .refuse ..,_,_,_,_,_,_,_,_,hk=>by simp [a7] at hk
def xN (B : Nat) (W0 : World) (n : Nat) (J : Nat -> (Nat -> Prop) -> (Nat -> Prop) -> World -> Prop) : Prop:=
 ∀ i (O F O' F' : Nat -> Prop) w w', J i O F w -> Below B W0 w' -> (∀ b, b < w.heap.size -> (¬ O b \/ F b) -> w'.heap[b]? = w.heap[b]?) ->
  (∀ b,O' b -> O b \/ w.heap.size <= b) -> (∀ b,F b -> F' b) -> (∀ b,F' b -> O' b) -> (∀ b,O' b -> n <= b /\ b < w'.heap.size) -> J i O' F' w'
def n7 (P : Program) (f : Nat) (first cap : List D) (xs : List (List D)) : Prop:=
 (∀ args w,(callFunc f args).run P w = .ok (.enter f args) w) /\
 ∀ (s : Nat),s <= xs.length -> ∀ (N l B : Nat) (W0 w : World) (S : Nat -> Prop) (us vs : List Value) (J : Nat -> (Nat -> Prop) -> (Nat -> Prop) -> World -> Prop),
  B <= w.heap.size -> Below B W0 w -> (∀ b,S b -> b < w.heap.size) -> iX w S first us -> iX w S cap vs -> mW w S -> xN B W0 w.heap.size J ->
  (∀ i (O F : Nat -> Prop) w1 xs', i <= s -> J i O F w1 -> Below B W0 w1 -> (∀ b, F b -> O b) -> (∀ b, O b -> w.heap.size <= b /\ b < w1.heap.size) ->
   (∃ x,xs[i]? = some x /\ iX w1 (fun b=>S b \/ F b) x xs') ->
   YieldAt (FW none) (N - 1) P l xs'.toArray w1 (fun e w2=>e = .returned (.bool (decide (i < s))) /\ J (i + 1) O F w2 /\ Below B W0 w2 /\ w.heap.size <= w2.heap.size /\ ∀ b,S b \/ O b -> w2.heap[b]? = w1.heap[b]?)) ->
  J 0 (fun _=>False) (fun _=>False) w ->
  CallsIn (FW none) N P f (us ++ .func (.yield l) #[] #[] :: vs).toArray w (fun e w'=>(∃ v,e = .returned v) /\ ∃ O F,J (min (s + 1) xs.length) O F w' /\ Below B W0 w')
def trO (i : Nat) : AO:=⟨List.replicate i (.d (.bool true)),1,0⟩
def TP (l : Nat) (xs : List (List D)) (s : Nat) : List AV -> ae -> AV -> ae -> Prop:=fun args h r h'=>
 ∃ i rest ds,h = trO i :: rest /\ i <= s /\ xs[i]? = some ds /\ args = .raw (.func (.yield l) #[] #[]) :: ds.map .d /\ r = .d (.bool (decide (i < s))) /\ h' = trO (i + 1) :: rest
def RI (P : Program) (l : Nat) (xs : List (List D)) (s : Nat) : ep:=⟨fun f args h r h'=>bn P f args h r h' /\ h'[0]? = h[0]?,TP l xs s⟩
theorem pr (i : Nat) : (trO i).elems.length = i:=by simp [trO]
def v7 (P : Program) (B : Nat) (W0 : World) (S : Nat -> Prop) (nc : Nat) (J : Nat -> (Nat -> Prop) -> (Nat -> Prop) -> World -> Prop) (s : Nat) (T : List AV) (h : ae) (a : Act) (w : World) : Prop:=
 ∃ (tr : AO) (O F : Nat -> Prop) (w1 : World) (st1 : St),h[0]? = some tr /\ J tr.elems.length O F w1 /\ Below B W0 w1 /\ nc <= w1.heap.size /\ (∀ b,F b -> O b) /\ (∀ b,O b -> nc <= b /\ b < w1.heap.size) /\
  st1 = { n:=1,ρ:=fun _=>none,S:=fun b=>S b \/ F b,G:=fun id=>id = 0,U:=fun b=>b < w1.heap.size /\ ¬ O b,S0:=S } /\ iS [] B W0 w1 st1 T h a w
theorem WR.reset {B : Nat} {W w : World} {st : St} {h h' : ae} (hw : WR B W w st h) (S' U' S0' : Nat -> Prop) (hl : h'.length = h.length) (hh : ∀ i,¬ st.G i -> h'[i]? = h[i]?) (hS : ∀ b,st.S b -> S' b) (hS2 : ∀ b,S' b -> b < w.heap.size)
  (hlive : ∀ id r,st.ρ id = some r -> r.m ≠ 0 -> S' r.b -> st.S r.b) (hown : ∀ id r,st.ρ id = some r -> r.m ≠ 0 -> ¬ U' r.b) (hlow : ∀ b,S' b -> S0' b \/ ¬ U' b) (hub : ∀ b,U' b -> b < w.heap.size) :
  WR B W w { st with S := S', U := U', S0 := S0' } h' /\ qS w st w { st with S := S', U := U', S0 := S0' } := by
 have hE : qS w st w { st with S := S', U := U', S0 := S0' } := ⟨Nat.le_refl _, fun _ _ _ _ h => h, fun b hb => ⟨hS b hb, rfl⟩, fun _ _ h => h⟩
 have Iy : ∀ id r,st.ρ id = some r -> h'[id]? = h[id]?:=fun id r hr=>by
  obtain ⟨o,_,_,h3⟩:=hw.dom id r hr
  exact hh id h3
 refine ⟨⟨hw.below,hw.base,hw.seat.mono hE.S,by rw [hl];exact hw.len,fun id o h1 h2 h3=>?_,fun id o h1 h2 h3=>?_,fun id r hr=>?_,hw.inj,hS2,fun id r o hr h1 h2 hm hb=>?_,fun id r o hr h1 h2 hm=>?_,hw.gho,hown,hlow,hub⟩,hE⟩
 ·rw [hh id h3] at h1
  obtain ⟨r,e1,e2⟩:=hw.obj id o h1 h2 h3
  exact ⟨r,e1,e2.monoC hE (fun _=>rfl)⟩
 ·rw [hh id h3] at h1
  obtain ⟨r,e1,e2⟩:=hw.mobj id o h1 h2 h3
  exact ⟨r,e1,e2⟩
 ·obtain ⟨o,h1,h2,h3⟩:=hw.dom id r hr
  exact ⟨o,by rw [hh id h3];exact h1,h2,h3⟩
 ·rw [Iy id r hr] at h1
  exact hw.live id r o hr h1 h2 hm (hlive id r hr hm hb)
 ·rw [Iy id r hr] at h1
  exact hS _ (hw.frz id r o hr h1 h2 hm)
theorem ES {E : TE} {R : ep} {T : List AV} {h : ae} {o : Op} {K : KV} (hk : kG E R T h o K) : kG E R.mute T h o K \/
  ∃ c f l x y r h', o = .call c /\ c.callee = .value f /\ opnd T f = .raw (.func (.yield l) x y) /\ R.yld (.raw (.func (.yield l) x y) :: c.args.toList.map (opnd T)) h r h' /\ K r h' := by
 cases o<;>try exact .inl hk
 case call c=>
  simp only [kG] at hk ⊢
  cases hc : c.callee<;>simp only [hc] at hk ⊢<;>try exact .inl hk
  case value f=>
   simp only [aG,dJ] at hk ⊢
   unfold om at hk ⊢
   split at hk
   ·rename_i e;simp only [e];exact .inl hk
   ·rename_i e;simp only [e];exact .inl hk
   ·rename_i l x y e
    obtain ⟨r, h', h1, h2⟩ := hk
    exact .inr ⟨c, f, l, x, y, r, h', rfl, hc, e, h1, h2⟩
   ·exact hk.elim
section
variable {P : Program} {E : TE} (hE : gJ P E) {B : Nat} {W0 : World} {S : Nat -> Prop} {nc : Nat} {J : Nat -> (Nat -> Prop) -> (Nat -> Prop) -> World -> Prop} {s l N : Nat} {xs : List (List D)}
theorem RI.sub {W : World} : pv P B W (RI P l xs s).mute:=.of fun _ _ _ _ _ h=>h.1 B W
theorem RI.keep : xO (RI P l xs s).mute:=⟨fun _ _ _ _ _ h=>h.2,fun _ _ _ _ h=>h⟩
def FR (P : Program) (B : Nat) (W0 : World) (S : Nat -> Prop) (nc : Nat) (J : Nat -> (Nat -> Prop) -> (Nat -> Prop) -> World -> Prop) (s l N : Nat) (xs : List (List D)) : Prop:=
 ∀ i (O F : Nat -> Prop) w1 xs', i <= s -> J i O F w1 -> Below B W0 w1 -> (∀ b, F b -> O b) -> (∀ b, O b -> nc <= b /\ b < w1.heap.size) ->
   (∃ x,xs[i]? = some x /\ iX w1 (fun b=>S b \/ F b) x xs') ->
   YieldAt (FW none) (N - 1) P l xs'.toArray w1 (fun e w2=>e = .returned (.bool (decide (i < s))) /\ J (i + 1) O F w2 /\ Below B W0 w2 /\ nc <= w2.heap.size /\ ∀ b,S b \/ O b -> w2.heap[b]? = w1.heap[b]?)
theorem v7.now {T : List AV} {h : ae} {a : Act} {w : World} (hJ : xN B W0 nc J) (hI : v7 P B W0 S nc J s T h a w) :
  ∃ (tr : AO) (O F : Nat -> Prop) (st : St),h[0]? = some tr /\ J tr.elems.length O F w /\ (∀ b,F b -> O b) /\ (∀ b,O b -> nc <= b /\ b < w.heap.size) /\ a.defers = [] /\ WR B W0 w st h /\ aT w st T a.tmps /\
   (∀ b,st.S b ↔ S b \/ F b) /\ (∀ id r,st.ρ id = some r -> r.m ≠ 0 -> O r.b) /\ (st.G = fun id=>id = 0) /\ 1 <= st.n /\ st.S0 = S:=by
 obtain ⟨tr,O,F,w1,st1,i1,i2,i3,i4,i5,i6,rfl,hd,st,j1,j2,j3,j4⟩:=hI
 obtain ⟨u1,u2,u3⟩:=j3.U
 have hS1 : ∀ b,S b \/ F b -> st.S b /\ w.heap[b]? = w1.heap[b]?:=j3.S
 have hlow : ∀ b,st.S b -> S b \/ (b < w.heap.size /\ (O b \/ w1.heap.size <= b)):=fun b hb=>by
  rcases j1.x.low b hb with h | h
  ·rw [u2] at h;exact .inl h
  ·rw [u1] at h
   refine .inr ⟨j1.stab b hb,?_⟩
   rcases Nat.lt_or_ge b w1.heap.size with hlt | hge
   ·by_cases hO : O b
    ·exact .inl hO
    ·exact absurd ⟨hlt,hO⟩ h
   ·exact .inr hge
 refine ⟨tr,fun b=>b < w.heap.size /\ (O b \/ w1.heap.size <= b),fun b=>st.S b /\ b < w.heap.size /\ (O b \/ w1.heap.size <= b),st,i1,?_,fun b hb=>hb.2,fun b hb=>?_,hd,j1,j2,fun b=>?_,fun id r hr hm=>?_,j4,j3.n,u2⟩
 ·refine hJ _ O F _ _ w1 w i2 j1.below (fun b hb hob=>?_) (fun b hb=>hb.2) (fun b hb=>?_) (fun b hb=>hb.2) (fun b hb=>?_)
  ·rcases hob with h | h
   ·exact u3 b ⟨hb,h⟩
   ·exact (hS1 b (.inr h)).2
  ·exact ⟨(hS1 b (.inr hb)).1,j1.stab b (hS1 b (.inr hb)).1,.inl (i5 b hb)⟩
  ·rcases hb.2 with h | h
   ·exact ⟨(i6 b h).1,hb.1⟩
   ·exact ⟨by omega,hb.1⟩
 ·rcases hb.2 with h | h
  ·exact ⟨(i6 b h).1,hb.1⟩
  ·exact ⟨by omega,hb.1⟩
 ·constructor
  ·intro hb
   rcases hlow b hb with h | h
   ·exact .inl h
   ·exact .inr ⟨hb,h⟩
  ·rintro (h | h)
   ·exact (hS1 b (.inl h)).1
   ·exact h.1
 ·have h1:=j1.x.own id r hr hm
  rw [u1] at h1
  refine ⟨j1.blk_lt hr hm,?_⟩
  rcases Nat.lt_or_ge r.b w1.heap.size with hlt | hge
  ·by_cases hO : O r.b
   ·exact .inl hO
   ·exact absurd ⟨hlt,hO⟩ h1
  ·exact .inr hge
theorem xx {o : Oper} {c : Call} {f : Operand} {a : Act} {w : World} (ho : o.op = .call c) (hf : c.callee = .value f) (hv : a.eval f = .func (.yield l) #[] #[]) : (execOp a.eval o).run P w = (Instr.yield l (c.args.map a.eval)).run P w:=by
 obtain ⟨dst,op,type,pos,after,guard⟩:=o
 simp only at ho
 subst ho
 simp only [execOp,resolve,hf,hv,Deferred.ofValue,Sem.run_bind,Sem.run_pure,Result.andThen_ok,invoke]
 simp
include hE in
theorem ET {T : List AV} {h : ae} {a : Act} {w : World} {o : Oper} {K : KV} {next : Act -> World -> Prop} {Q : Exit -> Act -> World -> Prop} (hJ : xN B W0 nc J) (hB : B <= nc) (hS : ∀ b,S b -> b < nc) (hY : FR P B W0 S nc J s l N xs) (hI : v7 P B W0 S nc J s T h a w)
  (hk : kG E (RI P l xs s) T h o.op K) (hn : ∀ v h' a' w', K v h' -> v7 P B W0 S nc J s (eB o.dst v T) h' a' w' -> next a' w') : o.wpIn (FW none) N P a w next Q := by
 rcases ES hk with hk | ⟨c, f, l', x, y, r, h', e1, e2, e3, hy, hk⟩
 ·obtain ⟨tr,O,F,w1,st1,i1,i2,i3,i4,i5,i6,i7,hI⟩:=hI
  obtain ⟨v, h', k1, k2⟩ := jj hk
  obtain ⟨hd,st,j1,j2,j3,j4⟩:=id hI
  have hG : st.G 0:=by rw [j4,i7]
  have hkeep : h'[0]? = h[0]?:=zx RI.keep j1 j2 hG (k2 (fun _ h1=>h1 = h') rfl)
  refine oR hE RI.sub hI (k2 (fun v1 h1=>v1 = v /\ h1 = h') ⟨rfl,rfl⟩) (fun v1 h1 a' w' e hI'=>?_)
  obtain ⟨rfl,rfl⟩:=e
  exact hn _ _ a' w' k1 ⟨tr,O,F,w1,st1,by rw [hkeep];exact i1,i2,i3,i4,i5,i6,i7,hI'⟩
 ·obtain ⟨i,rest,ds,rfl,y2,y3,y4,rfl,rfl⟩:=hy
  obtain ⟨tr,O,F,st,i1,i2,i3,i4,i5,i6,i7,i8,i9,i10,i11,i12⟩:=hI.now hJ
  simp only [List.getElem?_cons_zero,Option.some.injEq] at i1
  subst i1
  rw [pr] at i2
  obtain ⟨y5,y6⟩:=List.cons.inj y4
  cases y5
  have hfv : a.eval f = .func (.yield l) #[] #[]:=by
   have:=bc i7 f
   rw [e3] at this
   obtain ⟨us,u1,u2⟩:=this
   simp only [AV.isAgg,Bool.false_eq_true,if_false] at u1
   simp only [aC] at u2
   rw [u1] at u2
   exact (List.cons.inj u2).1
  have hargs : cS w st (ds.map .d) (c.args.toList.map a.eval):=by rw [<- y6];exact md i7 _
  have hds : iX w (fun b=>S b \/ F b) ds (c.args.toList.map a.eval):=by
   have hm : ∀ (l : List D) (vs : List Value),cS w st (l.map .d) vs -> iX w st.S l vs:=by
    intro l
    induction l with
    | nil=>intro vs h;simpa [cS,iX] using h
    | cons x l ih=>
     intro vs h
     simp only [List.map_cons,cS] at h
     obtain ⟨v,t,ws,h1,h2,h3,h4⟩:=h
     simp only [iX]
     have hx : (AV.d x).isAgg = x.isAgg:=by cases x<;>rfl
     rw [hx] at h2
     exact ⟨v,t,ws,h1,h2,by simpa [aC] using h3,ih _ h4⟩
   exact eW (fun b hb=>⟨(i8 b).1 hb,rfl⟩) _ _ (hm _ _ hargs)
  obtain ⟨fn,tmps,assign,body,g1,g2⟩:=hY i O F w (c.args.toList.map a.eval) y2 i2 i6.below i3 i4 ⟨ds,y3,hds⟩
  refine ⟨fun _ _=>trivial,?_⟩
  have hsem : (o.semAt (FW none).round a.eval).run P w = .ok (.round l fn tmps assign body) w:=by
   rw [Oper.semAt_eq _ _ _ (fun c' e=>by rw [e1] at e;cases e),xx e1 e2 hfv]
   have : c.args.map a.eval = (c.args.toList.map a.eval).toArray:=by rw [<- Array.toList_map]
   rw [this]
   exact g1
  rw [hsem,Oper.uponIn_round]
  refine ⟨fun h=>by simp [FW,Fence.wide] at h,g2.mono ?_⟩
  rintro e w2 ⟨rfl,q1,q2,q3,q4⟩
  refine hn _ _ _ w2 hk ?_
  -- the walk goes on from here
  have hSt : ∀ b,st.S b -> w2.heap[b]? = w.heap[b]?:=fun b hb=>by
   rcases (i8 b).1 hb with h | h
   ·exact q4 b (.inl h)
   ·exact q4 b (.inr (i3 b h))
  have hlt : ∀ b,S b \/ O b -> b < w.heap.size -> b < w2.heap.size:=fun b hb hlt=>by
   have:=q4 b hb
   rw [Array.getElem?_eq_getElem hlt] at this
   exact (Array.getElem?_eq_some_iff.1 this).1
  obtain ⟨m0,me0⟩:=(i6.reset (h':=trO (i + 1) :: rest) st.S (fun _=>False) st.S0 (by simp) (fun j hj=>by
   cases j with
   | zero=>exact absurd (by rw [i10]) hj
   | succ j=>rfl) (fun _ h=>h) i6.stab (fun _ _ _ _ h=>h) (fun _ _ _ _ h=>h) (fun _ _=>.inr (fun h=>h)) (fun _ h=>h.elim))
  obtain ⟨m1,me1⟩:=m0.move q2 (by omega) (fun _ h=>h.elim) hSt (fun id r hr hm=>q4 _ (.inr (i9 id r hr hm)))
  obtain ⟨m2,me2⟩:=m1.reset (h':=trO (i + 1) :: rest) st.S (fun b=>b < w2.heap.size /\ ¬ O b) S rfl (fun _ _=>rfl) (fun _ h=>h) m1.stab (fun _ _ _ _ h=>h) (fun id r hr hm hu=>hu.2 (i9 id r hr hm)) (fun b hb=>by
    rcases (i8 b).1 hb with h | h
    ·exact .inl h
    ·exact .inr (fun hu=>hu.2 (i3 b h))) (fun b hb=>hb.1)
  refine ⟨trO (i + 1),O,F,w2,_,rfl,by rw [pr];exact q1,q2,q3,i3,fun b hb=>⟨(i4 b hb).1,hlt b (.inr hb) (i4 b hb).2⟩,rfl,by rw [dw];exact i5,_,m2,?_,?_,i10⟩
  ·refine ix (x:=.d (.bool (decide (i < s)))) ⟨⟨i7.1.1,m2.seat⟩,fun j=>?_⟩ (bV.2 rfl)
   exact dF me2 (dF me1 (dF me0 (i7.2 j)))
  ·refine ⟨i11,fun _ hlt hg _ _=>absurd (by simp at hlt;exact hlt) hg,fun b hb=>⟨(i8 b).2 hb,rfl⟩,fun id hlt hg=>by simpa using hlt,rfl,rfl,fun _ _=>rfl⟩
theorem qk (hJ : xN B W0 nc J) (hB : B <= nc) (hS : ∀ b,S b -> b < nc) (hY : FR P B W0 S nc J s l N xs) {ops : Array Oper} {Q : Exit -> Act -> World -> Prop} {K : List AV -> ae -> Prop} (hQ : ∀ T h a w,K T h -> v7 P B W0 S nc J s T h a w -> Q .normal a w) (hE : gJ P E) :
  ∀ (rest : List Oper) (n : Nat) (T : List AV) (h : ae) (a : Act) (w : World),ops.toList.drop n = rest -> v7 P B W0 S nc J s T h a w -> iL E (RI P l xs s) ops.toList rest T h K -> wpOpsIn (FW none) N P ops Q (List.range' n rest.length) a w
 | [],n,T,h,a,w,hd,hI,hk=>by simpa [wpOpsIn] using hQ T h a w hk hI
 | o :: rest,n,T,h,a,w,hd,hI,hk=>by
  simp only [iL] at hk
  have ho : ops[n]? = some o:=by
   have:=congrArg (·[0]?) hd
   simpa using this
  have hd' : ops.toList.drop (n + 1) = rest:=by
   have:=congrArg List.tail hd
   simpa using this
  simp only [List.length_cons,List.range'_succ,wpOpsIn,ho]
  obtain ⟨tr,O,F,w1,st1,i1,i2,i3,i4,i5,i6,i7,hI0⟩:=id hI
  obtain ⟨hdf,st,h1,h2,h3,h4⟩:=id hI0
  rcases je hk with ⟨g1,g2⟩ | ⟨g1,g2⟩
  ·rw [fx h2 g1]
   simp only [if_true]
   refine (ET hE hJ hB hS hY hI g2 fun v h' a' w' hk' hI'=>?_)
   rw [eH] at hk'
   exact qk hJ hB hS hY hQ hE rest (n + 1) _ h' a' w' hd' hI' hk'
  ·rw [fx h2 g1]
   simp only [Bool.false_eq_true,if_false]
   rw [eH] at g2
   exact ⟨fun _ _=>trivial,qk hJ hB hS hY hQ hE rest (n + 1) _ h _ w hd' ⟨tr,O,F,w1,st1,i1,i2,i3,i4,i5,i6,i7,nU hI0⟩ g2⟩
theorem Ax {T T1 : List AV} {h h1 : ae} {tr : AO} (hk : DX [] 1 T h T1 h1) (h0 : h[0]? = some tr) : ∃ tr1,h1[0]? = some tr1 /\ tr1.elems.length = tr.elems.length:=by
 rcases hk with ⟨rfl,_⟩ | ⟨μ,f1,f2,f3,f4⟩
 ·exact ⟨tr,h0,rfl⟩
 ·cases μ with
  | nil=>simp [iE] at f1
  | cons m μ=>
   cases m with
   | old j=>
    simp only [iE,Bool.and_true] at f1
    have : j = 0:=(Nat.eq_of_beq_eq_true f1).symm
    subst this
    cases h1 with
    | nil=>simp [Kl] at f4
    | cons o1 h1=>
     simp only [Kl,QH] at f4
     obtain ⟨o,e1,_,_,e2⟩:=(aE _ _).1 f4.1
     rw [h0] at e1
     cases e1
     refine ⟨o1,rfl,?_⟩
     rcases e2 with ⟨l,e3,e4⟩ | e2
     ·rw [e3,e4]
     ·exact (gl e2).symm
   | void k=>simp [iE] at f1
   | dead=>simp [iE] at f1
   | cut j n=>simp [iE] at f1
theorem oI : ∀ (l : List Nat) {h : ae} {tr : AO},h[0]? = some tr -> ∃ tr1,(freeze h l)[0]? = some tr1 /\ tr1.elems.length = tr.elems.length
 | [],h,tr,h0=>⟨tr,h0,rfl⟩
 | i :: l,h,tr,h0=>by
  simp only [freeze]
  have : ∃ tr1,(match h[i]? with | some o=>h.set i o.freeze | none=>h)[0]? = some tr1 /\ tr1.elems.length = tr.elems.length:=by
   split
   ·rename_i o ho
    by_cases hi : i = 0
    ·subst hi
     rw [h0] at ho
     cases ho
     refine ⟨tr.freeze,?_,by unfold AO.freeze;split<;>rfl⟩
     rw [List.getElem?_set_self (List.getElem?_eq_some_iff.1 h0).1]
    ·exact ⟨tr,by rw [List.getElem?_set_ne hi];exact h0,rfl⟩
   ·exact ⟨tr,h0,rfl⟩
  obtain ⟨t1,e1,e2⟩:=this
  obtain ⟨t2,e3,e4⟩:=oI l e1
  exact ⟨t2,e3,e4.trans e2⟩
theorem Eh {h : ae} {x r : AV} {k : Nat} {tr : AO} (hk : nZ [] 1 h x r [trO k] \/ (x = r /\ h = [trO k])) (h0 : h[0]? = some tr) : tr.elems.length = k:=by
 have key : ∀ {T T1 : List AV} {g : ae} {t : AO},Wk [] 1 T g T1 [trO k] -> g[0]? = some t -> t.elems.length = k:=fun hk h0=>by
  obtain ⟨t1,e1,e2⟩:=Ax (.inr hk) h0
  simp only [List.getElem?_cons_zero,Option.some.injEq] at e1
  subst e1
  rw [<- e2,pr]
 rcases hk with (hk | ⟨y,_,_,hk⟩) | ⟨_,hk⟩
 ·exact key hk h0
 ·obtain ⟨t1,e1,e2⟩:=oI (bC 8 h x) h0
  rw [<- e2];exact key hk e1
 ·subst hk
  simp only [List.getElem?_cons_zero,Option.some.injEq] at h0
  subst h0
  exact pr k
end
theorem Ah {w : World} {st : St} {args : List AV} {vs : List Value} (hS : mW w st.S) (n : Nat) (ha : cS w st args vs) : aT w st (args ++ List.replicate (n - args.length) .junk) (vs.toArray ++ Array.replicate (n - vs.toArray.size) undef):=by
 have hl:=((dS _ _).1 ha).1
 refine ⟨⟨by simp [hl],hS⟩,fun i=>?_⟩
 rw [cG]
 by_cases hi : i < args.length
 ·have h1 : (args ++ List.replicate (n - args.length) AV.junk)[i]? = some args[i]:=by rw [List.getElem?_append_left hi];exact List.getElem?_eq_getElem hi
  have h2 : (vs.toArray ++ Array.replicate (n - vs.toArray.size) undef).getD i undef = vs[i]:=by
   simp [Array.getElem?_append,hl,hi]
  rw [h1,h2]
  exact ((dS _ _).1 ha).2 i _ _ (List.getElem?_eq_getElem hi) (List.getElem?_eq_getElem (by omega))
 ·have h1 : ((args ++ List.replicate (n - args.length) AV.junk)[i]?).getD .junk = .junk:=by
   rw [List.getElem?_append_right (by omega),List.getElem?_replicate]
   split<;>rfl
  rw [h1]
  exact ig _ _ _
theorem CZ {P : Program} {E : TE} (hE : gJ P E) {f : Nat} {fn : Func} (hf : P.funcs[f]? = some fn) (hn : (fn.name == "runtime.NumGoroutine") = false) (hbd : Io fn = true) {first cap : List D} {xs : List (List D)}
    (hk : ∀ s l,s <= xs.length -> qq E (RI P l xs s) [] [] fn (first.map .d ++ .raw (.func (.yield l) #[] #[]) :: cap.map .d) [trO 0] (.tup []) [trO (min (s + 1) xs.length)]) : n7 P f first cap xs:=by
  have hb : fn.body.isNone = false:=by
    unfold Io at hbd
    split at hbd
    . rename_i c hc;simp [hc]
    . cases hbd
  refine ⟨fun args w=>by simp only [callFunc,Sem.run_bind,run_program,Result.andThen_ok,hf,hn,hb,Bool.false_eq_true,if_false,Sem.run_pure],fun s hs N l B W0 w S us vs J hB hbl hS hus hvs hA hJ hY h0=>?_⟩
  have hk:=hk s l hs
  unfold qq at hk
  unfold Io at hbd
  split at hk
  . rename_i c hc
    simp only [hc] at hbd
    refine callsIn_of_wp hf hc trivial ?_
    obtain ⟨M,hr,hbc⟩:=Fw (fn:=fn) (first.map .d ++ .raw (.func (.yield l) #[] #[]) :: cap.map .d) hbd
    have hk:=bY (N:=M) c _ _ [trO 0] (wF E [] 1 fn.results.toList (.tup []) [trO (min (s + 1) xs.length)]) _ hbc hr (fun ex T' A' h' hr' hk'=>by
      cases ex with
      | normal=>exact ey hr' hk'
      | exit id=>exact hk'.elim
      | ret=>exact ey hr' hk') hk
    have hSF : ∀ b,S b -> (S b \/ False) /\ w.heap[b]? = w.heap[b]?:=fun b h=>⟨.inl h,rfl⟩
    let st1 : St:={ n:=1,ρ:=fun _=>none,S:=fun b=>S b \/ False,G:=fun id=>id = 0,U:=fun b=>b < w.heap.size /\ ¬ False,S0:=S }
    have hw1 : WR B W0 w st1 [trO 0]:=by
      refine ⟨hbl,hB,hA.mono hSF,rfl,fun id o h1 _ h3=>?_,fun id o h1 _ h3=>?_,fun id r hr=>(nomatch hr),fun i j r s hr=>(nomatch hr),fun b hb=>hS b (hb.resolve_right id),fun id r o hr=>(nomatch hr),fun id r o hr=>(nomatch hr),fun id hid=>?_,fun id r hr=>(nomatch hr),fun b hb=>.inl (hb.resolve_right id),fun b hb=>hb.1⟩
      . exact absurd (by have:=(List.getElem?_eq_some_iff.1 h1).1;simp at this;exact this) h3
      . exact absurd (by have:=(List.getElem?_eq_some_iff.1 h1).1;simp at this;exact this) h3
      . have : id = 0:=hid
        subst this;exact Nat.zero_lt_one
    have ha1 : cS w st1 (first.map .d ++ .raw (.func (.yield l) #[] #[]) :: cap.map .d) (us ++ .func (.yield l) #[] #[] :: vs):=by
      refine fT (mf (eW hSF _ _ hus)) ?_
      simp only [cS]
      exact ⟨.func (.yield l) #[] #[],vs,[.func (.yield l) #[] #[]],rfl,by simp [AV.isAgg],by simp [aC],mf (eW hSF _ _ hvs)⟩
    have hI0 : v7 P B W0 S w.heap.size J s (((first.map AV.d ++ AV.raw (.func (.yield l) #[] #[]) :: cap.map AV.d) : List AV) ++ List.replicate (fn.ntmps - (first.map AV.d ++ AV.raw (.func (.yield l) #[] #[]) :: cap.map AV.d).length) .junk) [trO 0]
        { tmps:=(us ++ .func (.yield l) #[] #[] :: vs).toArray ++ Array.replicate (fn.ntmps - (us ++ .func (.yield l) #[] #[] :: vs).toArray.size) undef,defers:=[] } w:=
      ⟨trO 0,fun _=>False,fun _=>False,w,st1,rfl,by rw [pr];exact h0,hbl,Nat.le_refl _,fun _ h=>h,fun _ h=>h.elim,rfl,rfl,st1,hw1,Ah hw1.seat _ ha1,dO.refl _ _,rfl⟩
    refine cD (E:=E) (R:=RI P l xs s) (C:=[]) (V:=[]) (n0:=1) (v7 P B W0 S w.heap.size J s) ?_ ?_ ?_ ?_ c _ _ _ w _ _ ?_ hI0 hk
    . rintro T h a w' t b ⟨tr,O,F,w1,s1,i1,i2,i3,i4,i5,i6,i7,hd,st,j1,j2,j3⟩ hb
      have:=j2.2 t
      rw [hb] at this
      exact bV.1 this
    . rintro T T1 h h1 a w' hk ⟨tr,O,F,w1,s1,i1,i2,i3,i4,i5,i6,i7,hI⟩
      obtain ⟨tr1,e1,e2⟩:=Ax hk i1
      refine ⟨tr1,O,F,w1,s1,e1,by rw [e2];exact i2,i3,i4,i5,i6,i7,mO ?_ ?_ (fun _ h=>by cases h) hk hI⟩
      . subst i7;intro i hi;simp only at hi ⊢;omega
      . subst i7;exact Nat.le_refl _
    . intro id ops Q K T h a w' hQ hI hk
      refine wpIn_region ?_
      have:=qk (l:=l) (N:=N) hJ hB hS hY hQ hE ops.toList 0 T h a w' rfl hI hk
      rw [List.range_eq_range']
      simpa using this
    . rintro id ops Q K T h a w' hQ ⟨tr,O,F,w1,s1,i1,i2,i3,i4,i5,i6,i7,hI⟩ hk
      refine sk hE RI.sub (KP:=True) (fun _=>⟨RI.keep,by rw [i7]⟩) (fun T1 h1 a1 w2 hk1 hkeep hI1=>hQ T1 h1 a1 w2 hk1 ⟨tr,O,F,w1,s1,by rw [hkeep trivial];exact i1,i2,i3,i4,i5,i6,i7,hI1⟩) hI hk
    . have fin : ∀ (T : List AV) (h : ae) (a : Act) (w' : World), ij E h T fn.results.toList (fun l => nZ [] 1 h (gj l) (.tup []) [trO (min (s + 1) xs.length)] \/ (gj l = .tup [] /\ h = [trO (min (s + 1) xs.length)])) -> v7 P B W0 S w.heap.size J s T h a w' ->
          a.defers = [] /\ ∃ v,(results fn a.tmps).run P w' = .ok v w' /\ (∃ u,Ending.returned v = .returned u) /\ ∃ O F,J (min (s + 1) xs.length) O F w' /\ Below B W0 w':=by
        intro T h a w' hk hI
        obtain ⟨tr', O', F', st', n1, n2, n3, n4, n5, n6, _⟩ := hI.now hJ
        obtain ⟨tr,O,F,w1,s1,i1,i2,i3,i4,i5,i6,i7,hI⟩:=hI
        have hlen : tr.elems.length = min (s + 1) xs.length:=by
          obtain ⟨l,k1,_⟩:=tv E h T _ _ hk
          exact Eh k1 i1
        have hn1 : s1.n = 1:=by rw [i7]
        have hg1 : ∀ i,s1.G i -> i < s1.n:=by subst i7;intro i hi;simp only at hi ⊢;omega
        obtain ⟨hd,v,k1,k2⟩:=fi hE (h1:=[trO (min (s + 1) xs.length)]) (r:=.tup []) (V:=[]) (fn:=fn) hI hg1 (fun _ h=>by cases h) (by rw [hn1];exact hk)
        refine ⟨hd, v, k1, ⟨v, rfl⟩, O', F', ?_, n6.below⟩
        rw [i1] at n1
        cases n1
        rw [<- hlen];exact n2
      intro ex T h a w' hk hI
      cases ex with
      | exit id=>exact hk.elim
      | normal=>exact fin T h a w' hk hI
      | ret=>exact fin T h a w' hk hI
  . exact hk.elim
end Dw
namespace Dw
open Go Go.RowKit
def zI : List Nat -> List D -> List AV -> Option (List AV)
 | [],[],T=>some T
 | p :: ps,x :: xs,T=>zI ps xs (T.set p (.d x))
 | _,_,_=>none
abbrev RW:=Nat -> List AV -> ae -> (Ex -> List AV -> ae -> Prop) -> Prop
def mH (V : List Nat) (n0 : Nat) (ps : List Nat) (W : RW) (K : Ex -> List AV -> ae -> Prop) : List (List D) -> List AV -> ae -> Prop
 | [],T,h=>∃ T1 h1,DX V n0 T h T1 h1 /\ K .normal T1 h1
 | x :: xs,T,h=>∃ T1 h1 T2,DX V n0 T h T1 h1 /\ zI ps x T1 = some T2 /\ W h1.length T2 h1 (fun ex _ h'=>match ex with
  | .normal=>mH V n0 ps W K xs T1 h'
  | .exit id=>K (.exit id) T1 h'
  | .ret=>K .ret T1 h')
def Jj (g : AV) (K : Nat -> List D -> List D -> Prop) : Prop:=
 match g with
 | .d (.fn f a c)=>K f a c
 | .fn f a c=>match ev a with
  | some a=>match ev c with
   | some c=>K f a c
   | none=>False
  | none=>False
 | _=>False
def jJ (E : TE) (R : ep) (assign body : Code) : RW:=fun n T h K=>a7 E R [] [] n assign T h (fun ex T' h'=>match ex with
 | .normal=>a7 E R [] [] n body T' h' K
 | _=>False)
def fA (P : Program) (E : TE) (R : ep) (C V : List Nat) (n0 : Nat) : Code -> List AV -> ae -> (Ex -> List AV -> ae -> Prop) -> Prop
 | .seq a b,T,h,K=>fA P E R C V n0 a T h (fun ex T h=>match ex with
   | .normal=>fA P E R C V n0 b T h K
   | .exit id=>K (.exit id) T h
   | .ret=>K .ret T h)
 | .cond c a b,T,h,K=>ow T c (fun T=>fA P E R C V n0 a T h K) (fun T=>fA P E R C V n0 b T h K)
 | .block id c,T,h,K=>fA P E R C V n0 c T h (fun ex T h=>match ex with
   | .normal=>K .normal T h
   | .exit i=>aR (Nat.beq i id) (K .normal T h) (K (.exit i) T h)
   | .ret=>K .ret T h)
 | .rangeFunc g ps assign body,T,h,K=>bB T g (fun g=>Jj g (fun f a c=>∃ xs,n7 P f a c xs /\ mH V n0 ps.toList (jJ E R assign body) K xs T h))
 | c,T,h,K=>a7 E R C V n0 c T h K
def RC (V : List Nat) (n0 : Nat) (ps : List Nat) (W : RW) (K : Ex -> List AV -> ae -> Prop) : Nat -> List (List D) -> List AV -> ae -> Prop
 | 0,[],T,h=>∃ T1 h1,DX V n0 T h T1 h1 /\ K .normal T1 h1
 | _ + 1,[],_,_=>False
 | 0,x :: xs,T,h=>∃ T1 h1 T2,DX V n0 T h T1 h1 /\ zI ps x T1 = some T2 /\ W h1.length T2 h1 (fun ex _ h'=>ex ≠ .normal /\ K ex T1 h')
 | s + 1,x :: xs,T,h=>∃ T1 h1 T2,DX V n0 T h T1 h1 /\ zI ps x T1 = some T2 /\ W h1.length T2 h1 (fun ex _ h'=>ex = .normal /\ RC V n0 ps W K s xs T1 h')
theorem BN (E : TE) (R : ep) (assign body : Code) (n : Nat) (T : List AV) (h : ae) : cU (fun K : KX=>jJ E R assign body n T h (fun ex T h=>K (ex,T,h))):=by
 unfold jJ
 refine aQ (F:=fun K : KX=>a7 E R [] [] n assign T h (fun ex T h=>K (ex,T,h))) (G:=fun (p : Ex × List AV × ae) (K : KX)=>match p.1 with
  | .normal=>a7 E R [] [] n body p.2.1 p.2.2 (fun ex T h=>K (ex,T,h))
  | _=>False) (ea E R [] [] n assign T h) fun p=>?_
 obtain ⟨ex, T', h'⟩ := p
 cases ex with
 | normal=>exact ea E R [] [] n body T' h'
 | exit id=>exact az
 | ret=>exact az
theorem K4 {V : List Nat} {n0 : Nat} {ps : List Nat} {W : RW} {K : Ex -> List AV -> ae -> Prop} (hW : ∀ n T h,cU (fun K : KX=>W n T h (fun ex T h=>K (ex,T,h)))) : ∀ (xs : List (List D)) (T : List AV) (h : ae),mH V n0 ps W K xs T h -> ∃ s,s <= xs.length /\ RC V n0 ps W K s xs T h
 | [],T,h,hk=>⟨0,Nat.le_refl _,hk⟩
 | x :: xs,T,h,hk=>by
  obtain ⟨T1,h1,T2,k1,k2,k3⟩:=hk
  obtain ⟨⟨ex, T', h'⟩, q1, q2⟩ := hW h1.length T2 h1 (fun p => match p.1 with
   | .normal=>mH V n0 ps W K xs T1 p.2.2
   | .exit id=>K (.exit id) T1 p.2.2
   | .ret=>K .ret T1 p.2.2) k3
  cases ex with
  | normal=>
   obtain ⟨s,hs,hr⟩:=K4 hW xs T1 h' q1
   exact ⟨s + 1,Nat.succ_le_succ hs,T1,h1,T2,k1,k2,q2 (fun p=>p.1 = .normal /\ RC V n0 ps W K s xs T1 p.2.2) ⟨rfl,hr⟩⟩
  | exit id=>exact ⟨0,Nat.zero_le _,T1,h1,T2,k1,k2,q2 (fun p=>p.1 ≠ .normal /\ K p.1 T1 p.2.2) ⟨by simp,q1⟩⟩
  | ret=>exact ⟨0,Nat.zero_le _,T1,h1,T2,k1,k2,q2 (fun p=>p.1 ≠ .normal /\ K p.1 T1 p.2.2) ⟨by simp,q1⟩⟩
theorem RC.round {V : List Nat} {n0 : Nat} {ps : List Nat} {W : RW} {K : Ex -> List AV -> ae -> Prop} {s i : Nat} {xs : List (List D)} {x : List D} {T : List AV} {h : ae} (hW : ∀ n T h,cU (fun K : KX=>W n T h (fun ex T h=>K (ex,T,h)))) (hi : i <= s) (hx : xs[i]? = some x) (hk : RC V n0 ps W K (s - i) (xs.drop i) T h) :
  ∃ T1 h1 T2,DX V n0 T h T1 h1 /\ zI ps x T1 = some T2 /\ W h1.length T2 h1 (fun ex _ h'=>(i < s /\ ex = .normal /\ RC V n0 ps W K (s - (i + 1)) (xs.drop (i + 1)) T1 h') \/ (i = s /\ ex ≠ .normal /\ K ex T1 h')):=by
 have hlt : i < xs.length:=(List.getElem?_eq_some_iff.1 hx).1
 have hd : xs.drop i = x :: xs.drop (i + 1):=by
  rw [List.drop_eq_getElem_cons hlt]
  rw [List.getElem?_eq_getElem hlt] at hx
  rw [Option.some.inj hx]
 rw [hd] at hk
 rcases Nat.lt_or_ge i s with h1 | h1
 ·rw [show s - i = (s - (i + 1)) + 1 by omega] at hk
  obtain ⟨T1, h1', T2, k1, k2, k3⟩ := hk
  refine ⟨T1, h1', T2, k1, k2, ?_⟩
  obtain ⟨⟨ex, T', h'⟩, q1, q2⟩ := hW _ _ _ (fun p => p.1 = .normal /\ RC V n0 ps W K (s - (i + 1)) (xs.drop (i + 1)) T1 p.2.2) k3
  exact q2 (fun p=>(i < s /\ p.1 = .normal /\ RC V n0 ps W K (s - (i + 1)) (xs.drop (i + 1)) T1 p.2.2) \/ (i = s /\ p.1 ≠ .normal /\ K p.1 T1 p.2.2)) (.inl ⟨h1,q1.1,q1.2⟩)
 ·have hs : s = i:=by omega
  subst hs
  rw [show s - s = 0 by omega] at hk
  obtain ⟨T1, h1', T2, k1, k2, k3⟩ := hk
  refine ⟨T1, h1', T2, k1, k2, ?_⟩
  obtain ⟨⟨ex, T', h'⟩, q1, q2⟩ := hW _ _ _ (fun p => p.1 ≠ .normal /\ K p.1 T1 p.2.2) k3
  exact q2 (fun p=>(s < s /\ p.1 = .normal /\ RC V n0 ps W K (s - (s + 1)) (xs.drop (s + 1)) T1 p.2.2) \/ (s = s /\ p.1 ≠ .normal /\ K p.1 T1 p.2.2)) (.inr ⟨rfl,q1.1,q1.2⟩)
theorem Dp : ∀ {ps : List Nat} {x : List D} {T T2 : List AV},zI ps x T = some T2 -> x.length = ps.length
 | [],[],_,_,_=>rfl
 | [],_ :: _,_,_,h=>by simp [zI] at h
 | _ :: _,[],_,_,h=>by simp [zI] at h
 | p :: ps,x :: xs,T,T2,h=>by simp only [zI] at h;simp [Dp h]
theorem sa {w : World} {S : Nat -> Prop} : ∀ {l : List D} {vs : List Value},iX w S l vs -> vs.length = l.length
 | [],vs,h=>by simp only [iX] at h;simp [h]
 | x :: l,vs,h=>by
  simp only [iX] at h
  obtain ⟨v,r,us,rfl,_,_,h4⟩:=h
  simp [sa h4]
theorem HE {w : World} {st : St} : ∀ {ps : List Nat} {x : List D} {T T2 : List AV} {tm : Array Value} {vs : List Value},zI ps x T = some T2 -> aT w st T tm -> iX w st.S x vs -> aT w st T2 ((ps.zip vs).foldl (fun t p=>t.setIfInBounds p.1 p.2) tm)
 | [],[],T,T2,tm,vs,h,hT,_=>by simp only [zI,Option.some.injEq] at h;subst h;simpa using hT
 | [],_ :: _,_,_,_,_,h,_,_=>by simp [zI] at h
 | _ :: _,[],_,_,_,_,h,_,_=>by simp [zI] at h
 | p :: ps,x :: xs,T,T2,tm,vs,h,hT,hv=>by
  simp only [zI] at h
  simp only [iX] at hv
  obtain ⟨v,r,us,rfl,h2,h3,h4⟩:=hv
  simp only [List.zip_cons_cons,List.foldl_cons]
  refine HE h ?_ h4
  have hx : (AV.d x).isAgg = x.isAgg:=by cases x<;>rfl
  have:=ix (a:={ tmps:=tm,defers:=[] }) (dst:=some p) (x:=.d x) (v:=v) hT ⟨us,by rw [hx];exact h2,by simpa [aC] using h3⟩
  exact this
theorem pN : ∀ {l : List AV} {ds : List D},ev l = some ds -> l = ds.map .d
 | [],ds,h=>by simp only [ev,Option.some.injEq] at h;subst h;rfl
 | a :: l,ds,h=>by
  cases a<;>simp only [ev] at h<;>try (cases h;done)
  rename_i x
  split at h
  ·rename_i r hr
   cases h
   simp [pN hr]
  ·cases h
theorem rN {w : World} {st : St} : ∀ {l : List D} {vs : List Value},cS w st (l.map .d) vs -> iX w st.S l vs
 | [],vs,h=>by simpa [cS,iX] using h
 | x :: l,vs,h=>by
  simp only [List.map_cons,cS] at h
  obtain ⟨v,t,ws,h1,h2,h3,h4⟩:=h
  simp only [iX]
  have hx : (AV.d x).isAgg = x.isAgg:=by cases x<;>rfl
  rw [hx] at h2
  exact ⟨v,t,ws,h1,h2,by simpa [aC] using h3,rN h4⟩
theorem G4 {w : World} {st : St} {g : AV} {v : Value} {K : Nat -> List D -> List D -> Prop} (hv : aV w st g v) (hk : Jj g K) : ∃ f a c us vs,v = .func (.func f) us.toArray vs.toArray /\ iX w st.S a us /\ iX w st.S c vs /\ K f a c:=by
 unfold Jj at hk
 split at hk
 ·obtain ⟨us,e1,e2⟩:=hv
  simp only [AV.isAgg,Bool.false_eq_true,if_false] at e1
  subst e1
  simp only [aC,cC] at e2
  obtain ⟨us,ts,e2,e3,e4⟩:=e2
  cases e2
  exact ⟨_,_,_,us,ts,rfl,e3,e4,hk⟩
 ·split at hk
  ·rename_i a' ha
   split at hk
   ·rename_i c' hc
    obtain ⟨us,e1,e2⟩:=hv
    simp only [AV.isAgg,Bool.false_eq_true,if_false] at e1
    subst e1
    simp only [aC] at e2
    obtain ⟨us,ts,e2,e3,e4⟩:=e2
    cases e2
    rw [pN ha] at e3
    rw [pN hc] at e4
    exact ⟨_,_,_,us,ts,rfl,rN e3,rN e4,hk⟩
   ·exact hk.elim
  ·exact hk.elim
 ·exact hk.elim
section
variable {P : Program} {E : TE} (hE : gJ P E) {B : Nat} {W : World} {R : ep} (hR : pv P B W R)
include hE hR
theorem qv {w0 : World} {st0 : St} {ro : Option Nat} {N n : Nat} (hg0 : ∀ i,st0.G i -> i < st0.n) (hn : st0.n <= n) (c : Code) (T : List AV) (h : ae) (a : Act) (w : World) (K : Ex -> List AV -> ae -> Prop) (Q : Exit -> Act -> World -> Prop) (ds : List Deferred)
  (hQ : ∀ ex T h a w,K ex T h -> iS ds B W w0 st0 T h a w -> Q ex.to a w) (hI : iS ds B W w0 st0 T h a w) (hk : a7 E R [] [] n c T h K) : c.wpIn (FW ro) N P Q a w:=by
 refine cD (E:=E) (R:=R) (C:=[]) (V:=[]) (n0:=n) (iS ds B W w0 st0) ?_ ?_ ?_ ?_ c T h a w K Q hQ hI hk
 ·rintro T h a w t b ⟨hd,st,j1,j2,j3⟩ hb
  have:=j2.2 t
  rw [hb] at this
  exact bV.1 this
 ·intro T T1 h h1 a w hk hI
  exact mO hg0 hn (fun _ h=>by cases h) hk hI
 ·intro id ops Q K T h a w hQ hI hk
  exact o7 hE hR hQ hI hk
 ·intro id ops Q K T h a w hQ hI hk
  exact qy hE hR.mute hQ hI hk
theorem zO {l dB fn nc N : Nat} {tm : Array Value} {ps : Array Nat} {assign body : Code} {x : List D} {w : World} {xs' : List Value} {w1 : World} {st1 st : St} {T : List AV} {h : ae} {V : List Nat} {n0 : Nat} {S O F : Nat -> Prop} {Kr : Ex -> List AV -> ae -> Prop} {rec : LoopState -> Option Code -> Loop}
  (hrec : rec = fun s p=>{ state:=s,pending:=p,fn,tmps:=tm,params:=ps,assign,body,defers:=dB })
  (hDl : dB ≠ l) (hBl : B <= dB /\ B <= l)
  (hg0 : ∀ i,st1.G i -> i < st1.n) (hn0 : st1.n <= n0) (hv0 : ∀ i ∈ V,¬ st1.G i)
  (hw : WR B W w st h) (hT : aT w st T tm) (hE1 : dO w1 st1 w st) (hG : st.G = st1.G)
  (hl : w.heap[l]? = some (.loop (rec .ready none))) (hD : w.heap[dB]? = some (.deferred (some [])))
  (hFO : ∀ b,F b -> O b) (hO : ∀ b,O b -> b < w.heap.size /\ b ≠ dB /\ b ≠ l /\ ¬ st1.U b) (hUD : ¬ st1.U dB /\ ¬ st1.U l) (hown : ∀ id r,st.ρ id = some r -> r.m ≠ 0 -> ¬ O r.b /\ r.b ≠ dB /\ r.b ≠ l) (hSo : ∀ b,st.S b -> (¬ O b \/ F b) /\ b ≠ dB /\ b ≠ l) (hSS : ∀ b,S b -> st.S b)
  (hx : iX w (fun b=>S b \/ F b) x xs')
  (hk : ∃ T1 h1 T2,DX V n0 T h T1 h1 /\ zI ps.toList x T1 = some T2 /\ jJ E R assign body h1.length T2 h1 (fun ex _ h'=>Kr ex T1 h'))
  (dE : Value -> World -> Prop)
  (hPost : ∀ ex T1 h' st' w', Kr ex T1 h' -> WR B W w' st' h' -> aT w' st' T1 tm -> dO w1 st1 w' st' -> st'.G = st1.G -> (w'.heap[l]? = some (.loop (match ex with | .normal => rec .ready none | .exit id => rec .done (some (.exit id)) | .ret => rec .done (some .ret)))) -> w'.heap[dB]? = some (.deferred (some [])) ->
   (∀ id r,st'.ρ id = some r -> r.m ≠ 0 -> ¬ O r.b /\ r.b ≠ dB /\ r.b ≠ l) -> (∀ b,st'.S b -> (¬ O b \/ F b) /\ b ≠ dB /\ b ≠ l) -> (∀ b,st.S b -> st'.S b) -> (∀ b,S b \/ O b -> w'.heap[b]? = w.heap[b]?) ->
   dE (.bool (match ex with | .normal=>true | _=>false)) w') :
  YieldAt (FW none) N P l xs'.toArray w (fun e w'=>∃ v,e = .returned v /\ dE v w'):=by
 obtain ⟨T1,h1,T2,k1,k2,k3⟩:=hk
 have hlen : xs'.toArray.size = (rec .ready none).params.size:=by
  rw [hrec]
  simp only [List.size_toArray]
  rw [sa hx,Dp k2]
  simp
 refine ⟨_,_,_,_,run_yield hl hlen,roundIn_of_wpIn trivial ?_⟩
 have hps : (rec .ready none).params = ps:=by rw [hrec]
 have htm : (rec .ready none).tmps = tm:=by rw [hrec]
 have has : (rec .ready none).assign = assign:=by rw [hrec]
 have hbd : (rec .ready none).body = body:=by rw [hrec]
 rw [hps,htm,has,hbd]
 -- the sets of the round
 obtain ⟨S', hS'⟩ : ∃ S' : Nat -> Prop, S' = fun b => st.S b \/ F b := ⟨_, rfl⟩
 obtain ⟨U', hU'⟩ : ∃ U' : Nat -> Prop, U' = fun b => st1.U b \/ O b \/ b = dB \/ b = l := ⟨_, rfl⟩
 obtain ⟨S0', hS0'⟩ : ∃ S0' : Nat -> Prop, S0' = fun b => ((st1.S0 b /\ ¬ O b) \/ F b) /\ b ≠ dB /\ b ≠ l := ⟨_, rfl⟩
 have hlsz : l < w.heap.size:=(Array.getElem?_eq_some_iff.1 hl).1
 have hDsz : dB < w.heap.size:=(Array.getElem?_eq_some_iff.1 hD).1
 obtain ⟨eU,eS0,eUw⟩:=hE1.U
 obtain ⟨m1,me1⟩:=hw.reset (h':=h) S' U' S0' rfl (fun _ _=>rfl) (fun b hb=>by rw [hS'];exact .inl hb) (fun b hb=>by
   rw [hS'] at hb
   rcases hb with hb | hb
   ·exact hw.stab b hb
   ·exact (hO b (hFO b hb)).1) (fun id r hr hm hb=>by
   rw [hS'] at hb
   rcases hb with hb | hb
   ·exact hb
   ·exact absurd (hFO _ hb) (hown id r hr hm).1) (fun id r hr hm hu=>by
   rw [hU'] at hu
   rcases hu with hu | hu | hu | hu
   ·exact hw.x.own id r hr hm (by rw [eU];exact hu)
   ·exact (hown id r hr hm).1 hu
   ·exact (hown id r hr hm).2.1 hu
   ·exact (hown id r hr hm).2.2 hu) (fun b hb=>by
   rw [hS'] at hb
   rw [hS0', hU']
   rcases hb with hb | hb
   ·obtain ⟨q1,q2,q3⟩:=hSo b hb
    by_cases hOb : O b
    ·exact .inl ⟨.inr (q1.resolve_left (fun h=>h hOb)),q2,q3⟩
    ·rcases hw.x.low b hb with q | q
     ·exact .inl ⟨.inl ⟨by rw [<- eS0];exact q,hOb⟩,q2,q3⟩
     ·refine .inr (fun hu=>?_)
      rcases hu with hu | hu | hu | hu
      ·exact q (by rw [eU];exact hu)
      ·exact hOb hu
      ·exact q2 hu
      ·exact q3 hu
   ·exact .inl ⟨.inr hb,(hO b (hFO b hb)).2.1,(hO b (hFO b hb)).2.2.1⟩) (fun b hb=>by
   rw [hU'] at hb
   rcases hb with hb | hb | hb | hb
   ·exact hw.x.ub b (by rw [eU];exact hb)
   ·exact (hO b hb).1
   ·rw [hb];exact hDsz
   ·rw [hb];exact hlsz)
 -- the kZ of the round
 let sr : St := { st with S := S', U := U', S0 := S0' }
 let s0 : St := { n := st1.n, ρ := st1.ρ, S := S', G := st1.G, U := U', S0 := S0' }
 have hEr : dO w s0 w sr:=⟨hE1.n,fun id hid hg r hr=>hE1.ρ id hid hg r hr,fun b hb=>⟨hb,rfl⟩,fun id hid hg=>by simpa [sr,s0,hG] using hg,rfl,rfl,fun _ _=>rfl⟩
 have hI0 : iS [] B W w s0 T h { tmps:=tm,defers:=[] } w:=⟨rfl,sr,m1,⟨⟨hT.1.1,m1.seat⟩,fun j=>dF me1 (hT.2 j)⟩,hEr,hG⟩
 obtain ⟨_,st2,a1,a2,a3,a4⟩:=mO (st0:=s0) hg0 hn0 hv0 k1 hI0
 have hS2 : ∀ b,S' b -> st2.S b:=fun b hb=>(a3.S b hb).1
 have hx2 : iX w st2.S x xs':=eW (fun b hb=>⟨hS2 b (by
  rw [hS']
  rcases hb with hb | hb
  ·exact .inl (hSS b hb)
  ·exact .inr hb),rfl⟩) _ _ hx
 have a2' : aT w st2 T1 tm:=a2
 have hT2 : aT w st2 T2 ((ps.zip xs'.toArray).foldl (fun t p=>t.setIfInBounds p.1 p.2) tm):=by
  have:=HE k2 a2' hx2
  have he : (ps.zip xs'.toArray).foldl (fun t p=>t.setIfInBounds p.1 p.2) tm = (ps.toList.zip xs').foldl (fun t p=>t.setIfInBounds p.1 p.2) tm:=by
   rw [<- Array.foldl_toList]
   simp
  rw [he];exact this
 have hn2 : st2.n = h1.length:=a1.len
 -- the assignment
 refine qv hE hR (w0:=w) (st0:=st2) (ds:=[]) a1.gho (by omega) assign T2 h1 _ w _ _ ?_ ⟨rfl,st2,a1,hT2,dO.refl _ _,rfl⟩ k3
 intro ex T3 h3 a3' w3 hk3 hI3
 cases ex with
 | exit id=>exact hk3.elim
 | ret=>exact hk3.elim
 | normal=>
 obtain ⟨hd3,st3,b1,b2,b3,b4⟩:=hI3
 obtain ⟨fU,fS0,fUw⟩:=b3.U
 obtain ⟨gU,gS0,gUw⟩:=a3.U
 have hUl : st2.U l:=by rw [gU];show U' l;rw [hU'];exact .inr (.inr (.inr rfl))
 have hUD2 : st2.U dB:=by rw [gU];show U' dB;rw [hU'];exact .inr (.inr (.inl rfl))
 have hl3 : w3.heap[l]? = some (.loop (rec .ready none)):=(fUw l hUl).trans hl
 have hlsz3 : l < w3.heap.size:=(Array.getElem?_eq_some_iff.1 hl3).1
 refine ⟨_,run_beginRound hl3 (by rw [hrec]),?_⟩
 -- l lies apart
 have apart : ∀ (s : St) (g : ae) (v : World),WR B W v s g -> s.U = U' -> s.S0 = S0' -> (∀ b,s.S b -> b ≠ dB /\ b ≠ l) /\ ∀ id r,s.ρ id = some r -> r.m ≠ 0 -> r.b ≠ dB /\ r.b ≠ l:=by
  intro s g v hv h1 h2
  refine ⟨fun b hb=>?_,fun id r hr hm=>?_⟩
  ·rcases hv.x.low b hb with q | q
   ·rw [h2,hS0'] at q;exact q.2
   ·rw [h1,hU'] at q
    exact ⟨fun e=>q (.inr (.inr (.inl e))),fun e=>q (.inr (.inr (.inr e)))⟩
  ·have q:=hv.x.own id r hr hm
   rw [h1,hU'] at q
   exact ⟨fun e=>q (.inr (.inr (.inl e))),fun e=>q (.inr (.inr (.inr e)))⟩
 have put : ∀ (s : St) (g : ae) (v : World) (o : Obj),WR B W v s g -> s.U = U' -> s.S0 = S0' -> l < v.heap.size -> WR B W (v.putObj l o) s g /\ qS v s (v.putObj l o) s:=by
  intro s g v o hv h1 h2 hlv
  obtain ⟨q1,q2⟩:=apart s g v hv h1 h2
  refine hv.move ?_ (by simpa using hv.base) (fun b hb=>by simpa using hv.x.ub b hb) (fun b hb=>World.putObj_heap_other (q1 b hb).2) (fun id r hr hm=>World.putObj_heap_other (q2 id r hr hm).2)
  exact hv.below.trans ⟨rfl,rfl,rfl,by simp,fun k hk=>World.putObj_heap_other (by omega)⟩
 have u3 : st3.U = U':=fU.trans gU
 have v3 : st3.S0 = S0':=fS0.trans gS0
 obtain ⟨c1,c2⟩:=put st3 h3 w3 (.loop { rec .ready none with state:=.busy }) b1 u3 v3 hlsz3
 obtain ⟨w4,hw4⟩ : ∃ w4,w3.putObj l (.loop { rec .ready none with state:=.busy }) = w4:=⟨_,rfl⟩
 rw [hw4] at c1 c2 ⊢
 let sb : St := { n := st2.n, ρ := st2.ρ, S := st3.S, G := st2.G, U := U', S0 := S0' }
 have hl4 : w4.heap[l]? = some (.loop { rec .ready none with state:=.busy }):=by rw [<- hw4];exact World.putObj_heap_same hlsz3
 have hE4 : dO w4 sb w4 st3:=⟨b3.n,fun id hid hg r hr=>b3.ρ id hid hg r hr,fun b hb=>⟨hb,rfl⟩,fun id hid hg=>by simpa [sb,b4] using hg,u3,v3,fun _ _=>rfl⟩
 refine qv hE hR (w0:=w4) (st0:=sb) (ds:=[]) a1.gho (by show st2.n <= h1.length;omega) body T3 h3 _ w4 _ _ ?_ ⟨hd3,st3,c1,⟨⟨b2.1.1,c1.seat⟩,fun j=>dF c2 (b2.2 j)⟩,hE4,b4⟩ hk3
 intro ex T5 h5 a5 w5 hk5 hI5
 obtain ⟨hd5,st5,d1,d2,d3,d4⟩:=hI5
 obtain ⟨kU,kS0,kUw⟩:=d3.U
 have u5 : st5.U = U':=kU
 have v5 : st5.S0 = S0':=kS0
 have hl5 : w5.heap[l]? = some (.loop { rec .ready none with state:=.busy }):=(kUw l (by show U' l;rw [hU'];exact .inr (.inr (.inr rfl)))).trans hl4
 have hlsz5 : l < w5.heap.size:=(Array.getElem?_eq_some_iff.1 hl5).1
 have hO4 : ∀ b,b ≠ l -> w4.heap[b]? = w3.heap[b]?:=fun b hb=>by rw [<- hw4];exact World.putObj_heap_other hb
 -- blocks from the kZ of the round to its end
 have sameS : ∀ b,st2.S b -> st5.S b /\ w5.heap[b]? = w.heap[b]? /\ b ≠ l:=fun b hb=>by
  obtain ⟨q1,q2⟩:=b3.S b hb
  obtain ⟨q3,q4⟩:=d3.S b q1
  have hne:=((apart st3 h3 w3 b1 u3 v3).1 b q1).2
  exact ⟨q3,q4.trans ((hO4 b hne).trans q2),hne⟩
 have sameU : ∀ b,U' b -> b ≠ l -> w5.heap[b]? = w.heap[b]?:=fun b hb hne=>(kUw b hb).trans ((hO4 b hne).trans (fUw b (by rw [gU];exact hb)))
 have hC25 : ∀ v', (∀ b, b ≠ l -> v'.heap[b]? = w5.heap[b]?) -> qS w st2 v' st5 := fun v' hv' =>
  ⟨by have:=d3.n;exact this,fun id hid hg r hr=>d3.ρ id hid hg r hr,fun b hb=>⟨(sameS b hb).1,(hv' b (sameS b hb).2.2).trans (sameS b hb).2.1⟩,fun id hid hg=>d3.G id hid hg⟩
 -- where the round ends
 have fin : ∀ (jump : Option Code) (rc : Loop),rc = { rec .ready none with state:=(if jump.isNone then .ready else .done),pending:=jump } -> Kr ex T1 h5 ->
   (∃ v w', (Instr.endRound l jump).run P w5 = .ok v w' /\ v = .bool jump.isNone /\ w' = w5.putObj l (.loop rc)) /\
   ∃ st6,WR B W (w5.putObj l (.loop rc)) st6 h5 /\ aT (w5.putObj l (.loop rc)) st6 T1 tm /\ dO w1 st1 (w5.putObj l (.loop rc)) st6 /\ st6.G = st1.G /\ (w5.putObj l (.loop rc)).heap[l]? = some (.loop rc) /\ (w5.putObj l (.loop rc)).heap[dB]? = some (.deferred (some [])) /\
    (∀ id r,st6.ρ id = some r -> r.m ≠ 0 -> ¬ O r.b /\ r.b ≠ dB /\ r.b ≠ l) /\ (∀ b,st6.S b -> (¬ O b \/ F b) /\ b ≠ dB /\ b ≠ l) /\ (∀ b,st.S b -> st6.S b) /\ (∀ b,S b \/ O b -> (w5.putObj l (.loop rc)).heap[b]? = w.heap[b]?):=by
  intro jump rc hrc hK
  refine ⟨⟨_,_,run_endRound jump hl5,rfl,by rw [hrc]⟩,?_⟩
  obtain ⟨e1,e2⟩:=put st5 h5 w5 (.loop rc) d1 u5 v5 hlsz5
  obtain ⟨z1,z2⟩:=apart st5 h5 w5 d1 u5 v5
  have hlow5 : ∀ b,st5.S b -> (st1.S0 b \/ F b) \/ ¬ (st1.U b \/ O b):=fun b hb=>by
   rcases d1.x.low b hb with q | q
   ·rw [v5,hS0'] at q
    rcases q.1 with q | q
    ·exact .inl (.inl q.1)
    ·exact .inl (.inr q)
   ·rw [u5,hU'] at q
    exact .inr (fun hu=>q (hu.elim .inl (fun h=>.inr (.inl h))))
  obtain ⟨n1,ne1⟩:=e1.reset (h':=h5) st5.S st1.U st1.S0 rfl (fun _ _=>rfl) (fun _ h=>h) e1.stab (fun _ _ _ _ h=>h) (fun id r hr hm hu=>by
    have q:=d1.x.own id r hr hm
    rw [u5,hU'] at q
    exact q (.inl hu)) (fun b hb=>by
    rcases hlow5 b hb with (q | q) | q
    ·exact .inl q
    ·exact .inr (hO b (hFO b q)).2.2.2
    ·exact .inr (fun hu=>q (.inl hu))) (fun b hb=>by
    have:=e1.x.ub b (by rw [u5,hU'];exact .inl hb)
    exact this)
  have hoth : ∀ b,b ≠ l -> (w5.putObj l (.loop rc)).heap[b]? = w5.heap[b]?:=fun b hb=>World.putObj_heap_other hb
  refine ⟨_,n1,⟨⟨a2'.1.1,n1.seat⟩,fun j=>dF ne1 (dF (hC25 _ hoth) (a2'.2 j))⟩,?_,?_,World.putObj_heap_same hlsz5,?_,?_,?_,?_,?_⟩
  ·refine ⟨Nat.le_trans a3.n d3.n,fun id hid hg r hr=>?_,fun b hb=>?_,fun id hid hg=>?_,rfl,rfl,fun b hb=>?_⟩
   ·have hid2 : id < st2.n:=Nat.lt_of_lt_of_le hid a3.n
    have hg2 : ¬ st2.G id:=by rw [a4];exact hg
    exact a3.ρ id hid hg r (d3.ρ id hid2 hg2 r hr)
   ·obtain ⟨q1,q2⟩:=hE1.S b hb
    have q3:=sameS b (hS2 b (by rw [hS'];exact .inl q1))
    exact ⟨q3.1,(hoth b q3.2.2).trans (q3.2.1.trans q2)⟩
   ·have hid2 : id < st2.n:=Nat.lt_of_lt_of_le hid a3.n
    have:=d3.G id hid2 hg
    have h2 : st2.G id:=this
    rw [a4] at h2;exact h2
   ·have hne : b ≠ l:=fun e=>hUD.2 (e ▸ hb)
    exact (hoth b hne).trans ((sameU b (by rw [hU'];exact .inl hb) hne).trans (eUw b hb))
  ·show st5.G = st1.G
   rw [d4];exact a4
  ·exact (hoth dB hDl).trans ((sameU dB (by rw [hU'];exact .inr (.inr (.inl rfl))) hDl).trans hD)
  ·intro id r hr hm
   have q:=d1.x.own id r hr hm
   rw [u5,hU'] at q
   exact ⟨fun h=>q (.inr (.inl h)),(z2 id r hr hm).1,(z2 id r hr hm).2⟩
  ·intro b hb
   refine ⟨?_,(z1 b hb).1,(z1 b hb).2⟩
   rcases d1.x.low b hb with q | q
   ·rw [v5,hS0'] at q
    rcases q.1 with q | q
    ·exact .inl q.2
    ·exact .inr q
   ·rw [u5,hU'] at q
    exact .inl (fun h=>q (.inr (.inl h)))
  ·intro b hb
   exact (sameS b (hS2 b (by rw [hS'];exact .inl hb))).1
  ·intro b hb
   rcases hb with hb | hb
   ·have q3:=sameS b (hS2 b (by rw [hS'];exact .inl (hSS b hb)))
    exact (hoth b q3.2.2).trans q3.2.1
   ·have hne:=(hO b hb).2.2.1
    exact (hoth b hne).trans (sameU b (by rw [hU'];exact .inr (.inl hb)) hne)
 cases ex with
 | normal=>
  obtain ⟨⟨v, w', q1, q2, q3⟩, st6, r1, r2, r3, r4, r5, r6, r7, r8, r9, r10⟩ := fin none (rec .ready none) (by rw [hrec]; rfl) hk5
  subst q2 q3
  exact ⟨_,_,q1,_,rfl,hPost .normal T1 h5 st6 _ hk5 r1 r2 r3 r4 r5 r6 r7 r8 r9 r10⟩
 | exit id=>
  obtain ⟨⟨v, w', q1, q2, q3⟩, st6, r1, r2, r3, r4, r5, r6, r7, r8, r9, r10⟩ := fin (some (.exit id)) (rec .done (some (.exit id))) (by rw [hrec]; rfl) hk5
  subst q2 q3
  exact ⟨_,_,q1,_,rfl,hPost (.exit id) T1 h5 st6 _ hk5 r1 r2 r3 r4 r5 r6 r7 r8 r9 r10⟩
 | ret=>
  obtain ⟨⟨v, w', q1, q2, q3⟩, st6, r1, r2, r3, r4, r5, r6, r7, r8, r9, r10⟩ := fin (some .ret) (rec .done (some .ret)) (by rw [hrec]; rfl) hk5
  subst q2 q3
  exact ⟨_,_,q1,_,rfl,hPost .ret T1 h5 st6 _ hk5 r1 r2 r3 r4 r5 r6 r7 r8 r9 r10⟩
def s8 (b : Nat) : Deferred:={ target:=.collected b,args:=#[] }
def qT (B : Nat) (W w0 : World) (st0 : St) (T : List AV) (h : ae) (a : Act) (w : World) : Prop:=
 ∃ (M : List Nat) (w1 : World) (st1 : St),st1.n = st0.n /\ st1.ρ = st0.ρ /\ st1.G = st0.G /\ st1.U = (fun b=>st0.U b \/ b ∈ M) /\ st1.S0 = (fun b=>st0.S0 b /\ b ∉ M) /\
  (∀ b,st0.S b -> st1.S b /\ w1.heap[b]? = w0.heap[b]?) /\ (∀ b,st0.U b -> w1.heap[b]? = w0.heap[b]?) /\ (∀ b ∈ M,w1.heap[b]? = some (.deferred (some [])) /\ B <= b /\ ¬ st0.U b) /\ M.Nodup /\ iS (M.map s8) B W w1 st1 T h a w
theorem zK {w0 : World} {st0 : St} {V : List Nat} {n0 : Nat} (hg0 : ∀ i,st0.G i -> i < st0.n) (hn0 : st0.n <= n0) (hv0 : ∀ i ∈ V,¬ st0.G i) {N : Nat} {g : Operand} {ps : Array Tmp} {assign body : Code} {T : List AV} {h : ae} {a : Act} {w : World} {K : Ex -> List AV -> ae -> Prop} {Q : Exit -> Act -> World -> Prop}
  (hQ : ∀ ex T h a w,K ex T h -> qT B W w0 st0 T h a w -> Q ex.to a w) (hI : qT B W w0 st0 T h a w)
  (hk : Jj (opnd T g) (fun f first cap=>∃ xs,n7 P f first cap xs /\ mH V n0 ps.toList (jJ E R assign body) K xs T h)) : (Code.rangeFunc g ps assign body).wpIn (FW none) N P Q a w:=by
 obtain ⟨M,w1,st1,m1,m2,m3,m4,m5,m6,m7,m8,m9,hd,st,i1,i2,i3,i4⟩:=hI
 obtain ⟨f,first,cap,us,vs,hv,hus,hvs,xs,hit,hr⟩:=G4 (bc i2 g) hk
 have hW:=BN E R assign body
 obtain ⟨s,hs,hrc⟩:=K4 hW xs T h hr
 obtain ⟨hcall,hit⟩:=hit
 have hg1 : ∀ i,st1.G i -> i < st1.n:=by rw [m3,m1];exact hg0
 have hv1 : ∀ i ∈ V,¬ st1.G i:=by rw [m3];exact hv0
 obtain ⟨jU,jS0,jUw⟩:=i3.U
 refine wpIn_rangeFunc ?_
 intro fn _
 obtain ⟨rec,hrec⟩ : ∃ rec : LoopState -> Option Code -> Loop,rec = fun st pe=>{ state:=st,pending:=pe,fn,tmps:=a.tmps,params:=ps,assign,body,defers:=w.heap.size }:=⟨_,rfl⟩
 obtain ⟨W1,hW1⟩ : ∃ W1,(w.alloc (.deferred (some []))).alloc (.loop (rec .ready none)) = W1:=⟨_,rfl⟩
 have hsz1 : W1.heap.size = w.heap.size + 2:=by rw [<- hW1];simp
 have hL1 : W1.heap[w.heap.size + 1]? = some (.loop (rec .ready none)):=by
  rw [<- hW1];have:=World.alloc_heap_new (w.alloc (.deferred (some []))) (.loop (rec .ready none));rwa [World.size_alloc] at this
 have hK1 : W1.heap[w.heap.size]? = some (.deferred (some [])):=by
  rw [<- hW1];exact (Below.heap_alloc _ _ _ (by simp)).trans (World.alloc_heap_new w _)
 have hold : ∀ b,b < w.heap.size -> W1.heap[b]? = w.heap[b]?:=fun b hb=>by
  rw [<- hW1];exact (Below.heap_alloc _ _ _ (by simp;omega)).trans (Below.heap_alloc _ _ _ hb)
 have hb1 : Below B W W1:=by rw [<- hW1];exact (i1.below.alloc i1.base _).alloc (by simp;have:=i1.base;omega) _
 obtain ⟨c1,c2⟩:=i1.move hb1 (by have:=i1.base;omega) (fun b hb=>by have:=i1.x.ub b hb;omega) (fun b hb=>hold b (i1.stab b hb)) (fun id r hr hm=>hold _ (i1.blk_lt hr hm))
 have hE1 : dO w1 st1 W1 st:=i3.trans ⟨Nat.le_refl _,fun _ _ _ _ h=>h,fun b hb=>⟨hb,hold b (i1.stab b hb)⟩,fun _ _ h=>h,rfl,rfl,fun b hb=>hold b (i1.x.ub b hb)⟩
 have hU1 : ∀ b,st1.U b -> b < w.heap.size:=fun b hb=>i1.x.ub b (by rw [jU];exact hb)
 refine ⟨w.heap.size + 1,[s8 w.heap.size],W1,{ target:=.fn (.func f) vs.toArray,args:=us.toArray ++ #[.func (.yield (w.heap.size + 1)) #[] #[]] },W1,f,(us ++ .func (.yield (w.heap.size + 1)) #[] #[] :: vs).toArray,W1,?_,?_,fun _ _=>trivial,?_,fun h=>by simp [FW,Fence.wide] at h,?_⟩
 ·rw [<- hW1,hrec];exact run_enterLoop_outer _ _ _ _ _
 ·simp only [resolve,hv]
  simp [go_sem]
 ·have : us.toArray ++ #[Value.func (.yield (w.heap.size + 1)) #[] #[]] ++ vs.toArray = (us ++ .func (.yield (w.heap.size + 1)) #[] #[] :: vs).toArray:=by simp
  simp only [invoke]
  rw [this]
  exact hcall _ _
 ·-- what holds between two rounds
  let Common : (Nat -> Prop) -> (Nat -> Prop) -> List AV -> ae -> St -> World -> Loop -> Prop:=fun O F T' h' st' w' rc=>
   WR B W w' st' h' /\ aT w' st' T' a.tmps /\ dO w1 st1 w' st' /\ st'.G = st1.G /\ w'.heap[w.heap.size + 1]? = some (.loop rc) /\ w'.heap[w.heap.size]? = some (.deferred (some [])) /\
    (∀ id r,st'.ρ id = some r -> r.m ≠ 0 -> ¬ O r.b /\ r.b ≠ w.heap.size /\ r.b ≠ w.heap.size + 1) /\ (∀ b,st'.S b -> (¬ O b \/ F b) /\ b ≠ w.heap.size /\ b ≠ w.heap.size + 1) /\ (∀ b,st.S b -> st'.S b)
  let J : Nat -> (Nat -> Prop) -> (Nat -> Prop) -> World -> Prop:=fun i O F w'=>(∀ b,O b -> W1.heap.size <= b /\ b < w'.heap.size) /\ ∃ T' h' st' rc,Common O F T' h' st' w' rc /\
   ((i <= s /\ rc = rec .ready none /\ RC V n0 ps.toList (jJ E R assign body) K (s - i) (xs.drop i) T' h') \/ (i = s + 1 /\ ∃ ex : Ex,ex ≠ .normal /\ rc = rec .done (some (match ex with | .normal=>.skip | .exit id=>.exit id | .ret=>.ret)) /\ K ex T' h'))
  have hbears : xN B W W1.heap.size J:=by
   rintro i O F O' F' w' w'' ⟨hO, T', h', st', rc, ⟨k1, k2, k3, k4, k5, k6, k7, k8, k9⟩, hcase⟩ hb hsame hO' hF hF' hO2
   have hsz : ∀ b,b < w'.heap.size -> (¬ O b \/ F b) -> b < w''.heap.size:=fun b hb hob=>by
    have:=hsame b hb hob
    rw [Array.getElem?_eq_getElem hb] at this
    exact (Array.getElem?_eq_some_iff.1 this).1
   have hnO : ∀ b,b < W1.heap.size -> ¬ O b:=fun b hb h=>by have:=(hO b h).1;omega
   have hU : ∀ b,st'.U b -> b < w'.heap.size /\ ¬ O b:=fun b hb=>⟨k1.x.ub b hb,hnO b (by have:=hU1 b (by rw [<- k3.U.1];exact hb);omega)⟩
   have hL : w.heap.size + 1 < w'.heap.size:=(Array.getElem?_eq_some_iff.1 k5).1
   obtain ⟨d1,d2⟩:=k1.move hb (by have:=hsz w.heap.size (by omega) (.inl (hnO _ (by omega)));have:=i1.base;omega) (fun b hb=>hsz b (hU b hb).1 (.inl (hU b hb).2)) (fun b hb=>hsame b (k1.stab b hb) (k8 b hb).1) (fun id r hr hm=>hsame _ (k1.blk_lt hr hm) (.inl (k7 id r hr hm).1))
   refine ⟨hO2, T', h', st', rc, ⟨d1, ⟨⟨k2.1.1, d1.seat⟩, fun j => dF d2 (k2.2 j)⟩, k3.trans ⟨Nat.le_refl _, fun _ _ _ _ h => h, fun b hb => ⟨hb, hsame b (k1.stab b hb) (k8 b hb).1⟩, fun _ _ h => h, rfl, rfl, fun b hb => hsame b (hU b hb).1 (.inl (hU b hb).2)⟩, k4,
    (hsame _ hL (.inl (hnO _ (by omega)))).trans k5,(hsame _ (by omega) (.inl (hnO _ (by omega)))).trans k6,fun id r hr hm=>⟨fun h=>?_,(k7 id r hr hm).2⟩,fun b hb=>⟨?_,(k8 b hb).2⟩,k9⟩,hcase⟩
   ·rcases hO' _ h with h | h
    ·exact (k7 id r hr hm).1 h
    ·have:=k1.blk_lt hr hm;omega
   ·rcases (k8 b hb).1 with h | h
    ·refine .inl (fun ho=>?_)
     rcases hO' b ho with h2 | h2
     ·exact h h2
     ·have:=k1.stab b hb;omega
    ·exact .inr (hF b h)
  have hrounds : ∀ i (O F : Nat -> Prop) w' xs', i <= s -> J i O F w' -> Below B W w' -> (∀ b, F b -> O b) -> (∀ b, O b -> W1.heap.size <= b /\ b < w'.heap.size) -> (∃ x, xs[i]? = some x /\ iX w' (fun b => st.S b \/ F b) x xs') ->
    YieldAt (FW none) (N - 1 - 1) P (w.heap.size + 1) xs'.toArray w' (fun e w2=>e = .returned (.bool (decide (i < s))) /\ J (i + 1) O F w2 /\ Below B W w2 /\ W1.heap.size <= w2.heap.size /\ ∀ b,st.S b \/ O b -> w2.heap[b]? = w'.heap[b]?):=by
   rintro i O F w' xs' his ⟨hO, T', h', st', rc, ⟨k1, k2, k3, k4, k5, k6, k7, k8, k9⟩, hcase⟩ hbel hFO hOb ⟨x, hx, hxv⟩
   obtain ⟨_,rfl,hrc'⟩:=hcase.resolve_right (fun h=>by have:=h.1;omega)
   have hround:=hrc'.round hW his hx
   obtain ⟨fn', tmps', as', bd', y1, y2⟩ := zO hE hR (l := w.heap.size + 1) (dB := w.heap.size) (nc := 0) (N := N - 1 - 1) (S := st.S) (O := O) (F := F) (V := V) (n0 := n0) hrec (by omega) ⟨i1.base, by have := i1.base; omega⟩ hg1 (by omega) hv1 k1 k2 k3 k4 k5 k6 hFO
    (fun b hb=>⟨(hOb b hb).2,by have:=(hOb b hb).1;omega,by have:=(hOb b hb).1;omega,fun hu=>by have:=hU1 b hu;have:=(hOb b hb).1;omega⟩) ⟨fun hu=>by have:=hU1 _ hu;omega,fun hu=>by have:=hU1 _ hu;omega⟩ k7 k8 k9 hxv
    (Kr:=fun ex T1 h'=>(i < s /\ ex = .normal /\ RC V n0 ps.toList (jJ E R assign body) K (s - (i + 1)) (xs.drop (i + 1)) T1 h') \/ (i = s /\ ex ≠ .normal /\ K ex T1 h')) hround
    (fun v w2=>v = .bool (decide (i < s)) /\ J (i + 1) O F w2 /\ Below B W w2 /\ W1.heap.size <= w2.heap.size /\ ∀ b,st.S b \/ O b -> w2.heap[b]? = w'.heap[b]?)
    (fun ex T1 h5 st6 w2 hkr r1 r2 r3 r4 r5 r6 r7 r8 r9 r10=>by
     have hL2 : w.heap.size + 1 < w2.heap.size:=(Array.getElem?_eq_some_iff.1 r5).1
     have hOs : ∀ b,O b -> W1.heap.size <= b /\ b < w2.heap.size:=fun b hb=>by
      have:=r10 b (.inr hb)
      rw [Array.getElem?_eq_getElem (hOb b hb).2] at this
      exact ⟨(hOb b hb).1,(Array.getElem?_eq_some_iff.1 this).1⟩
     refine ⟨?_,⟨hOs,T1,h5,st6,_,⟨r1,r2,r3,r4,r5,r6,r7,r8,fun b hb=>r9 b (k9 b hb)⟩,?_⟩,r1.below,by omega,r10⟩
     ·rcases hkr with ⟨q1,rfl,_⟩ | ⟨q1,q2,_⟩
      ·simp [q1]
      ·have : ¬ i < s:=by omega
       cases ex with
       | normal=>exact absurd rfl q2
       | exit id=>simp [this]
       | ret=>simp [this]
     ·rcases hkr with ⟨q1,rfl,q3⟩ | ⟨q1,q2,q3⟩
      ·exact .inl ⟨by omega,rfl,q3⟩
      ·refine .inr ⟨by omega,ex,q2,?_,q3⟩
       cases ex with
       | normal=>exact absurd rfl q2
       | exit id=>rfl
       | ret=>rfl)
   exact ⟨fn', tmps', as', bd', y1, y2.mono fun e w2 ⟨v, e1, e2, e3⟩ => ⟨by rw [e1, e2], e3⟩⟩
  have h00 : J 0 (fun _=>False) (fun _=>False) W1:=by
   refine ⟨fun _ h=>h.elim,T,h,st,rec .ready none,⟨c1,⟨⟨i2.1.1,c1.seat⟩,fun j=>dF c2 (i2.2 j)⟩,hE1,i4,hL1,hK1,fun id r hr hm=>?_,fun b hb=>?_,fun _ h=>h⟩,.inl ⟨Nat.zero_le _,rfl,by simpa using hrc⟩⟩
   ·have:=i1.blk_lt hr hm
    exact ⟨fun h=>h,by omega,by omega⟩
   ·have:=i1.stab b hb
    exact ⟨.inl (fun h=>h),by omega,by omega⟩
  have hSb : ∀ b,st.S b -> st.S b /\ W1.heap[b]? = w.heap[b]?:=fun b hb=>⟨hb,hold b (i1.stab b hb)⟩
  refine (hit s hs (N - 1) (w.heap.size + 1) B W W1 st.S us vs J (by have:=i1.base;omega) hb1 (fun b hb=>by have:=i1.stab b hb;omega) (eW hSb _ _ hus) (eW hSb _ _ hvs) (i1.seat.mono hSb) hbears hrounds h00).mono ?_
  rintro e w7 ⟨⟨v, rfl⟩, O, F, ⟨hO, T', h', st', rc, ⟨k1, k2, k3, k4, k5, k6, k7, k8, k9⟩, hcase⟩, hbel⟩
  -- kn the loop
  have hLs : w.heap.size + 1 < w7.heap.size:=(Array.getElem?_eq_some_iff.1 k5).1
  have hoth : ∀ b,b ≠ w.heap.size + 1 -> (w7.putObj (w.heap.size + 1) (.loop { rc with state:=.exhausted })).heap[b]? = w7.heap[b]?:=fun b hb=>World.putObj_heap_other hb
  obtain ⟨d1,d2⟩:=k1.move (w':=w7.putObj (w.heap.size + 1) (.loop { rc with state:=.exhausted })) (hbel.trans ⟨rfl,rfl,rfl,by simp,fun k hk=>hoth k (by have:=i1.base;omega)⟩) (by simpa using k1.base) (fun b hb=>by simpa using k1.x.ub b hb) (fun b hb=>hoth b (k8 b hb).2.2) (fun id r hr hm=>hoth _ (k7 id r hr hm).2.2)
  have hlow : ∀ b,st'.S b -> (st0.S0 b /\ b ∉ w.heap.size :: M) \/ ¬ (st0.U b \/ b ∈ w.heap.size :: M):=fun b hb=>by
   have hne:=(k8 b hb).2.1
   rcases k1.x.low b hb with q | q
   ·rw [k3.U.2.1,m5] at q
    exact .inl ⟨q.1,fun hm=>(List.mem_cons.1 hm).elim hne q.2⟩
   ·rw [k3.U.1,m4] at q
    exact .inr (fun hu=>hu.elim (fun h=>q (.inl h)) (fun h=>(List.mem_cons.1 h).elim hne (fun h=>q (.inr h))))
  obtain ⟨n1,ne1⟩:=d1.reset (h':=h') st'.S (fun b=>st0.U b \/ b ∈ w.heap.size :: M) (fun b=>st0.S0 b /\ b ∉ w.heap.size :: M) rfl (fun _ _=>rfl) (fun _ h=>h) d1.stab (fun _ _ _ _ h=>h) (fun id r hr hm hu=>by
    rcases hu with hu | hu
    ·exact k1.x.own id r hr hm (by rw [k3.U.1,m4];exact .inl hu)
    ·rcases List.mem_cons.1 hu with hu | hu
     ·exact (k7 id r hr hm).2.1 hu
     ·exact k1.x.own id r hr hm (by rw [k3.U.1,m4];exact .inr hu)) hlow (fun b hb=>by
    have hs7 : (w7.putObj (w.heap.size + 1) (.loop { rc with state:=.exhausted })).heap.size = w7.heap.size:=by simp
    rw [hs7]
    rcases hb with hb | hb
    ·exact k1.x.ub b (by rw [k3.U.1,m4];exact .inl hb)
    ·rcases List.mem_cons.1 hb with hb | hb
     ·omega
     ·exact k1.x.ub b (by rw [k3.U.1,m4];exact .inr hb))
  have hMw : ∀ b ∈ M,b < w.heap.size:=fun b hb=>hU1 b (by rw [m4];exact .inr hb)
  have hinv : qT B W w0 st0 T' h' { a with defers:=[s8 w.heap.size] ++ a.defers } (w7.putObj (w.heap.size + 1) (.loop { rc with state:=.exhausted })):=by
   refine ⟨w.heap.size :: M,w7.putObj (w.heap.size + 1) (.loop { rc with state:=.exhausted }),{ n:=st0.n,ρ:=st0.ρ,S:=st'.S,G:=st0.G,U:=fun b=>st0.U b \/ b ∈ w.heap.size :: M,S0:=fun b=>st0.S0 b /\ b ∉ w.heap.size :: M },rfl,rfl,rfl,rfl,rfl,fun b hb=>?_,fun b hb=>?_,fun b hb=>?_,?_,?_⟩
   ·obtain ⟨q1,q2⟩:=m6 b hb
    obtain ⟨q3,q4⟩:=k3.S b q1
    exact ⟨q3,(hoth b (k8 b q3).2.2).trans (q4.trans q2)⟩
   ·have hu : st1.U b:=by rw [m4];exact .inl hb
    have:=hU1 b hu
    exact (hoth b (by omega)).trans ((k3.U.2.2 b hu).trans (m7 b hb))
   ·rcases List.mem_cons.1 hb with rfl | hb
    ·refine ⟨(hoth _ (by omega)).trans k6,i1.base,fun hu=>?_⟩
     have:=hU1 _ (by rw [m4];exact .inl hu)
     omega
    ·obtain ⟨q1,q2,q3⟩:=m8 b hb
     have:=hMw b hb
     exact ⟨(hoth b (by omega)).trans ((k3.U.2.2 b (by rw [m4];exact .inr hb)).trans q1),q2,q3⟩
   ·refine List.nodup_cons.2 ⟨fun hm=>?_,m9⟩
    have:=hMw _ hm
    omega
   ·refine ⟨by simp [hd],_,n1,⟨⟨k2.1.1,n1.seat⟩,fun j=>dF ne1 (dF d2 (k2.2 j))⟩,⟨by have:=k3.n;rw [m1] at this;exact this,fun id hid hg r hr=>?_,fun b hb=>⟨hb,rfl⟩,fun id hid hg=>?_,rfl,rfl,fun _ _=>rfl⟩,?_⟩
    ·have:=k3.ρ id (by rw [m1];exact hid) (by rw [m3];exact hg) r hr
     rw [m2] at this;exact this
    ·have h2 : st'.G id:=hg
     rw [k4,m3] at h2;exact h2
    ·show st'.G = st0.G
     rw [k4,m3]
  have hnb : rc.state ≠ .busy:=by
   rcases hcase with ⟨_,e,_⟩ | ⟨_,ex,_,e,_⟩<;>(rw [e,hrec];simp)
  have hend:=run_endLoop (P:=P) k5 hnb
  obtain ⟨w8,hw8⟩ : ∃ w8,w7.putObj (w.heap.size + 1) (.loop { rc with state:=.exhausted }) = w8:=⟨_,rfl⟩
  rw [hw8] at hend hinv
  rcases hcase with ⟨q1,e,q3⟩ | ⟨q1,ex,q2,e,q3⟩
  ·have hsl : s = xs.length:=by omega
   have hz : min (s + 1) xs.length = xs.length:=by omega
   rw [hz,hsl] at q3
   simp only [Nat.sub_self,List.drop_length] at q3
   obtain ⟨T1,h1,z1,z2⟩:=q3
   have hp : rc.pending = none:=by rw [e,hrec]
   rw [hp] at hend
   refine ⟨none,_,hend,hQ .normal T1 h1 _ _ z2 ?_⟩
   obtain ⟨M', w1', st1', x1, x2, x3, x4, x5, x6, x7, x8, x9, x10⟩ := hinv
   exact ⟨M', w1', st1', x1, x2, x3, x4, x5, x6, x7, x8, x9, mO (by rw [x3, x1]; exact hg0) (by rw [x1]; exact hn0) (by rw [x3]; exact hv0) z1 x10⟩
  ·cases ex with
   | normal=>exact absurd rfl q2
   | exit id=>
    have hp : rc.pending = some (.exit id):=by rw [e,hrec]
    rw [hp] at hend
    exact ⟨_,_,hend,wpIn_exit (hQ (.exit id) T' h' _ _ q3 hinv)⟩
   | ret=>
    have hp : rc.pending = some .ret:=by rw [e,hrec]
    rw [hp] at hend
    exact ⟨_,_,hend,wpIn_ret (hQ .ret T' h' _ _ q3 hinv)⟩
end
end Dw
namespace Dw
open Go Go.RowKit
section
variable {P : Program} {E : TE} (hE : gJ P E) {B : Nat} {W : World} {R : ep} (hR : pv P B W R)
include hE hR
omit hE hR in
theorem Ji {w0 w : World} {st0 : St} {V : List Nat} {n0 : Nat} (hg0 : ∀ i,st0.G i -> i < st0.n) (hn0 : st0.n <= n0) (hv0 : ∀ i ∈ V,¬ st0.G i) {T T1 : List AV} {h h1 : ae} {a : Act} (hk : DX V n0 T h T1 h1) (hI : qT B W w0 st0 T h a w) : qT B W w0 st0 T1 h1 a w:=by
 obtain ⟨M', w1', st1', x1, x2, x3, x4, x5, x6, x7, x8, x9, x10⟩ := hI
 exact ⟨M', w1', st1', x1, x2, x3, x4, x5, x6, x7, x8, x9, mO (by rw [x3, x1]; exact hg0) (by rw [x1]; exact hn0) (by rw [x3]; exact hv0) hk x10⟩
theorem ym {w0 : World} {st0 : St} {C V : List Nat} {n0 : Nat} (hg0 : ∀ i,st0.G i -> i < st0.n) (hn0 : st0.n <= n0) (hv0 : ∀ i ∈ V,¬ st0.G i) {N : Nat} : ∀ (c : Code) (T : List AV) (h : ae) (a : Act) (w : World) (K : Ex -> List AV -> ae -> Prop) (Q : Exit -> Act -> World -> Prop),
  (∀ ex T h a w,K ex T h -> qT B W w0 st0 T h a w -> Q ex.to a w) -> qT B W w0 st0 T h a w -> fA P E R C V n0 c T h K -> c.wpIn (FW none) N P Q a w:=by
 have hev : ∀ {T : List AV} {h : ae} {a : Act} {w : World} {t : Nat} {b : Bool},qT B W w0 st0 T h a w -> g9 T t = .d (.bool b) -> a.eval (.tmp t) = .bool b:=by
  rintro T h a w t b ⟨M', w1', st1', x1, x2, x3, x4, x5, x6, x7, x8, x9, hd, st, j1, j2, j3⟩ hb
  have:=j2.2 t
  rw [hb] at this
  exact bV.1 this
 have base : ∀ (c : Code) (T : List AV) (h : ae) (a : Act) (w : World) (K : Ex -> List AV -> ae -> Prop) (Q : Exit -> Act -> World -> Prop),
   (∀ ex T h a w,K ex T h -> qT B W w0 st0 T h a w -> Q ex.to a w) -> qT B W w0 st0 T h a w -> a7 E R C V n0 c T h K -> c.wpIn (FW none) N P Q a w:=by
  intro c T h a w K Q hQ hI hk
  refine cD (E:=E) (R:=R) (C:=C) (V:=V) (n0:=n0) (qT B W w0 st0) hev (fun hk hI=>Ji hg0 hn0 hv0 hk hI) ?_ ?_ c T h a w K Q hQ hI hk
  ·rintro id ops Q K T h a w hQ ⟨M', w1', st1', x1, x2, x3, x4, x5, x6, x7, x8, x9, hI⟩ hk
   exact o7 hE hR (fun T h a w hk hI => hQ T h a w hk ⟨M', w1', st1', x1, x2, x3, x4, x5, x6, x7, x8, x9, hI⟩) hI hk
  ·rintro id ops Q K T h a w hQ ⟨M', w1', st1', x1, x2, x3, x4, x5, x6, x7, x8, x9, hI⟩ hk
   exact qy hE hR.mute (fun T h a w hk hI => hQ T h a w hk ⟨M', w1', st1', x1, x2, x3, x4, x5, x6, x7, x8, x9, hI⟩) hI hk
 intro c
 induction c with
 | seq x y ihx ihy=>
  intro T h a w K Q hQ hI hk
  simp only [fA] at hk
  refine wpIn_seq (ihx T h a w _ _ ?_ hI hk)
  intro ex T h a w hk hI
  cases ex with
  | normal=>exact ihy T h a w K Q hQ hI hk
  | exit id=>exact hQ (.exit id) T h a w hk hI
  | ret=>exact hQ .ret T h a w hk hI
 | cond c x y ihx ihy=>
  intro T h a w K Q hQ hI hk
  simp only [fA] at hk
  unfold ow at hk
  split at hk
  ·rename_i t
   rw [cF] at hk
   split at hk
   ·rename_i b hb
    have hv:=hev hI hb
    rcases aq hk with ⟨h1,h2⟩ | ⟨h1,h2⟩
    ·subst h1
     rw [aU,gy hb (by simp)] at h2
     exact wpIn_cond_true hv (ihx T h a w K Q hQ hI h2)
    ·subst h1
     rw [aU,gy hb (by simp)] at h2
     exact wpIn_cond_false hv (ihy T h a w K Q hQ hI h2)
   ·exact hk.elim
  ·rename_i b
   rcases aq hk with ⟨h1,h2⟩ | ⟨h1,h2⟩
   ·subst h1;exact wpIn_cond_true rfl (ihx T h a w K Q hQ hI h2)
   ·subst h1;exact wpIn_cond_false rfl (ihy T h a w K Q hQ hI h2)
  ·exact hk.elim
 | block id c ih=>
  intro T h a w K Q hQ hI hk
  simp only [fA] at hk
  refine wpIn_block (ih T h a w _ _ ?_ hI hk)
  intro ex T h a w hk hI
  cases ex with
  | normal=>exact hQ .normal T h a w hk hI
  | exit i=>
   simp only [Ex.to,Exit.inBlock]
   rcases aq hk with ⟨h1,h2⟩ | ⟨h1,h2⟩
   ·rw [if_pos (by simpa using h1)]
    exact hQ .normal T h a w h2 hI
   ·rw [if_neg (by intro he;subst he;simp at h1)]
    exact hQ (.exit i) T h a w h2 hI
  | ret=>exact hQ .ret T h a w hk hI
 | rangeFunc g ps assign body _ _=>
  intro T h a w K Q hQ hI hk
  simp only [fA,aG] at hk
  exact zK hE hR hg0 hn0 hv0 hQ hI hk
 | skip=>exact fun T h a w K Q hQ hI hk=>base _ T h a w K Q hQ hI hk
 | region=>exact fun T h a w K Q hQ hI hk=>base _ T h a w K Q hQ hI hk
 | loop=>exact fun T h a w K Q hQ hI hk=>base _ T h a w K Q hQ hI hk
 | exit=>exact fun T h a w K Q hQ hI hk=>base _ T h a w K Q hQ hI hk
 | scope=>exact fun T h a w K Q hQ hI hk=>base _ T h a w K Q hQ hI hk
 | label=>exact fun T h a w K Q hQ hI hk=>base _ T h a w K Q hQ hI hk
 | goto=>exact fun T h a w K Q hQ hI hk=>base _ T h a w K Q hQ hI hk
 | ret=>exact fun T h a w K Q hQ hI hk=>base _ T h a w K Q hQ hI hk
 | refuse=>exact fun T h a w K Q hQ hI hk=>base _ T h a w K Q hQ hI hk
omit hE hR in
theorem sR {w0 : World} {st0 : St} {T : List AV} {h : ae} {N : Nat} {fn : Func} {Rr : Ending -> World -> Prop} : ∀ (M : List Nat) (a : Act) (w w1 : World) (st1 : St),a.defers = M.map s8 -> st1.n = st0.n -> st1.ρ = st0.ρ -> st1.G = st0.G -> st1.U = (fun b=>st0.U b \/ b ∈ M) -> st1.S0 = (fun b=>st0.S0 b /\ b ∉ M) ->
  (∀ b,st0.S b -> st1.S b /\ w1.heap[b]? = w0.heap[b]?) -> (∀ b,st0.U b -> w1.heap[b]? = w0.heap[b]?) -> (∀ b ∈ M,w1.heap[b]? = some (.deferred (some [])) /\ B <= b /\ ¬ st0.U b) -> M.Nodup -> iS (M.map s8) B W w1 st1 T h a w ->
  (∀ w', iS [] B W w0 st0 T h { a with defers := [] } w' -> LeavesIn (FW none) N P fn a.tmps Rr [] .returning w') -> LeavesInM (FW none) N P fn a.tmps Rr (M.map s8) .returning w
 | [],a,w,w1,st1,hd,x1,x2,x3,x4,x5,x6,x7,x8,x9,x10,hL=>by
  simp only [List.map_nil,LeavesInM]
  refine hL w ?_
  obtain ⟨_,st,j1,j2,j3,j4⟩:=x10
  have e4 : st1.U = st0.U:=by rw [x4];funext b;simp
  have e5 : st1.S0 = st0.S0:=by rw [x5];funext b;simp
  refine ⟨rfl,st,j1,j2,⟨by rw [<- x1];exact j3.n,fun id hid hg r hr=>?_,fun b hb=>?_,fun id hid hg=>?_,j3.U.1.trans e4,j3.U.2.1.trans e5,fun b hb=>?_⟩,j4.trans x3⟩
  ·have:=j3.ρ id (by rw [x1];exact hid) (by rw [x3];exact hg) r hr
   rw [x2] at this;exact this
  ·obtain ⟨q1,q2⟩:=x6 b hb
   obtain ⟨q3,q4⟩:=j3.S b q1
   exact ⟨q3,q4.trans q2⟩
  ·have:=j3.G id (by rw [x1];exact hid) hg
   rw [x3] at this;exact this
  ·exact (j3.U.2.2 b (by rw [e4];exact hb)).trans (x7 b hb)
 | d :: M,a,w,w1,st1,hd,x1,x2,x3,x4,x5,x6,x7,x8,x9,x10,hL=>by
  simp only [List.map_cons,LeavesInM]
  obtain ⟨_,st,j1,j2,j3,j4⟩:=x10
  obtain ⟨kU,kS0,kUw⟩:=j3.U
  have hdU : st1.U d:=by rw [x4];exact .inr (by simp)
  obtain ⟨y1,y2,y3⟩:=x8 d (by simp)
  have hw : w.heap[d]? = some (.deferred (some [])):=(kUw d hdU).trans y1
  have hnd:=List.nodup_cons.1 x9
  have hoth : ∀ b,b ≠ d -> (w.putObj d (.deferred none)).heap[b]? = w.heap[b]?:=fun b hb=>World.putObj_heap_other hb
  have hSd : ∀ b,st.S b -> b ≠ d:=fun b hb e=>by
   rcases j1.x.low b hb with q | q
   ·rw [kS0,x5] at q;exact q.2 (by rw [e];simp)
   ·rw [kU] at q;exact q (by rw [e];exact hdU)
  have hOd : ∀ id r,st.ρ id = some r -> r.m ≠ 0 -> r.b ≠ d:=fun id r hr hm e=>j1.x.own id r hr hm (by rw [kU,e];exact hdU)
  obtain ⟨d1,d2⟩:=j1.move (w':=w.putObj d (.deferred none)) (j1.below.trans ⟨rfl,rfl,rfl,by simp,fun k hk=>hoth k (by omega)⟩) (by simpa using j1.base) (fun b hb=>by simpa using j1.x.ub b hb) (fun b hb=>hoth b (hSd b hb)) (fun id r hr hm=>hoth _ (hOd id r hr hm))
  obtain ⟨n1,ne1⟩:=d1.reset (h':=h) st.S (fun b=>st0.U b \/ b ∈ M) (fun b=>st0.S0 b /\ b ∉ M) rfl (fun _ _=>rfl) (fun _ h=>h) d1.stab (fun _ _ _ _ h=>h) (fun id r hr hm hu=>j1.x.own id r hr hm (by rw [kU,x4];exact hu.elim .inl (fun h=>.inr (by simp [h])))) (fun b hb=>by
    rcases j1.x.low b hb with q | q
    ·rw [kS0,x5] at q
     exact .inl ⟨q.1,fun hm=>q.2 (by simp [hm])⟩
    ·rw [kU,x4] at q
     exact .inr (fun hu=>q (hu.elim .inl (fun h=>.inr (by simp [h]))))) (fun b hb=>by
    have:=j1.x.ub b (by rw [kU,x4];exact hb.elim .inl (fun h=>.inr (by simp [h])))
    simpa using this)
  refine ⟨by simp,.inl ⟨d,_,rfl,run_takeDeferred hw,?_⟩⟩
  refine sR (w0:=w0) (st0:=st0) M { a with defers:=M.map s8 } (w.putObj d (.deferred none)) (w.putObj d (.deferred none)) { n:=st0.n,ρ:=st0.ρ,S:=st.S,G:=st0.G,U:=fun b=>st0.U b \/ b ∈ M,S0:=fun b=>st0.S0 b /\ b ∉ M } rfl rfl rfl rfl rfl rfl (fun b hb=>?_) (fun b hb=>?_) (fun b hb=>?_) hnd.2 ⟨rfl,_,n1,⟨⟨j2.1.1,n1.seat⟩,fun j=>dF ne1 (dF d2 (j2.2 j))⟩,⟨by have:=j3.n;rw [x1] at this;exact this,fun id hid hg r hr=>?_,fun b hb=>⟨hb,rfl⟩,fun id hid hg=>?_,rfl,rfl,fun _ _=>rfl⟩,?_⟩ hL
  ·obtain ⟨q1,q2⟩:=x6 b hb
   obtain ⟨q3,q4⟩:=j3.S b q1
   exact ⟨q3,(hoth b (hSd b q3)).trans (q4.trans q2)⟩
  ·have hne : b ≠ d:=fun e=>y3 (e ▸ hb)
   exact (hoth b hne).trans ((kUw b (by rw [x4];exact .inl hb)).trans (x7 b hb))
  ·have hne : b ≠ d:=fun e=>hnd.1 (e ▸ hb)
   obtain ⟨q1,q2,q3⟩:=x8 b (by simp [hb])
   exact ⟨(hoth b hne).trans ((kUw b (by rw [x4];exact .inr (by simp [hb]))).trans q1),q2,q3⟩
  ·have:=j3.ρ id (by rw [x1];exact hid) (by rw [x3];exact hg) r hr
   rw [x2] at this;exact this
  ·have h2 : st.G id:=hg
   rw [j4,x3] at h2;exact h2
  ·show st.G = st0.G
   rw [j4,x3]
theorem yl {f : Nat} {fn : Func} {c : Code} (hf : P.funcs[f]? = some fn) (hc : fn.body = some c) {args : List AV} {h h1 : ae} {r : AV} {C V : List Nat} {w : World} {st : St} {vs : List Value} (hv0 : ∀ i ∈ V,¬ st.G i) (hw : WR B W w st h) (ha : cS w st args vs)
  (hk : fA P E R C V h.length c (args ++ List.replicate (fn.ntmps - args.length) .junk) h (wF E V h.length fn.results.toList r h1)) : Calls P f vs.toArray w (fun e w'=>∃ v,e = .returned v /\ iW B W w st r h1 v w'):=by
 have hlen:=hw.len
 refine (callsIn_wide (n:=0)).1 (callsIn_of_wp_marks (F:=FW none) hf hc trivial ?_)
 refine ym hE hR (w0:=w) (st0:=st) (C:=C) (V:=V) (n0:=h.length) hw.gho (by omega) hv0 c _ h _ w _ _ ?_ ⟨[],w,st,rfl,rfl,rfl,by simp,by simp,fun b hb=>⟨hb,rfl⟩,fun _ _=>rfl,fun _ h=>by simp at h,List.nodup_nil,rfl,st,hw,Ah hw.seat _ ha,dO.refl _ _,rfl⟩ hk
 have fin : ∀ (T : List AV) (h' : ae) (a : Act) (w' : World),ij E h' T fn.results.toList (fun l=>nZ V h.length h' (gj l) r h1 \/ (gj l = r /\ h' = h1)) -> qT B W w st T h' a w' -> LeavesInM (FW none) 0 P fn a.tmps (fun e w'=>∃ v,e = .returned v /\ iW B W w st r h1 v w') a.defers .returning w':=by
  rintro T h' a w' hk ⟨M,w1,st1,x1,x2,x3,x4,x5,x6,x7,x8,x9,x10⟩
  rw [x10.1]
  refine sR M a w' w1 st1 x10.1 x1 x2 x3 x4 x5 x6 x7 x8 x9 x10 (fun w2 hI=>?_)
  rw [<- hlen] at hk
  obtain ⟨_,v,k1,k2⟩:=fi hE (fn:=fn) hI hw.gho hv0 hk
  exact ⟨v,k1,v,rfl,k2⟩
 intro ex T h' a w' hk hI
 cases ex with
 | exit id=>exact hk.elim
 | normal=>exact fin T h' a w' hk hI
 | ret=>exact fin T h' a w' hk hI
end
def K1 : List Nat -> List D -> bL -> Option bL
 | [],[],A=>some A
 | p :: ps,x :: xs,A=>K1 ps xs ((p,.d x) :: A)
 | _,_,_=>none
abbrev QB:=Nat -> bL -> ae -> (Ex -> bL -> ae -> Prop) -> Prop
def pd (V : List Nat) (n0 : Nat) (ps : List Nat) (W : QB) (K : Ex -> bL -> ae -> Prop) : List (List D) -> bL -> ae -> Prop
 | [],A,h=>∃ A1 h1,DY V n0 A h A1 h1 /\ K .normal A1 h1
 | x :: xs,A,h=>∃ A1 h1 A2,DY V n0 A h A1 h1 /\ K1 ps x A1 = some A2 /\ W h1.length A2 h1 (fun ex _ h'=>match ex with
  | .normal=>pd V n0 ps W K xs A1 h'
  | .exit id=>K (.exit id) A1 h'
  | .ret=>K .ret A1 h')
noncomputable def pc (E : TE) (R : ep) (assign body : Code) : QB:=fun n A h K=>qw E R [] [] n assign A h (fun ex A' h'=>match ex with
 | .normal=>qw E R [] [] n body A' h' K
 | _=>False)
structure rI (P : Program) (V : List Nat) (n0 : Nat) (ps : List Nat) (W : QB) (K : Ex -> bL -> ae -> Prop) (f : Nat) (a c : List D) (A : bL) (h : ae) : Prop where
 stop : Stop
 out : ∃ xs,n7 P f a c xs /\ pd V n0 ps W K xs A h
noncomputable def Gn (P : Program) (E : TE) (R : ep) (C V : List Nat) (n0 : Nat) (c : Code) : bL -> ae -> (Ex -> bL -> ae -> Prop) -> Prop:=
 Code.rec (motive:=fun _=>bL -> ae -> (Ex -> bL -> ae -> Prop) -> Prop)
  (skip:=fun A h K=>K .normal A h)
  (region:=fun id ops d A h K=>qw E R C V n0 (.region id ops d) A h K)
  (seq:=fun _ _ x y A h K=>x A h (fun ex A h=>match ex with
   | .normal=>y A h K
   | .exit id=>K (.exit id) A h
   | .ret=>K .ret A h))
  (cond:=fun c _ _ x y A h K=>CA A c (fun A=>x A h K) (fun A=>y A h K))
  (block:=fun id _ x A h K=>x A h (fun ex A h=>match ex with
   | .normal=>K .normal A h
   | .exit i=>aR (Nat.beq i id) (K .normal A h) (K (.exit i) A h)
   | .ret=>K .ret A h))
  (loop:=fun c _ A h K=>qw E R C V n0 (.loop c) A h K)
  (rangeFunc:=fun g ps assign body _ _ A h K=>lW A g (fun g=>Jj g (fun f a c=>rI P V n0 ps.toList (pc E R assign body) K f a c A h)))
  (exit:=fun id A h K=>K (.exit id) A h)
  (scope:=fun _ _ _ _ _=>False)
  (label:=fun _ _ _ _=>False)
  (goto:=fun _ _ _ _=>False)
  (ret:=fun A h K=>K .ret A h)
  (refuse:=fun _ _ _ _=>False)
  c
def rU (N : Nat) : Code -> Bool
 | .region id ops d=>jt N (.region id ops d)
 | .seq a b=>rU N a && rU N b
 | .cond _ a b=>rU N a && rU N b
 | .block _ c=>rU N c
 | .loop c=>jt N c
 | .rangeFunc _ ps a b=>ps.toList.all (fun t=>Nat.blt t N) && (jt N a && jt N b)
 | _=>true
section
variable {N : Nat} {P : Program} {E : TE} {R : ep}
theorem vG : ∀ {ps : List Nat} {x : List D} {T : List AV} {A A2 : bL},ps.all (fun t=>Nat.blt t N) = true -> jL N T A -> K1 ps x A = some A2 -> ∃ T2,zI ps x T = some T2 /\ jL N T2 A2
 | [],[],T,A,A2,_,hr,h=>by simp only [K1,Option.some.injEq] at h;subst h;exact ⟨T,rfl,hr⟩
 | [],_ :: _,_,_,_,_,_,h=>by simp [K1] at h
 | _ :: _,[],_,_,_,_,_,h=>by simp [K1] at h
 | p :: ps,x :: xs,T,A,A2,hb,hr,h=>by
  simp only [List.all_cons,Bool.and_eq_true] at hb
  simp only [K1] at h
  simp only [zI]
  exact vG hb.2 (hr.set (by simpa using hb.1) (.d x)) h
theorem uA {assign body : Code} (ha : jt N assign = true) (hb : jt N body = true) {n : Nat} {T : List AV} {A : bL} {h : ae} {K : Ex -> List AV -> ae -> Prop} {K' : Ex -> bL -> ae -> Prop} (hr : jL N T A) (hK : ∀ ex T' A' h', jL N T' A' -> K' ex A' h' -> K ex T' h')
  (hk : pc E R assign body n A h K') : jJ E R assign body n T h K:=by
 unfold pc at hk
 unfold jJ
 refine bY assign T A h _ _ ha hr (fun ex T' A' h' hr' hk'=>?_) hk
 cases ex with
 | normal=>exact bY body T' A' h' K K' hb hr' hK hk'
 | exit id=>exact hk'.elim
 | ret=>exact hk'.elim
theorem nj {V : List Nat} {n0 : Nat} {ps : List Nat} {assign body : Code} (hp : ps.all (fun t => Nat.blt t N) = true) (ha : jt N assign = true) (hb : jt N body = true) {K : Ex -> List AV -> ae -> Prop} {K' : Ex -> bL -> ae -> Prop} (hK : ∀ ex T' A' h', jL N T' A' -> K' ex A' h' -> K ex T' h') :
  ∀ (xs : List (List D)) (T : List AV) (A : bL) (h : ae),jL N T A -> pd V n0 ps (pc E R assign body) K' xs A h -> mH V n0 ps (jJ E R assign body) K xs T h
 | [],T,A,h,hr,hk=>by
  obtain ⟨A1,h1,k1,k2⟩:=hk
  obtain ⟨T1,r1,r2⟩:=k1.to hr
  exact ⟨T1,h1,r2,hK _ _ _ _ r1 k2⟩
 | x :: xs,T,A,h,hr,hk=>by
  obtain ⟨A1,h1,A2,k1,k2,k3⟩:=hk
  obtain ⟨T1,r1,r2⟩:=k1.to hr
  obtain ⟨T2,s1,s2⟩:=vG hp r1 k2
  refine ⟨T1,h1,T2,r2,s1,uA ha hb s2 (fun ex T' A' h' hr' hk'=>?_) k3⟩
  cases ex with
  | normal=>exact nj hp ha hb hK xs T1 A1 h' r1 hk'
  | exit id=>exact hK _ _ _ _ r1 hk'
  | ret=>exact hK _ _ _ _ r1 hk'
theorem JC {K K' : Nat -> List D -> List D -> Prop} {g : AV} (hK : ∀ f a c,K' f a c -> K f a c) (hk : Jj g K') : Jj g K:=by
 cases g with
 | d x=>cases x<;>first | exact hk.elim | exact hK _ _ _ hk
 | fn f a c=>
  simp only [Jj] at hk ⊢
  cases ha : ev a with
  | none=>simp only [ha] at hk
  | some a'=>
   cases hc : ev c with
   | none=>simp only [ha,hc] at hk
   | some c'=>simp only [ha,hc] at hk ⊢;exact hK _ _ _ hk
 | _=>exact hk.elim
theorem eG {n0 : Nat} {C V : List Nat} : ∀ (c : Code) (T : List AV) (A : bL) (h : ae) (K : Ex -> List AV -> ae -> Prop) (K' : Ex -> bL -> ae -> Prop), rU N c = true -> jL N T A -> (∀ ex T' A' h', jL N T' A' -> K' ex A' h' -> K ex T' h') ->
  Gn P E R C V n0 c A h K' -> fA P E R C V n0 c T h K
 | .skip, T, A, h, K, K', _, hr, hK, hk => by
  simp only [fA,a7]
  exact hK _ _ _ _ hr hk
 | .region id ops d, T, A, h, K, K', hb, hr, hK, hk => by
  show a7 E R C V n0 (.region id ops d) T h K
  exact bY (.region id ops d) T A h K K' hb hr hK hk
 | .seq x y, T, A, h, K, K', hb, hr, hK, hk => by
  simp only [rU,Bool.and_eq_true] at hb
  simp only [fA]
  refine eG x T A h _ _ hb.1 hr (fun ex T' A' h' hr' hk'=>?_) hk
  cases ex with
  | normal=>exact eG y T' A' h' K K' hb.2 hr' hK hk'
  | exit id=>exact hK _ _ _ _ hr' hk'
  | ret=>exact hK _ _ _ _ hr' hk'
 | .cond c x y, T, A, h, K, K', hb, hr, hK, hk => by
  simp only [rU,Bool.and_eq_true] at hb
  simp only [fA]
  exact qx hr (fun T' A' hr' hk'=>eG x T' A' h K K' hb.1 hr' hK hk') (fun T' A' hr' hk'=>eG y T' A' h K K' hb.2 hr' hK hk') hk
 | .block id c, T, A, h, K, K', hb, hr, hK, hk => by
  simp only [rU] at hb
  simp only [fA]
  refine eG c T A h _ _ hb hr (fun ex T' A' h' hr' hk'=>?_) hk
  cases ex with
  | normal=>exact hK _ _ _ _ hr' hk'
  | exit i=>
   rcases aq hk' with ⟨h1,h2⟩ | ⟨h1,h2⟩
   ·exact bO h1 (hK _ _ _ _ hr' h2)
   ·exact bA h1 (hK _ _ _ _ hr' h2)
  | ret=>exact hK _ _ _ _ hr' hk'
 | .loop c, T, A, h, K, K', hb, hr, hK, hk => by
  show a7 E R C V n0 (.loop c) T h K
  exact bY (.loop c) T A h K K' hb hr hK hk
 | .rangeFunc g ps assign body, T, A, h, K, K', hb, hr, hK, hk => by
  simp only [rU,Bool.and_eq_true] at hb
  have hk : lW A g (fun g=>Jj g (fun f a c=>rI P V n0 ps.toList (pc E R assign body) K' f a c A h)):=hk
  rw [hr.opnd,aG] at hk
  simp only [fA,aG]
  refine JC (fun f a c hx=>?_) hk
  obtain ⟨xs,h1,h2⟩:=hx.out
  exact ⟨xs,h1,nj hb.1 hb.2.1 hb.2.2 hK xs T A h hr h2⟩
 | .exit id, T, A, h, K, K', _, hr, hK, hk => by
  simp only [fA,a7]
  exact hK _ _ _ _ hr hk
 | .ret, T, A, h, K, K', _, hr, hK, hk => by
  simp only [fA,a7]
  exact hK _ _ _ _ hr hk
 | .scope ..,_,_,_,_,_,_,_,_,hk=>hk.elim
 | .label ..,_,_,_,_,_,_,_,_,hk=>hk.elim
 | .goto ..,_,_,_,_,_,_,_,_,hk=>hk.elim
 | .refuse ..,_,_,_,_,_,_,_,_,hk=>hk.elim
end
noncomputable def AF (P : Program) (E : TE) (R : ep) (C V : List Nat) (fn : Func) (args : List AV) (h : ae) (r : AV) (h1 : ae) : Prop:=
 match fn.body with
 | some c=>Gn P E R C V h.length c (iO 0 args) h (OO E V h.length fn.results.toList r h1)
 | none=>False
def Lf (fn : Func) (n : Nat) : Bool:=
 match fn.body with
 | some c=>Nat.ble n fn.ntmps && rU fn.ntmps c
 | none=>false
theorem BT {P : Program} {E : TE} (hE : gJ P E) {f : Nat} {fn : Func} (hf : P.funcs[f]? = some fn) (hn : (fn.name == "runtime.NumGoroutine") = false) {args : List AV} (hbd : Lf fn args.length = true) {h h1 : ae} {r : AV} (V : List Nat) (hV : tW h args [] V = true) (C : List Nat) (hk : AF P E (bn P) C V fn args h r h1) : bn P f args h r h1 := by
 intro B W w st vs hw ha
 unfold AF at hk
 unfold Lf at hbd
 split at hk
 ·rename_i c hc
  simp only [hc,Bool.and_eq_true,Nat.ble_eq] at hbd
  have hb : fn.body.isNone = false:=by simp [hc]
  have hcall : (callFunc f vs.toArray).run P w = .ok (.enter f vs.toArray) w:=by
   simp only [callFunc,Sem.run_bind,run_program,Result.andThen_ok,hf,hn,hb,Bool.false_eq_true,if_false,Sem.run_pure]
  rw [hcall]
  have hv0 : ∀ i ∈ V,¬ st.G i:=l8 hw ha V [] (fun _ h=>by cases h) hV
  have hr : jL fn.ntmps (args ++ List.replicate (fn.ntmps - args.length) .junk) (iO 0 args):=by
   refine ⟨by simp;omega,fun n=>?_⟩
   rw [fq,if_pos (Nat.zero_le _),Nat.sub_zero,cG,cG]
   by_cases hi : n < args.length
   ·rw [List.getElem?_append_left hi]
   ·rw [List.getElem?_append_right (by omega),List.getElem?_eq_none (by omega),List.getElem?_replicate]
    split<;>rfl
  have hk:=eG (N:=fn.ntmps) c _ _ h (wF E V h.length fn.results.toList r h1) _ hbd.2 hr (fun ex T' A' h' hr' hk'=>by
   cases ex with
   | normal=>exact ey hr' hk'
   | exit id=>exact hk'.elim
   | ret=>exact ey hr' hk') hk
  exact yl hE bn.sub hf hc hv0 hw ha hk
 ·exact hk.elim
theorem tR {P : Program} {E : TE} (hE : gJ P E) {f : Nat} {fn : Func} (hf : P.funcs[f]? = some fn) (hn : (fn.name == "runtime.NumGoroutine") = false) {args : List AV} (hbd : Lf fn args.length = true) {h h1 : ae} {r : AV} (hk : AF P E (bn P) [] [] fn args h r h1) : bn P f args h r h1 :=
 BT hE hf hn hbd [] rfl [] hk
end Dw
namespace Dw
open Go Go.RowKit
theorem Mx (n : Nat) (g : Nat -> List D) : ((List.range n).map g).length = n:=by simp
theorem PW {n : Nat} {g : Nat -> List D} {i : Nat} (h : i < n) : ((List.range n).map g)[i]? = some (g i):=by simp [h]
theorem Jk {P : Program} {E : TE} (hE : gJ P E) {f : Nat} {fn : Func} (hf : P.funcs[f]? = some fn) (hn : (fn.name == "runtime.NumGoroutine") = false) (hbd : Io fn = true) {first cap : List D} {n : Nat} {g : Nat -> List D}
  (hk : ∀ s l,s <= n -> qq E (RI P l ((List.range n).map g) s) [] [] fn (first.map .d ++ .raw (.func (.yield l) #[] #[]) :: cap.map .d) [trO 0] (.tup []) [trO (min (s + 1) n)]) : n7 P f first cap ((List.range n).map g):=
 CZ hE hf hn hbd fun s l hs=>by rw [Mx] at hs ⊢;exact hk s l hs
section
variable {P : Program} {l s : Nat} {xs : List (List D)} {K : KV}
theorem uh {args : List AV} {h : ae} (e : ∃ r h', (RI P l xs s).yld args h r h' /\ K r h') : ∃ r h', (RI P l xs s).yld args h r h' /\ K r h' := e
theorem xK {rest : ae} {i : Nat} {a b : D} (his : i <= s) (hx : xs[i]? = some [a, b]) (k : K (.d (.bool (decide (i < s)))) (trO (i + 1) :: rest)) : ∃ r h', (RI P l xs s).yld [.raw (.func (.yield l) #[] #[]), .d a, .d b] (trO i :: rest) r h' /\ K r h' :=
 ⟨_,_,⟨i,rest,[a,b],rfl,his,hx,rfl,rfl,rfl⟩,k⟩
theorem FL {n : Nat} {g : Nat -> List D} {rest : ae} {i : Nat} {a b : D} (his : i <= s) (hi : i < n) (hx : g i = [a, b]) (k : K (.d (.bool (decide (i < s)))) (trO (i + 1) :: rest)) : ∃ r h', (RI P l ((List.range n).map g) s).yld [.raw (.func (.yield l) #[] #[]), .d a, .d b] (trO i :: rest) r h' /\ K r h' :=
 xK his (by rw [PW hi,hx]) k
end
theorem Ar (k : Nat) : (trO k).k = (trO k).k /\ (trO k).st = (trO k).st /\ ((∃ l : List D,(trO k).elems = l.map .d /\ (trO k).elems = l.map .d) \/ io [.old 0] (trO k).elems (trO k).elems):=
 ⟨rfl,rfl,.inl ⟨List.replicate k (.bool true),by simp [trO],by simp [trO]⟩⟩
theorem fv (k : Nat) (μ : List Mu) : (trO k).k = (trO k).k /\ (trO k).st = (trO k).st /\ ((∃ l : List D,(trO k).elems = l.map .d /\ (trO k).elems = l.map .d) \/ io μ (trO k).elems (trO k).elems):=
 ⟨rfl,rfl,.inl ⟨List.replicate k (.bool true),by simp [trO],by simp [trO]⟩⟩
theorem rj {k m : Nat} {h : ae} (e : k = m) : nq [] 1 (trO k :: h) (.tup []) (.tup []) [trO m]:=by
 subst e
 exact bR (.inl ⟨[.old 0],rfl,rfl,⟨trivial,trivial⟩,⟨fv k _,trivial⟩⟩)
section
variable {P : Program} {V : List Nat} {n0 : Nat} {ps : List Nat} {W : QB} {K : Ex -> bL -> ae -> Prop} {f : Nat} {a c : List D} {A : bL} {h : ae}
theorem zJ (e : rI P V n0 ps W K f a c A h) : rI P V n0 ps W K f a c A h:=e
theorem vH {σ : Type} {n : Nat} {g : Nat -> List D} (hit : n7 P f a c ((List.range n).map g)) (I : Nat -> σ -> Prop) (As : Nat -> σ -> bL) (hs : Nat -> σ -> ae) (s0 : σ) (hI0 : I 0 s0) (h0 : DY V n0 A h (As 0 s0) (hs 0 s0))
  (step : ∀ i (s : σ) (hi : i < n) (C : ae -> Prop), I i s -> (∀ s' h', I (i + 1) s' -> DY V n0 (As i s) h' (As (i + 1) s') (hs (i + 1) s') -> C h') -> ∃ A2, K1 ps (g i) (As i s) = some A2 /\ W (hs i s).length A2 (hs i s) (fun ex _ h' => match ex with
   | .normal=>C h'
   | .exit id=>K (.exit id) (As i s) h'
   | .ret=>K .ret (As i s) h'))
  (done : ∀ s,I n s -> K .normal (As n s) (hs n s)) : rI P V n0 ps W K f a c A h:=by
 refine ⟨.mk,_,hit,?_⟩
 have key : ∀ (m i : Nat) (s : σ) (A : bL) (h : ae),i + m = n -> I i s -> DY V n0 A h (As i s) (hs i s) -> pd V n0 ps W K (((List.range n).map g).drop i) A h:=by
  intro m
  induction m with
  | zero=>
   intro i s A h hi hI hk
   have : i = n:=by omega
   subst this
   rw [List.drop_eq_nil_of_le (by simp)]
   exact ⟨_,_,hk,done s hI⟩
  | succ m ih=>
   intro i s A h hi hI hk
   have hlt : i < n:=by omega
   rw [List.drop_eq_getElem_cons (by simpa using hlt)]
   obtain ⟨A2,s1,s2⟩:=step i s hlt (fun h'=>pd V n0 ps W K (((List.range n).map g).drop (i + 1)) (As i s) h') hI (fun s' h' hI' hk'=>ih (i + 1) s' (As i s) h' (by omega) hI' hk')
   exact ⟨As i s,hs i s,A2,hk,by simpa using s1,s2⟩
 simpa using key n 0 s0 A h (by omega) hI0 h0
end
end Dw
namespace Dw
open Go
theorem lH {α : Type} {f : α -> D} {l : List α} (h : ∀ x,(f x).flat = true) : ∀ y ∈ l.map f,y.flat = true:=by
 intro y hy
 obtain ⟨x,_,rfl⟩:=List.mem_map.1 hy
 exact h x
theorem cI {P : Program} {f k : Nat} {xs : List D} {α : Type} {g : α -> D} {l : List α} (hf : bn P f (xs.map .d) [] (.sl 0 0 l.length k none) [⟨(l.map g).map .d,k,0⟩]) (hg : ∀ x,(g x).flat = true) {H : ae} {args : List AV} (hv : vl (bl 8 H) args = some xs) :
  bn P f args H (.sl H.length 0 l.length k none) (H ++ [⟨(l.map g).map .d,k,0⟩]):=by
 refine gg (σ:=[]) (F:=args.flatMap (bC 8 H)) (fl:=true) hf List.nodup_nil (fun _ _ h=>by cases h) (fh H args xs _ (fun _ h=>h) hv) (by simp [pP]) (fun _=>⟨rfl,fun o ho=>?_⟩) ?_ ?_
 ·simp only [List.mem_singleton] at ho
  subst ho
  exact ⟨jS _ (lH hg),Nat.zero_ne_one⟩
 ·simp [ren,AE]
 ·simp only [kI,cg,List.length_nil,List.drop_zero,List.map_cons,List.map_nil,gF,l4,if_true]
theorem qA {σ : List Nat} (H : ae) (args : List AV) (xs : List D) (F : List Nat) (hF : ∀ id ∈ args.flatMap (bC 8 H),id ∈ F) (hv : vl (bl 8 H) args = some xs) : eY σ F H (xs.map .d) args:=by
 have:=fh H args xs F hF hv
 have key : ∀ (ys : List D) (bs : List AV),eY [] F H (ys.map .d) bs -> eY σ F H (ys.map .d) bs:=by
  intro ys
  induction ys with
  | nil=>intro bs h;cases bs with
   | nil=>trivial
   | cons a bs=>exact h.elim
  | cons y ys ih=>intro bs h;cases bs with
   | nil=>exact h.elim
   | cons a bs=>exact ⟨h.1,ih bs h.2⟩
 exact key xs args this
theorem zV {P : Program} {f k : Nat} {xs : List D} {α : Type} {g : α -> D} {l l' : List α} (hf : bn P f (.sl 0 0 l.length k none :: xs.map .d) [⟨(l.map g).map .d,k,0⟩] (.tup []) [⟨(l'.map g).map .d,k,0⟩]) (hg : ∀ x,(g x).flat = true) {H : ae} {id : Nat} (h : H[id]? = some ⟨(l.map g).map .d,k,0⟩) {args : List AV} (hv : vl (bl 8 H) args = some xs)
  (hd : ∀ j ∈ args.flatMap (bC 8 H),j ≠ id) {len : Nat} (hlen : len = l.length) : bn P f (.sl id 0 len k none :: args) H (.tup []) (H.set id ⟨(l'.map g).map .d,k,0⟩):=by
 subst hlen
 refine gg (σ:=[id]) (F:=args.flatMap (bC 8 H)) (fl:=true) hf (by simp) (fun j hj=>by simpa using hd j hj) ⟨⟨rfl,rfl,rfl,rfl,rfl⟩,qA H args xs _ (fun _ h=>h) hv⟩ ⟨(aE _ _).2 ⟨_,h,rfl,rfl,.inl ⟨_,rfl,rfl⟩⟩,trivial⟩ (fun _=>⟨rfl,fun o ho=>?_⟩) rfl ?_
 ·simp only [List.mem_cons,List.not_mem_nil,or_false] at ho
  subst ho
  exact ⟨jS _ (lH hg),Nat.zero_ne_one⟩
 ·show cg H [id] _ ++ _ = _
  simp only [cg,List.map_cons,List.map_nil,List.length_cons,List.length_nil,List.drop_succ_cons,List.drop_zero,gF,l4,List.append_nil]
theorem ma {n : Nat} {h : ae} {id e off : Nat} {o : AO} {x : AV} {d : D} (h1 : h[id]? = some o) (hst : o.st < 2) (he : o.elems[e]? = some x) (hv : bl n h x = some d) : bl (n + 1) h (.ptr id e off) = some (.fp d off):=by
 show (match h[id]? with
  | some o=>if o.st < 2 then (match o.elems[e]? with | some x=>(bl n h x).map (D.fp · off) | none=>none) else none
  | none=>none) = _
 simp only [h1,if_pos hst,he,hv,Option.map_some]
theorem Ho {α : Type} {g : α -> D} {l : List α} {n : Nat} {K : AV -> Prop} (h : n < l.length) (hk : K (.d (g l[n]))) : cX ((l.map g).map AV.d) n K:=
 cj (x:=.d (g l[n])) (by simp [h]) hk
theorem bF {α : Type} {g : α -> D} {l : List α} {n : Nat} {K : AV -> Prop} (m : Nat) (e : n = m) (h : m < l.length) (hk : K (.d (g l[m]))) : cX ((l.map g).map AV.d) n K:=by
 subst e;exact Ho h hk
theorem rC {α : Type} {l : List α} {n : Nat} {v : α} {K : List α -> Prop} (hk : K (l.set n v)) : fb l n v K:=by
 rw [aU];exact hk
theorem Dv {α : Type} {g : α -> D} (l : List α) (k : Nat) (y : α) : ((l.map g).map AV.d).set k (.d (g y)) = ((l.set k y).map g).map AV.d:=by
 rw [List.map_set,List.map_set]
end Dw
namespace Dw
open Go Go.RowKit Go.ChangeShapes
mutual
def ek : D -> Nat
 | .str s=>s.length + 1
 | .fs l=>bI l + 1
 | .agg l=>bI l
 | _=>1
def bI : List D -> Nat
 | []=>0
 | x :: l=>ek x + bI l
end
theorem ko : ∀ (a b : List D),bI (a ++ b) = bI a + bI b
 | [],b=>by simp [bI]
 | x :: a,b=>by
  simp only [List.cons_append,bI,ko a b];omega
theorem oj (x : D) : bI x.cells = ek x:=by
 cases x<;>simp [D.cells,bI,ek]
structure Is {H : Type} (bk : DataW H -> Nat) (bks : List (DataW H) -> Nat) : Prop where
 one : ∀ d,1 <= bk d
 str : ∀ s : List UInt8,s.length + 1 <= bk (.lit (.string s))
 sl : ∀ a b,bks a + 1 <= bk (.slice a b)
 agg : ∀ a,bks a <= bk (.agg a)
 nil : bks [] = 0
 cons : ∀ d l,bks (d :: l) = bk d + bks l
theorem Is.app {H : Type} {bk : DataW H -> Nat} {bks : List (DataW H) -> Nat} (B : Is bk bks) (a b : List (DataW H)) : bks (a ++ b) = bks a + bks b:=by
 induction a with
 | nil=>simp [B.nil]
 | cons x a ih=>rw [List.cons_append,B.cons,B.cons,ih];omega
section
variable {P : Program} {E : TE} (hE : gJ P E) {H : Type} {enc : TypeId × Value -> H} {w : World} {sp : Nat -> Bool} {hd : Bool} {bk : DataW H -> Nat} {bks : List (DataW H) -> Nat} (B : Is bk bks)
include hE B
theorem FD {n : Nat} : ∀ (t fuel : Nat) (cs : List Value) (y : DataW H × List MemPlace),AD E n t = true -> DataW.trod enc P w 0 sp hd fuel t cs = some y ->
  ∃ x,ui E n t x /\ cC w (fun b=>b < w.heap.size) x cs /\ ek x <= bk y.1:=by
 induction n with
 | zero=>intro t fuel cs y h;simp [AD] at h
 | succ n ih=>
  intro t fuel cs y h hy
  have hk:=oQ E h
  have h0:=h
  simp only [AD] at h
  simp only [ui]
  split at h
  ·rename_i hk1
   obtain ⟨k,rfl,rfl,hw⟩:=DataW.trod_int (eM hE hk1) hy
   exact ⟨.int (E t).ik k,⟨k,rfl,hw⟩,by simp [cC],B.one _⟩
  ·rename_i hk1
   obtain ⟨b,rfl,rfl⟩:=DataW.trod_bool (uc hE hk1) hy
   exact ⟨.bool b,⟨b,rfl⟩,by simp [cC],B.one _⟩
  ·rename_i hk1
   obtain ⟨s,rfl,rfl,hs⟩:=DataW.trod_string (bK hE hk1) hy
   exact ⟨.str s.data.toList,⟨_,rfl,by rw [Array.length_toList];exact hs⟩,by simp [cC],B.str _⟩
  ·rename_i hk4
   have hek:=oQ E h
   have hce:=iy hE hek
   have hpos:=(hE.facts hek).pos
   rcases DataW.trod_slice (bd hE hk4) hy with ⟨rfl,rfl⟩ | ⟨a,len,cap,elems,rest,m,_,rfl,rfl,_,hlc,hcm,hel,hget,_⟩
   ·exact ⟨.fs [],⟨[],rfl,Nat.zero_le _,fun y hy=>absurd hy (by simp)⟩,by simp [cC],B.one _⟩
   ·have each : ∀ i (hi : i < elems.length),∃ x,(ui E n (E t).elem x /\ ek x <= bk elems[i].1) /\ ∃ us,us.length = (E (E t).elem).size /\ cC w (fun b=>b < w.heap.size) x us /\ ∀ j v,us[j]? = some v -> w.cell? ((a.add (i * (E (E t).elem).size)).add j) = some v:=by
     intro i hi
     have:=hget i (by omega)
     have hei : elems[i]? = some elems[i]:=List.getElem?_eq_getElem (by omega)
     rw [hei] at this
     obtain ⟨us,u1,u2⟩:=Option.bind_eq_some_iff.1 this
     obtain ⟨l1,l2⟩:=AP u1
     obtain ⟨x,x1,x2,x3⟩:=ih _ _ _ _ h u2
     rw [hce] at l1 l2
     exact ⟨x,⟨x1,x3⟩,us,l1,x2,l2⟩
    have build : ∀ k,k <= len -> ∃ l : List D,(l.length = k /\ bI l <= bks ((elems.map (·.1)).take k)) /\ ∀ i x,l[i]? = some x -> ui E n (E t).elem x /\ ∃ us,us.length = (E (E t).elem).size /\ cC w (fun b=>b < w.heap.size) x us /\ ∀ j v,us[j]? = some v -> w.cell? ((a.add (i * (E (E t).elem).size)).add j) = some v:=by
     intro k
     induction k with
     | zero=>intro _;exact ⟨[],⟨rfl,Nat.zero_le _⟩,fun i x hx=>by simp at hx⟩
     | succ k ihk=>
      intro hk'
      obtain ⟨l,⟨l1,l3⟩,l2⟩:=ihk (by omega)
      obtain ⟨x,⟨x1,x3⟩,x2⟩:=each k (by omega)
      refine ⟨l ++ [x],⟨by simp [l1],?_⟩,fun i y hy=>?_⟩
      ·rw [List.take_succ_eq_append_getElem (by rw [List.length_map];omega),B.app,ko,B.cons,List.getElem_map]
       simp only [bI];omega
      rw [List.getElem?_append] at hy
      split at hy
      ·exact l2 i y hy
      ·rename_i hi
       have : i = k:=by
        have:=(List.getElem?_eq_some_iff.1 hy).1
        simp at this;omega
       subst this
       simp [l1] at hy
       subst hy
       exact ⟨x1,x2⟩
    obtain ⟨l,⟨l1,l3⟩,l2⟩:=build len (Nat.le_refl _)
    refine ⟨.fs l,⟨l,rfl,by omega,fun y hy=>?_⟩,?_,?_⟩;rotate_left 2
    ·rw [List.take_of_length_le (by rw [List.length_map];omega)] at l3
     have:=B.sl (elems.map (·.1)) (rest.map (·.1))
     simp only [ek];omega
    ·obtain ⟨i,hi⟩:=List.mem_iff_getElem?.1 hy
     exact (l2 i y hi).1
    ·simp only [cC]
     refine ⟨some a,cap,by rw [l1],by omega,fun hne=>?_⟩
     have hlp : 0 < l.length:=List.length_pos_iff.2 hne
     obtain ⟨_,us,u1,_,u3⟩:=l2 0 l[0] (List.getElem?_eq_getElem hlp)
     have hu0 : us[0]? = some us[0]:=List.getElem?_eq_getElem (by omega)
     have h00:=u3 0 _ hu0
     have ha0 : (a.add (0 * (E (E t).elem).size)).add 0 = a:=by simp [Addr.add]
     rw [ha0] at h00
     obtain ⟨ha,hb⟩:=AN h00
     obtain ⟨b,o,s⟩:=a
     simp at ha
     subst ha
     refine ⟨b,o,_,rfl,hb,hpos,(eV _ _).2 fun i x hx=>?_⟩
     obtain ⟨_,us,u1,u2,u3⟩:=l2 i x hx
     refine ⟨us,u1,u2,(bE _ _).2 fun j v hj=>?_⟩
     have:=u3 j v hj
     rw [cZ,cZ] at this
     exact this
  ·rename_i hk5
   obtain ⟨fs,hu,hfe,_⟩:=gk hE hk5
   obtain ⟨xs,m,_,rfl,hcl,hxl,hget⟩:=DataW.trod_struct hu hy
   have hct:=iy hE hk
   rw [hct] at hcl
   have key : ∀ (gs : List (Nat × Nat)) (zs : List (DataW H × List MemPlace)) (off : Nat),ze E (AD E n) gs off (E t).size = true -> gs.length = zs.length -> (∀ (i : Nat) (p : Nat × Nat),gs[i]? = some p -> DataW.trod enc P w 0 sp hd m p.2 ((cs.drop p.1).take (P.cellsOf p.2)) = zs[i]?) ->
     ∃ ds,MD (ui E n) gs ds /\ fV w (fun b=>b < w.heap.size) ds (cs.drop off) /\ bI ds <= bks (zs.map (·.1)):=by
    intro gs
    induction gs with
    | nil=>
     intro zs off h1 _ _
     simp [ze] at h1
     refine ⟨[],rfl,?_,Nat.zero_le _⟩
     simp only [fV]
     exact List.drop_eq_nil_of_le (by omega)
    | cons p gs ihg=>
     intro zs off h1 hzl h2
     simp only [ze,Bool.and_eq_true,beq_iff_eq] at h1
     obtain ⟨⟨rfl,h1b⟩,h1c⟩:=h1
     cases zs with
     | nil=>simp at hzl
     | cons y' zs=>
     have hy':=h2 0 p rfl
     obtain ⟨x,x1,x2,x3⟩:=ih _ _ _ _ h1b hy'
     obtain ⟨ds,d1,d2,d3⟩:=ihg zs _ h1c (by simpa using hzl) (fun i q hq=>h2 (i + 1) q (by simpa using hq))
     refine ⟨x.cells ++ ds,⟨x,ds,x1,rfl,d1⟩,?_,by rw [ko,oj,List.map_cons,B.cons];omega⟩
     have hc2:=iy hE (oQ E h1b)
     rw [hc2] at x2
     have:=wu (ye x2 (vN x1)) d2
     have e : cs.drop p.1 = (cs.drop p.1).take (E p.2).size ++ cs.drop (p.1 + (E p.2).size):=by
      rw [<- List.drop_drop];exact (List.take_append_drop _ _).symm
     rw [e]
     exact this
   obtain ⟨ds,d1,d2,d3⟩:=key (E t).fields xs 0 h (by rw [<- hfe,List.length_map,hxl];simp) (fun i p hp=>by
    rw [<- hfe,List.getElem?_map] at hp
    obtain ⟨f,hf,rfl⟩:=Option.map_eq_some_iff.1 hp
    have hi' : fs[i]? = some f:=by simpa using hf
    exact hget i f hi')
   exact ⟨.agg ds,⟨ds,rfl,d1⟩,by simpa [cC] using d2,by simp only [ek];exact Nat.le_trans d3 (B.agg _)⟩
  ·rename_i hk6
   simp only [Bool.and_eq_true,beq_iff_eq] at h
   obtain ⟨xs,m,_,rfl,hcl,hxl,hget⟩:=DataW.trod_array (ir hE hk6) hy
   have hct:=iy hE hk
   rw [hct] at hcl
   have hce:=iy hE (oQ E h.1)
   have key : ∀ k,k <= (E t).len -> ∃ ys : List D,ys.length = k /\ (∀ y ∈ ys,ui E n (E t).elem y) /\ fV w (fun b=>b < w.heap.size) (ys.flatMap D.cells) (cs.take (k * (E (E t).elem).size)) /\ bI (ys.flatMap D.cells) <= bks ((xs.map (·.1)).take k):=by
    intro k
    induction k with
    | zero=>intro _;exact ⟨[],rfl,fun y hy=>absurd hy (by simp),by simp [fV],Nat.zero_le _⟩
    | succ k ihk=>
     intro hk'
     obtain ⟨ys,y1,y2,y3,y4⟩:=ihk (by omega)
     have:=hget k (by omega)
     have hxk : xs[k]? = some xs[k]:=List.getElem?_eq_getElem (by omega)
     rw [hxk,hce] at this
     obtain ⟨x,x1,x2,x3⟩:=ih _ _ _ _ h.1 this
     refine ⟨ys ++ [x],by simp [y1],fun y hy=>?_,?_,by rw [List.take_succ_eq_append_getElem (by rw [List.length_map];omega),B.app,List.flatMap_append,ko,B.cons,List.getElem_map,List.flatMap_cons,List.flatMap_nil,List.append_nil,oj];omega⟩
     ·rcases List.mem_append.1 hy with hy | hy
      ·exact y2 y hy
      ·simp at hy;subst hy;exact x1
     ·have hc:=wu y3 (ye x2 (vN x1))
      have e : cs.take ((k + 1) * (E (E t).elem).size) = cs.take (k * (E (E t).elem).size) ++ (cs.drop (k * (E (E t).elem).size)).take (E (E t).elem).size:=by
       rw [Nat.add_mul,Nat.one_mul,List.take_add]
      rw [e]
      simpa using hc
   obtain ⟨ys,y1,y2,y3,y4⟩:=key _ (Nat.le_refl _)
   refine ⟨.agg (ys.flatMap D.cells),⟨ys,rfl,y1,y2⟩,?_,?_⟩;rotate_left
   ·rw [List.take_of_length_le (by rw [List.length_map];omega)] at y4
    simp only [ek];exact Nat.le_trans y4 (B.agg _)
   simp only [cC]
   rw [h.2,<- hcl,List.take_length] at y3
   exact y3
  ·cases h
theorem H9 {n t base : Nat} {W : World} {sp : Nat -> Bool} {v : Value} {d : DataW H} {ps : List MemPlace} (ht : AD E n t = true) (hv : Value.okWide P W .any base t v) (h : DataW.Trod enc P W 0 sp true t v d ps) :
  ∃ x,ui E n t x /\ aV W (St.entry W) (.d x) v /\ ek x <= bk d:=by
 obtain ⟨fuel,h⟩:=h
 obtain ⟨x,h1,h2,h3⟩:=FD hE B t fuel _ _ ht h
 refine ⟨x,h1,⟨v.cells.toList,?_,by simpa [aC,St.entry] using h2⟩,h3⟩
 have hx : (AV.d x).isAgg = x.isAgg:=by cases x<;>rfl
 rw [hx]
 cases n with
 | zero=>exact h1.elim
 | succ n=>
  simp only [ui] at h1
  split at h1
  ·rename_i hk
   obtain ⟨k,rfl,_⟩:=h1
   obtain ⟨m,rfl⟩:=WideShapes.okWide_int (eM hE hk) hv
   simp [D.isAgg,Value.cells]
  ·rename_i hk
   obtain ⟨k,rfl⟩:=h1
   obtain ⟨m,rfl⟩:=WideShapes.okWide_bool (uc hE hk) hv
   simp [D.isAgg,Value.cells]
  ·rename_i hk
   obtain ⟨k,rfl,_⟩:=h1
   obtain ⟨m,rfl⟩:=WideShapes.okWide_string (bK hE hk) hv
   simp [D.isAgg,Value.cells]
  ·rename_i hk
   obtain ⟨k,rfl,_⟩:=h1
   obtain ⟨a,len,cap,rfl⟩:=WideShapes.okWide_slice (bd hE hk) hv
   simp [D.isAgg,Value.cells]
  ·rename_i hk
   obtain ⟨k,rfl,_⟩:=h1
   obtain ⟨fs,hu,_⟩:=gk hE hk
   obtain ⟨cs,rfl,_⟩:=WideShapes.okWide_struct hu hv
   simp [D.isAgg,Value.cells]
  ·rename_i hk
   obtain ⟨k,rfl,_⟩:=h1
   have hu:=ir hE hk
   simp only [Value.okWide,hu] at hv
   obtain ⟨cs,rfl,_⟩:=hv
   simp [D.isAgg,Value.cells]
  ·exact h1.elim
theorem rR {n base : Nat} {W : World} {sp : Nat -> Bool} : ∀ (ts : List Nat) (vs : List Value) (ds : List (DataW H)) (ps : List MemPlace),(∀ t ∈ ts,AD E n t = true) ->
  (∀ (j : Nat) t v,ts[j]? = some t -> vs[j]? = some v -> Value.okWide P W .any base t v) -> DataW.TrodAll enc P W 0 sp true ts vs ds ps -> ∃ xs,JR E n ts xs /\ cS W (St.entry W) (xs.map .d) vs /\ bI xs <= bks ds
 | [],vs,ds,ps,_,_,h=>by
  obtain ⟨rfl,_,_⟩:=trodAll_nil h
  exact ⟨[],rfl,by simp [cS],Nat.zero_le _⟩
 | t :: ts,vs,ds,ps,hk,hv,h=>by
  obtain ⟨v, vs', d, ds', p, q, rfl, rfl, rfl, h1, h2⟩ := trodAll_cons h
  obtain ⟨x,x1,x2,x3⟩:=H9 hE B (hk t (by simp)) (hv 0 t v rfl rfl) h1
  obtain ⟨xs,y1,y2,y3⟩:=rR ts vs' ds' q (fun u hu=>hk u (by simp [hu])) (fun j u w hu hw=>hv (j + 1) u w (by simpa using hu) (by simpa using hw)) h2
  obtain ⟨us,u1,u2⟩:=x2
  exact ⟨x :: xs, ⟨x, xs, rfl, x1, y1⟩, by simp only [List.map_cons, cS]; exact ⟨v, vs', us, rfl, u1, u2, y2⟩, by rw [B.cons]; simp only [bI]; omega⟩
theorem EF {f n t4 : Nat} {fn : Func} {s : ChangeSpec} {apart fresh : Bool} (hf : P.funcs[f]? = some fn) (hn : (fn.name == "runtime.NumGoroutine") = false) (hb : fn.body.isNone = false) (hl : laidOutB P = true)
  (hs : s.vars = []) (hspec : ∀ (H : Type) (ds : List (DataW H)),ds.length = fn.params.size -> s.fn H ds = { results:=[.lit (.bool true)],args:=ds }) (hres : fn.resultTypes = #[t4]) (h4 : P.underlying t4 = some .bool)
  (hok : (fn.params.toList.all fun t=>AD E n t && (P.readableRec t && decide (t < P.types.size))) = true)
  {N : Nat} (hrun : ∀ xs,JR E n fn.params.toList xs -> bI xs <= N -> bn P f (xs.map .d) [] (.d (.bool true)) []) (W : World) (hSe : mW W (fun b=>b < W.heap.size)) (base : Nat) (args : Array Value) (ds gs : List (DataW H)) (before : List MemPlace)
  (hval : ∀ (j : Nat) t v,fn.params[j]? = some t -> args[j]? = some v -> Value.okWide P W .any base t v) (hW : DataW.Whole enc P fn.params.toList s.vars apart W args.toList ds gs before) (hN : bks (ds ++ gs) <= N) :
  Calls P f args W fun e W'=>∃ v,e = .returned v /\ s.post enc P fn apart fresh false false W args v W':=by
 have hW':=hW
 obtain ⟨p,q,hA,hV,rfl,hfz,hnd⟩:=hW
 rw [hs] at hV
 obtain ⟨rfl,rfl⟩:=trodVars_none hV
 simp only [List.all_eq_true,Bool.and_eq_true,decide_eq_true_eq] at hok
 obtain ⟨xs,x1,x2,x3⟩:=rR hE B (n:=n) (base:=base) fn.params.toList args.toList ds p (fun t ht=>(hok t ht).1) (fun j t v hj hv=>hval j t v (by simpa using hj) (by simpa using hv)) hA
 rw [B.app] at hN
 have hgood:=hrun xs x1 (by omega) W.heap.size W W (St.entry W) args.toList (WR.entry W hSe) x2
 have hcall : (callFunc f args.toList.toArray).run P W = .ok (.enter f args) W:=by
  simp only [callFunc,Sem.run_bind,run_program,Result.andThen_ok,hf,hn,hb,Bool.false_eq_true,if_false,Sem.run_pure,Array.toArray_toList]
 rw [hcall] at hgood
 refine Calls.mono (hgood : Calls P f args W _) fun e W' ⟨v, he, st', hw', hv', _, _⟩ => ?_
 subst he
 have hvb:=bV.1 hv'
 subst hvb
 have hdl : ds.length = fn.params.size:=by
  have : ∀ (ts : List Nat) (vs : List Value) (ds : List (DataW H)) (ps : List MemPlace),DataW.TrodAll enc P W 0 (fun _=>true) true ts vs ds ps -> ds.length = ts.length:=by
   intro ts
   induction ts with
   | nil=>intro vs ds ps h;obtain ⟨_,rfl,_⟩:=trodAll_nil h;rfl
   | cons t ts ih=>
    intro vs ds ps h
    obtain ⟨v, vs', d, ds', p, q, rfl, rfl, rfl, h1, h2⟩ := trodAll_cons h
    simp [ih _ _ _ h2]
  have:=this _ _ _ _ hA
  simpa using this
 have hsp:=hspec H (ds ++ []) (by simpa using hdl)
 have hlt : ∀ x ∈ p,x.block < W.heap.size:=fun x hx=>by simpa using hW'.lt x (by simp [hx])
 refine ⟨_, rfl, ds, [], p ++ [], [], p, [], hW', ?_, ?_, ?_, ?_, fun h => Bool.noConfusion h⟩
 ·rw [hsp,hres]
  exact trodAll_mk1 (shut_bool h4 true)
 ·rw [hsp]
  simp only [List.append_nil]
  exact uH hl hw'.below _ _ _ _ (fun t ht=>(hok t ht).2) hA hlt
 ·rw [hsp,hs]
  rfl
 ·exact hw'.below.frame _
end
end Dw
