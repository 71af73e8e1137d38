/-
  Own lemmas, no conditions: DwZo, DwZzc, DwZq, DwZr, DwZs, DwZt, DwZu, DwZv, DwZw, DwZx, DwZy, DwZz, DwZza, DwZzb, DwZp, DwZzd, DwZze, DwUp.
-/
import Derived.Test.YtkmhnaojgkcjoaaGreatDoorGrpC
import Derived.Calls
import Derived.Sort.Row
import Derived.Sort.Grow
import Derived.RangeFuncFrom
import Derived.LoopNIn
import Derived.OrdersIn
import Derived.Lib.Overlaps
import Derived.Laws.AppendOwn
set_option linter.unusedVariables false
set_option linter.unusedSimpArgs false
namespace Dw
open Go Go.RowKit
theorem ext_below {w w' : World} {st : St} {h : Heap} {B : Nat} {W : World} (hw : WR B W w st h) (hb : Below w.heap.size w w') : Ext w st w' st where
 n:=Nat.le_refl _
 ρ:=fun _ _ _ _ h=>h
 S b hs:=⟨hs,hb.block b (hw.stab b hs)⟩
 G:=fun _ _ h=>h
 U:=⟨rfl,rfl,fun b hu=>hb.block b (hw.x.ub b hu)⟩
theorem heap_lt {w : World} {b : Nat} {o : Obj} (h : w.heap[b]? = some o) : b < w.heap.size:=by
 rcases Nat.lt_or_ge b w.heap.size with h' | h'
 ·exact h'
 ·simp [Array.getElem?_eq_none h'] at h
theorem wr_below {w w' : World} {st : St} {h : Heap} {B : Nat} {W : World} (hw : WR B W w st h) (hb : Below w.heap.size w w') : WR B W w' st h where
 below:=hw.below.trans (hb.mono hw.base)
 base:=Nat.le_trans hw.base hb.size
 len:=hw.len
 obj id o ho h2 hg:=by
  obtain ⟨r,e1,e2⟩:=hw.obj id o ho h2 hg
  refine ⟨r,e1,e2.n,e2.m,e2.k,e2.k0,fun hm=>?_⟩
  obtain ⟨f1,cs,e,fr,f2,f3,f4,f5⟩:=e2.mem hm
  have hbk : w'.heap[r.b]? = w.heap[r.b]?:=hb.block r.b (heap_lt f2)
  refine ⟨f1,cs,e,fr,hbk.trans f2,f3,f4,fun i x hx=>?_⟩
  obtain ⟨us,g1,g2,g3⟩:=f5 i x hx
  exact ⟨us,g1,aC_mono (ext_below hw hb) x us g2,memAt_mono hbk g3⟩
 mobj id o ho h2 hg:=by
  obtain ⟨r,e1,e2⟩:=hw.mobj id o ho h2 hg
  exact ⟨r,e1,e2.keep (hb.block r.b (hw.blk_lt e1 e2.m))⟩
 dom:=hw.dom
 inj:=hw.inj
 stab b hs:=Nat.lt_of_lt_of_le (hw.stab b hs) hb.size
 live:=hw.live
 frz:=hw.frz
 gho:=hw.gho
 x:=⟨hw.x.own,hw.x.low,fun b hu=>Nat.lt_of_lt_of_le (hw.x.ub b hu) hb.size⟩
theorem run_calls {P : Program} {f : Nat} {args : List AV} {h : Heap} {r : AV}
  (he : ∀ vs w,(callFunc f vs).run P w = .ok (.enter f vs) w)
  (hc : ∀ (B : Nat) (W w : World) (st : St) (vs : List Value),WR B W w st h → aVs w st args vs →
   ∃ v, (∀ w', aV w' st r v) ∧ Calls P f vs.toArray w (fun e w' => e = .returned v ∧ Below w.heap.size w w')) : Run P f args h r h := by
 intro B W w st vs hw ha
 obtain ⟨v,hv,hcl⟩:=hc B W w st vs hw ha
 rw [he]
 exact Calls.mono hcl fun e w' ⟨h1, h2⟩ => ⟨v, h1, st, wr_below hw h2, hv w', ext_below hw h2, rfl⟩
end Dw
namespace Dw
open Go Go.RowKit
theorem putCells_get {α : Type} [Inhabited α] (enc : α → Value) (off : Nat) (d : Array α) (cs : Array Value) (j : Nat) (hj : j < cs.size) : (Sort.putCells enc off d cs)[j]? = some (if off ≤ j ∧ j < off + d.size then enc d[j - off]! else cs[j]):=by
 simp [Sort.putCells,Array.getElem?_mapIdx,Array.getElem?_eq_getElem hj]
theorem put_setB {α : Type} [Inhabited α] {enc : α → Value} {w : World} {b off n : Nat} {d : Array α} {cs : Array Value} {e : Nat} {fr : Nat × Nat} {os : Array Obj} (hb : w.heap[b]? = some (.cells cs e fr)) (B : Nat) (hB : B ≤ w.heap.size) :
  Below B (setB w b (.cells (Sort.putCells enc off d cs) e fr)) (Sort.grow (Sort.putRow enc (Sort.ahead w n) b off d) os):=by
 have hlt : b < w.heap.size:=heap_lt hb
 have key : ∀ k,k < w.heap.size → (Sort.grow (Sort.putRow enc (Sort.ahead w n) b off d) os).heap[k]? = (setB w b (.cells (Sort.putCells enc off d cs) e fr)).heap[k]?:=by
  intro k hk
  rw [heap_setB]
  simp only [Sort.grow,Sort.putRow,Sort.mapBlock,Sort.ahead]
  rw [Array.getElem?_append_left (by simpa using hk),Array.getElem?_modify]
  by_cases h : b = k
  ·subst h
   rw [if_pos rfl,if_pos ⟨rfl,hlt⟩,hb]
   rfl
  ·rw [if_neg h,if_neg (fun c=>h c.1.symm)]
 exact ⟨rfl,rfl,rfl,by simp [Sort.grow,Sort.putRow,Sort.mapBlock,Sort.ahead,setB],fun k hk=>key k (by omega)⟩
theorem run_sortG {P : Program} {f : Nat} {α : Type} [Inhabited α] (enc : α → Value) (dat : α → D)
  (hd : ∀ w st x us,aC w st (.d (dat x)) us ↔ us = [enc x])
  (he : ∀ vs w,(callFunc f vs).run P w = .ok (.enter f vs) w) (l r : List α) (hlen : r.length = l.length) (h0 : l ≠ [])
  (hc : ∀ (blk off cap : Nat) (w : World),Sort.Holds enc w blk off l.toArray → blk < w.heap.size → Calls P f #[.slice (some ⟨blk,off,none⟩) l.length cap] w fun e w'=>
   e = .returned (.tuple #[]) ∧ ∃ n os,w' = Sort.grow (Sort.putRow enc (Sort.ahead w n) blk off r.toArray) os) (c : Option Nat) (more : List AV) :
  Run P f [.sl 0 0 l.length 1 c] [{ elems:=l.map (fun x=>.d (dat x)) ++ more,k:=1,st:=0 }] (.tup []) [{ elems:=r.map (fun x=>.d (dat x)) ++ more,k:=1,st:=0 }]:=by
 intro B W w st vs hw ha
 simp only [aVs] at ha
 obtain ⟨v,rr,us,rfl,h2,h3,rfl⟩:=ha
 have hv : aV w st (.sl 0 0 l.length 1 c) v:=⟨us,h2,h3⟩
 obtain ⟨a,cp,rfl,a1,a2,a3,a4,a5,a6⟩:=aV_sl.1 hv
 obtain ⟨rb,hr,hobj⟩:=hw.obj 0 _ rfl (by simp) a2
 obtain ⟨r1,r2,r3,r4⟩:=a6 rb hr
 have hl : 0 < l.length:=List.length_pos_iff.2 h0
 have hm : rb.m ≠ 0:=by omega
 have hlive:=hw.live 0 rb _ hr rfl (.inl rfl) hm
 obtain ⟨hB,cs,e,fr,m1,m2,m3,m4⟩:=hobj.mem hm
 have ha:=r3 (by omega)
 rw [r1] at ha m2 m3 m4
 simp only [Nat.zero_mul,Nat.add_zero,Nat.mul_one] at ha m2 m3 m4
 subst ha
 have hel : ∀ (j : Nat) (hj : j < l.length),cs[rb.o + j]? = some (enc (l[j]'hj)):=by
  intro j hj
  obtain ⟨us,u1,u2,u3⟩:=m4 j (.d (dat (l[j]'hj))) (by rw [List.getElem?_append_left (by simpa using hj),List.getElem?_map,List.getElem?_eq_getElem hj];rfl)
  rw [hd] at u2
  subst u2
  have:=u3.1
  rw [cell_blk m1] at this
  exact this
 have hH : Sort.Holds enc w rb.b rb.o l.toArray:=by
  intro j hj
  have hj : j < l.length:=by simpa using hj
  refine ⟨?_,frozen_blk m1 _ (m3 _ (by omega) (by omega))⟩
  rw [cell_blk m1,hel j hj]
  simp [hj]
 have hcl:=hc rb.b rb.o cp w hH (heap_lt m1)
 rw [show ([Value.slice (some ⟨rb.b,rb.o,none⟩) l.length cp] : List Value).toArray = #[.slice (some ⟨rb.b,rb.o,none⟩) l.length cp] from rfl,he]
 refine Calls.mono hcl fun ex w' ⟨h1,n,os,h4⟩=>⟨.tuple #[],h1,st,?_⟩
 subst h4
 have hw2:=hw.write (id:=0) (o:={ elems:=l.map (fun x=>.d (dat x)) ++ more,k:=1,st:=0 }) rfl rfl hr hm m1 (Sort.putCells enc rb.o r.toArray cs) (by simp [Sort.putCells]) (r.map (fun x=>.d (dat x)) ++ more) (by simp [hlen]) (fun i x hi=>by
  rw [r1]
  simp only [Nat.mul_one]
  have hil : i < r.length + more.length:=by have:=(List.getElem?_eq_some_iff.1 hi).1;simpa using this
  have hn:=hobj.n
  have hmm:=hobj.m
  simp only [List.length_append,List.length_map] at hn
  by_cases hir : i < r.length
  ·rw [List.getElem?_append_left (by simpa using hir),List.getElem?_map,List.getElem?_eq_getElem hir] at hi
   cases hi
   refine ⟨[enc (r[i]'hir)],rfl,(hd _ _ _ _).2 rfl,fun j v hj=>?_⟩
   cases j with
   | succ j=>simp at hj
   | zero=>
    cases hj
    rw [putCells_get _ _ _ _ _ (by omega),if_pos ⟨by omega,by simp;omega⟩]
    simp [hir]
  ·have hi' : (l.map (fun x=>AV.d (dat x)) ++ more)[i]? = some x:=by
    rw [List.getElem?_append_right (by simp;omega)] at hi ⊢
    simpa [hlen] using hi
   obtain ⟨us,u1,u2,u3⟩:=m4 i x hi'
   refine ⟨us,u1,u2,fun j v hj=>?_⟩
   have hj0 : j = 0:=by have:=(List.getElem?_eq_some_iff.1 hj).1;omega
   subst hj0
   have:=(memAt_iff us _).1 u3 0 v hj
   rw [cell_blk m1] at this
   have hlt2:=(Array.getElem?_eq_some_iff.1 this).1
   rw [putCells_get _ _ _ _ _ hlt2,if_neg (by simp;omega)]
   rw [Array.getElem?_eq_getElem hlt2] at this
   exact this)
 have hbl:=put_setB (enc:=enc) (off:=rb.o) (n:=n) (d:=r.toArray) (os:=os) m1
 have hsz : (setB w rb.b (.cells (Sort.putCells enc rb.o r.toArray cs) e fr)).heap.size = w.heap.size:=by simp [setB]
 have hB2:=hbl w.heap.size (Nat.le_refl _)
 rw [← hsz] at hB2
 exact ⟨wr_below hw2.1 hB2,aV_one rfl (by simp [aC,aVs]),hw2.2.trans (ext_below hw2.1 hB2),rfl⟩
theorem str_aC {w : World} {st : St} (x : List UInt8) (us : List Value) : aC w st (.d (.str x)) us ↔ us = [.string ⟨x.toArray⟩]:=by simp [aC,cC]
end Dw
namespace Dw
open Go Go.RowKit
inductive Orc where
 | clone (k : Nat)
 | fn (g : List D → Option D)
 | at (g : List AV → Heap → Option (AV × Heap))
def OrcOk (P : Program) (orc : Nat → Option Orc) : Prop:=∀ f o,orc f = some o → match o with
 | .clone k=>ClSpec P f k
 | .fn g=>∀ xs y,g xs = some y → Run P f (xs.map .d) [] (.d y) []
 | .at g => ∀ args h r h', g args h = some (r, h') → Run P f args h r h'
def evFn (g : List D → Option D) (args : List AV) (h : Heap) : Option (AV × Heap):=match vl (view 8 h) args with
 | some xs=>(match g xs with
  | some y=>if y.flat then some (.d y,h) else (match args.flatMap (reach 8 h) with
    | []=>some (.d y,h)
    | F=>some (.d y,freeze h F))
  | none=>none)
 | none=>none
def evFun2 (E : TE) (fs : List Func) (orc : Nat → Option Orc) (dm : Nat → Bool) (N : Nat) : Nat → CallF
  | 0,_,_,_=>none
  | n + 1,f,args,h=>match orc f with
   | some (.clone k)=>(match evClone k args h with
     | some r=>some r
     | none=>match fs[f]? with
       | some fn=>evBody E (evFun2 E fs orc dm N n) N fn args h
       | none=>none)
   | some (.fn g)=>evFn g args h
   | some (.at g)=>g args h
   | none=>match fs[f]? with
    | some fn => if dm f then (match vl (view 8 h) args with
        | some xs=>(match evBody E (evFun2 E fs orc dm N n) N fn (xs.map .d) [] with
          | some (a,h')=>(match view 8 h' a with
            | some x=>if x.flat then some (.d x,h) else none
            | none=>none)
          | none=>none)
        | none=>none)
      else evBody E (evFun2 E fs orc dm N n) N fn args h
    | none=>none
theorem evClone_ok {P : Program} {f k : Nat} (hc : ClSpec P f k) {args : List AV} {h h' : Heap} {r : AV} (e : evClone k args h = some (r,h')) : Run P f args h r h':=by
 unfold evClone at e
 split at e
 ·split at e
  ·rename_i l hl
   split at e
   ·rename_i h1;cases e
    simp only [Bool.and_eq_true,decide_eq_true_eq,List.all_eq_true,beq_iff_eq] at h1
    exact run_clone hc hl h1.1 (fun y hy=>(h1.2 y hy).2) (fun y hy=>(h1.2 y hy).1)
   ·cases e
  ·cases e
 ·cases e
section
variable {P : Program} {E : TE} (hE : EOK P E)
include hE
theorem evFun2_ok {fs : List Func} {orc : Nat → Option Orc} (horc : OrcOk P orc) (hfs : fs = P.funcs.toList) (hnm : fs.all (fun fn => !(fn.name == "runtime.NumGoroutine")) = true) {dm : Nat → Bool} {N : Nat} : ∀ (n f : Nat) (args : List AV) (h : Heap) (r : AV) (h' : Heap), evFun2 E fs orc dm N n f args h = some (r, h') → Run P f args h r h'
 | 0, f, args, h, r, h', e => by simp [evFun2] at e
 | n + 1, f, args, h, r, h', e => by
  simp only [evFun2] at e
  split at e
  ·rename_i k hk
   split at e
   ·rename_i r0 hr0
    cases e
    exact evClone_ok (horc f _ hk) hr0
   ·split at e
    ·rename_i fn hfn
     have hf : P.funcs[f]? = some fn:=by rw [hfs] at hfn;simpa using hfn
     have hn : (fn.name == "runtime.NumGoroutine") = false := by
      have:=(List.all_eq_true.1 hnm) fn (List.mem_of_getElem? hfn)
      simpa using this
     exact (body_ev hE (evFun2_ok horc hfs hnm n) hf hn e).1
    ·cases e
  ·rename_i g hg
   unfold evFn at e
   split at e
   ·rename_i xs hxs
    split at e
    ·rename_i y hy
     split at e
     ·rename_i hfl;cases e
      exact run_view (horc f _ hg xs y hy) hfl hxs
     ·have hz:=run_viewF (horc f _ hg xs y hy) hxs
      split at e
      ·rename_i hF;cases e
       rw [hF] at hz
       exact hz
      ·cases e
       exact hz
    ·cases e
   ·cases e
  ·rename_i g hg
   exact horc f _ hg _ _ _ _ e
  split at e
  ·rename_i fn hfn
   have hf : P.funcs[f]? = some fn:=by rw [hfs] at hfn;simpa using hfn
   have hn : (fn.name == "runtime.NumGoroutine") = false := by
    have:=(List.all_eq_true.1 hnm) fn (List.mem_of_getElem? hfn)
    simpa using this
   split at e
   ·split at e
    ·rename_i xs hxs
     split at e
     ·rename_i a h1 he
      split at e
      ·rename_i x hx
       split at e
       ·rename_i hfl;cases e
        exact run_view ((body_ev hE (evFun2_ok horc hfs hnm n) hf hn he).2 x hx rfl) hfl hxs
       ·cases e
      ·cases e
     ·cases e
    ·cases e
   ·exact (body_ev hE (evFun2_ok horc hfs hnm n) hf hn e).1
  ·cases e
theorem run_ev2 {fs : List Func} {orc : Nat → Option Orc} (horc : OrcOk P orc) (hfs : fs = P.funcs.toList) (hnm : fs.all (fun fn => !(fn.name == "runtime.NumGoroutine")) = true) (dm : Nat → Bool) (N n : Nat) {f : Nat} {xs : List D} {x : D} (e : (match evFun2 E fs orc dm N (n + 1) f (xs.map .d) [] with
  | some (a,h')=>(match view 8 h' a with
   | some y=>sameD y x
   | none=>false)
  | none=>false) = true) (hd : dm f = false) (ho : (orc f).isNone = true) : Run P f (xs.map .d) [] (.d x) []:=by
 have ho : orc f = none:=by cases h : orc f<;>simp_all
 split at e
 ·rename_i a h' he
  split at e
  ·rename_i y hy
   have:=sameD_ok _ _ e
   subst this
   simp only [evFun2,ho] at he
   split at he
   ·rename_i fn hfn
    have hf : P.funcs[f]? = some fn:=by rw [hfs] at hfn;simpa using hfn
    have hn : (fn.name == "runtime.NumGoroutine") = false := by
     have:=(List.all_eq_true.1 hnm) fn (List.mem_of_getElem? hfn)
     simpa using this
    rw [hd] at he
    simp only [Bool.false_eq_true,if_false] at he
    exact (body_ev hE (evFun2_ok hE horc hfs hnm n) hf hn he).2 _ hy rfl
   ·cases he
  ·cases e
 ·cases e
end
theorem run_leaf {P : Program} {f : Nat} {xs : List D} {y : D}
  (h : ∀ (w : World) (st : St) (vs : List Value),aVs w st (xs.map .d) vs → ∃ v,(callFunc f vs.toArray).run P w = .ok (.value v) w ∧ aV w st (.d y) v) : Run P f (xs.map .d) [] (.d y) []:=by
 intro B W w st vs hw ha
 obtain ⟨v,e,hv⟩:=h w st vs ha
 rw [e]
 exact ⟨st,hw,hv,Ext.refl _ _,rfl⟩
theorem run_leafSC {P : Program} {f : Nat} {s : List UInt8} {c : Int} {y : Int}
  (h : ∀ w,(callFunc f #[.string ⟨s.toArray⟩,.int .u8 c]).run P w = .ok (.value (.int .i64 y)) w) : Run P f [.d (.str s),.d (.int .u8 c)] [] (.d (.int .i64 y)) []:=by
 refine run_leaf (xs:=[.str s,.int .u8 c]) fun w st vs ha=>⟨.int .i64 y,?_,⟨[.int .i64 y],rfl,rfl⟩⟩
 simp only [List.map_cons,List.map_nil,aVs,aC,cC,AV.isAgg] at ha
 obtain ⟨v,r,us,rfl,hv,rfl,v2,r2,us2,rfl,hv2,rfl,rfl⟩:=ha
 simp only [Bool.false_eq_true,if_false,List.cons.injEq,and_true] at hv hv2
 subst hv;subst hv2
 exact h w
end Dw
namespace Dw
open Go Go.RowKit
def RunG (P : Program) (GW : Nat → World → Prop) : CRel:=fun f a h r h'=>∀ B W,GW B W → RunAt P B W f a h r h'
section
variable {P : Program} {GW : Nat → World → Prop}
theorem RunG.sub {B : Nat} {W : World} (h : GW B W) : Sub P B W (RunG P GW):=.of fun _ _ _ _ _ hr=>hr B W h
end
end Dw
namespace Dw
open Go Go.RowKit
theorem look_new {α : Type} {H H' : List α} {n m : Nat} {y : Option α} (hf : ∀ i,i < m → H'[i]? = H[i]?) (hn : n < m) (h : H[n]? = y) : H'[n]? = y:=(hf n hn).trans h
theorem look_set {α : Type} {H H' : List α} {n a : Nat} {y : Option α} (hf : ∀ i,i ≠ a → H'[i]? = H[i]?) (hn : n ≠ a) (h : H[n]? = y) : H'[n]? = y:=(hf n hn).trans h
theorem new_0 {o : AO} {K : Nat → Heap → Prop} (k : K 0 [o]) : newD [] o K:=k
theorem new_1 {a o : AO} {K : Nat → Heap → Prop} (k : K 1 [a,o]) : newD [a] o K:=k
theorem new_2 {a b o : AO} {K : Nat → Heap → Prop} (k : K 2 [a,b,o]) : newD [a,b] o K:=k
theorem new_3 {a b c o : AO} {K : Nat → Heap → Prop} (k : K 3 [a,b,c,o]) : newD [a,b,c] o K:=k
theorem newG {H : Heap} {o : AO} {K : Nat → Heap → Prop} (k : ∀ (n : Nat) (H' : Heap),H.length = n → H'.length = n + 1 → (∀ i,i < n → H'[i]? = H[i]?) → H'[n]? = some o → K n H') : newD H o K:=by
 rw [newD_eq]
 exact k _ _ rfl (by simp) (fun i hi=>List.getElem?_append_left hi) (by simp)
theorem setG {α : Type} {l : List α} {n : Nat} {v : α} {K : List α → Prop} (hn : n < l.length) (k : ∀ l' : List α,l'.length = l.length → (∀ i,i ≠ n → l'[i]? = l[i]?) → l'[n]? = some v → K l') : setK l n v K:=by
 rw [setK_eq]
 exact k _ (by simp) (fun i hi=>List.getElem?_set_ne (by omega)) (by simp [hn])
theorem nthG {α : Type} {l : List α} {n : Nat} {x : α} {K : α → Prop} (h : l[n]? = some x) (k : K x) : nthK l n K:=nthK_of h k
theorem srcB {l : List AV} {s len : Nat} {K : List AV → Prop} (h1 : s + len ≤ l.length) (h2 : ((l.drop s).take len).all AV.known = true) (hk : K ((l.drop s).take len)) : s + len ≤ l.length ∧ dropK l s (fun r=>onBool (r.length == len) (onOk (r.all AV.known) (K r)) (onOk ((r.take len).all AV.known) (takeK r len K))):=by
 refine ⟨h1,?_⟩
 rw [dropK_eq]
 by_cases h : ((l.drop s).length == len) = true
 ·refine onBool_t h (onOk_of ?_ ?_)
  ·have e : (l.drop s).take len = l.drop s:=List.take_of_length_le (by have:=beq_iff_eq.1 h;omega)
   rwa [e] at h2
  ·have e : (l.drop s).take len = l.drop s:=List.take_of_length_le (by have:=beq_iff_eq.1 h;omega)
   rwa [e] at hk
 ·refine onBool_f (by simpa using h) (onOk_of h2 ?_)
  rw [takeK_eq];exact hk
theorem lt_of_at {α : Type} {l : List α} {n : Nat} {x : α} (h : l[n]? = some x) : n < l.length:=(List.getElem?_eq_some_iff.1 h).1
theorem loopG1 {α : Type} {n0 : Nat} {V : List Nat} {W : Env → Heap → (Ex → Env → Heap → Prop) → Prop} {K : Ex → Env → Heap → Prop} {A : Env} {h : Heap} (m : α → Heap → Nat) (I : α → Heap → Prop) (As : α → Heap → Env) (a0 : α) (H0 : Heap)
  (h0 : I a0 H0) (hw : WkG V n0 A h (As a0 H0) H0)
  (step : ∀ (a : α) (H : Heap) (C : Env → Heap → Prop), I a H → (∀ (a' : α) A' H', I a' H' → m a' H' < m a H → sameF A' (As a' H') → C A' H') →
   W (As a H) H (fun ex A' h'=>match ex with
    | .normal=>C A' h'
    | .exit id=>K (.exit id) A' h'
    | .ret=>K .ret A' h')) : ∃ n,iterF V n0 W K n A h:=by
 have key : ∀ n A h s H0,m s H0 < n → I s H0 → WkG V n0 A h (As s H0) H0 → iterF V n0 W K n A h:=by
  intro n
  induction n with
  | zero=>intro A h s H0 hm;omega
  | succ n ih=>
   intro A h s H0 hm hI hk
   exact ⟨As s H0,H0,hk,step s H0 (iterF V n0 W K n) hI fun s' A' h' hI' hm' hk'=>ih A' h' s' h' (by omega) hI' (.inl ⟨rfl,hk'⟩)⟩
 exact ⟨m a0 H0 + 1,key _ A h a0 H0 (Nat.lt_succ_self _) h0 hw⟩
theorem loopG2 {α β : Type} {n0 : Nat} {V : List Nat} {W : Env → Heap → (Ex → Env → Heap → Prop) → Prop} {K : Ex → Env → Heap → Prop} {A : Env} {h : Heap} (m : α → β → Heap → Nat) (I : α → β → Heap → Prop) (As : α → β → Heap → Env) (a0 : α) (b0 : β) (H0 : Heap)
  (h0 : I a0 b0 H0) (hw : WkG V n0 A h (As a0 b0 H0) H0)
  (step : ∀ (a : α) (b : β) (H : Heap) (C : Env → Heap → Prop), I a b H → (∀ (a' : α) (b' : β) A' H', I a' b' H' → m a' b' H' < m a b H → sameF A' (As a' b' H') → C A' H') →
   W (As a b H) H (fun ex A' h'=>match ex with
    | .normal=>C A' h'
    | .exit id=>K (.exit id) A' h'
    | .ret=>K .ret A' h')) : ∃ n,iterF V n0 W K n A h:=
 loopG1 (α := α × β) (fun s => m s.1 s.2) (fun s => I s.1 s.2) (fun s => As s.1 s.2) (a0, b0) H0 h0 hw (fun s H C hI hC => step s.1 s.2 H C hI (fun a' b' A' h' h1 h2 h3 => hC (a', b') A' h' h1 h2 h3))
end Dw
namespace Dw
open Go Go.RowKit
abbrev KT:=List AV × Heap → Prop
abbrev KX:=Ex × List AV × Heap → Prop
structure EndQ (Q : AV → Heap → Prop) (a : AV) (h : Heap) : Prop where
 stop : Stop
 out : Q a h
noncomputable def endFQ (E : TE) (rs : List ResultVar) (Q : AV → Heap → Prop) : Ex → Env → Heap → Prop
 | .exit _,_,_=>False
 | .normal,A,h=>resF E h A rs (fun l=>EndQ Q (tupD l) h)
 | .ret,A,h=>resF E h A rs (fun l=>EndQ Q (tupD l) h)
noncomputable def BodyQ (E : TE) (R : Rel) (fn : Func) (args : List AV) (h : Heap) (Q : AV → Heap → Prop) : Prop:=
 match fn.body with
 | some c=>codeF E R [] [] h.length c (startF 0 args) h (endFQ E fn.results.toList Q)
 | none=>False
section
variable {P : Program} {E : TE} (hE : EOK P E)
include hE
end
end Dw
namespace Dw
open Go Go.RowKit
end Dw
namespace Dw
open Go Go.RowKit
end Dw
namespace Dw
open Go Go.RowKit
variable {ds : List Deferred}
def FW (ro : Option Nat) : Fence:={ Fence.wide with round:=ro }
theorem WR.move {B : Nat} {W w w' : World} {st : St} {h : Heap} (hw : WR B W w st h) (hb : Below B W w') (hB : B ≤ w'.heap.size) (hU : ∀ b,st.U b → b < w'.heap.size) (hS : ∀ b,st.S b → w'.heap[b]? = w.heap[b]?) (hO : ∀ id r,st.ρ id = some r → r.m ≠ 0 → w'.heap[r.b]? = w.heap[r.b]?) :
  WR B W w' st h ∧ ExtC w st w' st:=by
 have hE : ExtC w st w' st:=⟨Nat.le_refl _,fun _ _ _ _ h=>h,fun b hb=>⟨hb,hS b hb⟩,fun _ _ h=>h⟩
 refine ⟨⟨hb,hB,hw.len,fun id o h1 h2 h3=>?_,fun id o h1 h2 h3=>?_,hw.dom,hw.inj,fun b hb=>?_,hw.live,hw.frz,hw.gho,hw.x.own,hw.x.low,hU⟩,hE⟩
 ·obtain ⟨r,e1,e2⟩:=hw.obj id o h1 h2 h3
  exact ⟨r,e1,e2.monoC hE (hO id r e1)⟩
 ·obtain ⟨r,e1,e2⟩:=hw.mobj id o h1 h2 h3
  exact ⟨r,e1,e2.keep (hO id r e1 e2.m)⟩
 ·have h1:=hw.stab b hb
  have h2:=hS b hb
  rw [Array.getElem?_eq_getElem h1] at h2
  exact (Array.getElem?_eq_some_iff.1 h2).1
def KeepR (R : Rel) : Prop := (∀ f a h r h', R.call f a h r h' → h'[0]? = h[0]?) ∧ ∀ a h r h', ¬ R.yld a h r h'
section
variable {B : Nat} {W w : World} {st : St} {h h' : Heap}
end
section
variable {P : Program} {E : TE} (hE : EOK P E) {B : Nat} {W : World} {ro : Option Nat} {N : Nat}
include hE
end
def DrawSoundIn (ro : Option Nat) (N : Nat) (P : Program) (E : TE) : Prop:=
 ∀ {ds : List Deferred} {id : Nat} {ops : Array Oper} {B : Nat} {W w0 : World} {st0 : St} {Q : Exit → Act → World → Prop} {K : List AV → Heap → Prop} {R : Rel},Sub P B W R → (∀ T h a w,K T h → Inv ds B W w0 st0 T h a w → Q .normal a w) →
  ∀ {T : List AV} {h : Heap} {a : Act} {w : World},Inv ds B W w0 st0 T h a w → drawD E R ops.toList T h K → (Code.region id ops true).wpIn (FW ro) N P Q a w
section
variable {P : Program} {E : TE} (hE : EOK P E) {B : Nat} {W w0 : World} {st0 : St} {ro : Option Nat} {N : Nat}
variable (hD : DrawSoundIn ro N P E)
include hE hD
end
end Dw
namespace Dw
open Go Go.RowKit
variable {ds : List Deferred}
section
variable {P : Program} {E : TE} (hE : EOK P E) {B : Nat} {W w0 : World} {st0 : St} {ps : List (Nat × Nat)} {ops : Array Oper} {T0 T' TA : List AV} {h0 h' hA : Heap} {trA trO : List Stp}
variable {R : Rel} (hR : Sub P B W R) (hD : DR E R ps ops.toList T0 h0 T' h' trA trO TA hA) (hg0 : ∀ i,st0.G i → i < st0.n) (hlen : st0.n = h0.length)
include hE hR hD hg0 hlen
variable {ro : Option Nat} {N : Nat}
end
section
variable {P : Program} {E : TE} (hE : EOK P E) {B : Nat} {W w0 : World} {st0 : St} {ps : List (Nat × Nat)} {ops : Array Oper} {T0 T' TA : List AV} {h0 h' hA : Heap} {trA trO : List Stp}
variable {R : Rel} (hR : Sub P B W R) (hD : DR E R ps ops.toList T0 h0 T' h' trA trO TA hA) (hg0 : ∀ i,st0.G i → i < st0.n) (hlen : st0.n = h0.length)
include hE hR hD hg0 hlen
variable {ro : Option Nat} {N : Nat}
end
end Dw
namespace Dw
open Go Go.RowKit
def Bears (B : Nat) (W0 : World) (n : Nat) (J : Nat → (Nat → Prop) → (Nat → Prop) → World → Prop) : Prop:=
 ∀ i (O F O' F' : Nat → Prop) w w', J i O F w → Below B W0 w' → (∀ b, b < w.heap.size → (¬ O b ∨ F b) → w'.heap[b]? = w.heap[b]?) →
  (∀ b,O' b → O b ∨ w.heap.size ≤ b) → (∀ b,F b → F' b) → (∀ b,F' b → O' b) → (∀ b,O' b → n ≤ b ∧ b < w'.heap.size) → J i O' F' w'
def IterR (P : Program) (f : Nat) (first cap : List D) (xs : List (List D)) : Prop:=
 (∀ args w,(callFunc f args).run P w = .ok (.enter f args) w) ∧
 ∀ (s : Nat),s ≤ xs.length → ∀ (N l B : Nat) (W0 w : World) (S : Nat → Prop) (us vs : List Value) (J : Nat → (Nat → Prop) → (Nat → Prop) → World → Prop),
  B ≤ w.heap.size → Below B W0 w → (∀ b,S b → b < w.heap.size) → cVs w S first us → cVs w S cap vs → Bears B W0 w.heap.size J →
  (∀ i (O F : Nat → Prop) w1 xs', i ≤ s → J i O F w1 → Below B W0 w1 → (∀ b, F b → O b) → (∀ b, O b → w.heap.size ≤ b ∧ b < w1.heap.size) →
   (∃ x,xs[i]? = some x ∧ cVs w1 (fun b=>S b ∨ F b) x xs') →
   YieldAt (FW none) (N - 1) P l xs'.toArray w1 (fun e w2=>e = .returned (.bool (decide (i < s))) ∧ J (i + 1) O F w2 ∧ Below B W0 w2 ∧ w.heap.size ≤ w2.heap.size ∧ ∀ b,S b ∨ O b → w2.heap[b]? = w1.heap[b]?)) →
  J 0 (fun _=>False) (fun _=>False) w →
  CallsIn (FW none) N P f (us ++ .func (.yield l) #[] #[] :: vs).toArray w (fun e w'=>(∃ v,e = .returned v) ∧ ∃ O F,J (min (s + 1) xs.length) O F w' ∧ Below B W0 w')
def trO (i : Nat) : AO:=⟨List.replicate i (.d (.bool true)),1,0⟩
def yldT (l : Nat) (xs : List (List D)) (s : Nat) : List AV → Heap → AV → Heap → Prop:=fun args h r h'=>
 ∃ i rest ds,h = trO i :: rest ∧ i ≤ s ∧ xs[i]? = some ds ∧ args = .raw (.func (.yield l) #[] #[]) :: ds.map .d ∧ r = .d (.bool (decide (i < s))) ∧ h' = trO (i + 1) :: rest
def RI (P : Program) (l : Nat) (xs : List (List D)) (s : Nat) : Rel:=⟨fun f args h r h'=>Run P f args h r h' ∧ h'[0]? = h[0]?,yldT l xs s⟩
section
variable {P : Program} {E : TE} (hE : EOK P E) {B : Nat} {W0 : World} {S : Nat → Prop} {nc : Nat} {J : Nat → (Nat → Prop) → (Nat → Prop) → World → Prop} {s l N : Nat} {xs : List (List D)}
theorem RI.sub {W : World} : Sub P B W (RI P l xs s).mute:=.of fun _ _ _ _ _ h=>h.1 B W
theorem RI.keep : KeepR (RI P l xs s).mute:=⟨fun _ _ _ _ _ h=>h.2,fun _ _ _ _ h=>h⟩
include hE in
end
end Dw
namespace Dw
open Go Go.RowKit
abbrev RW:=Nat → List AV → Heap → (Ex → List AV → Heap → Prop) → Prop
def itK (g : AV) (K : Nat → List D → List D → Prop) : Prop:=
 match g with
 | .d (.fn f a c)=>K f a c
 | .fn f a c=>match dcells a with
  | some a=>match dcells c with
   | some c=>K f a c
   | none=>False
  | none=>False
 | _=>False
section
variable {P : Program} {E : TE} (hE : EOK P E) {B : Nat} {W : World} {R : Rel} (hR : Sub P B W R)
include hE hR
end
end Dw
namespace Dw
open Go Go.RowKit
section
variable {P : Program} {E : TE} (hE : EOK P E) {B : Nat} {W : World} {R : Rel} (hR : Sub P B W R)
include hE hR
omit hE hR in
end
def psF : List Nat → List D → Env → Option Env
 | [],[],A=>some A
 | p :: ps,x :: xs,A=>psF ps xs ((p,.d x) :: A)
 | _,_,_=>none
abbrev RWF:=Nat → Env → Heap → (Ex → Env → Heap → Prop) → Prop
def roundsF (V : List Nat) (n0 : Nat) (ps : List Nat) (W : RWF) (K : Ex → Env → Heap → Prop) : List (List D) → Env → Heap → Prop
 | [],A,h=>∃ A1 h1,WkG V n0 A h A1 h1 ∧ K .normal A1 h1
 | x :: xs,A,h=>∃ A1 h1 A2,WkG V n0 A h A1 h1 ∧ psF ps x A1 = some A2 ∧ W h1.length A2 h1 (fun ex _ h'=>match ex with
  | .normal=>roundsF V n0 ps W K xs A1 h'
  | .exit id=>K (.exit id) A1 h'
  | .ret=>K .ret A1 h')
noncomputable def roundWF (E : TE) (R : Rel) (assign body : Code) : RWF:=fun n A h K=>codeF E R [] [] n assign A h (fun ex A' h'=>match ex with
 | .normal=>codeF E R [] [] n body A' h' K
 | _=>False)
structure RangeX (P : Program) (V : List Nat) (n0 : Nat) (ps : List Nat) (W : RWF) (K : Ex → Env → Heap → Prop) (f : Nat) (a c : List D) (A : Env) (h : Heap) : Prop where
 stop : Stop
 out : ∃ xs,IterR P f a c xs ∧ roundsF V n0 ps W K xs A h
noncomputable def codeRF (P : Program) (E : TE) (R : Rel) (C V : List Nat) (n0 : Nat) (c : Code) : Env → Heap → (Ex → Env → Heap → Prop) → Prop:=
 Code.rec (motive:=fun _=>Env → Heap → (Ex → Env → Heap → Prop) → Prop)
  (skip:=fun A h K=>K .normal A h)
  (region:=fun id ops d A h K=>codeF E R C V n0 (.region id ops d) A h K)
  (seq:=fun _ _ x y A h K=>x A h (fun ex A h=>match ex with
   | .normal=>y A h K
   | .exit id=>K (.exit id) A h
   | .ret=>K .ret A h))
  (cond:=fun c _ _ x y A h K=>condF A c (fun A=>x A h K) (fun A=>y A h K))
  (block:=fun id _ x A h K=>x A h (fun ex A h=>match ex with
   | .normal=>K .normal A h
   | .exit i=>onBool (Nat.beq i id) (K .normal A h) (K (.exit i) A h)
   | .ret=>K .ret A h))
  (loop:=fun c _ A h K=>codeF E R C V n0 (.loop c) A h K)
  (rangeFunc:=fun g ps assign body _ _ A h K=>opndF A g (fun g=>itK g (fun f a c=>RangeX P V n0 ps.toList (roundWF E R assign body) K f a c A h)))
  (exit:=fun id A h K=>K (.exit id) A h)
  (scope:=fun _ _ _ _ _=>False)
  (label:=fun _ _ _ _=>False)
  (goto:=fun _ _ _ _=>False)
  (ret:=fun A h K=>K .ret A h)
  (refuse:=fun _ _ _ _=>False)
  c
section
variable {N : Nat} {P : Program} {E : TE} {R : Rel}
end
noncomputable def BodyRF (P : Program) (E : TE) (R : Rel) (C V : List Nat) (fn : Func) (args : List AV) (h : Heap) (r : AV) (h1 : Heap) : Prop:=
 match fn.body with
 | some c=>codeRF P E R C V h.length c (startF 0 args) h (endF E V h.length fn.results.toList r h1)
 | none=>False
end Dw
namespace Dw
open Go Go.RowKit
section
variable {P : Program} {l s : Nat} {xs : List (List D)} {K : KV}
end
section
variable {P : Program} {V : List Nat} {n0 : Nat} {ps : List Nat} {W : RWF} {K : Ex → Env → Heap → Prop} {f : Nat} {a c : List D} {A : Env} {h : Heap}
end
end Dw
namespace Dw
open Go
theorem flat_of_map {α : Type} {f : α → D} {l : List α} (h : ∀ x,(f x).flat = true) : ∀ y ∈ l.map f,y.flat = true:=by
 intro y hy
 obtain ⟨x,_,rfl⟩:=List.mem_map.1 hy
 exact h x
theorem run_new {P : Program} {f k : Nat} {xs : List D} {α : Type} {g : α → D} {l : List α} (hf : Run P f (xs.map .d) [] (.sl 0 0 l.length k none) [⟨(l.map g).map .d,k,0⟩]) (hg : ∀ x,(g x).flat = true) {H : Heap} {args : List AV} (hv : vl (view 8 H) args = some xs) :
  Run P f args H (.sl H.length 0 l.length k none) (H ++ [⟨(l.map g).map .d,k,0⟩]):=by
 refine run_at (σ:=[]) (F:=args.flatMap (reach 8 H)) (fl:=true) hf List.nodup_nil (fun _ _ h=>by cases h) (embs_views H args xs _ (fun _ h=>h) hv) (by simp [embH]) (fun _=>⟨rfl,fun o ho=>?_⟩) ?_ ?_
 ·simp only [List.mem_singleton] at ho
  subst ho
  exact ⟨flats_map _ (flat_of_map hg),Nat.zero_ne_one⟩
 ·simp [ren,tau]
 ·simp only [outH,setAll,List.length_nil,List.drop_zero,List.map_cons,List.map_nil,renO,rens_D,if_true]
theorem embs_views1 {σ : List Nat} (H : Heap) (args : List AV) (xs : List D) (F : List Nat) (hF : ∀ id ∈ args.flatMap (reach 8 H),id ∈ F) (hv : vl (view 8 H) args = some xs) : embs σ F H (xs.map .d) args:=by
 have:=embs_views H args xs F hF hv
 have key : ∀ (ys : List D) (bs : List AV),embs [] F H (ys.map .d) bs → embs σ F H (ys.map .d) bs:=by
  intro ys
  induction ys with
  | nil=>intro bs h;cases bs with
   | nil=>trivial
   | cons a bs=>exact h.elim
  | cons y ys ih=>intro bs h;cases bs with
   | nil=>exact h.elim
   | cons a bs=>exact ⟨h.1,ih bs h.2⟩
 exact key xs args this
theorem run_mut0 {P : Program} {f k : Nat} {xs : List D} {α : Type} {g : α → D} {l l' : List α} (hf : Run P f (.sl 0 0 l.length k none :: xs.map .d) [⟨(l.map g).map .d,k,0⟩] (.tup []) [⟨(l'.map g).map .d,k,0⟩]) (hg : ∀ x,(g x).flat = true) {H : Heap} {id : Nat} (h : H[id]? = some ⟨(l.map g).map .d,k,0⟩) {args : List AV} (hv : vl (view 8 H) args = some xs)
  (hd : ∀ j ∈ args.flatMap (reach 8 H),j ≠ id) {len : Nat} (hlen : len = l.length) : Run P f (.sl id 0 len k none :: args) H (.tup []) (H.set id ⟨(l'.map g).map .d,k,0⟩):=by
 subst hlen
 refine run_at (σ:=[id]) (F:=args.flatMap (reach 8 H)) (fl:=true) hf (by simp) (fun j hj=>by simpa using hd j hj) ⟨⟨rfl,rfl,rfl,rfl,rfl⟩,embs_views1 H args xs _ (fun _ h=>h) hv⟩ ⟨(nthK_iff _ _).2 ⟨_,h,rfl,rfl,.inl ⟨_,rfl,rfl⟩⟩,trivial⟩ (fun _=>⟨rfl,fun o ho=>?_⟩) rfl ?_
 ·simp only [List.mem_cons,List.not_mem_nil,or_false] at ho
  subst ho
  exact ⟨flats_map _ (flat_of_map hg),Nat.zero_ne_one⟩
 ·show setAll H [id] _ ++ _ = _
  simp only [setAll,List.map_cons,List.map_nil,List.length_cons,List.length_nil,List.drop_succ_cons,List.drop_zero,renO,rens_D,List.append_nil]
theorem view_ptr {n : Nat} {h : Heap} {id e off : Nat} {o : AO} {x : AV} {d : D} (h1 : h[id]? = some o) (hst : o.st < 2) (he : o.elems[e]? = some x) (hv : view n h x = some d) : view (n + 1) h (.ptr id e off) = some (.fp d off):=by
 show (match h[id]? with
  | some o=>if o.st < 2 then (match o.elems[e]? with | some x=>(view n h x).map (D.fp · off) | none=>none) else none
  | none=>none) = _
 simp only [h1,if_pos hst,he,hv,Option.map_some]
theorem nthK_row {α : Type} {g : α → D} {l : List α} {n : Nat} {K : AV → Prop} (h : n < l.length) (hk : K (.d (g l[n]))) : nthK ((l.map g).map AV.d) n K:=
 nthK_of (x:=.d (g l[n])) (by simp [h]) hk
theorem nthK_row0 {α : Type} {g : α → D} {l : List α} {n : Nat} {K : AV → Prop} (h : n < l.length) (hk : K (.d (g l[n]))) : nthK ((l.map g).map AV.d) (0 + n) K:=by
 rw [Nat.zero_add];exact nthK_row h hk
theorem nthK_rowi {α : Type} {g : α → D} {l : List α} {n : Nat} {K : AV → Prop} (m : Nat) (e : n = m) (h : m < l.length) (hk : K (.d (g l[m]))) : nthK ((l.map g).map AV.d) n K:=by
 subst e;exact nthK_row h hk
theorem setK_of {α : Type} {l : List α} {n : Nat} {v : α} {K : List α → Prop} (hk : K (l.set n v)) : setK l n v K:=by
 rw [setK_eq];exact hk
theorem set_row {α : Type} {g : α → D} (l : List α) (k : Nat) (y : α) : ((l.map g).map AV.d).set k (.d (g y)) = ((l.set k y).map g).map AV.d:=by
 rw [List.map_set,List.map_set]
end Dw
namespace Dw
open Go Go.RowKit
def AV.off0 : AV → Bool
 | .d _=>true
 | .nilS=>true
 | .sl (_ + 1) _ _ _ _=>true
 | _=>false
def St.room (st : St) (c : Nat) : St:={ st with ρ:=fun i=>if i = 0 then (st.ρ 0).map (fun r=>{ r with n:=c }) else st.ρ i }
theorem aC_room {w : World} {st : St} {c : Nat} {x : AV} {us : List Value} (hx : x.off0 = true) (h : aC w st x us) : aC w (st.room c) x us:=by
 cases x
 case d d=>simpa [aC,St.room] using h
 case nilS=>simpa [aC] using h
 case sl id s l k cp=>
  cases id with
  | zero=>cases hx
  | succ id=>simpa [aC,St.room] using h
 all_goals cases hx
theorem aVs_room {w : World} {st : St} {c : Nat} {l : List AV} {vs : List Value} (hx : ∀ x ∈ l,x.off0 = true) (h : aVs w st l vs) : aVs w (st.room c) l vs:=by
 rw [aVs_iff] at *
 refine ⟨h.1,fun i x v h1 h2=>?_⟩
 obtain ⟨us,u1,u2⟩:=h.2 i x v h1 h2
 exact ⟨us,u1,aC_room (hx x (List.mem_iff_getElem?.2 ⟨i,h1⟩)) u2⟩
theorem run_grow {P : Program} {f n k : Nat} {elems : List AV} {args : List AV} {H H' : Heap} {j len k' : Nat} {D1 : AO}
  (hn : elems.length = n) (he : ∀ x ∈ elems,x.off0 = true) (ha : ∀ x ∈ args,x.off0 = true) (hH : ∀ o ∈ H,∀ x ∈ o.elems,x.off0 = true)
  (hD : D1.st = 2) (hj : ∃ o,H'[j]? = some o ∧ o.elems.length = len ∧ o.st < 2)
  (hr : ∀ c,n ≤ c → ∃ q,Run P f (.sl 0 0 n k (some c) :: args) (⟨elems ++ List.replicate (c - n) .junk,k,0⟩ :: H) (.sl (j + 1) 0 len k' q) (D1 :: H')) :
  Run P f (.sl 0 0 n k none :: args) (⟨elems,k,0⟩ :: H) (.sl (j + 1) 0 len k' none) (D1 :: H'):=by
 intro B W w st vs hw hv
 simp only [aVs] at hv
 obtain ⟨v,vr,us,rfl,u1,u2,hvr⟩:=hv
 have hv0 : aV w st (.sl 0 0 n k none) v:=⟨us,u1,u2⟩
 obtain ⟨a,c,rfl,a1,a2,a3,a4,a5,a6⟩:=aV_sl.1 hv0
 obtain ⟨r,hr0,hobj⟩:=hw.obj 0 _ rfl (by simp) a2
 obtain ⟨r1,r2,r3,r4⟩:=a6 r hr0
 have hrn:=hobj.n
 simp only at hrn
 have hρ : (st.room c).ρ 0 = some { r with n:=c }:=by simp [St.room,hr0]
 have hne : ∀ {i},i ≠ 0 → (st.room c).ρ i = st.ρ i:=fun h=>by simp [St.room,h]
 have hsome : ∀ {i s}, (st.room c).ρ i = some s → ∃ s', st.ρ i = some s' ∧ s.b = s'.b ∧ s.m = s'.m := by
  intro i s hs
  by_cases h0 : i = 0
  ·subst h0
   rw [hρ] at hs;cases hs
   exact ⟨r,hr0,rfl,rfl⟩
  ·rw [hne h0] at hs;exact ⟨s,hs,rfl,rfl⟩
 have hget : ∀ {i o},(⟨elems ++ List.replicate (c - n) .junk,k,0⟩ :: H : Heap)[i]? = some o → (i = 0 ∧ o = ⟨elems ++ List.replicate (c - n) .junk,k,0⟩) ∨ (i ≠ 0 ∧ (⟨elems,k,0⟩ :: H : Heap)[i]? = some o):=by
  intro i o h
  cases i with
  | zero=>left;simp at h;exact ⟨rfl,h.symm⟩
  | succ i=>right;exact ⟨by simp,by simpa using h⟩
 have hmem : ∀ {i : Nat} {o : AO},(⟨elems,k,0⟩ :: H : Heap)[i]? = some o → ∀ x ∈ o.elems,x.off0 = true:=by
  intro i o h
  cases i with
  | zero=>simp at h;subst h;exact he
  | succ i=>exact hH o (List.mem_iff_getElem?.2 ⟨i,by simpa using h⟩)
 have hst : ∀ {i : Nat} {o : AO}, (⟨elems ++ List.replicate (c - n) .junk, k, 0⟩ :: H : Heap)[i]? = some o → ∃ o', (⟨elems, k, 0⟩ :: H : Heap)[i]? = some o' ∧ o'.st = o.st := by
  intro i o h
  rcases hget h with ⟨rfl,rfl⟩ | ⟨h1,h2⟩
  ·exact ⟨_,rfl,rfl⟩
  ·exact ⟨o,h2,rfl⟩
 have hcell : ∀ (i : Nat) (o : AO) (s : Blk),(⟨elems,k,0⟩ :: H : Heap)[i]? = some o → ObjC B w st s o → ObjC B w (st.room c) s o:=by
  intro i o s ho hc
  refine ⟨hc.n,hc.m,hc.k,hc.k0,fun hm=>?_⟩
  obtain ⟨b1,cs,e,fr,m1,m2,m3,m4⟩:=hc.mem hm
  refine ⟨b1,cs,e,fr,m1,m2,m3,fun q x hx=>?_⟩
  obtain ⟨us,e1,e2,e3⟩:=m4 q x hx
  exact ⟨us,e1,aC_room (hmem ho x (List.mem_iff_getElem?.2 ⟨q,hx⟩)) e2,e3⟩
 have hw1 : WR B W w (st.room c) (⟨elems ++ List.replicate (c - n) .junk,k,0⟩ :: H):=by
  refine ⟨hw.below,hw.base,by simpa [St.room] using hw.len,fun i o h1 h2 h3=>?_,fun i o h1 h2 h3=>?_,fun i s hs=>?_,fun p q s t hp hq h1 h2 h3=>?_,hw.stab,fun i s o hs h1 h2 h3=>?_,fun i s o hs h1 h2 h3=>?_,hw.gho,fun i s hs hm=>?_,hw.x.low,hw.x.ub⟩
  ·rcases hget h1 with ⟨rfl,rfl⟩ | ⟨hi,h1'⟩
   ·refine ⟨_,hρ,by simp [hn];omega,by simp;omega,hobj.k,hobj.k0,fun hm=>?_⟩
    obtain ⟨b1,cs,e,fr,m1,m2,m3,m4⟩:=hobj.mem hm
    refine ⟨b1,cs,e,fr,m1,m2,m3,fun q x hx=>?_⟩
    simp only at hx
    rw [List.getElem?_append] at hx
    split at hx
    ·obtain ⟨us,e1,e2,e3⟩:=m4 q x hx
     exact ⟨us,e1,aC_room (he x (List.mem_iff_getElem?.2 ⟨q,hx⟩)) e2,e3⟩
    ·rename_i hq
     rw [List.getElem?_replicate] at hx
     split at hx
     ·rename_i hq2
      cases hx
      have hqc : q < r.m:=by omega
      have hq1 : (q + 1) * r.k ≤ r.m * r.k:=Nat.mul_le_mul_right _ hqc
      rw [Nat.add_mul,Nat.one_mul] at hq1
      refine ⟨(cs.toList.drop (r.o + q * r.k)).take r.k,?_,trivial,(memAt_iff _ _).2 fun z v hz=>?_⟩
      ·simp only [List.length_take,List.length_drop,Array.length_toList];omega
      ·rw [List.getElem?_take] at hz
       split at hz
       ·rw [List.getElem?_drop,Array.getElem?_toList] at hz
        rw [cell_blk m1];exact hz
       ·cases hz
     ·cases hx
   ·obtain ⟨s,e1,e2⟩:=hw.obj i o h1' h2 h3
    exact ⟨s,by rw [hne hi];exact e1,hcell i o s h1' e2⟩
  ·rcases hget h1 with ⟨rfl,rfl⟩ | ⟨hi,h1'⟩
   ·simp at h2
   ·obtain ⟨s,e1,e2⟩:=hw.mobj i o h1' h2 h3
    exact ⟨s,by rw [hne hi];exact e1,e2⟩
  ·obtain ⟨s', e1, _, _⟩ := hsome hs
   obtain ⟨o,o1,o2,o3⟩:=hw.dom i s' e1
   cases i with
   | zero=>exact ⟨_,rfl,by simp,o3⟩
   | succ i=>exact ⟨o,by simpa using o1,o2,o3⟩
  ·obtain ⟨s', e1, e2, e3⟩ := hsome hp
   obtain ⟨t', f1, f2, f3⟩ := hsome hq
   exact hw.inj p q s' t' e1 f1 (by omega) (by omega) (by omega)
  ·obtain ⟨s', e1, e2, e3⟩ := hsome hs
   obtain ⟨o', f1, f2⟩ := hst h1
   rw [e2];exact hw.live i s' o' e1 f1 (by omega) (by omega)
  ·obtain ⟨s', e1, e2, e3⟩ := hsome hs
   obtain ⟨o', f1, f2⟩ := hst h1
   rw [e2];exact hw.frz i s' o' e1 f1 (by omega) (by omega)
  ·obtain ⟨s', e1, e2, e3⟩ := hsome hs
   rw [e2];exact hw.x.own i s' e1 (by omega)
 have hv1 : aV w (st.room c) (.sl 0 0 n k (some c)) (.slice a n c):=aV_sl.2 ⟨a,c,rfl,a1,a2,a3,a4,fun c' h=>by cases h;rfl,fun s hs=>by
  rw [hρ] at hs;cases hs
  exact ⟨r1,r2,r3,fun h=>by cases h⟩⟩
 obtain ⟨us1,u11,u12⟩:=hv1
 obtain ⟨q,hrun⟩:=hr c a3
 have hgood:=hrun B W w (st.room c) (.slice a n c :: vr) hw1 (by
  simp only [aVs]
  exact ⟨_,_,us1,rfl,u11,u12,aVs_room ha hvr⟩)
 refine Good.mono (fun v w' hp=>?_) hgood
 obtain ⟨st', p1, p2, p3, p4⟩ := hp
 refine ⟨st', p1, ?_, ⟨p3.n, fun i hi hg s hs => ?_, p3.S, p3.G, p3.U⟩, p4⟩
 ·obtain ⟨o,o1,o2,o3⟩:=hj
  obtain ⟨a', c', rfl, b1, b2, b3, b4, b5, b6⟩ := aV_sl.1 p2
  refine aV_sl.2 ⟨a', c', rfl, b1, b2, b3, b4, (fun _ h => by cases h), fun s hs => ?_⟩
  obtain ⟨s1,s2,s3,s4⟩:=b6 s hs
  obtain ⟨s', t1, t2⟩ := p1.obj (j + 1) o (by simpa using o1) o3 b2
  rw [hs] at t1;cases t1
  have:=t2.n
  exact ⟨s1,s2,s3,fun _=>by omega⟩
 ·have h:=p3.ρ i hi hg s hs
  by_cases h0 : i = 0
  ·subst h0
   obtain ⟨o,o1,o2,o3⟩:=p1.dom 0 s hs
   simp at o1
   subst o1
   omega
  ·rwa [hne h0] at h
theorem run_overlaps {P : Program} {f tS tR e k : Nat} (ht : P.underlying tS = some (.slice e)) (hz : ∀ w,(Go.sizeOf e).run P w = .ok k w)
  (hcall : ∀ (vs : Array Value) (w : World),(callFunc f vs).run P w = ((Extern.SlicesOverlaps.overlaps #[tS,tS] #[tR] vs).run P w).andThen fun v w'=>.ok (.value v) w')
  {h : Heap} {i1 s1 l1 i2 s2 l2 : Nat} {c1 c2 : Option Nat} (o1 o2 : AO) (h1 : h[i1]? = some o1) (h2 : h[i2]? = some o2) (t1 : o1.st < 2) (t2 : o2.st < 2) (hne : i1 ≠ i2) (hk : k ≠ 1) (p1 : 0 < l1) (p2 : 0 < l2) :
  Run P f [.sl i1 s1 l1 k c1,.sl i2 s2 l2 k c2] h (.d (.bool false)) h:=by
 intro B W w st vs hw hv
 simp only [aVs] at hv
 obtain ⟨v1,r1,us1,rfl,x1,y1,v2,r2,us2,rfl,x2,y2,rfl⟩:=hv
 have g1 : aV w st (.sl i1 s1 l1 k c1) v1:=⟨us1,x1,y1⟩
 have g2 : aV w st (.sl i2 s2 l2 k c2) v2:=⟨us2,x2,y2⟩
 obtain ⟨a,ca,rfl,a1,a2,a3,a4,a5,a6⟩:=aV_sl.1 g1
 obtain ⟨b,cb,rfl,b1,b2,b3,b4,b5,b6⟩:=aV_sl.1 g2
 obtain ⟨r,hr,hobj⟩:=hw.obj i1 o1 h1 t1 a2
 obtain ⟨q,hq,hob2⟩:=hw.obj i2 o2 h2 t2 b2
 obtain ⟨e1,e2,e3,e4⟩:=a6 r hr
 obtain ⟨f1,f2,f3,f4⟩:=b6 q hq
 have hm1 : r.m ≠ 0:=by omega
 have hm2 : q.m ≠ 0:=by omega
 obtain ⟨_,cs,el,fr,m1,m2,m3,m4⟩:=hobj.mem hm1
 obtain ⟨_,cs2,el2,fr2,n1,n2,n3,n4⟩:=hob2.mem hm2
 have ha:=e3 (by omega)
 have hb:=f3 (by omega)
 subst ha;subst hb
 have hkp:=hob2.k0
 have hq0 : 0 < q.m * q.k:=Nat.mul_pos (by omega) hkp
 have hin : (s1 + 1) * r.k ≤ r.m * r.k:=Nat.mul_le_mul_right _ (by omega)
 rw [Nat.add_mul,Nat.one_mul] at hin
 have hk1:=hobj.k0
 have hblk : r.b ≠ q.b:=fun h=>hne (hw.inj i1 i2 r q hr hq hm1 hm2 h)
 rw [hcall]
 have:=Go.Lib.run_overlaps_apart (P:=P) w tS tR e ht k hz ⟨r.b,r.o + s1 * r.k,none⟩ ⟨q.b,q.o + s2 * q.k,none⟩ l1 ca l2 cb hblk el el2 cs.size cs2.size
  (by simp [World.shape?,m1]) (by simp [World.shape?,n1]) (by omega) (frozen_blk m1 _ (m3 _ (by omega) (.inl (by omega)))) (frozen_blk m1 _ (m3 _ (by omega) (.inr ⟨by omega,rfl⟩)))
 rw [this]
 exact ⟨st,hw,aV_bool.2 rfl,Ext.refl _ _,rfl⟩
end Dw
namespace Dw
open Go Go.RowKit
theorem wr_row {B : Nat} {W w w' : World} {st : St} {h : Heap} {e : Nat} {v : Value} {ks : List Int} (hw : WR B W w st h) (hb : Below w.heap.size w w')
  (hr : w'.ownsRow w.heap.size e 1 v ks.length (ks.map (Value.int .i64))) :
  ∃ st', WR B W w' st' (h ++ [⟨ks.map (fun n => .d (.int .i64 n)), 1, 0⟩]) ∧ aV w' st' (.sl h.length 0 ks.length 1 none) v ∧ Ext w st w' st' ∧ st'.G = st.G := by
 obtain ⟨_,hv⟩:=hr
 rcases hv with ⟨rfl,hz⟩ | ⟨g,cap,cur,rfl,hg,hgc,h1,h2,h3,h4⟩
 ·have hk : ks = []:=List.eq_nil_of_length_eq_zero hz
  subst hk
  obtain ⟨w1,x1⟩:=(wr_below hw hb).void 1 (by decide)
  refine ⟨_,w1,?_,(ext_below hw hb).trans x1,rfl⟩
  refine aV_sl.2 ⟨none,0,rfl,by simp [St.push,hw.len],hw.gn,Nat.le_refl _,fun h=>absurd rfl h,(fun _ h=>nomatch h),fun r hr=>?_⟩
  rw [St.push_at hw.len.symm] at hr
  cases hr
  exact ⟨rfl,Nat.le_refl _,fun h=>absurd rfl h,fun _=>⟨Nat.le_refl _,Nat.le_refl _⟩⟩
 ·simp only [Nat.mul_one] at h3 h4
  have hne : ∀ {i},i < w.heap.size → i ≠ g:=fun hi=>by omega
  obtain ⟨w1,x1⟩:=hw.core (r:=⟨g,0,1,ks.length,cap⟩) (o:=⟨ks.map (fun n=>.d (.int .i64 n)),1,0⟩) (hw.below.trans (hb.mono hw.base)) hb.size (fun i hi _=>hb.block i hi)
   (fun hS=>absurd rfl (hne (hw.stab _ hS))) (fun hU=>absurd rfl (hne (hw.x.ub _ hU))) (fun id s hs hm=>hne (hw.blk_lt hs hm))
   ⟨by simp,h1,rfl,Nat.zero_lt_one,fun _=>⟨Nat.le_trans hw.base hg,cur,e,(0,0),hgc,by simp;omega,fun j _ _ hj=>by simp at hj,fun i x hx=>by
    rw [List.getElem?_map] at hx
    obtain ⟨n,hn,rfl⟩:=Option.map_eq_some_iff.1 hx
    refine ⟨[.int .i64 n],rfl,by simp [aC,cC],(memAt_iff _ _).2 fun j u hj=>?_⟩
    cases j with
    | succ j=>simp at hj
    | zero=>
     cases hj
     rw [cell_blk hgc]
     have hil : i < ks.length:=(List.getElem?_eq_some_iff.1 hn).1
     have : (cur.toList.take ks.length)[i]? = some (.int .i64 n):=by rw [h4,List.getElem?_map,hn];rfl
     rw [List.getElem?_take,if_pos hil,Array.getElem?_toList] at this
     simpa using this⟩⟩ rfl
  refine ⟨_,w1,?_,x1,rfl⟩
  refine aV_sl.2 ⟨some ⟨g,0,none⟩,cap,rfl,by simp [St.push,hw.len],hw.gn,h1,fun _=>⟨g,0,rfl⟩,(fun _ h=>nomatch h),fun r hr=>?_⟩
  rw [St.push_at hw.len.symm] at hr
  cases hr
  exact ⟨rfl,by simp,fun _=>rfl,fun _=>⟨by simp,by simp;omega⟩⟩
theorem run_sortedKeys {P : Program} {f g e : Nat} {L : List (Int × D)} (hL : ∀ p ∈ L,scalD p.2 = true) (ks : List Int)
  (he : ∀ vs w,(callFunc f vs).run P w = .ok (.enter f vs) w)
  (hc : ∀ (w : World) (Bm Bo b : Nat) (es : Array MapEntry),w.heap[b]? = some (.map es es.size) → EntsAt (D.int .i64) es.toList L → (∀ (i : Nat) (x : MapEntry),es[i]? = some x → x.born = i) → Bm < w.heap.size → w.cell? ⟨Bm,Bo,none⟩ = some (.map (some b)) →
   Calls P f #[.func (.func g) #[] #[.pointer (some ⟨Bm,Bo,none⟩)]] w fun ex w'=>∃ v,ex = .returned v ∧ w'.ownsRow w.heap.size e 1 v ks.length (ks.map (Value.int .i64)) ∧ Below w.heap.size w w') :
  Run P f [.fn g [] [.ptr 0 0 0]] [⟨[.mp 1],1,0⟩,⟨L.map (entA .i64),1,3⟩] (.sl 2 0 ks.length 1 none) [⟨[.mp 1],1,0⟩,⟨L.map (entA .i64),1,3⟩,⟨ks.map (fun n=>.d (.int .i64 n)),1,0⟩]:=by
 intro B W w st vs hw ha
 simp only [aVs] at ha
 obtain ⟨v,rr,us,rfl,h2,h3,rfl⟩:=ha
 simp [AV.isAgg] at h2
 subst h2
 simp only [aC] at h3
 obtain ⟨as1,ts,h4,h5,h6⟩:=h3
 cases h4
 simp only [aVs] at h5 h6
 subst h5
 obtain ⟨v1,rr1,us1,rfl,g2,g3,rfl⟩:=h6
 obtain ⟨bm,bo,rfl,p1,p2,p3⟩:=aV_ptr.1 ⟨us1,g2,g3⟩
 obtain ⟨r0,hr0,ho⟩:=hw.obj 0 _ rfl (by decide) p2
 obtain ⟨rfl,rfl⟩:=p3 r0 hr0
 have hm0 : r0.m ≠ 0:=by have:=ho.n;have:=ho.m;simp at *;omega
 obtain ⟨q1,cs,e0,fr,m1,m2,m3,m4⟩:=ho.mem hm0
 obtain ⟨us0,u1,u2,u3⟩:=m4 0 (.mp 1) rfl
 obtain ⟨bp,rfl,n1,n2,n3⟩:=u2
 obtain ⟨r1,hr1,hm1⟩:=hw.mobj 1 _ rfl rfl n2
 have:=n3 r1 hr1
 subst this
 obtain ⟨es,e1,e2,e3⟩:=ents_at (mk:=D.int .i64) (L:=L) hm1.at_ rfl
 have hcell:=(memAt_iff _ _).1 u3 0 _ rfl
 simp only [Nat.zero_mul,Nat.add_zero] at hcell
 have hcl:=hc w r0.b r0.o r1.b es e1 e2 e3 (heap_lt m1) hcell
 show Good P _ ((callFunc f #[.func (.func g) #[] #[.pointer (some ⟨r0.b,r0.o + 0 * r0.k + 0,none⟩)]]).run P w)
 rw [Nat.zero_mul,Nat.add_zero,he]
 refine Calls.mono hcl fun ex w' ⟨v,h1,h2,h3⟩=>⟨v,h1,?_⟩
 exact wr_row hw h3 h2
end Dw
namespace Dw
open Go Go.RowKit Go.ChangeShapes
mutual
def bulkD : D → Nat
 | .str s=>s.length + 1
 | .fs l=>bulkDs l + 1
 | .agg l=>bulkDs l
 | _=>1
def bulkDs : List D → Nat
 | []=>0
 | x :: l=>bulkD x + bulkDs l
end
theorem bulkDs_app : ∀ (a b : List D),bulkDs (a ++ b) = bulkDs a + bulkDs b
 | [],b=>by simp [bulkDs]
 | x :: a,b=>by
  simp only [List.cons_append,bulkDs,bulkDs_app a b];omega
theorem bulkDs_cells (x : D) : bulkDs x.cells = bulkD x:=by
 cases x<;>simp [D.cells,bulkDs,bulkD]
structure Bulk {H : Type} (bk : DataW H → Nat) (bks : List (DataW H) → Nat) : Prop where
 one : ∀ d,1 ≤ bk d
 str : ∀ s : List UInt8,s.length + 1 ≤ bk (.lit (.string s))
 sl : ∀ a b,bks a + 1 ≤ bk (.slice a b)
 agg : ∀ a,bks a ≤ bk (.agg a)
 nil : bks [] = 0
 cons : ∀ d l,bks (d :: l) = bk d + bks l
theorem Bulk.app {H : Type} {bk : DataW H → Nat} {bks : List (DataW H) → Nat} (B : Bulk bk bks) (a b : List (DataW H)) : bks (a ++ b) = bks a + bks b:=by
 induction a with
 | nil=>simp [B.nil]
 | cons x a ih=>rw [List.cons_append,B.cons,B.cons,ih];omega
section
variable {P : Program} {E : TE} (hE : EOK P E) {H : Type} {enc : TypeId × Value → H} {w : World} {sp : Nat → Bool} {hd : Bool} {bk : DataW H → Nat} {bks : List (DataW H) → Nat} (B : Bulk bk bks)
include hE B
theorem trod_shpB {n : Nat} : ∀ (t fuel : Nat) (cs : List Value) (y : DataW H × List MemPlace),okT E n t = true → DataW.trod enc P w 0 sp hd fuel t cs = some y →
  ∃ x,shp E n t x ∧ cC w (fun b=>b < w.heap.size) x cs ∧ bulkD x ≤ bk y.1:=by
 induction n with
 | zero=>intro t fuel cs y h;simp [okT] at h
 | succ n ih=>
  intro t fuel cs y h hy
  have hk:=okT_kind E h
  have h0:=h
  simp only [okT] at h
  simp only [shp]
  split at h
  ·rename_i hk1
   obtain ⟨k,rfl,rfl,hw⟩:=DataW.trod_int (und_int hE hk1) hy
   exact ⟨.int (E t).ik k,⟨k,rfl,hw⟩,by simp [cC],B.one _⟩
  ·rename_i hk1
   obtain ⟨b,rfl,rfl⟩:=DataW.trod_bool (und_bool hE hk1) hy
   exact ⟨.bool b,⟨b,rfl⟩,by simp [cC],B.one _⟩
  ·rename_i hk1
   obtain ⟨s,rfl,rfl,hs⟩:=DataW.trod_string (und_string hE hk1) hy
   exact ⟨.str s.data.toList,⟨_,rfl,by rw [Array.length_toList];exact hs⟩,by simp [cC],B.str _⟩
  ·rename_i hk4
   have hek:=okT_kind E h
   have hce:=cellsOf_eq hE hek
   have hpos:=(hE.facts hek).pos
   rcases DataW.trod_slice (und_slice hE hk4) hy with ⟨rfl,rfl⟩ | ⟨a,len,cap,elems,rest,m,_,rfl,rfl,_,hlc,hcm,hel,hget,_⟩
   ·exact ⟨.fs [],⟨[],rfl,Nat.zero_le _,fun y hy=>absurd hy (by simp)⟩,by simp [cC],B.one _⟩
   ·have each : ∀ i (hi : i < elems.length),∃ x,(shp E n (E t).elem x ∧ bulkD x ≤ bk elems[i].1) ∧ ∃ us,us.length = (E (E t).elem).size ∧ cC w (fun b=>b < w.heap.size) x us ∧ ∀ j v,us[j]? = some v → w.cell? ((a.add (i * (E (E t).elem).size)).add j) = some v:=by
     intro i hi
     have:=hget i (by omega)
     have hei : elems[i]? = some elems[i]:=List.getElem?_eq_getElem (by omega)
     rw [hei] at this
     obtain ⟨us,u1,u2⟩:=Option.bind_eq_some_iff.1 this
     obtain ⟨l1,l2⟩:=cells?_mem u1
     obtain ⟨x,x1,x2,x3⟩:=ih _ _ _ _ h u2
     rw [hce] at l1 l2
     exact ⟨x,⟨x1,x3⟩,us,l1,x2,l2⟩
    have build : ∀ k,k ≤ len → ∃ l : List D,(l.length = k ∧ bulkDs l ≤ bks ((elems.map (·.1)).take k)) ∧ ∀ i x,l[i]? = some x → shp E n (E t).elem x ∧ ∃ us,us.length = (E (E t).elem).size ∧ cC w (fun b=>b < w.heap.size) x us ∧ ∀ j v,us[j]? = some v → w.cell? ((a.add (i * (E (E t).elem).size)).add j) = some v:=by
     intro k
     induction k with
     | zero=>intro _;exact ⟨[],⟨rfl,Nat.zero_le _⟩,fun i x hx=>by simp at hx⟩
     | succ k ihk=>
      intro hk'
      obtain ⟨l,⟨l1,l3⟩,l2⟩:=ihk (by omega)
      obtain ⟨x,⟨x1,x3⟩,x2⟩:=each k (by omega)
      refine ⟨l ++ [x],⟨by simp [l1],?_⟩,fun i y hy=>?_⟩
      ·rw [List.take_succ_eq_append_getElem (by rw [List.length_map];omega),B.app,bulkDs_app,B.cons,List.getElem_map]
       simp only [bulkDs];omega
      rw [List.getElem?_append] at hy
      split at hy
      ·exact l2 i y hy
      ·rename_i hi
       have : i = k:=by
        have:=(List.getElem?_eq_some_iff.1 hy).1
        simp at this;omega
       subst this
       simp [l1] at hy
       subst hy
       exact ⟨x1,x2⟩
    obtain ⟨l,⟨l1,l3⟩,l2⟩:=build len (Nat.le_refl _)
    refine ⟨.fs l,⟨l,rfl,by omega,fun y hy=>?_⟩,?_,?_⟩;rotate_left 2
    ·rw [List.take_of_length_le (by rw [List.length_map];omega)] at l3
     have:=B.sl (elems.map (·.1)) (rest.map (·.1))
     simp only [bulkD];omega
    ·obtain ⟨i,hi⟩:=List.mem_iff_getElem?.1 hy
     exact (l2 i y hi).1
    ·simp only [cC]
     refine ⟨some a,cap,by rw [l1],by omega,fun hne=>?_⟩
     have hlp : 0 < l.length:=List.length_pos_iff.2 hne
     obtain ⟨_,us,u1,_,u3⟩:=l2 0 l[0] (List.getElem?_eq_getElem hlp)
     have hu0 : us[0]? = some us[0]:=List.getElem?_eq_getElem (by omega)
     have h00:=u3 0 _ hu0
     have ha0 : (a.add (0 * (E (E t).elem).size)).add 0 = a:=by simp [Addr.add]
     rw [ha0] at h00
     obtain ⟨ha,hb⟩:=cell_plain h00
     obtain ⟨b,o,s⟩:=a
     simp at ha
     subst ha
     refine ⟨b,o,_,rfl,hb,hpos,(cEls_iff _ _).2 fun i x hx=>?_⟩
     obtain ⟨_,us,u1,u2,u3⟩:=l2 i x hx
     refine ⟨us,u1,u2,(memAt_iff _ _).2 fun j v hj=>?_⟩
     have:=u3 j v hj
     rw [add_none,add_none] at this
     exact this
  ·rename_i hk5
   obtain ⟨fs,hu,hfe,_⟩:=und_struct hE hk5
   obtain ⟨xs,m,_,rfl,hcl,hxl,hget⟩:=DataW.trod_struct hu hy
   have hct:=cellsOf_eq hE hk
   rw [hct] at hcl
   have key : ∀ (gs : List (Nat × Nat)) (zs : List (DataW H × List MemPlace)) (off : Nat),laidF E (okT E n) gs off (E t).size = true → gs.length = zs.length → (∀ (i : Nat) (p : Nat × Nat),gs[i]? = some p → DataW.trod enc P w 0 sp hd m p.2 ((cs.drop p.1).take (P.cellsOf p.2)) = zs[i]?) →
     ∃ ds,shpF (shp E n) gs ds ∧ cCs w (fun b=>b < w.heap.size) ds (cs.drop off) ∧ bulkDs ds ≤ bks (zs.map (·.1)):=by
    intro gs
    induction gs with
    | nil=>
     intro zs off h1 _ _
     simp [laidF] at h1
     refine ⟨[],rfl,?_,Nat.zero_le _⟩
     simp only [cCs]
     exact List.drop_eq_nil_of_le (by omega)
    | cons p gs ihg=>
     intro zs off h1 hzl h2
     simp only [laidF,Bool.and_eq_true,beq_iff_eq] at h1
     obtain ⟨⟨rfl,h1b⟩,h1c⟩:=h1
     cases zs with
     | nil=>simp at hzl
     | cons y' zs=>
     have hy':=h2 0 p rfl
     obtain ⟨x,x1,x2,x3⟩:=ih _ _ _ _ h1b hy'
     obtain ⟨ds,d1,d2,d3⟩:=ihg zs _ h1c (by simpa using hzl) (fun i q hq=>h2 (i + 1) q (by simpa using hq))
     refine ⟨x.cells ++ ds,⟨x,ds,x1,rfl,d1⟩,?_,by rw [bulkDs_app,bulkDs_cells,List.map_cons,B.cons];omega⟩
     have hc2:=cellsOf_eq hE (okT_kind E h1b)
     rw [hc2] at x2
     have:=cCs_app (cC_piece x2 (shp_piece x1)) d2
     have e : cs.drop p.1 = (cs.drop p.1).take (E p.2).size ++ cs.drop (p.1 + (E p.2).size):=by
      rw [← List.drop_drop];exact (List.take_append_drop _ _).symm
     rw [e]
     exact this
   obtain ⟨ds,d1,d2,d3⟩:=key (E t).fields xs 0 h (by rw [← hfe,List.length_map,hxl];simp) (fun i p hp=>by
    rw [← hfe,List.getElem?_map] at hp
    obtain ⟨f,hf,rfl⟩:=Option.map_eq_some_iff.1 hp
    have hi' : fs[i]? = some f:=by simpa using hf
    exact hget i f hi')
   exact ⟨.agg ds,⟨ds,rfl,d1⟩,by simpa [cC] using d2,by simp only [bulkD];exact Nat.le_trans d3 (B.agg _)⟩
  ·rename_i hk6
   simp only [Bool.and_eq_true,beq_iff_eq] at h
   obtain ⟨xs,m,_,rfl,hcl,hxl,hget⟩:=DataW.trod_array (und_array hE hk6) hy
   have hct:=cellsOf_eq hE hk
   rw [hct] at hcl
   have hce:=cellsOf_eq hE (okT_kind E h.1)
   have key : ∀ k,k ≤ (E t).len → ∃ ys : List D,ys.length = k ∧ (∀ y ∈ ys,shp E n (E t).elem y) ∧ cCs w (fun b=>b < w.heap.size) (ys.flatMap D.cells) (cs.take (k * (E (E t).elem).size)) ∧ bulkDs (ys.flatMap D.cells) ≤ bks ((xs.map (·.1)).take k):=by
    intro k
    induction k with
    | zero=>intro _;exact ⟨[],rfl,fun y hy=>absurd hy (by simp),by simp [cCs],Nat.zero_le _⟩
    | succ k ihk=>
     intro hk'
     obtain ⟨ys,y1,y2,y3,y4⟩:=ihk (by omega)
     have:=hget k (by omega)
     have hxk : xs[k]? = some xs[k]:=List.getElem?_eq_getElem (by omega)
     rw [hxk,hce] at this
     obtain ⟨x,x1,x2,x3⟩:=ih _ _ _ _ h.1 this
     refine ⟨ys ++ [x],by simp [y1],fun y hy=>?_,?_,by rw [List.take_succ_eq_append_getElem (by rw [List.length_map];omega),B.app,List.flatMap_append,bulkDs_app,B.cons,List.getElem_map,List.flatMap_cons,List.flatMap_nil,List.append_nil,bulkDs_cells];omega⟩
     ·rcases List.mem_append.1 hy with hy | hy
      ·exact y2 y hy
      ·simp at hy;subst hy;exact x1
     ·have hc:=cCs_app y3 (cC_piece x2 (shp_piece x1))
      have e : cs.take ((k + 1) * (E (E t).elem).size) = cs.take (k * (E (E t).elem).size) ++ (cs.drop (k * (E (E t).elem).size)).take (E (E t).elem).size:=by
       rw [Nat.add_mul,Nat.one_mul,List.take_add]
      rw [e]
      simpa using hc
   obtain ⟨ys,y1,y2,y3,y4⟩:=key _ (Nat.le_refl _)
   refine ⟨.agg (ys.flatMap D.cells),⟨ys,rfl,y1,y2⟩,?_,?_⟩;rotate_left
   ·rw [List.take_of_length_le (by rw [List.length_map];omega)] at y4
    simp only [bulkD];exact Nat.le_trans y4 (B.agg _)
   simp only [cC]
   rw [h.2,← hcl,List.take_length] at y3
   exact y3
  ·cases h
theorem trod_cVB {n t base : Nat} {W : World} {sp : Nat → Bool} {v : Value} {d : DataW H} {ps : List MemPlace} (ht : okT E n t = true) (hv : Value.okWide P W .any base t v) (h : DataW.Trod enc P W 0 sp true t v d ps) :
  ∃ x,shp E n t x ∧ aV W (St.entry W) (.d x) v ∧ bulkD x ≤ bk d:=by
 obtain ⟨fuel,h⟩:=h
 obtain ⟨x,h1,h2,h3⟩:=trod_shpB hE B t fuel _ _ ht h
 refine ⟨x,h1,⟨v.cells.toList,?_,by simpa [aC,St.entry] using h2⟩,h3⟩
 have hx : (AV.d x).isAgg = x.isAgg:=by cases x<;>rfl
 rw [hx]
 cases n with
 | zero=>exact h1.elim
 | succ n=>
  simp only [shp] at h1
  split at h1
  ·rename_i hk
   obtain ⟨k,rfl,_⟩:=h1
   obtain ⟨m,rfl⟩:=WideShapes.okWide_int (und_int hE hk) hv
   simp [D.isAgg,Value.cells]
  ·rename_i hk
   obtain ⟨k,rfl⟩:=h1
   obtain ⟨m,rfl⟩:=WideShapes.okWide_bool (und_bool hE hk) hv
   simp [D.isAgg,Value.cells]
  ·rename_i hk
   obtain ⟨k,rfl,_⟩:=h1
   obtain ⟨m,rfl⟩:=WideShapes.okWide_string (und_string hE hk) hv
   simp [D.isAgg,Value.cells]
  ·rename_i hk
   obtain ⟨k,rfl,_⟩:=h1
   obtain ⟨a,len,cap,rfl⟩:=WideShapes.okWide_slice (und_slice hE hk) hv
   simp [D.isAgg,Value.cells]
  ·rename_i hk
   obtain ⟨k,rfl,_⟩:=h1
   obtain ⟨fs,hu,_⟩:=und_struct hE hk
   obtain ⟨cs,rfl,_⟩:=WideShapes.okWide_struct hu hv
   simp [D.isAgg,Value.cells]
  ·rename_i hk
   obtain ⟨k,rfl,_⟩:=h1
   have hu:=und_array hE hk
   simp only [Value.okWide,hu] at hv
   obtain ⟨cs,rfl,_⟩:=hv
   simp [D.isAgg,Value.cells]
  ·exact h1.elim
theorem args_dataB {n base : Nat} {W : World} {sp : Nat → Bool} : ∀ (ts : List Nat) (vs : List Value) (ds : List (DataW H)) (ps : List MemPlace),(∀ t ∈ ts,okT E n t = true) →
  (∀ (j : Nat) t v,ts[j]? = some t → vs[j]? = some v → Value.okWide P W .any base t v) → DataW.TrodAll enc P W 0 sp true ts vs ds ps → ∃ xs,shps E n ts xs ∧ aVs W (St.entry W) (xs.map .d) vs ∧ bulkDs xs ≤ bks ds
 | [],vs,ds,ps,_,_,h=>by
  obtain ⟨rfl,_,_⟩:=trodAll_nil h
  exact ⟨[],rfl,by simp [aVs],Nat.zero_le _⟩
 | t :: ts,vs,ds,ps,hk,hv,h=>by
  obtain ⟨v, vs', d, ds', p, q, rfl, rfl, rfl, h1, h2⟩ := trodAll_cons h
  obtain ⟨x,x1,x2,x3⟩:=trod_cVB hE B (hk t (by simp)) (hv 0 t v rfl rfl) h1
  obtain ⟨xs,y1,y2,y3⟩:=args_dataB ts vs' ds' q (fun u hu=>hk u (by simp [hu])) (fun j u w hu hw=>hv (j + 1) u w (by simpa using hu) (by simpa using hw)) h2
  obtain ⟨us,u1,u2⟩:=x2
  exact ⟨x :: xs, ⟨x, xs, rfl, x1, y1⟩, by simp only [List.map_cons, aVs]; exact ⟨v, vs', us, rfl, u1, u2, y2⟩, by rw [B.cons]; simp only [bulkDs]; omega⟩
theorem law_liftU {f n t4 : Nat} {fn : Func} {s : ChangeSpec} {apart fresh : Bool} (hf : P.funcs[f]? = some fn) (hn : (fn.name == "runtime.NumGoroutine") = false) (hb : fn.body.isNone = false) (hl : laidOutB P = true)
  (hs : s.vars = []) (hspec : ∀ (H : Type) (ds : List (DataW H)),ds.length = fn.params.size → s.fn H ds = { results:=[.lit (.bool true)],args:=ds }) (hres : fn.resultTypes = #[t4]) (h4 : P.underlying t4 = some .bool)
  (hok : (fn.params.toList.all fun t=>okT E n t && (P.readableRec t && decide (t < P.types.size))) = true)
  {N : Nat} (hrun : ∀ xs,shps E n fn.params.toList xs → bulkDs xs ≤ N → Run P f (xs.map .d) [] (.d (.bool true)) []) (W : World) (base : Nat) (args : Array Value) (ds gs : List (DataW H)) (before : List MemPlace)
  (hval : ∀ (j : Nat) t v,fn.params[j]? = some t → args[j]? = some v → Value.okWide P W .any base t v) (hW : DataW.Whole enc P fn.params.toList s.vars apart W args.toList ds gs before) (hN : bks (ds ++ gs) ≤ N) :
  Calls P f args W fun e W'=>∃ v,e = .returned v ∧ s.post enc P fn apart fresh false false W args v W':=by
 have hW':=hW
 obtain ⟨p,q,hA,hV,rfl,hfz,hnd⟩:=hW
 rw [hs] at hV
 obtain ⟨rfl,rfl⟩:=trodVars_none hV
 simp only [List.all_eq_true,Bool.and_eq_true,decide_eq_true_eq] at hok
 obtain ⟨xs,x1,x2,x3⟩:=args_dataB hE B (n:=n) (base:=base) fn.params.toList args.toList ds p (fun t ht=>(hok t ht).1) (fun j t v hj hv=>hval j t v (by simpa using hj) (by simpa using hv)) hA
 rw [B.app] at hN
 have hgood:=hrun xs x1 (by omega) W.heap.size W W (St.entry W) args.toList (WR.entry W) x2
 have hcall : (callFunc f args.toList.toArray).run P W = .ok (.enter f args) W:=by
  simp only [callFunc,Sem.run_bind,run_program,Result.andThen_ok,hf,hn,hb,Bool.false_eq_true,if_false,Sem.run_pure,Array.toArray_toList]
 rw [hcall] at hgood
 refine Calls.mono (hgood : Calls P f args W _) fun e W' ⟨v, he, st', hw', hv', _, _⟩ => ?_
 subst he
 have hvb:=aV_bool.1 hv'
 subst hvb
 have hdl : ds.length = fn.params.size:=by
  have : ∀ (ts : List Nat) (vs : List Value) (ds : List (DataW H)) (ps : List MemPlace),DataW.TrodAll enc P W 0 (fun _=>true) true ts vs ds ps → ds.length = ts.length:=by
   intro ts
   induction ts with
   | nil=>intro vs ds ps h;obtain ⟨_,rfl,_⟩:=trodAll_nil h;rfl
   | cons t ts ih=>
    intro vs ds ps h
    obtain ⟨v, vs', d, ds', p, q, rfl, rfl, rfl, h1, h2⟩ := trodAll_cons h
    simp [ih _ _ _ h2]
  have:=this _ _ _ _ hA
  simpa using this
 have hsp:=hspec H (ds ++ []) (by simpa using hdl)
 have hlt : ∀ x ∈ p,x.block < W.heap.size:=fun x hx=>by simpa using hW'.lt x (by simp [hx])
 refine ⟨_, rfl, ds, [], p ++ [], [], p, [], hW', ?_, ?_, ?_, ?_, fun h => Bool.noConfusion h⟩
 ·rw [hsp,hres]
  exact trodAll_mk1 (shut_bool h4 true)
 ·rw [hsp]
  simp only [List.append_nil]
  exact args_stay hl hw'.below _ _ _ _ (fun t ht=>(hok t ht).2) hA hlt
 ·rw [hsp,hs]
  rfl
 ·exact hw'.below.frame _
end
end Dw
