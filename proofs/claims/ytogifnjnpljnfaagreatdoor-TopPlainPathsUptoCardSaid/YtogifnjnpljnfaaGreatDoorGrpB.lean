/-
  Own lemmas, no conditions: DwN, DwO, DwP, DwPm, DwQ, DwR, DwS, DwT, DwU, DwV, DwW, DwX, DwY, DwZa.
-/
import Derived.Test.YtogifnjnpljnfaaGreatDoorGrpA
import Derived.Laws.BytesArg
import Derived.Lib.ConvBytes
import Derived.MapKept
set_option linter.unusedVariables false
set_option linter.unusedSimpArgs false
namespace Dw
open Go Go.RowKit
theorem zF (l : List AV) (s : Nat) (new : List AV) : eI l s new = FP l s new:=rfl
theorem uU {w : World} {st : St} {k : Nat} {l : List AV} {vs : List Value} (h : dz w st k l vs) {i : Nat} {x : AV} (hx : l[i]? = some x) :
  ∃ us,us.length = k /\ aC w st x us /\ ∀ (j : Nat) (v : Value),us[j]? = some v -> j < k /\ vs[i * k + j]? = some v:=by
 have hi : i < l.length:=(List.getElem?_eq_some_iff.1 hx).1
 refine ⟨_,sK h.1 hi,h.2 i x hx,fun j v hj=>?_⟩
 rw [List.getElem?_take] at hj
 split at hj
 ·rename_i hjk
  rw [List.getElem?_drop] at hj
  exact ⟨hjk,hj⟩
 ·cases hj
theorem WR.putFlat {P : Program} {B : Nat} {W w : World} {st : St} {h : ae} (hw : WR B W w st h) {id s : Nat} {o : AO} {r : qR} {new : List AV} {vs : List Value} (ho : h[id]? = some o) (hlive : o.st = 0) (hg : ¬ st.G id)
  (hr : st.ρ id = some r) (hm : r.m ≠ 0) (hf : dz w st r.k new vs) (hv : ∀ v ∈ vs,fM v = true) (hb : s + new.length <= o.elems.length) :
  ∃ w', (storeCells (⟨r.b, r.o + s * r.k, none⟩ : Addr) vs).run P w = .ok () w' /\ WR B W w' st (h.set id { o with elems := eI o.elems s new }) /\ dO w st w' st := by
 obtain ⟨r', e1, hobj⟩ := hw.obj id o ho (by omega) hg
 rw [hr] at e1;cases e1
 obtain ⟨_,cs,el,fr,m1,m2,m3,m4⟩:=hobj.mem hm
 have hn:=hobj.n
 have hm':=hobj.m
 have hin : (s + new.length) * r.k <= r.m * r.k:=Nat.mul_le_mul_right _ (by omega)
 rw [Nat.add_mul,<- hf.1] at hin
 have hrun:=dZ (P:=P) (r.o + s * r.k) vs 0 cs w m1 (by omega) (fun j h1 h2=>m3 j (by omega) (by omega)) hv
 obtain ⟨hw', hE⟩ := hw.write ho hlive hr hm m1 (tz cs (r.o + s * r.k + 0) vs) (by simp) (eI o.elems s new) (by rw [zF, nB hb]) (fun i y hy => by
  rw [zF,rp hb] at hy
  split at hy
  ·rename_i hi
   obtain ⟨us,u1,u2,u3⟩:=uU hf hy
   refine ⟨us,u1,u2,fun j v hj=>?_⟩
   obtain ⟨hjk,hj⟩:=u3 j v hj
   have hlt:=(List.getElem?_eq_some_iff.1 hj).1
   have e : i * r.k = s * r.k + (i - s) * r.k:=by rw [<- Nat.add_mul];congr 1;omega
   rw [jb _ _ _ _ (by omega),if_pos (by omega),<- hj]
   congr 1;omega
  ·rename_i hi
   obtain ⟨us', u1, u2, u3⟩ := m4 i y hy
   refine ⟨us', u1, u2, fun j v hj => ?_⟩
   have hjl : j < r.k:=by rw [<- u1];exact (List.getElem?_eq_some_iff.1 hj).1
   rw [jb _ _ _ _ (by omega),if_neg ?_]
   ·have:=(bE us' _).1 u3 j v hj
    rw [cN m1] at this
    exact this
   ·have hvl:=hf.1
    rcases Nat.lt_or_ge i s with h | h
    ·have:=cE (k:=r.k) h;omega
    ·have h2 : s + new.length <= i:=by omega
     have:=Nat.mul_le_mul_right r.k h2
     rw [Nat.add_mul] at this
     omega)
 exact ⟨_, hrun, hw', hE⟩
theorem WR.adopt {P : Program} {B : Nat} {W w : World} {st : St} {h : ae} (hw : WR B W w st h) {id s len : Nat} {o : AO} {r : qR} {new : List AV} {vs : List Value} (ho : h[id]? = some o) (hlive : o.st = 0) (hg : ¬ st.G id)
  (hr : st.ρ id = some r) (hm : r.m ≠ 0) (hf : dz w st r.k new vs) (hv : ∀ v ∈ vs,fM v = true) (hend : s + len = o.elems.length) (hroom : s + len + new.length <= r.m) :
  ∃ w', (storeCells (⟨r.b, r.o + s * r.k + len * r.k, none⟩ : Addr) vs).run P w = .ok () w' /\
   WR B W w' ((st.drop id).push ⟨r.b,r.o + s * r.k,r.k,len + new.length,r.m - s⟩) (h.set id { o with st:=2 } ++ [⟨o.elems.drop s ++ new,o.k,0⟩]) /\
   dO w st w' ((st.drop id).push ⟨r.b,r.o + s * r.k,r.k,len + new.length,r.m - s⟩):=by
 obtain ⟨r', e1, hobj⟩ := hw.obj id o ho (by omega) hg
 rw [hr] at e1;cases e1
 obtain ⟨hB,cs,el,fr,m1,m2,m3,m4⟩:=hobj.mem hm
 have hn:=hobj.n
 have hm':=hobj.m
 have hlt:=kB m1
 have hin : (s + len + new.length) * r.k <= r.m * r.k:=Nat.mul_le_mul_right _ hroom
 rw [Nat.add_mul,Nat.add_mul,<- hf.1] at hin
 have hrun:=dZ (P:=P) (r.o + s * r.k + len * r.k) vs 0 cs w m1 (by omega) (fun j h1 h2=>m3 j (by omega) (by omega)) hv
 obtain ⟨hk,hE1⟩:=hw.kill ho
 refine ⟨_,hrun,?_⟩
 have hsame : ∀ i,i ≠ r.b -> (eK w r.b (.cells (tz cs (r.o + s * r.k + len * r.k + 0) vs) el fr)).heap[i]? = w.heap[i]?:=fun i hi=>by rw [fo,if_neg (fun h=>hi h.1)]
 have hnew : (eK w r.b (.cells (tz cs (r.o + s * r.k + len * r.k + 0) vs) el fr)).heap[r.b]? = some (.cells (tz cs (r.o + s * r.k + len * r.k + 0) vs) el fr):=by rw [fo,if_pos ⟨rfl,hlt⟩]
 have hnS:=hw.live id r o hr ho (.inl hlive) hm
 have hE2 : dO w st (eK w r.b (.cells (tz cs (r.o + s * r.k + len * r.k + 0) vs) el fr)) ((st.drop id).push ⟨r.b,r.o + s * r.k,r.k,len + new.length,r.m - s⟩):=
  hE1.trans (dO.push (fun b hb=>hsame b (fun e=>hnS (e ▸ hb))) (fun b hb=>hsame b (fun e=>hw.x.own id r hr hm (e ▸ hb))))
 have hobj' : rH B (eK w r.b (.cells (tz cs (r.o + s * r.k + len * r.k + 0) vs) el fr)) ((st.drop id).push ⟨r.b,r.o + s * r.k,r.k,len + new.length,r.m - s⟩) ⟨r.b,r.o + s * r.k,r.k,len + new.length,r.m - s⟩ ⟨o.elems.drop s ++ new,o.k,0⟩:=by
  have hsub : (r.m - s) * r.k = r.m * r.k - s * r.k:=Nat.sub_mul _ _ _
  have hle : s * r.k <= r.m * r.k:=Nat.mul_le_mul_right _ (by omega)
  refine ⟨by simp;omega,by show len + new.length <= r.m - s;omega,hobj.k,hobj.k0,fun _=>⟨hB,_,el,fr,hnew,?_,?_,?_⟩⟩
  ·simp only [tZ]
   omega
  ·intro j h1 h2
   exact m3 j (by simp only at h1;omega) (by simp only [tZ] at h2;omega)
  ·intro i x hx
   simp only at hx ⊢
   rw [List.getElem?_append] at hx
   split at hx
   ·rename_i hi
    rw [List.getElem?_drop] at hx
    obtain ⟨us,u1,u2,u3⟩:=m4 _ x hx
    refine ⟨us,u1,ic hE2 x us u2,(bE us _).2 fun j v hj=>?_⟩
    have hjl : j < r.k:=by rw [<- u1];exact (List.getElem?_eq_some_iff.1 hj).1
    have hi' : i < len:=by simp at hi;omega
    have hst:=cE (k:=r.k) hi'
    rw [cN hnew,jb _ _ _ _ (by omega),if_neg (by omega)]
    have:=(bE us _).1 u3 j v hj
    rw [cN m1] at this
    rw [<- this]
    congr 1
    rw [Nat.add_mul];omega
   ·rename_i hi
    have hi' : len <= i:=by simp at hi;omega
    have e0 : i - (o.elems.drop s).length = i - len:=by simp;omega
    rw [e0] at hx
    obtain ⟨us,u1,u2,u3⟩:=uU hf hx
    refine ⟨us,u1,ic hE2 x us u2,(bE us _).2 fun j v hj=>?_⟩
    obtain ⟨hjk,hj⟩:=u3 j v hj
    have hlt:=(List.getElem?_eq_some_iff.1 hj).1
    have e : i * r.k = len * r.k + (i - len) * r.k:=by rw [<- Nat.add_mul];congr 1;omega
    rw [cN hnew,jb _ _ _ _ (by omega),if_pos (by omega),<- hj]
    congr 1;omega
 obtain ⟨hw', _⟩ := hk.core (w' := eK w r.b (.cells (tz cs (r.o + s * r.k + len * r.k + 0) vs) el fr)) (r := ⟨r.b, r.o + s * r.k, r.k, len + new.length, r.m - s⟩) (o := ⟨o.elems.drop s ++ new, o.k, 0⟩)
  (hw.below.trans ⟨rfl,rfl,rfl,by simp,fun k hk=>hsame k (by omega)⟩) (by simp) (fun i _ hi=>hsame i hi) (fun hS=>hnS hS) (fun hU=>hw.x.own id r hr hm hU) (fun id' s' hs' hm2=>by
   simp only [St.drop] at hs'
   split at hs'
   ·cases hs'
   ·rename_i hne
    intro heq
    exact hne (hw.inj id' id s' r hs' hr hm2 hm heq)) hobj' rfl
 exact ⟨hw', hE2⟩
structure Ko (P : Program) (E : TE) (ts : Array Nat) (ty t : Nat) (vx : Value) (n : Nat) (vs : List Value) (w : World) : Prop where
 fit : ∀ (base : Option Addr) (sLen sCap : Nat) (w' : World),sLen + n <= sCap -> (∀ a,base = some a -> (storeCells (a.add (sLen * (E (E t).elem).size)) vs).run P w = .ok () w') -> (base = none -> w' = w) ->
  (Builtin.append_ ts ty #[.slice base sLen sCap,vx]).run P w = .ok (.slice base (sLen + n) sCap) w'
 grow : ∀ (base : Option Addr) (sLen sCap : Nat) (os : List Value),(Builtin.firstCells (E (E t).elem).size sLen (.slice base sLen sCap)).run P w.drew = .ok os.toArray w.drew -> ¬ sLen + n <= sCap -> 0 < (E (E t).elem).bytes ->
  (sLen + n) * (E (E t).elem).bytes <= 140737488355328 -> ∃ c rest,sLen + n <= c /\ rest.size = (c - (sLen + n)) * (E (E t).elem).size /\
   (Builtin.append_ ts ty #[.slice base sLen sCap,vx]).run P w = .ok (.slice (some ⟨w.heap.size,0,none⟩) (sLen + n) c) (w.drew.alloc (.cells (os.toArray ++ vs.toArray ++ rest) (E t).elem))
section
variable {P : Program} {E : TE} {B : Nat} {W w : World} {st : St} {h : ae} (hw : WR B W w st h)
include hw
theorem CE : WR B W w.drew st h /\ dO w st w.drew st:=hw.same rfl rfl rfl rfl
theorem jT {e k need c : Nat} {all : List AV} {os vs : List Value} {rest : Array Value} (hk : 0 < k) (hf : dz w st k all (os ++ vs)) (hlen : all.length = need) (hc : need <= c) (hrest : rest.size = (c - need) * k) :
  WR B W (w.drew.alloc (.cells (os.toArray ++ vs.toArray ++ rest) e)) (st.push ⟨w.heap.size,0,k,need,c⟩) (h ++ [⟨all,k,0⟩]) /\ dO w st (w.drew.alloc (.cells (os.toArray ++ vs.toArray ++ rest) e)) (st.push ⟨w.heap.size,0,k,need,c⟩):=by
 obtain ⟨hd,he⟩:=CE hw
 have hl:=hf.1
 have:=hd.newFlat (os.toArray ++ vs.toArray ++ rest) e (0,0) all k c hk (by omega) (by
  simp only [Array.size_append,List.size_toArray,hrest]
  simp only [List.length_append] at hl
  rw [hl,hlen,<- Nat.add_mul]
  exact Nat.mul_le_mul_right _ (by omega)) (fun j _ h=>by simp at h) (ky he hf) (fun j v hj=>by
   have hlt:=(List.getElem?_eq_some_iff.1 hj).1
   rw [Array.getElem?_append_left (by simpa using hlt)]
   rw [<- hj]
   simp)
 rw [hlen] at this
 exact ⟨this.1,he.trans this.2⟩
theorem rQ {ts : Array Nat} {ty t : Nat} {x : AV} {vb vx : Value} {new : List AV} {vs : List Value} {K : KV} (hx : aV w st x vb) (hA : Ko P E ts ty t vx new.length vs w) (hpos : (E (E t).elem).kind ≠ 0 -> 0 < (E (E t).elem).size)
  (hf : dz w st (E (E t).elem).size new vs) (hv : ∀ v ∈ vs,fM v = true) (hk : pE (E (E t).elem) x new h K) : lp P B W w st K (Builtin.append_ ts ty #[vb,vx]):=by
 unfold pE at hk
 obtain ⟨h1,hk⟩:=ai hk
 simp only [Bool.and_eq_true,bne_iff_ne,Nat.blt_eq] at h1
 obtain ⟨hkind,hb0⟩:=h1
 have hk0:=hpos hkind
 split at hk
 ·obtain ⟨hsz,hk⟩:=hk
  obtain ⟨a,rfl⟩:=mc hx
  rw [bT] at hk
  by_cases hn : new.length = 0
  ·have hnew : new = []:=List.length_eq_zero_iff.1 hn
   have hvs : vs = []:=List.length_eq_zero_iff.1 (by rw [hf.1,hn];simp)
   subst hnew;subst hvs
   obtain ⟨w1,e1⟩:=hw.void (E (E t).elem).size hk0
   refine ⟨_,w,hA.fit a 0 0 w (by simp) (fun a' _=>by simp [storeCells]) (fun _=>rfl),_,_,_,hk,w1,?_,e1,rfl⟩
   refine eT.2 ⟨a,0,rfl,by simp [St.push,hw.len],fun hg=>hw.gn hg,by simp,fun h=>absurd rfl h,fun c hc=>by simp at hc,fun r hr=>?_⟩
   rw [St.push_at hw.len.symm] at hr
   cases hr
   exact ⟨rfl,by simp,fun h=>absurd rfl h,fun _=>by simp⟩
  ·obtain ⟨c,rest,c1,c2,c3⟩:=hA.grow a 0 0 [] (by simpa using bS) (by omega) hb0 (by simpa using hsz)
   simp only [Nat.zero_add] at c1 c2 c3
   obtain ⟨w1,e1⟩:=jT hw (e:=(E t).elem) (os:=[]) hk0 (by simpa using hf) rfl c1 c2
   exact ⟨_,_,c3,_,_,_,hk,w1,gz hw c1 (fun _=>⟨Nat.le_refl _,c1⟩) (fun c' hc=>by simp at hc),e1,rfl⟩
 ·rename_i id s len k hkold
  clear hkold
  obtain ⟨o,g1,g2,hk⟩:=j0 hk
  obtain ⟨h1,hk⟩:=ai hk
  simp only [beq_iff_eq] at h1
  obtain ⟨a,c,rfl,a1,a2,a3,a4,a5,a6⟩:=eT.1 hx
  obtain ⟨r,hr,hobj⟩:=hw.obj id o g1 (by omega) a2
  obtain ⟨r1,r2,r3,r4⟩:=a6 r hr
  obtain ⟨r5,r6⟩:=r4 rfl
  have hrk : r.k = (E (E t).elem).size:=by rw [r1,h1]
  have hn:=hobj.n
  have hm:=hobj.m
  rcases aq hk with ⟨h2,hk⟩ | ⟨h2,hk⟩
  ·simp at h2
   rw [aU] at hk
   by_cases hnl : new.length = 0
   ·have hnew : new = []:=List.length_eq_zero_iff.1 hnl
    have hvs : vs = []:=List.length_eq_zero_iff.1 (by rw [hf.1,hnl];simp)
    subst hnew;subst hvs
    have hov : eI o.elems (s + len) [] = o.elems:=by simp [eI]
    have hset : h.set id { o with elems:=eI o.elems (s + len) [] } = h:=by
     rw [hov]
     apply List.ext_getElem?
     intro i
     by_cases hii : id = i
     ·subst hii;rw [List.getElem?_set_self (List.getElem?_eq_some_iff.1 g1).1,g1]
     ·rw [List.getElem?_set_ne hii]
    rw [hset] at hk
    exact ⟨_,w,hA.fit a len c w (by simpa using a3) (fun a' _=>by simp [storeCells]) (fun _=>rfl),dE.same hw hk (by simpa using hx)⟩
   ·have hm0 : r.m ≠ 0:=by omega
    obtain ⟨w', e1, e2, e3⟩ := hw.putFlat (P := P) g1 g2 a2 hr hm0 (by rw [hrk]; exact hf) hv h2
    have ha:=r3 (by omega)
    refine ⟨_, w', hA.fit a len c w' (by omega) (fun a' ha' => ?_) (fun hn => by rw [ha] at hn; cases hn), st, _, _, hk, e2, ?_, e3, rfl⟩
    ·rw [ha] at ha'
     cases ha'
     rw [cZ,<- hrk]
     rw [Nat.add_mul,<- Nat.add_assoc] at e1
     exact e1
    ·refine eT.2 ⟨a,c,rfl,a1,a2,by omega,a4,(fun c' hc=>by cases hc),fun r' hr'=>?_⟩
     rw [hr] at hr';cases hr'
     exact ⟨r1,r2,r3,fun _=>by omega⟩
  ·simp at h2
   obtain ⟨⟨hend,hsz⟩,hk⟩:=hk
   rw [aU,cO,bT] at hk
   simp only [List.length_set] at hk
   have hoe : ∀ el,({ o with elems:=el } : AO) = ⟨el,(E (E t).elem).size,0⟩:=fun el=>by rw [<- g2,<- hrk,hobj.k]
   by_cases hfit : len + new.length <= c
   ·by_cases hc0 : c = 0
    ·omega
    ·have hm0 : r.m ≠ 0:=by omega
     obtain ⟨w', e1, e2, e3⟩ := hw.adopt (P := P) (s := s) (len := len) g1 g2 a2 hr hm0 (by rw [hrk]; exact hf) hv hend (by omega)
     have ha:=r3 hc0
     refine ⟨_, w', hA.fit a len c w' hfit (fun a' ha' => ?_) (fun hn => by rw [ha] at hn; cases hn), _, _, _, hk, ?_, ?_, e3, rfl⟩
     ·rw [ha] at ha'
      cases ha'
      rw [cZ,<- hrk]
      exact e1
     ·rw [show ({ o with elems:=o.elems.drop s ++ new } : AO) = ⟨o.elems.drop s ++ new,o.k,0⟩ by rw [<- g2]]
      exact e2
     ·refine eT.2 ⟨a,c,rfl,by simp [St.push,St.drop,hw.len],fun hg=>hw.gn hg,hfit,a4,(fun c' hc=>by cases hc),fun r' hr'=>?_⟩
      rw [St.push_at (by simp [St.drop,hw.len])] at hr'
      cases hr'
      exact ⟨r1,by simp;omega,fun _=>by rw [ha];simp,fun _=>by simp;omega⟩
   ·obtain ⟨hkl,hE1⟩:=hw.kill g1
    by_cases hl0 : len = 0
    ·subst hl0
     have hdr : o.elems.drop s = []:=List.drop_eq_nil_of_le (by omega)
     rw [hdr] at hk
     simp only [List.nil_append] at hk
     obtain ⟨cc,rest,c1,c2,c3⟩:=hA.grow a 0 c [] (by simpa using bS) hfit hb0 hsz
     simp only [Nat.zero_add] at c1 c2 c3 hk
     obtain ⟨w1,e1⟩:=jT hkl (e:=(E t).elem) (os:=[]) (vs:=vs) hk0 (by simpa using ky hE1 hf) rfl c1 c2
     refine ⟨_,_,c3,_,_,_,hk,?_,?_,hE1.trans e1,rfl⟩
     ·rw [hoe];exact w1
     ·rw [h1]
      have:=gz hkl (w':=w.drew.alloc (.cells (#[] ++ vs.toArray ++ rest) (E t).elem)) (k:=(E (E t).elem).size) (n:=new.length) (cap:=none) c1 (fun _=>⟨Nat.le_refl _,c1⟩) (fun c' hc=>by simp at hc)
      simpa using this
    ·have hm0 : r.m ≠ 0:=by omega
     obtain ⟨os,f1,f2⟩:=hobj.flat hm0 s len (by omega)
     have hdr : (o.elems.drop s).take len = o.elems.drop s:=List.take_of_length_le (by simp;omega)
     rw [hdr] at f1
     have hol : os.length = len * r.k:=by rw [f1.1,List.length_drop];congr 1;omega
     have hfo:=dX (P:=P) (w:=w.drew) (len:=len) (cap:=c) (k:=(E (E t).elem).size) (n:=len) (r3 (by omega)) (dW (w:=w) (w':=w.drew) rfl f2) (by rw [hol,hrk];exact Nat.le_refl _)
     rw [List.take_of_length_le (by rw [hol,hrk];exact Nat.le_refl _)] at hfo
     obtain ⟨cc,rest,c1,c2,c3⟩:=hA.grow a len c os hfo hfit hb0 hsz
     obtain ⟨w1,e1⟩:=jT hkl (e:=(E t).elem) (os:=os) (vs:=vs) (all:=o.elems.drop s ++ new) (need:=len + new.length) hk0 (fH (ky hE1 (by rw [<- hrk];exact f1)) (ky hE1 hf)) (by simp;omega) c1 c2
     refine ⟨_,_,c3,_,_,_,hk,?_,?_,hE1.trans e1,rfl⟩
     ·rw [hoe];exact w1
     ·rw [h1]
      have:=gz hkl (w':=w.drew.alloc (.cells (os.toArray ++ vs.toArray ++ rest) (E t).elem)) (k:=(E (E t).elem).size) (n:=len + new.length) (cap:=none) c1 (fun _=>⟨Nat.le_refl _,c1⟩) (fun c' hc=>by simp at hc)
      simpa using this
 ·rename_i id s len k c0 hkold
  clear hkold
  obtain ⟨a,c,rfl,a1,a2,a3,a4,a5,a6⟩:=eT.1 hx
  have hcc:=a5 c0 rfl
  subst hcc
  rcases aq hk with ⟨h2,hk⟩ | ⟨h2,hk⟩
  ·simp at h2
   obtain ⟨o,g1,g2,hk⟩:=j0 hk
   obtain ⟨h1,hend,hk⟩:=ai hk
   simp only [beq_iff_eq] at h1
   obtain ⟨r,hr,hobj⟩:=hw.obj id o g1 (by omega) a2
   obtain ⟨r1,r2,r3,r4⟩:=a6 r hr
   have hrk : r.k = (E (E t).elem).size:=by rw [r1,h1]
   have hn:=hobj.n
   have hm:=hobj.m
   rw [aU] at hk
   by_cases hnl : new.length = 0
   ·have hnew : new = []:=List.length_eq_zero_iff.1 hnl
    have hvs : vs = []:=List.length_eq_zero_iff.1 (by rw [hf.1,hnl];simp)
    subst hnew;subst hvs
    have hov : eI o.elems (s + len) [] = o.elems:=by simp [eI]
    have hset : h.set id { o with elems:=eI o.elems (s + len) [] } = h:=by
     rw [hov]
     apply List.ext_getElem?
     intro i
     by_cases hii : id = i
     ·subst hii;rw [List.getElem?_set_self (List.getElem?_eq_some_iff.1 g1).1,g1]
     ·rw [List.getElem?_set_ne hii]
    rw [hset] at hk
    exact ⟨_,w,hA.fit a len c w (by simpa using a3) (fun a' _=>by simp [storeCells]) (fun _=>rfl),dE.same hw hk (by simpa using hx)⟩
   ·have hm0 : r.m ≠ 0:=by omega
    obtain ⟨w', e1, e2, e3⟩ := hw.putFlat (P := P) (s := s + len) g1 g2 a2 hr hm0 (by rw [hrk]; exact hf) hv (by omega)
    have ha:=r3 (by omega)
    refine ⟨_, w', hA.fit a len c w' (by omega) (fun a' ha' => ?_) (fun hn => by rw [ha] at hn; cases hn), st, _, _, hk, e2, ?_, e3, rfl⟩
    ·rw [ha] at ha'
     cases ha'
     rw [cZ,<- hrk]
     rw [Nat.add_mul,<- Nat.add_assoc] at e1
     exact e1
    ·refine eT.2 ⟨a,c,rfl,a1,a2,by omega,a4,fun c' hc=>by simpa using hc,fun r' hr'=>?_⟩
     rw [hr] at hr';cases hr'
     exact ⟨r1,r2,r3,fun h=>by cases h⟩
  ·simp at h2
   obtain ⟨o,g1,g2,hk⟩:=ga hk
   obtain ⟨h1,⟨hend,hsz⟩,hk⟩:=ai hk
   simp only [beq_iff_eq] at h1
   obtain ⟨r,hr,hobj⟩:=hw.obj id o g1 g2 a2
   obtain ⟨r1,r2,r3,r4⟩:=a6 r hr
   have hrk : r.k = (E (E t).elem).size:=by rw [r1,h1]
   have hn:=hobj.n
   have hm:=hobj.m
   rw [bT] at hk
   have hok : o.k = (E (E t).elem).size:=by rw [<- hobj.k,hrk]
   by_cases hl0 : len = 0
   ·subst hl0
    simp only [List.take_zero,List.nil_append,Nat.zero_add] at hk hsz
    obtain ⟨cc,rest,c1,c2,c3⟩:=hA.grow a 0 c [] (by simpa using bS) (by omega) hb0 (by simpa using hsz)
    simp only [Nat.zero_add] at c1 c2 c3
    obtain ⟨w1,e1⟩:=jT hw (e:=(E t).elem) (os:=[]) (vs:=vs) hk0 (by simpa using hf) rfl c1 c2
    refine ⟨_,_,c3,_,_,_,hk,by rw [hok];exact w1,?_,e1,rfl⟩
    rw [h1]
    exact gz hw c1 (fun _=>⟨Nat.le_refl _,c1⟩) (fun c' hc=>by simp at hc)
   ·have hm0 : r.m ≠ 0:=by omega
    obtain ⟨os,f1,f2⟩:=hobj.flat hm0 s len (by omega)
    have hol : os.length = len * r.k:=by rw [f1.1,List.length_take,List.length_drop,Nat.min_eq_left (by omega)]
    have hfo:=dX (P:=P) (w:=w.drew) (len:=len) (cap:=c) (k:=(E (E t).elem).size) (n:=len) (r3 (by omega)) (dW (w:=w) (w':=w.drew) rfl f2) (by rw [hol,hrk];exact Nat.le_refl _)
    rw [List.take_of_length_le (by rw [hol,hrk];exact Nat.le_refl _)] at hfo
    obtain ⟨cc,rest,c1,c2,c3⟩:=hA.grow a len c os hfo (by omega) hb0 hsz
    obtain ⟨w1,e1⟩:=jT hw (e:=(E t).elem) (os:=os) (vs:=vs) (all:=(o.elems.drop s).take len ++ new) (need:=len + new.length) hk0 (fH (by rw [<- hrk];exact f1) hf) (by simp;omega) c1 c2
    refine ⟨_,_,c3,_,_,_,hk,by rw [hok];exact w1,?_,e1,rfl⟩
    rw [h1]
    exact gz hw c1 (fun _=>⟨Nat.le_refl _,c1⟩) (fun c' hc=>by simp at hc)
 ·exact hk.elim
end
end Dw
namespace Dw
open Go Go.RowKit
theorem qP (s : List UInt8) : strOfNums (s.map fun b=>(b.toNat : Int)) = ⟨s.toArray⟩:=by
 apply ByteArray.ext
 apply Array.ext'
 simp [strOfNums,Function.comp_def]
theorem zb {x : AV} (h : x.isInt = true) : ∃ k n,x = .d (.int k n):=by
 unfold AV.isInt at h
 split at h
 ·exact ⟨_,_,rfl⟩
 ·cases h
theorem sJ {t : TI} {x : AV} (h : gQ t x = true) : x.known = true:=by
 simp only [gQ,Bool.and_eq_true,beq_iff_eq] at h
 cases x<;>try exact h.2.2
 rename_i x
 cases x<;>try rfl
 simp [AV.cells,AV.one] at h
theorem lQ {P : Program} {w : World} {st : St}  {g : Value -> Value -> Sem Value} {f : Int -> Int -> Int} (hg : ∀ k a k' b,g (.int k a) (.int k' b) = pure (.int k (f a b))) :
  ∀ (l : List AV) (vs : List Value) (x : AV) (v : Value) (K : AV -> Prop),(∃ k n,x = .d (.int k n)) -> aV w st x v -> cS w st l vs -> lP f x l K -> ln P w st K (vs.foldlM g v)
 | [],vs,x,v,K,hx,hv,hl,hk=>by
  simp only [cS] at hl
  subst hl
  obtain ⟨k,n,rfl⟩:=hx
  exact ⟨v,_,rfl,hv,by simpa [lP] using hk⟩
 | y :: l,vs,x,v,K,hx,hv,hl,hk=>by
  obtain ⟨k,n,rfl⟩:=hx
  simp only [cS] at hl
  obtain ⟨u,r,us,rfl,h2,h3,h4⟩:=hl
  have hu : aV w st y u:=⟨us,h2,h3⟩
  unfold lP at hk
  split at hk
  ·simp_all
  ·rename_i k1 a k' m l' K' e1 e2
   cases e1
   cases e2
   cases cf.1 hv
   cases cf.1 hu
   obtain ⟨v', x', e1, e2, e3⟩ := lQ (P := P) hg l r _ _ _ ⟨_, _, rfl⟩ (cf.2 rfl) h4 hk
   exact ⟨v', x', by simp only [List.foldlM_cons, Sem.run_bind, hg, Sem.run_pure, Result.andThen_ok, e1], e2, e3⟩
  ·exact hk.elim
section
variable {P : Program} {E : TE} (hE : gJ P E) {B : Nat} {W w : World} {st : St} {h : ae} (hw : WR B W w st h)
include hE hw
omit hw in
theorem DZ {ts : Array Nat} {ty t t' n : Nat} {vx : Value} {vs : List Value} (h0 : ts[0]? = some t) (h1 : ts[1]? = some t') (hk4 : (E t).kind = 4) (hkind : (E (E t).elem).kind ≠ 0) (hz : (E t').kind ≠ 0 /\ (E t').kind ≠ 1)
  (hlen : (Builtin.lenOf vx).run P w = .ok n w) (hvs : vs.length = n * (E (E t).elem).size) (hfc : ∀ (m : Nat) (w2 : World),m <= n -> w2.heap = w.heap -> (Builtin.firstCells (E (E t).elem).size m vx).run P w2 = .ok (vs.take (m * (E (E t).elem).size)).toArray w2) : Ko P E ts ty t vx n vs w where
 fit base sLen sCap w' hfit hst hno:=by
  have:=hfc n w (Nat.le_refl _) rfl
  rw [List.take_of_length_le (by omega)] at this
  exact tL hE h0 h1 hk4 hkind hz hlen this hfit hst hno
 grow base sLen sCap os hfo hfit hb0 hb:=by
  have:=hfc n w.drew (Nat.le_refl _) rfl
  rw [List.take_of_length_le (by omega)] at this
  exact q7 hE h0 h1 hk4 hkind hz hlen this hfo hfit hb0 hb
omit hE in
theorem xz {k len : Nat} {x : AV} {vx : Value} {K : List AV -> Prop} (hk0 : 0 < k) (hx : aV w st x vx) (hk : qn len x fun x=>nV k h x K) :
  ∃ new vs,K new /\ dz w st k new vs /\ (∃ nl : Nat,(Builtin.lenOf vx).run P w = .ok nl w /\ min nl len = min new.length len) /\ (∀ v ∈ vs,fM v = true) /\ ∀ (n : Nat) (w2 : World),n <= new.length -> w2.heap = w.heap -> (Builtin.firstCells k n vx).run P w2 = .ok (vs.take (n * k)).toArray w2:=by
 have fin : ∀ x : AV,aV w st x vx -> nV k h x K -> ∃ new vs,K new /\ dz w st k new vs /\ (∃ nl : Nat,(Builtin.lenOf vx).run P w = .ok nl w /\ min nl len = min new.length len) /\ (∀ v ∈ vs,fM v = true) /\ ∀ (n : Nat) (w2 : World),n <= new.length -> w2.heap = w.heap -> (Builtin.firstCells k n vx).run P w2 = .ok (vs.take (n * k)).toArray w2:=fun x hx hk=>by
  obtain ⟨new,vs,k1,k2,k3,k4,k5⟩:=nW (P:=P) hw hk0 hx hk
  exact ⟨new,vs,k1,k2,⟨_,k3,rfl⟩,k4,k5⟩
 cases x
 case sl i s l k' c=>
  simp only [qn] at hk
  rcases aq hk with ⟨_,hk⟩ | ⟨hl,hk⟩
  ·exact fin _ hx hk
  ·have hl' : len < l:=by simpa using hl
   obtain ⟨a,cp,rfl,a1,a2,a3,a4,a5,a6⟩:=eT.1 hx
   have hx2 : aV w st (.sl i s len k' c) (.slice a len cp):=eT.2 ⟨a,cp,rfl,a1,a2,by omega,a4,a5,fun r hr=>by
    obtain ⟨r1,r2,r3,r4⟩:=a6 r hr
    exact ⟨r1,r2,r3,fun hc=>⟨by have:=(r4 hc).1;omega,(r4 hc).2⟩⟩⟩
   obtain ⟨new,vs,k1,k2,k3,k4,k5⟩:=nW (P:=P) hw hk0 hx2 hk
   have hnl : new.length = len:=by
    simp only [Builtin.lenOf,Sem.run_pure] at k3
    injection k3 with e1 e2
    exact e1.symm
   refine ⟨new,vs,k1,k2,⟨l,by simp [Builtin.lenOf],by omega⟩,k4,fun n w2 hn hw2=>?_⟩
   have:=k5 n w2 hn hw2
   cases a with
   | none=>exact this
   | some a=>exact this
 all_goals exact fin _ hx hk
omit hE hw in
theorem Kt {id : Nat} {v : Value} : aV w st (.mp id) v ↔ ∃ b,v = .map (some b) /\ id < st.n /\ ¬ st.G id /\ ∀ r,st.ρ id = some r -> b = r.b:=by
 constructor
 ·rintro ⟨us,h1,h2⟩;simp [AV.isAgg] at h1;subst h1;simpa [aC] using h2
 ·intro h;exact ⟨[v],by simp [AV.isAgg],by simpa [aC] using h⟩
omit hE in
theorem Bz {id : Nat} {v : Value} {K : AO -> Prop} (hv : aV w st (.mp id) v) (hk : jg h id K) : ∃ o r,h[id]? = some o /\ o.st = 3 /\ K o /\ st.ρ id = some r /\ DV B w r o /\ v = .map (some r.b):=by
 obtain ⟨b,rfl,h1,h2,h3⟩:=Kt.1 hv
 obtain ⟨o,ho,hk⟩:=(aE _ _).1 hk
 obtain ⟨hst,hk⟩:=ai hk
 have hst:=Nat.eq_of_beq_eq_true hst
 obtain ⟨r,hr,hm⟩:=hw.mobj id o ho hst h2
 exact ⟨o,r,ho,hst,hk,hr,hm,by rw [h3 r hr]⟩
theorem zg {ts : Array Nat} {ty : Nat} {consts : Array Bool} {x : AV} {v : Value} {K : KV} (hx : aV w st x v) (hk : qI E ts.toList x h K) :
  ∃ v' w', (builtin .len ts ty consts [v].toArray).run P w = .ok (.value v') w' /\ dE B W w st K v' w' := by
 cases x<;>simp only [qI] at hk
 case mp id=>
  obtain ⟨ht,hk⟩:=ai hk
  cases hts : ts.toList with
  | nil=>rw [hts] at ht;simp [Bx] at ht
  | cons t l=>
   cases l with
   | cons _ _=>rw [hts] at ht;simp [Bx] at ht
   | nil=>
    rw [hts] at ht
    have ht0 : ts[0]? = some t:=by rw [<- Array.getElem?_toList,hts];rfl
    have ht:=Nat.eq_of_beq_eq_true ht
    obtain ⟨o,r,g1,g2,g3,g4,g5,rfl⟩:=Bz hw hx hk
    obtain ⟨es,e1,e2,e3⟩:=g5.at_
    refine ⟨_,w,?_,dE.same hw g3 (cf.2 rfl)⟩
    simp [builtin,Builtin.len_,ht0,run_underlying (rE hE ht),goInt,getObj,Sem.run,e1,e2]
theorem un {b : Builtin} {ts : Array Nat} {ty : Nat} {consts : Array Bool} {xs : List AV} {vs : List Value} {K : KV} (hx : cS w st xs vs) (hk : et E b ts.toList xs h K) :
  ∃ v w', (builtin b ts ty consts vs.toArray).run P w = .ok (.value v) w' /\ dE B W w st K v w' := by
 unfold et at hk
 split at hk
 ·rename_i x
  rcases aq hk with ⟨hmp,hk9⟩ | ⟨hmp,hk9⟩
  ·simp only [cS] at hx
   obtain ⟨v,r,us,rfl,h2,h3,rfl⟩:=hx
   have hv : aV w st x v:=⟨us,h2,h3⟩
   exact zg hE hw hv hk9
  obtain ⟨h1,hk2⟩:=ai hk9
  clear hk hk9
  have hk:=hk2
  clear hk2
  simp only [cS] at hx
  obtain ⟨v,r,us,rfl,h2,h3,rfl⟩:=hx
  have hv : aV w st x v:=⟨us,h2,h3⟩
  cases hts : ts.toList with
  | nil=>rw [hts] at h1;simp at h1
  | cons t l=>
   cases l with
   | cons _ _=>rw [hts] at h1;simp at h1
   | nil=>
    rw [hts] at h1
    have ht0 : ts[0]? = some t:=by rw [<- Array.getElem?_toList,hts];rfl
    have fin : ∀ n : Nat, (Builtin.len_ ts ty #[v]).run P w = .ok (.int .i64 n) w -> (K (.d (.int .i64 n)) h) -> ∃ v' w', (builtin .len ts ty consts #[v]).run P w = .ok (.value v') w' /\ dE B W w st K v' w' := by
     intro n h4 h5
     exact ⟨_,w,by simp [builtin,h4],dE.same hw h5 (cf.2 rfl)⟩
    cases x<;>simp only [EH] at hk
    case nilS=>
     obtain ⟨a,rfl⟩:=mc hv
     simp only [beq_iff_eq] at h1
     exact fin 0 (by simp [Builtin.len_,ht0,run_underlying (bd hE h1),goInt]) hk
    case sl=>
     obtain ⟨a,c,rfl,_⟩:=eT.1 hv
     simp only [beq_iff_eq] at h1
     exact fin _ (by simp [Builtin.len_,ht0,run_underlying (bd hE h1),goInt]) hk
    case d d=>
     cases d<;>simp only at hk
     case str s=>
      cases gM.1 hv
      simp only [beq_iff_eq] at h1
      exact fin _ (by simp [Builtin.len_,ht0,run_underlying (bK hE h1),goInt,ya]) hk
     case fs l=>
      obtain ⟨a,c,rfl,_⟩:=qs.1 hv
      simp only [beq_iff_eq] at h1
      exact fin _ (by simp [Builtin.len_,ht0,run_underlying (bd hE h1),goInt]) hk
 ·rename_i s x
  simp only [cS] at hx
  obtain ⟨vb,r,us,rfl,h2,h3,vx,r2,us2,rfl,h4,h5,rfl⟩:=hx
  have hvb : aV w st s vb:=⟨us,h2,h3⟩
  have hvx : aV w st x vx:=⟨us2,h4,h5⟩
  split at hk
  ·rename_i t t' rest hts
   have ht0 : ts[0]? = some t:=by rw [<- Array.getElem?_toList,hts];rfl
   have ht1 : ts[1]? = some t':=by rw [<- Array.getElem?_toList,hts];rfl
   obtain ⟨h1,hk2⟩:=ai hk
   clear hk
   have hk:=hk2
   clear hk2
   simp only [Bool.and_eq_true, Bool.not_eq_true', beq_iff_eq, beq_eq_false_iff_ne] at h1
   obtain ⟨hk4,hk1⟩:=h1
   have fin : lp P B W w st K (Builtin.append_ ts ty #[vb, vx]) -> ∃ v w', (builtin .append ts ty consts #[vb, vx]).run P w = .ok (.value v) w' /\ dE B W w st K v w' := by
    rintro ⟨v, w', e1, e2⟩
    exact ⟨v, w', by simp [builtin, e1], e2⟩
   apply fin
   have hkd : ∀ {s new} {K : KV},pE (E (E t).elem) s new h K -> (E (E t).elem).kind ≠ 0:=by
    intro s new K hk
    unfold pE at hk
    have:=(ai hk).1
    simp only [Bool.and_eq_true,bne_iff_ne] at this
    exact this.1
   rcases aq hk with ⟨hz,hk2⟩ | ⟨hz,hk2⟩
   ·clear hk
    have hk:=hk2
    clear hk2
    simp only [beq_iff_eq] at hz
    split at hk
    ·rename_i kk m
     obtain ⟨hm,hk⟩:=hk
     cases cf.1 hvx
     have hkind:=hkd hk
     have hF:=hE.facts hkind
     have hpos:=hF.pos
     obtain ⟨i,d,z,f1,f2,f3,f4,f5,f6,f7,f8⟩:=hF.ex
     have hzv : ∀ w,(zeroValue (E t).elem).run P w = .ok z w:=fun w=>by simp [zeroValue,typeInfo,f1,f6]
     obtain ⟨zu,y1,y2,y3,y4,y5,y6⟩:=dk (w:=w) (st:=st) hF.zfit (kQ f7)
     have hzs : z.cells.size = (E (E t).elem).size:=by rw [<- y2,<- y1];simp
     have hfl:=mw (w:=w) (st:=st) (k:=(E (E t).elem).size) (n:=m.toNat) (z:=(E (E t).elem).zero) (zc:=z.cells) (by rw [y1];exact y3) hzs
     have hzc : Builtin.zeroCells z.cells m.toNat = (Array.range (m.toNat * (E (E t).elem).size)).map (z.cells[· % z.cells.size]!):=by simp [Builtin.zeroCells,hzs]
     have hkn : (E (E t).elem).zero.known = true:=sJ hF.zfit
     refine rQ hw hvb (vs:=((Array.range (m.toNat * (E (E t).elem).size)).map (z.cells[· % z.cells.size]!)).toList) ⟨fun base sLen sCap w' g1 g2 g3=>?_,fun base sLen sCap os g1 g2 g3 g4=>?_⟩ (fun _=>hpos) hfl (mu (fun x hx=>by rw [List.eq_of_mem_replicate hx];exact hkn) hfl hpos) hk
     ·simp only [List.length_replicate] at *
      exact q6 hE ht0 ht1 hk4 hkind hz hm g1 (hzv w) hzs (by rw [hzc];exact g2) g3
     ·simp only [List.length_replicate] at *
      obtain ⟨c,rest,c1,c2,c3⟩:=qm hE (kk:=kk) (ty:=ty) ht0 ht1 hk4 hkind hz hm hzv hzs g1 g2 g3 g4
      exact ⟨c,rest,c1,c2,by rw [c3,hzc]⟩
    ·exact hk.elim
   ·clear hk
    have hk:=hk2
    clear hk2
    simp only [beq_eq_false_iff_ne] at hz
    have hpos : (E (E t).elem).kind ≠ 0 -> 0 < (E (E t).elem).size:=fun h=>(hE.facts h).pos
    by_cases hkind : (E (E t).elem).kind = 0
    ·exfalso
     -- nV sZ to pE,which asks for a known type
     have hpos1 : ∀ {k : Nat} {x : AV} {K' : List AV -> Prop},nV k h x K' -> ∃ new,K' new:=by
      intro k x K' hs
      unfold nV at hs
      split at hs
      ·exact ⟨_,hs⟩
      ·exact ⟨_,hs.2⟩
      ·exact ⟨_,(ai hs).2⟩
      ·obtain ⟨o,_,_,hs⟩:=ga hs
       obtain ⟨_,_,hs⟩:=ai hs
       rw [cO] at hs
       rcases aq hs with ⟨_,hs⟩ | ⟨_,hs⟩
       ·exact ⟨_,(ai hs).2⟩
       ·have:=(ai hs).2
        rw [dM] at this
        exact ⟨_,this⟩
      ·exact ⟨_,hs⟩
      ·exact hs.elim
     obtain ⟨new,hk⟩:=hpos1 hk
     exact hkd hk hkind
    ·obtain ⟨new,vs,k1,k2,k3,k4,k5⟩:=nW (P:=P) hw (hpos hkind) hvx hk
     exact rQ hw hvb (DZ hE ht0 ht1 hk4 hkind ⟨hk1,hz⟩ k3 k2.1 k5) hpos k2 k4 k1
  ·exact hk.elim
 ·rename_i id s len k cap x
  simp only [cS] at hx
  obtain ⟨vb,r,us,rfl,h2,h3,vx,r2,us2,rfl,h4,h5,rfl⟩:=hx
  have hvb : aV w st (.sl id s len k cap) vb:=⟨us,h2,h3⟩
  have hvx : aV w st x vx:=⟨us2,h4,h5⟩
  split at hk
  ·rename_i t rest hts
   have ht0 : ts[0]? = some t:=by rw [<- Array.getElem?_toList,hts];rfl
   obtain ⟨h1,hk⟩:=ai hk
   simp only [Bool.and_eq_true,beq_iff_eq,bne_iff_ne] at h1
   obtain ⟨hk4,hkind⟩:=h1
   have hpos:=(hE.facts hkind).pos
   obtain ⟨new,vs,k1,k2,⟨nl,k3,k3'⟩,k4,k5⟩:=xz (P:=P) hw hpos hvx hk
   obtain ⟨o,g1,g2,hk⟩:=j0 k1
   obtain ⟨hsz,hb,hk⟩:=ai hk
   simp only [beq_iff_eq] at hsz
   rw [aU] at hk
   obtain ⟨a,c,rfl,a1,a2,a3,a4,a5,a6⟩:=eT.1 hvb
   obtain ⟨r,hr,hobj⟩:=hw.obj id o g1 (by omega) a2
   obtain ⟨r1,r2,r3,r4⟩:=a6 r hr
   have hrk : r.k = (E (E t).elem).size:=by rw [r1,hsz]
   have hfc:=k5 (min new.length len) w (Nat.min_le_left _ _) rfl
   have hsub:=p0 k2 0 len
   simp only [List.drop_zero,Nat.zero_mul] at hsub
   have hsv : vs.take (min new.length len * (E (E t).elem).size) = vs.take (len * (E (E t).elem).size):=by
    rcases Nat.le_total new.length len with hle | hle
    ·rw [Nat.min_eq_left hle,List.take_of_length_le (by rw [k2.1];exact Nat.le_refl _),List.take_of_length_le (by rw [k2.1];exact Nat.mul_le_mul_right _ hle)]
    ·rw [Nat.min_eq_right hle]
   rw [hsv] at hfc
   have hrun : ∀ w', (∀ a', a = some a' -> (storeCells a' (vs.take (len * (E (E t).elem).size))).run P w = .ok () w') -> (a = none -> w' = w) -> (builtin .copy ts ty consts #[.slice a len c, vx]).run P w = .ok (.value (.int .i64 (min new.length len : Nat))) w' := by
    intro w' e1 e2
    simp only [builtin,Builtin.copy_,ht0,List.getElem?_toArray,List.getElem?_cons_zero,List.getElem?_cons_succ,Sem.run_bind,run_underlying (bd hE hk4),Result.andThen_ok,k3,bx hE hkind]
    rw [show Nat.min nl len = min new.length len from k3', hfc]
    simp only [Result.andThen_ok]
    cases a with
    | none=>simp [e2 rfl,goInt]
    | some a=>simp [e1 a rfl,goInt]
   by_cases hm0 : (new.take len).length = 0
   ·have hnil : new.take len = []:=List.length_eq_zero_iff.1 hm0
    have hvn : vs.take (len * (E (E t).elem).size) = []:=List.length_eq_zero_iff.1 (by rw [hsub.1,hm0];simp)
    rw [hnil] at hk
    have hov : eI o.elems s [] = o.elems:=by simp [eI]
    have hset : h.set id { o with elems:=eI o.elems s [] } = h:=by
     rw [hov]
     apply List.ext_getElem?
     intro i
     by_cases hii : id = i
     ·subst hii;rw [List.getElem?_set_self (List.getElem?_eq_some_iff.1 g1).1,g1]
     ·rw [List.getElem?_set_ne hii]
    rw [hset] at hk
    exact ⟨_,w,hrun w (fun a' _=>by rw [hvn];simp [storeCells]) (fun _=>rfl),dE.same hw hk (cf.2 rfl)⟩
   ·have hlen0 : (new.take len).length <= len:=List.length_take_le _ _
    have hm : r.m ≠ 0:=by omega
    obtain ⟨w', e1, e2, e3⟩ := hw.putFlat (P := P) (s := s) g1 g2 a2 hr hm (by rw [hrk]; exact hsub) (fun v hv => k4 v (List.mem_of_mem_take hv)) (by omega)
    have ha:=r3 (by omega)
    exact ⟨_, w', hrun w' (fun a' ha' => by rw [ha] at ha'; cases ha'; exact e1) (fun hn => by rw [ha] at hn; cases hn), st, _, _, hk, e2, cf.2 rfl, e3, rfl⟩
  ·exact hk.elim
 ·rename_i id s len k cap
  simp only [cS] at hx
  obtain ⟨vb,r,us,rfl,h2,h3,rfl⟩:=hx
  have hvb : aV w st (.sl id s len k cap) vb:=⟨us,h2,h3⟩
  split at hk
  ·rename_i t rest hts
   have ht0 : ts[0]? = some t:=by rw [<- Array.getElem?_toList,hts];rfl
   obtain ⟨h1,hk⟩:=ai hk
   simp only [Bool.and_eq_true,beq_iff_eq,bne_iff_ne] at h1
   obtain ⟨hk4,hkind⟩:=h1
   have hF:=hE.facts hkind
   have hpos:=hF.pos
   obtain ⟨o,g1,g2,hk⟩:=j0 hk
   obtain ⟨hsz,hb,hk⟩:=ai hk
   simp only [beq_iff_eq] at hsz
   rw [aU] at hk
   obtain ⟨a,c,rfl,a1,a2,a3,a4,a5,a6⟩:=eT.1 hvb
   obtain ⟨r,hr,hobj⟩:=hw.obj id o g1 (by omega) a2
   obtain ⟨r1,r2,r3,r4⟩:=a6 r hr
   have hrk : r.k = (E (E t).elem).size:=by rw [r1,hsz]
   by_cases hm0 : len = 0
   ·subst hm0
    have hov : eI o.elems s (List.replicate 0 (E (E t).elem).zero) = o.elems:=by simp [eI]
    have hset : h.set id { o with elems:=eI o.elems s (List.replicate 0 (E (E t).elem).zero) } = h:=by
     rw [hov]
     apply List.ext_getElem?
     intro i
     by_cases hii : id = i
     ·subst hii;rw [List.getElem?_set_self (List.getElem?_eq_some_iff.1 g1).1,g1]
     ·rw [List.getElem?_set_ne hii]
    rw [hset] at hk
    refine ⟨.tuple #[],w,?_,dE.same hw hk (cw rfl (by simp [aC,cS]))⟩
    simp only [builtin,Builtin.clear_,ht0,List.getElem?_toArray,List.getElem?_cons_zero,Sem.run_bind,run_underlying (bd hE hk4),Result.andThen_ok]
    cases a<;>simp
   ·have hm : r.m ≠ 0:=by omega
    obtain ⟨i,d,z,f1,f2,f3,f4,f5,f6,f7,f8⟩:=hF.ex
    have hzv : (zeroValue (E t).elem).run P w = .ok z w:=by simp [zeroValue,typeInfo,f1,f6]
    obtain ⟨zu,y1,y2,y3,y4,y5,y6⟩:=dk (w:=w) (st:=st) hF.zfit (kQ f7)
    have hzs : z.cells.size = (E (E t).elem).size:=by rw [<- y2,<- y1];simp
    have hfl:=mw (w:=w) (st:=st) (k:=(E (E t).elem).size) (n:=len) (z:=(E (E t).elem).zero) (zc:=z.cells) (by rw [y1];exact y3) hzs
    have hzc : Builtin.zeroCells z.cells len = (Array.range (len * (E (E t).elem).size)).map (z.cells[· % z.cells.size]!):=by simp [Builtin.zeroCells,hzs]
    have hkn : (E (E t).elem).zero.known = true:=sJ hF.zfit
    obtain ⟨w', e1, e2, e3⟩ := hw.putFlat (P := P) (s := s) g1 g2 a2 hr hm (by rw [hrk]; exact hfl) (mu (fun x hx => by rw [List.eq_of_mem_replicate hx]; exact hkn) hfl hpos) (by simp; omega)
    have ha:=r3 (by omega)
    subst ha
    refine ⟨.tuple #[], w', ?_, st, _, _, hk, e2, cw rfl (by simp [aC, cS]), e3, rfl⟩
    simp only [builtin,Builtin.clear_,ht0,List.getElem?_toArray,List.getElem?_cons_zero,Sem.run_bind,run_underlying (bd hE hk4),Result.andThen_ok]
    rw [<- hzc] at e1
    cases len with
    | zero=>exact absurd rfl hm0
    | succ n=>simp [hzv,e1]
  ·exact hk.elim
 ·rename_i x l
  simp only [cS] at hx
  obtain ⟨v,r,us,rfl,h2,h3,h4⟩:=hx
  obtain ⟨h1,hk⟩:=ai hk
  have hxi:=zb h1
  obtain ⟨v', x', e1, e2, e3⟩ := lQ (P := P) (g := Builtin.max2) (f := jc) (fun k a k' b => rfl) l r x v _ hxi ⟨us, h2, h3⟩ h4 hk
  exact ⟨v', w, by simp [builtin, Builtin.max_, e1], dE.same hw e3 e2⟩
 ·rename_i x l
  simp only [cS] at hx
  obtain ⟨v,r,us,rfl,h2,h3,h4⟩:=hx
  obtain ⟨h1,hk⟩:=ai hk
  have hxi:=zb h1
  obtain ⟨v', x', e1, e2, e3⟩ := lQ (P := P) (g := Builtin.min2) (f := kW) (fun k a k' b => rfl) l r x v _ hxi ⟨us, h2, h3⟩ h4 hk
  exact ⟨v', w, by simp [builtin, Builtin.min_, e1], dE.same hw e3 e2⟩
 ·rename_i x
  obtain ⟨h1,hk2⟩:=ai hk
  clear hk
  have hk:=hk2
  clear hk2
  simp only [cS] at hx
  obtain ⟨v,r,us,rfl,h2,h3,rfl⟩:=hx
  have hv : aV w st x v:=⟨us,h2,h3⟩
  unfold G6 at h1
  split at h1
  ·rename_i t hts
   simp only [beq_iff_eq] at h1
   have ht0 : ts[0]? = some t:=by rw [<- Array.getElem?_toList,hts];rfl
   have fin : ∀ n : Nat, (Builtin.cap_ ts ty #[v]).run P w = .ok (.int .i64 n) w -> (K (.d (.int .i64 n)) h) -> ∃ v' w', (builtin .cap ts ty consts #[v]).run P w = .ok (.value v') w' /\ dE B W w st K v' w' := by
    intro n h4 h5
    exact ⟨_,w,by simp [builtin,h4],dE.same hw h5 (cf.2 rfl)⟩
   unfold D9 at hk
   split at hk
   ·obtain ⟨a,rfl⟩:=mc hv
    exact fin 0 (by simp [Builtin.cap_,ht0,run_underlying (bd hE h1),goInt]) hk
   ·rename_i c
    obtain ⟨a, c', rfl, _, _, _, _, a5, _⟩ := eT.1 hv
    have:=a5 c rfl;subst this
    exact fin _ (by simp [Builtin.cap_,ht0,run_underlying (bd hE h1),goInt]) hk
   ·exact hk.elim
  ·cases h1
 ·exact hk.elim
end
end Dw
namespace Dw
open Go Go.RowKit
theorem Bk (w : World) (cs : Array Value) (e n : Nat) (_hn : n = cs.size) : (w.alloc (.cells cs e)).freeze ⟨w.heap.size,n,none⟩ 1 = w.alloc (.cells cs e (n,n + 1)):=by
 unfold World.freeze
 rw [if_neg (by omega)]
 simp only [World.alloc]
 congr 1
 apply Array.ext_getElem?
 intro i
 rw [Array.getElem?_modify,Array.getElem?_push,Array.getElem?_push]
 by_cases hi : i = w.heap.size
 ·subst hi;simp
 ·rw [if_neg (Ne.symm hi),if_neg hi];simp [hi]
section
variable {P : Program} {E : TE} (hE : gJ P E) {B : Nat} {W w : World} {st : St} {h : ae} (hw : WR B W w st h)
include hE hw
theorem AS {src dst : Nat} {x : AV} {vx : Value} {K : KV} (hx : aV w st x vx) (hk : jQ E src dst x h K) : lp P B W w st K (convert src dst vx):=by
 unfold jQ at hk
 split at hk
 ·rename_i k n
  cases cf.1 hx
  obtain ⟨h1,hk⟩:=ai hk
  simp only [Bool.and_eq_true, beq_iff_eq, Bool.not_eq_true', beq_eq_false_iff_ne] at h1
  obtain ⟨d,hd,_⟩:=l9 hE h1.2
  refine ⟨_,w,?_,dE.same hw hk (cf.2 rfl)⟩
  simp [convert,run_underlying hd,run_underlying (eM hE h1.1),Conv.intToInt]
 ·rename_i s
  cases gM.1 hx
  rcases aq hk with ⟨h3,hk⟩ | ⟨h3,hk⟩
  ·simp only [beq_iff_eq] at h3
   obtain ⟨h1,hk⟩:=ai hk
   simp only [Bool.not_eq_true', beq_eq_false_iff_ne] at h1
   obtain ⟨d,hd,_⟩:=l9 hE h1
   refine ⟨_,w,?_,dE.same hw hk hx⟩
   simp [convert,run_underlying hd,run_underlying (bK hE h3)]
  ·obtain ⟨h1,hk⟩:=ai hk
   simp only [Bool.and_eq_true, beq_iff_eq, Bool.not_eq_true', beq_eq_false_iff_ne] at h1
   obtain ⟨⟨h4,h5⟩,h6,h7⟩:=h1
   obtain ⟨d,hd,_⟩:=l9 hE h5
   have hu8:=eM hE h6
   rw [h7] at hu8
   rw [bT] at hk
   obtain ⟨hdw,hde⟩:=CE hw
   have hcut : s.length <= grownCap w s.length 0 (E dst).elem:=by simp [grownCap,Question.cut]
   obtain ⟨c,hc⟩ : ∃ c,c = grownCap w s.length 0 (E dst).elem:=⟨_,rfl⟩
   rw [<- hc] at hcut
   obtain ⟨cells,hcells⟩ : ∃ cells : Array Value,cells = (s.map fun b=>Value.int .u8 b.toNat).toArray ++ Array.replicate (c - s.length) (.int .u8 0):=⟨_,rfl⟩
   have hcs : cells.size = c:=by simp [hcells];omega
   have hflat : dz w.drew st 1 (s.map fR) (s.map fun b=>Value.int .u8 b.toNat):=by
    refine ⟨by simp,fun i x hi=>?_⟩
    rw [List.getElem?_map] at hi
    obtain ⟨b,hb,rfl⟩:=Option.map_eq_some_iff.1 hi
    have hl:=(List.getElem?_eq_some_iff.1 hb).1
    rw [Nat.mul_one]
    have : ((s.map fun b=>Value.int .u8 b.toNat).drop i).take 1 = [Value.int .u8 b.toNat]:=by
     rw [List.drop_eq_getElem_cons (by simpa using hl)]
     have:=(List.getElem?_eq_some_iff.1 hb).2
     simp [this]
    rw [this]
    simp [fR,aC,cC]
   obtain ⟨w1,e1⟩:=hdw.newFlat cells (E dst).elem (c,c + 1) (s.map fR) 1 c (by omega) (by simpa using hcut) (by rw [hcs];omega) (fun j hj=>by omega) hflat (fun j v hj=>by
    have hlt:=(List.getElem?_eq_some_iff.1 hj).1
    rw [hcells,Array.getElem?_append_left (by simpa using hlt),<- hj]
    simp)
   have hrun:=Lib.run_convert_string_bytes (P:=P) w src dst (E dst).elem ⟨s.toArray⟩ hd (bd hE h4) hu8
   have hbs : ByteArray.size ⟨s.toArray⟩ = s.length:=by simp [ByteArray.size]
   have hbc : Lib.bytesCells w (E dst).elem ⟨s.toArray⟩ = cells:=by
    simp [Lib.bytesCells,hcells,hbs,hc]
   have hbw : Lib.bytesWorld w (E dst).elem ⟨s.toArray⟩ = w.drew.alloc (.cells cells (E dst).elem (c,c + 1)):=by
    unfold Lib.bytesWorld
    rw [hbc,hcs]
    exact Bk w.drew cells (E dst).elem c hcs.symm
   rw [hbs,<- hc,hbw] at hrun
   refine ⟨.slice (some ⟨w.heap.size,0,none⟩) s.length c,w.drew.alloc (.cells cells (E dst).elem (c,c + 1)),hrun,_,_,_,hk,w1,?_,hde.trans e1,rfl⟩
   have:=gz hdw (w':=w.drew.alloc (.cells cells (E dst).elem (c,c + 1))) (k:=1) (n:=(s.map fR).length) (m:=c) (len:=s.length) (cap:=none) hcut (fun _=>⟨by simp,by simpa using hcut⟩) (fun c' hc=>by simp at hc)
   exact this
 ·obtain ⟨h1,hk⟩:=ai hk
  simp only [Bool.and_eq_true,beq_iff_eq] at h1
  obtain ⟨⟨h3,h4⟩,h5,h6⟩:=h1
  have hu8:=eM hE h5
  rw [h6] at hu8
  obtain ⟨a,rfl⟩:=mc hx
  refine ⟨.string ⟨#[]⟩,w,?_,dE.same hw hk (gM.2 rfl)⟩
  cases a with
  | none=>simp [convert,run_underlying (bK hE h3),run_underlying (bd hE h4),run_underlying hu8,Conv.bytesToString];rfl
  | some a=>simp [convert,run_underlying (bK hE h3),run_underlying (bd hE h4),run_underlying hu8,Conv.bytesToString,loadCells,loadCellsFrom];rfl
 ·rename_i l
  obtain ⟨h1,s,rfl,hkf⟩:=ai hk
  simp only [Bool.and_eq_true,beq_iff_eq] at h1
  obtain ⟨⟨h3,h4⟩,h5,h6⟩:=h1
  have hu8:=eM hE h5
  rw [h6] at hu8
  obtain ⟨a,c,rfl,a1,a2⟩:=qs.1 hx
  refine ⟨.string ⟨s.toArray⟩,w,?_,dE.same hw hkf (gM.2 rfl)⟩
  by_cases h0 : s = []
  ·subst h0
   cases a with
   | none=>simp [convert,run_underlying (bK hE h3),run_underlying (bd hE h4),run_underlying hu8,Conv.bytesToString];rfl
   | some a=>simp [convert,run_underlying (bK hE h3),run_underlying (bd hE h4),run_underlying hu8,Conv.bytesToString,loadCells,loadCellsFrom];rfl
  ·obtain ⟨b,o,k,rfl,b1,b2,b3⟩:=a2 (by simpa using h0)
   have hk1 : k = 1:=by
    cases s with
    | nil=>exact absurd rfl h0
    | cons y s=>
     obtain ⟨us,u1,u2,_⟩:=(eV _ _).1 b3 0 _ (by simp;rfl)
     rw [<- u1,ip _ _ u2];rfl
   subst hk1
   have:=run_convert_bytes_arg (P:=P) w src (E src).elem (bd hE h4) hu8 b o (s.map fun b=>D.int .u8 b.toNat).length c (s.map fun b=>(b.toNat : Int)) (by simp) (fun i hi=>by
    simp only [List.length_map] at hi
    obtain ⟨us,u1,u2,u3⟩:=(eV _ _).1 b3 i _ (by rw [List.getElem?_map,List.getElem?_eq_getElem hi];rfl)
    simp only [cC] at u2
    subst u2
    have:=(bE _ _).1 u3 0 _ (by simp;rfl)
    simp only [Nat.mul_one,Nat.add_zero] at this
    rw [this]
    simp [List.getD_eq_getElem?_getD,hi]) dst (bK hE h3)
   rw [this,qP]
 ·rename_i id s len k cap
  obtain ⟨h1,hk⟩:=ai hk
  simp only [Bool.and_eq_true,beq_iff_eq] at h1
  obtain ⟨⟨h3,h4⟩,h5,h6⟩:=h1
  have hu8:=eM hE h5
  rw [h6] at hu8
  obtain ⟨o,g1,g2,hk⟩:=ga hk
  obtain ⟨h7,bs,⟨hb,hbs⟩,hkf⟩:=ai hk
  simp only [beq_iff_eq] at h7
  subst h7
  obtain ⟨a,c,rfl,a1,a2,a3,a4,a5,a6⟩:=eT.1 hx
  obtain ⟨r,hr,hobj⟩:=hw.obj id o g1 g2 a2
  obtain ⟨r1,r2,r3,r4⟩:=a6 r hr
  have hlen : bs.length = len:=by
   have:=congrArg List.length hbs
   simp at this;omega
  refine ⟨.string ⟨bs.toArray⟩,w,?_,dE.same hw hkf (gM.2 rfl)⟩
  by_cases h0 : len = 0
  ·subst h0
   have hb0 : bs = []:=List.length_eq_zero_iff.1 hlen
   subst hb0
   cases a with
   | none=>simp [convert,run_underlying (bK hE h3),run_underlying (bd hE h4),run_underlying hu8,Conv.bytesToString];rfl
   | some a=>simp [convert,run_underlying (bK hE h3),run_underlying (bd hE h4),run_underlying hu8,Conv.bytesToString,loadCells,loadCellsFrom];rfl
  ·have hm : r.m ≠ 0:=by omega
   obtain ⟨vs,f1,f2⟩:=hobj.flat hm s len hb
   rw [r1] at f1 f2
   rw [hbs] at f1
   have ha:=r3 (by omega)
   rw [r1] at ha
   subst ha
   have:=run_convert_bytes_arg (P:=P) w src (E src).elem (bd hE h4) hu8 r.b (r.o + s * 1) len c (bs.map fun b=>(b.toNat : Int)) (by simp [hlen]) (fun i hi=>by
    have hi' : i < bs.length:=by omega
    have hel:=f1.2 i (fR bs[i]) (by rw [List.getElem?_map,List.getElem?_eq_getElem hi'];rfl)
    simp only [fR,aC,cC,Nat.mul_one] at hel
    have hvl : i < vs.length:=by have:=f1.1;simp at this;omega
    have hel2 : vs[i] = Value.int .u8 bs[i].toNat:=by
     have:=hel
     rw [List.drop_eq_getElem_cons hvl,List.take_succ_cons] at this
     exact (List.cons.inj this).1
    have hmm:=(bE _ _).1 f2 i _ (List.getElem?_eq_getElem hvl)
    rw [hmm,hel2]
    simp [List.getD_eq_getElem?_getD,hi']) dst (bK hE h3)
   rw [this,qP]
 ·exact hk.elim
end
end Dw
namespace Dw
open Go Go.RowKit
set_option linter.unusedSectionVars false
theorem sX {k : IntKind} {x : AV} {n : Int} (h : sW k x = some n) : x = .d (.int k n):=by
 unfold sW at h
 split at h
 ·rename_i k' m
  split at h
  ·rename_i hk
   cases h
   have:=(beq_iff_eq (a:=k) (b:=k')).1 hk
   subst this;rfl
  ·cases h
 ·cases h
theorem nT {x : AV} {d : D} (h : z7 x = some d) : x = .d d /\ fL d = true:=by
 unfold z7 at h
 split at h
 ·rename_i y
  split at h
  ·rename_i hs;cases h;exact ⟨rfl,hs⟩
  ·cases h
 ·cases h
theorem B4 {x : AV} {d : D} (h : AC x = some d) : x = .d d /\ fL d = true:=nT h
theorem A0 {k : IntKind} {x : AV} {p : Int × D} (h : bz k x = some p) : x = I0 k p /\ fL p.2 = true:=by
 unfold bz at h
 split at h
 ·rename_i k' n v
  split at h
  ·rename_i hs
   cases h
   simp only [Bool.and_eq_true,beq_iff_eq] at hs
   obtain ⟨rfl,hs⟩:=hs
   exact ⟨rfl,hs⟩
  ·cases h
 ·cases h
theorem iZ {k : IntKind} : ∀ {l : List AV} {L : List (Int × D)},pR k l = some L -> l = L.map (I0 k) /\ ∀ p ∈ L,fL p.2 = true
 | [],L,h=>by cases h;exact ⟨rfl,fun p hp=>by cases hp⟩
 | a :: l,L,h=>by
  simp only [pR] at h
  split at h
  ·rename_i p hp
   split at h
   ·rename_i r hr
    cases h
    obtain ⟨e1,e2⟩:=A0 hp
    obtain ⟨f1,f2⟩:=iZ hr
    refine ⟨by rw [List.map_cons,<- e1,<- f1],fun q hq=>?_⟩
    rcases List.mem_cons.1 hq with rfl | hq
    ·exact e2
    ·exact f2 q hq
   ·cases h
  ·cases h
theorem qG {x : AV} {n : List UInt8} (h : qe x = some n) : x = .d (.str n):=by
 unfold qe at h
 split at h
 ·cases h;rfl
 ·cases h
theorem yz {x : AV} {p : List UInt8 × D} (h : AZ x = some p) : x = I1 p /\ fL p.2 = true:=by
 unfold AZ at h
 split at h
 ·split at h
  ·rename_i hs;cases h;exact ⟨rfl,hs⟩
  ·cases h
 ·cases h
theorem ii : ∀ {l : List AV} {L : List (List UInt8 × D)},mj l = some L -> l = L.map I1 /\ ∀ p ∈ L,fL p.2 = true
 | [],L,h=>by cases h;exact ⟨rfl,fun p hp=>by cases hp⟩
 | a :: l,L,h=>by
  simp only [mj] at h
  split at h
  ·rename_i p hp
   split at h
   ·rename_i r hr
    cases h
    obtain ⟨e1,e2⟩:=yz hp
    obtain ⟨f1,f2⟩:=ii hr
    refine ⟨by rw [List.map_cons,<- e1,<- f1],fun q hq=>?_⟩
    rcases List.mem_cons.1 hq with rfl | hq
    ·exact e2
    ·exact f2 q hq
   ·cases h
  ·cases h
section
variable {κ : Type} [DecidableEq κ] {mk : κ -> D}
def ki (mk : κ -> D) (es : List MapEntry) (L : List (κ × D)) : Prop:=es.length = L.length /\ ∀ (i : Nat) (e : MapEntry) (p : κ × D),es[i]? = some e -> L[i]? = some p -> e.key = cL (mk p.1) /\ e.val = cL p.2
omit [DecidableEq κ] in
theorem ki.cons {e : MapEntry} {es : List MapEntry} {p : κ × D} {L : List (κ × D)} : ki mk (e :: es) (p :: L) ↔ (e.key = cL (mk p.1) /\ e.val = cL p.2) /\ ki mk es L:=by
 constructor
 ·rintro ⟨h1,h2⟩
  exact ⟨h2 0 e p rfl rfl,by simpa using h1,fun i a b ha hb=>h2 (i + 1) a b (by simpa using ha) (by simpa using hb)⟩
 ·rintro ⟨h1,h2,h3⟩
  refine ⟨by simpa using h2,fun i a b ha hb=>?_⟩
  cases i with
  | zero=>simp at ha hb;subst ha;subst hb;exact h1
  | succ i=>exact h3 i a b (by simpa using ha) (by simpa using hb)
omit [DecidableEq κ] in
theorem fC {w : World} {b : Nat} {l : List AV} {L : List (κ × D)} (h : B5 w b l) (e1 : l = L.map fun p=>.d (.agg [mk p.1,p.2])) : ∃ es : Array MapEntry,w.heap[b]? = some (.map es es.size) /\ ki mk es.toList L /\ ∀ (i : Nat) (e : MapEntry),es[i]? = some e -> e.born = i:=by
 obtain ⟨es,h1,h2,G0,h3⟩:=h
 refine ⟨es,h1,⟨by rw [Array.length_toList,h2,e1,List.length_map],fun i e p he hp=>?_⟩,G0⟩
 have hx : l[i]? = some (.d (.agg [mk p.1,p.2])):=by rw [e1,List.getElem?_map,hp];rfl
 rcases h3 i _ hx with hj | ⟨a, v, e', g1, g2, g3, g4⟩
 ·cases hj
 ·rw [Array.getElem?_toList] at he
  rw [he] at g2;cases g2
  injection g1 with g1
  injection g1 with g1
  injection g1 with q1 q2
  injection q2 with q2 q3
  subst q1;subst q2
  exact ⟨g3,g4⟩
omit [DecidableEq κ] in
theorem CK {w : World} {b : Nat} {es : Array MapEntry} {L : List (κ × D)} (h : w.heap[b]? = some (.map es es.size)) (hL : ki mk es.toList L) (G0 : ∀ (i : Nat) (e : MapEntry),es[i]? = some e -> e.born = i) : B5 w b (L.map fun p=>.d (.agg [mk p.1,p.2])):=by
 refine ⟨es,h,by rw [List.length_map,<- hL.1,Array.length_toList],G0,fun i x hx=>.inr ?_⟩
 rw [List.getElem?_map] at hx
 obtain ⟨p,hp,rfl⟩:=Option.map_eq_some_iff.1 hx
 have hlt : i < es.toList.length:=by rw [hL.1];exact (List.getElem?_eq_some_iff.1 hp).1
 have he : es.toList[i]? = some es.toList[i]:=List.getElem?_eq_getElem hlt
 obtain ⟨g1,g2⟩:=hL.2 i _ p he hp
 exact ⟨mk p.1,p.2,es.toList[i],rfl,by rw [<- Array.getElem?_toList];exact he,g1,g2⟩
def lg : List (κ × D) -> κ -> Nat -> Option Nat
 | [],_,_=>none
 | p :: L,n,i=>if n = p.1 then some i else lg L n (i + 1)
theorem kw {kd : TypeDesc} (hs : ∀ a b : κ,Instr.sameNow kd (cL (mk a)) (cL (mk b)) = some (decide (a = b))) {n : κ} : ∀ (es : List MapEntry) (L : List (κ × D)) (i : Nat),ki mk es L -> Instr.findNow kd (cL (mk n)) es i = some ((lg L n i).map fun j=>(j,cL (jZ (.bool false) L n)))
 | [],[],i,h=>rfl
 | e :: es,p :: L,i,h=>by
  obtain ⟨⟨h1,h2⟩,h3⟩:=ki.cons.1 h
  simp only [Instr.findNow,h1,hs]
  by_cases hn : n = p.1
  ·simp only [decide_eq_true hn,lg,jZ,if_pos hn,h2,Option.map_some]
  ·simp only [decide_eq_false hn,lg,jZ,if_neg hn]
   exact kw hs es L (i + 1) h3
 | [],_ :: _,_,h=>by have:=h.1;simp at this
 | _ :: _,[],_,h=>by have:=h.1;simp at this
theorem vn {z z' : D} {n : κ} : ∀ (L : List (κ × D)) (i : Nat),lg L n i = none -> jZ z L n = z
 | [],_,_=>rfl
 | p :: L,i,h=>by
  simp only [lg] at h
  split at h
  ·cases h
  ·rename_i hn;simp only [jZ,if_neg hn];exact vn (z':=z') L (i + 1) h
theorem vp {z z' : D} {n : κ} : ∀ (L : List (κ × D)) (i j : Nat),lg L n i = some j -> jZ z L n = jZ z' L n
 | [],_,_,h=>by cases h
 | p :: L,i,j,h=>by
  simp only [lg] at h
  split at h
  ·rename_i hn;simp only [jZ,if_pos hn]
  ·rename_i hn;simp only [jZ,if_neg hn];exact vp L (i + 1) j h
theorem ru {n : κ} : ∀ (L : List (κ × D)) (i j : Nat),lg L n i = some j -> i <= j /\ j < i + L.length
 | [],_,_,h=>by cases h
 | p :: L,i,j,h=>by
  simp only [lg] at h
  split at h
  ·cases h;simp
  ·have:=ru L (i + 1) j h;simp;omega
theorem zn {n : κ} : ∀ (L : List (κ × D)) (i j : Nat),lg L n i = some j -> ∃ p,L[j - i]? = some p /\ p.1 = n
 | [],_,_,h=>by cases h
 | p :: L,i,j,h=>by
  simp only [lg] at h
  split at h
  ·rename_i hn;cases h;exact ⟨p,by simp,hn.symm⟩
  ·obtain ⟨h1,h2⟩:=ru L (i + 1) j h
   obtain ⟨q,q1,q2⟩:=zn L (i + 1) j h
   exact ⟨q,by rw [show j - i = (j - (i + 1)) + 1 by omega,List.getElem?_cons_succ];exact q1,q2⟩
theorem vq {n : κ} {v : D} : ∀ (L : List (κ × D)) (i : Nat),lg L n i = none -> nE L n v = L ++ [(n,v)]
 | [],_,_=>rfl
 | p :: L,i,h=>by
  simp only [lg] at h
  split at h
  ·cases h
  ·rename_i hn;simp only [nE,if_neg hn,List.cons_append];rw [vq L (i + 1) h]
theorem vt {n : κ} {v : D} : ∀ (L : List (κ × D)) (i j : Nat),lg L n i = some j -> nE L n v = L.set (j - i) (n,v)
 | [],_,_,h=>by cases h
 | p :: L,i,j,h=>by
  simp only [lg] at h
  split at h
  ·rename_i hn;cases h;simp only [nE,if_pos hn,Nat.sub_self,List.set_cons_zero]
  ·rename_i hn
   obtain ⟨h1,h2⟩:=ru L (i + 1) j h
   simp only [nE,if_neg hn]
   rw [vt L (i + 1) j h,show j - i = (j - (i + 1)) + 1 by omega,List.set_cons_succ]
end
section
variable {P : Program} {E : TE} (hE : gJ P E) {B : Nat} {W w : World} {st : St} {h : ae} (hw : WR B W w st h)
include hE hw
omit hE in
theorem WR.newMap : WR B W (w.alloc (.map #[] 0)) (st.push ⟨w.heap.size,0,1,0,1⟩) (h ++ [⟨[],1,3⟩]) /\ dO w st (w.alloc (.map #[] 0)) (st.push ⟨w.heap.size,0,1,0,1⟩):=by
 have hsame : ∀ i,i < w.heap.size -> (w.alloc (.map #[] 0)).heap[i]? = w.heap[i]?:=fun i hi=>Below.heap_alloc w _ i hi
 have hnew : (w.alloc (.map #[] 0)).heap[w.heap.size]? = some (.map #[] 0):=by
  show (w.heap.push _)[w.heap.size]? = _
  simp
 have hE : dO w st (w.alloc (.map #[] 0)) (st.push ⟨w.heap.size,0,1,0,1⟩):=dO.push (fun b hb=>hsame b (hw.stab b hb)) (fun b hb=>hsame b (hw.x.ub b hb))
 have hlt : ∀ id s,st.ρ id = some s -> id ≠ st.n:=fun id s hs=>Nat.ne_of_lt (hw.rho_lt hs)
 have hget : ∀ (id : Nat) (o' : AO),(h ++ [(⟨[],1,3⟩ : AO)])[id]? = some o' -> (id < h.length /\ h[id]? = some o') \/ (id = h.length /\ o' = ⟨[],1,3⟩):=by
  intro id o' h1
  rw [List.getElem?_append] at h1
  split at h1
  ·rename_i hl;exact .inl ⟨hl,h1⟩
  ·right
   have : id = h.length:=by
    rcases Nat.lt_or_ge (id - h.length) 1 with h' | h'
    ·omega
    ·simp [List.getElem?_eq_none (show [(⟨[],1,3⟩ : AO)].length <= id - h.length from h')] at h1
   subst this
   simp at h1
   exact ⟨rfl,h1.symm⟩
 have hpush : ∀ id s,(st.push ⟨w.heap.size,0,1,0,1⟩).ρ id = some s -> (id = st.n /\ s = ⟨w.heap.size,0,1,0,1⟩) \/ st.ρ id = some s:=by
  intro id s hs
  simp only [St.push] at hs
  split at hs
  ·rename_i he;cases hs;exact .inl ⟨he,rfl⟩
  ·exact .inr hs
 refine ⟨⟨hw.below.alloc hw.base _,by simp;have:=hw.base;omega,hw.seat.mono hE.S,by simp [St.push,hw.len],fun id o' h1 h2 h3=>?_,fun id o' h1 h2 h3=>?_,fun id s hs=>?_,fun i j a s ha hs h1 h2 h3=>?_,fun b hb=>by simp;have:=hw.stab b hb;simp only [St.push] at hb;omega,
  fun id s o' hs h1 h2 h3 hS=>?_,fun id s o' hs h1 h2 h3=>?_,fun id hg=>Nat.lt_of_lt_of_le (hw.gho id hg) (Nat.le_succ _),fun id s hs hm=>?_,hw.x.low,fun b hb=>by simp;have:=hw.x.ub b hb;simp only [St.push] at hb;omega⟩,hE⟩
 ·rcases hget id o' h1 with ⟨_,h1⟩ | ⟨_,rfl⟩
  ·obtain ⟨s,e1,e2⟩:=hw.obj id o' h1 h2 h3
   exact ⟨s,by simp [St.push,hlt id s e1,e1],e2.mono hE fun hm=>hsame s.b (hw.blk_lt e1 hm)⟩
  ·exact absurd h2 (by decide)
 ·rcases hget id o' h1 with ⟨_,h1⟩ | ⟨rfl,rfl⟩
  ·obtain ⟨s,e1,e2⟩:=hw.mobj id o' h1 h2 h3
   exact ⟨s,by simp [St.push,hlt id s e1,e1],e2.keep (hsame s.b (hw.blk_lt e1 e2.m))⟩
  ·exact ⟨⟨w.heap.size,0,1,0,1⟩,by simp [St.push,hw.len],Nat.one_ne_zero,hw.base,#[],hnew,rfl,fun i e he=>by simp at he,fun i x hx=>by simp at hx⟩
 ·rcases hpush id s hs with ⟨rfl,rfl⟩ | hs
  ·exact ⟨⟨[],1,3⟩,by rw [hw.len];simp,.inr rfl,fun hg=>by have:=hw.gho _ hg;omega⟩
  ·obtain ⟨o', h1, h2, h3⟩ := hw.dom id s hs
   exact ⟨o', by rw [List.getElem?_append, if_pos (List.getElem?_eq_some_iff.1 h1).1]; exact h1, h2, h3⟩
 ·rcases hpush i a ha with ⟨rfl,rfl⟩ | ha<;>rcases hpush j s hs with ⟨rfl,rfl⟩ | hs
  ·rfl
  ·exact absurd h3.symm (Nat.ne_of_lt (hw.blk_lt hs h2))
  ·exact absurd h3 (Nat.ne_of_lt (hw.blk_lt ha h1))
  ·exact hw.inj i j a s ha hs h1 h2 h3
 ·rcases hpush id s hs with ⟨rfl,rfl⟩ | hs
  ·have:=hw.stab _ hS;simp at this
  ·rcases hget id o' h1 with ⟨_,h1⟩ | ⟨rfl,rfl⟩
   ·exact hw.live id s o' hs h1 h2 h3 hS
   ·have:=hw.rho_lt hs;rw [hw.len] at this;omega
 ·rcases hpush id s hs with ⟨rfl,rfl⟩ | hs
  ·rcases hget st.n o' h1 with ⟨hl,h1⟩ | ⟨_,rfl⟩
   ·rw [hw.len] at hl;omega
   ·exact absurd h2 (by decide)
  ·rcases hget id o' h1 with ⟨_,h1⟩ | ⟨rfl,rfl⟩
   ·exact hw.frz id s o' hs h1 h2 h3
   ·have:=hw.rho_lt hs;rw [hw.len] at this;omega
 ·rcases hpush id s hs with ⟨rfl,rfl⟩ | hs
  ·intro hU;have:=hw.x.ub _ hU;simp at this
  ·exact hw.x.own id s hs hm
omit hE in
theorem WR.putMap {id : Nat} {o : AO} {r : qR} (ho : h[id]? = some o) (hst : o.st = 3) (hr : st.ρ id = some r) (hm : DV B w r o) {es : Array MapEntry} {el : List AV}
  (hel : ∀ w', w'.heap[r.b]? = some (.map es es.size) -> B5 w' r.b el) : WR B W (eK w r.b (.map es es.size)) st (h.set id { o with elems := el }) /\ dO w st (eK w r.b (.map es es.size)) st := by
 have hlt:=hw.blk_lt hr hm.m
 have hsame : ∀ i,i ≠ r.b -> (eK w r.b (.map es es.size)).heap[i]? = w.heap[i]?:=fun i hi=>by rw [fo,if_neg (fun h=>hi h.1)]
 have hnew : (eK w r.b (.map es es.size)).heap[r.b]? = some (.map es es.size):=by rw [fo,if_pos ⟨rfl,hlt⟩]
 have hnS:=hw.live id r o hr ho (.inr hst) hm.m
 have hE : dO w st (eK w r.b (.map es es.size)) st:=⟨Nat.le_refl _,fun _ _ _ _ h=>h,fun b hbS=>⟨hbS,hsame b (fun e=>hnS (e ▸ hbS))⟩,fun _ _ h=>h,rfl,rfl,fun b hbU=>hsame b (fun e=>hw.x.own id r hr hm.m (e ▸ hbU))⟩
 have hidl : id < h.length:=(List.getElem?_eq_some_iff.1 ho).1
 have hget : ∀ i o', (h.set id { o with elems := el })[i]? = some o' -> (i = id /\ o' = { o with elems := el }) \/ (i ≠ id /\ h[i]? = some o') := by
  intro i o' hi
  by_cases hii : id = i
  ·subst hii
   left
   rw [List.getElem?_set_self hidl] at hi
   exact ⟨rfl,(Option.some.inj hi).symm⟩
  ·right
   rw [List.getElem?_set_ne hii] at hi
   exact ⟨fun h=>hii h.symm,hi⟩
 have hB:=hm.low
 refine ⟨⟨hw.below.trans ⟨rfl,rfl,rfl,by simp,fun k hk=>hsame k (by omega)⟩,by simpa using hw.base,hw.seat.mono hE.S,by simp [hw.len],fun i o' h1 h2 h3=>?_,fun i o' h1 h2 h3=>?_,fun i s hs=>?_,hw.inj,fun b hbS=>by simpa using hw.stab b hbS,fun i s o' hs h1 h2 h3=>?_,fun i s o' hs h1 h2 h3=>?_,hw.gho,hw.x.own,hw.x.low,fun b hb=>by simpa using hw.x.ub b hb⟩,hE⟩
 ·rcases hget i o' h1 with ⟨rfl,rfl⟩ | ⟨hne,h1'⟩
  ·simp only at h2;omega
  ·obtain ⟨s,a1,a2⟩:=hw.obj i o' h1' h2 h3
   exact ⟨s,a1,a2.mono hE fun hsm=>hsame s.b fun heq=>hne (hw.inj i id s r a1 hr hsm hm.m heq)⟩
 ·rcases hget i o' h1 with ⟨rfl,rfl⟩ | ⟨hne,h1'⟩
  ·exact ⟨r,hr,hm.m,hm.low,hel _ hnew⟩
  ·obtain ⟨s,a1,a2⟩:=hw.mobj i o' h1' h2 h3
   exact ⟨s,a1,a2.keep (hsame s.b fun heq=>hne (hw.inj i id s r a1 hr a2.m hm.m heq))⟩
 ·obtain ⟨o', h1, h2, h3⟩ := hw.dom i s hs
  by_cases hii : id = i
  ·subst hii
   rw [ho] at h1;cases h1
   exact ⟨_,List.getElem?_set_self hidl,h2,h3⟩
  ·exact ⟨o', by rw [List.getElem?_set_ne hii]; exact h1, h2, h3⟩
 ·rcases hget i o' h1 with ⟨rfl,rfl⟩ | ⟨_,h1'⟩
  ·exact hw.live i s o hs ho (.inr hst) h3
  ·exact hw.live i s o' hs h1' h2 h3
 ·rcases hget i o' h1 with ⟨rfl,rfl⟩ | ⟨_,h1'⟩
  ·simp only at h2;omega
  ·exact hw.frz i s o' hs h1' h2 h3
omit hE hw in
theorem xT {d : D} {v : Value} (hs : fL d = true) (h : aV w st (.d d) v) : v = cL d:=by
 obtain ⟨us,h1,h2⟩:=h
 cases d<;>simp [fL] at hs
 all_goals (simp [AV.isAgg] at h1;subst h1;simp only [aC,cC] at h2;simpa [cL] using h2)
omit hE hw in
theorem P6 {d : D} (hs : fL d = true) : aV w st (.d d) (cL d):=by
 refine ⟨[cL d],?_,?_⟩
 ·cases d<;>simp [fL] at hs<;>rfl
 ·cases d<;>simp [fL] at hs<;>simp [aC,cC,cL]
omit hE hw in
theorem vo {κ : Type} [DecidableEq κ] {z : D} {n : κ} : ∀ (L : List (κ × D)),fL z = true -> (∀ p ∈ L,fL p.2 = true) -> fL (jZ z L n) = true
 | [],hz,_=>hz
 | p :: L,hz,h=>by
  simp only [jZ];split
  ·exact h p (by simp)
  ·exact vo L hz (fun q hq=>h q (by simp [hq]))
theorem ux {t : Nat} {K : KV} (hK : eR h { elems:=[],k:=1,st:=3 } (fun id h'=>K (.mp id) h')) : lp P B W w st K (Instr.makeMap t none):=by
 rw [bT] at hK
 obtain ⟨w1,e1⟩:=hw.newMap
 refine ⟨.map (some w.heap.size),w.alloc (.map #[] 0),?_,st.push ⟨w.heap.size,0,1,0,1⟩,.mp h.length,_,hK,w1,?_,e1,rfl⟩
 ·simp [Instr.makeMap,newObj,Sem.run]
 ·refine Kt.2 ⟨w.heap.size,rfl,by simp [St.push,hw.len],hw.gn,fun r hr=>?_⟩
  rw [St.push_at hw.len.symm] at hr
  cases hr;rfl
omit hw in
theorem vL {t : Nat} {ik : IntKind} {n : Int} {b : Bool} (hk : P.underlying t = some (.int ik)) : (Instr.checkKey b 10000 t (.int ik n)).run P w = .ok () w:=by
 show (Instr.checkKey b (9999 + 1) t (.int ik n)).run P w = _
 unfold Instr.checkKey
 simp only [Sem.run_bind,run_underlying hk,Result.andThen_ok,Sem.run_pure]
omit hw in
theorem tM {t : Nat} {s : ByteArray} {b : Bool} (hk : P.underlying t = some .string) : (Instr.checkKey b 10000 t (.string s)).run P w = .ok () w:=by
 show (Instr.checkKey b (9999 + 1) t (.string s)).run P w = _
 unfold Instr.checkKey
 simp only [Sem.run_bind,run_underlying hk,Result.andThen_ok,Sem.run_pure]
omit hE hw in
theorem zY {ik : IntKind} (a b : Int) : Instr.sameNow (.int ik) (cL (.int ik a)) (cL (.int ik b)) = some (decide (a = b)):=by
 simp only [cL,Instr.sameNow,if_true]
 rw [Bool.beq_eq_decide_eq]
omit hE hw in
theorem FV (a b : List UInt8) : (({ data:=a.toArray } : ByteArray) == { data:=b.toArray }) = decide (a = b):=by
 show (a.toArray == b.toArray) = _
 rw [Bool.eq_iff_iff,beq_iff_eq,decide_eq_true_eq]
 exact ⟨fun h=>by simpa using congrArg Array.toList h,fun h=>by rw [h]⟩
omit hE hw in
theorem zZ (a b : List UInt8) : Instr.sameNow .string (cL (.str a)) (cL (.str b)) = some (decide (a = b)):=by
 simp only [cL,Instr.sameNow]
 rw [FV]
section
variable {κ : Type} [DecidableEq κ] {mk : κ -> D} {kd : TypeDesc}
theorem Dg {t : Nat} {vx : Value} {n : κ} {z : D} {id : Nat} {K : AV -> Prop} (hx : aV w st (.mp id) vx) (ht : (E t).kind = 9) (hkt : P.underlying (E t).len = some kd)
  (hs : ∀ a b : κ,Instr.sameNow kd (cL (mk a)) (cL (mk b)) = some (decide (a = b))) (hck : ∀ b,(Instr.checkKey b 10000 (E t).len (cL (mk n))).run P w = .ok () w)
  (hel : (E (E t).elem).kind ≠ 0) (hz : AC (E (E t).elem).zero = some z) (hk : jg h id (fun o=>∃ L,(o.elems = L.map fun p=>.d (.agg [mk p.1,p.2])) /\ (∀ p ∈ L,fL p.2 = true) /\ K (.d (jZ z L n)))) :
  ln P w st K (Instr.lookup t vx (cL (mk n)) false):=by
 obtain ⟨hz1,hz2⟩:=B4 hz
 obtain ⟨o,r,g1,g2,g3,g4,g5,rfl⟩:=Bz hw hx hk
 obtain ⟨L,hL,hL2,hk⟩:=g3
 obtain ⟨es,e1,e2,ebn⟩:=fC g5.at_ hL
 obtain ⟨zv,z1,z2⟩:=ka hE hel w
 rw [hz1] at z2
 have hzv:=xT hz2 (kQ (w:=w) (st:=st) z2)
 have hf:=kw (mk:=mk) hs (n:=n) es.toList L 0 e2
 refine ⟨cL (jZ z L n),_,?_,P6 (vo L hz2 hL2),hk⟩
 simp only [Instr.lookup,Sem.run_bind,run_underlying (rE hE ht),Result.andThen_ok,MapKept.run_getObj_map e1,Sem.run_pure,hck,Instr.findKey,run_underlying hkt,hf]
 cases hm : lg L n 0 with
 | none=>
  simp only [Option.map_none,Sem.run_bind,z1,Result.andThen_ok,Sem.run_pure,Bool.false_eq_true,if_false]
  rw [vn (z':=.bool false) L 0 hm,hzv]
 | some j=>
  simp only [Option.map_some,Sem.run_bind,Sem.run_pure,Result.andThen_ok,Bool.false_eq_true,if_false]
  rw [vp (z:=z) (z':=.bool false) L 0 j hm]
theorem DM {t : Nat} {vx : Value} {n : κ} {d : D} {id : Nat} {K : ae -> Prop} (hx : aV w st (.mp id) vx) (ht : (E t).kind = 9) (hkt : P.underlying (E t).len = some kd)
  (hs : ∀ a b : κ,Instr.sameNow kd (cL (mk a)) (cL (mk b)) = some (decide (a = b))) (hck : ∀ b,(Instr.checkKey b 10000 (E t).len (cL (mk n))).run P w = .ok () w)
  (hst : (Instr.keyThatStays (cL (mk n)) (cL (mk n))).run P w = .ok (cL (mk n)) w)
  (hk1 : jg h id (fun o=>∃ L,(o.elems = L.map fun p=>.d (.agg [mk p.1,p.2])) /\ fb h id { o with elems:=(nE L n d).map fun p=>.d (.agg [mk p.1,p.2]) } K)) :
  ∃ w' h', (Instr.mapUpdate t vx (cL (mk n)) (cL d)).run P w = .ok () w' /\ WR B W w' st h' /\ dO w st w' st /\ K h' := by
 obtain ⟨o,r,g1,g2,g3,g4,g5,rfl⟩:=Bz hw hx hk1
 obtain ⟨L,hL,hk⟩:=g3
 rw [aU] at hk
 obtain ⟨es,e1,e2,ebn⟩:=fC g5.at_ hL
 have hf:=kw (mk:=mk) hs (n:=n) es.toList L 0 e2
 cases hm : lg L n 0 with
 | none=>
  rw [hm,Option.map_none] at hf
  have hes : ki mk (es.push { key:=cL (mk n),val:=cL d,born:=es.size }).toList (nE L n d):=by
   rw [vq L 0 hm,Array.toList_push]
   refine ⟨by simp [e2.1],fun q e p he hp=>?_⟩
   rw [List.getElem?_append] at he hp
   rw [Array.length_toList,<- Array.length_toList,e2.1] at he
   split at he
   ·rename_i hq
    rw [if_pos hq] at hp
    exact e2.2 q e p he hp
   ·rename_i hq
    rw [if_neg hq] at hp
    have : q - L.length = 0:=by
     rcases Nat.lt_or_ge (q - L.length) 1 with h' | h'
     ·omega
     ·simp [List.getElem?_eq_none (show [(n,d)].length <= q - L.length from h')] at hp
    rw [this] at he hp
    simp at he hp
    subst he;subst hp
    exact ⟨rfl,rfl⟩
  have G0 : ∀ (i : Nat) (e : MapEntry),(es.push { key:=cL (mk n),val:=cL d,born:=es.size })[i]? = some e -> e.born = i:=by
   intro i e he
   rw [Array.getElem?_push] at he
   split at he
   ·rename_i hi;cases he;exact hi.symm
   ·exact ebn i e he
  obtain ⟨w1,x1⟩:=hw.putMap g1 g2 g4 g5 (es:=es.push { key:=cL (mk n),val:=cL d,born:=es.size }) (el:=(nE L n d).map fun p=>.d (.agg [mk p.1,p.2])) (fun w' hw'=>CK hw' hes G0)
  refine ⟨_,_,?_,w1,x1,hk⟩
  simp only [Instr.mapUpdate,Sem.run_bind,run_underlying (rE hE ht),Result.andThen_ok,MapKept.run_getObj_map e1,hck,Instr.findKey,run_underlying hkt,hf,Sem.run_pure,MapKept.run_setObj_map _ e1]
  rw [Array.size_push];rfl
 | some j=>
  rw [hm,Option.map_some] at hf
  obtain ⟨j1,j2⟩:=ru L 0 j hm
  obtain ⟨p,p1,p2⟩:=zn L 0 j hm
  rw [Nat.sub_zero] at p1
  have hjl : j < es.size:=by rw [<- Array.length_toList,e2.1];omega
  have hej : es[j]? = some es[j]:=Array.getElem?_eq_getElem hjl
  obtain ⟨q1,q2⟩:=e2.2 j es[j] p (by rw [Array.getElem?_toList];exact hej) p1
  rw [p2] at q1
  have hes : ki mk (es.modify j fun e=>{ e with key:=cL (mk n),val:=cL d }).toList (nE L n d):=by
   rw [vt L 0 j hm,Nat.sub_zero]
   refine ⟨by simp [e2.1],fun q e p he hp=>?_⟩
   rw [Array.getElem?_toList,Array.getElem?_modify] at he
   by_cases hq : j = q
   ·subst hq
    rw [if_pos rfl,hej] at he
    rw [List.getElem?_set_self (by omega)] at hp
    cases he;cases hp
    exact ⟨rfl,rfl⟩
   ·rw [if_neg hq,<- Array.getElem?_toList] at he
    rw [List.getElem?_set_ne hq] at hp
    exact e2.2 q e p he hp
  have G0 : ∀ (i : Nat) (e : MapEntry),(es.modify j fun e=>{ e with key:=cL (mk n),val:=cL d })[i]? = some e -> e.born = i:=by
   intro i e he
   rw [Array.getElem?_modify] at he
   split at he
   ·rename_i hq
    subst hq
    rw [hej] at he
    injection he with he
    subst he
    exact ebn j es[j] hej
   ·exact ebn i e he
  obtain ⟨w1,x1⟩:=hw.putMap g1 g2 g4 g5 (es:=es.modify j fun e=>{ e with key:=cL (mk n),val:=cL d }) (el:=(nE L n d).map fun p=>.d (.agg [mk p.1,p.2])) (fun w' hw'=>CK hw' hes G0)
  refine ⟨_,_,?_,w1,x1,hk⟩
  have hstay : (Instr.keyThatStays (((es[j]?).map (·.key)).getD (cL (mk n))) (cL (mk n))).run P w = .ok (cL (mk n)) w:=by
   rw [hej,Option.map_some,Option.getD_some,q1]
   exact hst
  simp only [Instr.mapUpdate,Sem.run_bind,run_underlying (rE hE ht),Result.andThen_ok,MapKept.run_getObj_map e1,hck,Instr.findKey,run_underlying hkt,hf,Sem.run_pure,hstay,MapKept.run_setObj_map _ e1]
  rw [Array.size_modify];rfl
end
omit hE hw in
theorem kC {h : ae} {id : Nat} {F G : AO -> Prop} (hm : ∀ o,F o -> G o) (hk : jg h id F) : jg h id G:=by
 unfold jg at *
 rw [aE] at *
 obtain ⟨o,h1,h2⟩:=hk
 exact ⟨o,h1,by obtain ⟨h3,h4⟩:=ai h2;rw [h3];exact hm o h4⟩
theorem xd {t : Nat} {x i : AV} {vx vi : Value} {K : AV -> Prop} (hx : aV w st x vx) (hi : aV w st i vi) (hk : gu E t x i h K) : ln P w st K (Instr.lookup t vx vi false):=by
 cases x<;>simp only [gu] at hk
 case mp id=>
  rcases aq hk with ⟨ht,hk1⟩ | ⟨_,hk⟩
  ·simp only [Bool.and_eq_true,beq_iff_eq] at ht
   split at hk1
   ·rename_i n hn
    split at hk1
    ·rename_i z hz
     obtain ⟨hel,hk2⟩:=ai hk1
     simp only [bne_iff_ne] at hel
     have hi':=sX hn
     subst hi'
     cases cf.1 hi
     exact Dg hE hw (mk:=D.int (E (E t).len).ik) hx ht.1 (eM hE ht.2) zY (fun _=>vL hE (eM hE ht.2)) hel hz (kC (fun o ho=>by obtain ⟨L,h1,h2⟩:=ho.out;exact ⟨L,(iZ h1).1,(iZ h1).2,h2⟩) hk2)
    ·exact hk1.elim
   ·exact hk1.elim
  ·obtain ⟨ht,hk1⟩:=ai hk
   simp only [Bool.and_eq_true,beq_iff_eq] at ht
   split at hk1
   ·rename_i n hn
    split at hk1
    ·rename_i z hz
     obtain ⟨hel,hk2⟩:=ai hk1
     simp only [bne_iff_ne] at hel
     have hi':=qG hn
     subst hi'
     cases xT (d:=.str n) rfl hi
     exact Dg hE hw (mk:=D.str) hx ht.1 (bK hE ht.2) zZ (fun _=>tM hE (bK hE ht.2)) hel hz (kC (fun o ho=>by obtain ⟨L,h1,h2⟩:=ho.out;exact ⟨L,(ii h1).1,(ii h1).2,h2⟩) hk2)
    ·exact hk1.elim
   ·exact hk1.elim
theorem pt {t : Nat} {x i v : AV} {vx vi vv : Value} {K : ae -> Prop} (hx : aV w st x vx) (hi : aV w st i vi) (hv : aV w st v vv) (hk : eN E t x i v h K) :
  ∃ w' h', (Instr.mapUpdate t vx vi vv).run P w = .ok () w' /\ WR B W w' st h' /\ dO w st w' st /\ K h' := by
 cases x<;>simp only [eN] at hk
 case mp id=>
  rcases aq hk with ⟨ht,hk1⟩ | ⟨_,hk⟩
  ·simp only [Bool.and_eq_true,beq_iff_eq] at ht
   split at hk1
   ·rename_i n hn
    split at hk1
    ·rename_i d hd
     have hi':=sX hn
     subst hi'
     cases cf.1 hi
     obtain ⟨rfl,hd2⟩:=nT hd
     cases xT hd2 hv
     exact DM hE hw (mk:=D.int (E (E t).len).ik) hx ht.1 (eM hE ht.2) zY (fun _=>vL hE (eM hE ht.2)) (by simp [cL,Instr.keyThatStays,Instr.sameBits]) (kC (fun o ho=>by obtain ⟨L,h1,h2⟩:=ho.out;exact ⟨L,(iZ h1).1,h2⟩) hk1)
    ·exact hk1.elim
   ·exact hk1.elim
  ·obtain ⟨ht,hk1⟩:=ai hk
   simp only [Bool.and_eq_true,beq_iff_eq] at ht
   split at hk1
   ·rename_i n hn
    split at hk1
    ·rename_i d hd
     have hi':=qG hn
     subst hi'
     cases xT (d:=.str n) rfl hi
     obtain ⟨rfl,hd2⟩:=nT hd
     cases xT hd2 hv
     exact DM hE hw (mk:=D.str) hx ht.1 (bK hE ht.2) zZ (fun _=>tM hE (bK hE ht.2)) (by simp [cL,Instr.keyThatStays,Instr.sameBits,FV]) (kC (fun o ho=>by obtain ⟨L,h1,h2⟩:=ho.out;exact ⟨L,(ii h1).1,h2⟩) hk1)
    ·exact hk1.elim
   ·exact hk1.elim
end
end Dw
namespace Dw
open Go Go.RowKit
def iW (B : Nat) (W w : World) (st : St) (r : AV) (h' : ae) (v : Value) (w' : World) : Prop:=
 ∃ st', WR B W w' st' h' /\ aV w' st' r v /\ dO w st w' st' /\ st'.G = st.G
def bn (P : Program) : AG:=fun f args h r h'=>
 ∀ (B : Nat) (W w : World) (st : St) (vs : List Value),WR B W w st h -> cS w st args vs ->
  cM P (iW B W w st r h') ((callFunc f vs.toArray).run P w)
def uE (P : Program) (B : Nat) (W : World) : AG:=fun f args h r h'=>
 ∀ (w : World) (st : St) (vs : List Value),WR B W w st h -> cS w st args vs ->
  cM P (iW B W w st r h') ((callFunc f vs.toArray).run P w)
structure pv (P : Program) (B : Nat) (W : World) (R : ep) : Prop where
 call : ∀ f a h r h', R.call f a h r h' -> uE P B W f a h r h'
 yld : ∀ a h r h', ¬ R.yld a h r h'
theorem pv.of {P : Program} {B : Nat} {W : World} {r : AG} (h : ∀ f a h x h', r f a h x h' -> uE P B W f a h x h') : pv P B W r := ⟨h, fun _ _ _ _ h => h⟩
theorem pv.mute {P : Program} {B : Nat} {W : World} {R : ep} (h : pv P B W R) : pv P B W R.mute:=.of h.call
theorem bn.sub {P : Program} {B : Nat} {W : World} : pv P B W (bn P):=.of fun _ _ _ _ _ h=>h B W
theorem cM.mono {P : Program} {A C : Value -> World -> Prop} (hm : ∀ v w,A v w -> C v w) {r : Result Next} (h : cM P A r) : cM P C r:=by
 unfold cM at *
 split at h
 ·exact hm _ _ h
 ·exact hm _ _ h
 ·exact Calls.mono h fun e w' ⟨v,h1,h2⟩=>⟨v,h1,hm _ _ h2⟩
 ·exact h.elim
theorem md {w : World} {st : St} {T : List AV} {a : Act} (hT : aT w st T a.tmps) (l : List Operand) : cS w st (l.map (opnd T)) (l.map a.eval):=by
 rw [dS]
 refine ⟨by simp,fun i x v hx hv=>?_⟩
 rw [List.getElem?_map] at hx hv
 obtain ⟨o,ho,rfl⟩:=Option.map_eq_some_iff.1 hx
 rw [ho] at hv
 cases hv
 exact bc hT o
theorem fT {w : World} {st : St} : ∀ {l r : List AV} {us vs : List Value},cS w st l us -> cS w st r vs -> cS w st (l ++ r) (us ++ vs)
 | [],r,us,vs,h,k=>by simp only [cS] at h;subst h;simpa using k
 | x :: l,r,us,vs,h,k=>by
  simp only [cS] at h
  obtain ⟨v,t,ws,rfl,h2,h3,h4⟩:=h
  simp only [List.cons_append,cS]
  exact ⟨v,t ++ vs,ws,rfl,h2,h3,fT h4 k⟩
theorem mf {w : World} {st : St} : ∀ {l : List D} {us : List Value},iX w st.S l us -> cS w st (l.map .d) us
 | [],us,h=>by simpa [cS,iX] using h
 | x :: l,us,h=>by
  simp only [iX] at h
  obtain ⟨v,t,ws,h1,h2,h3,h4⟩:=h
  simp only [List.map_cons,cS]
  refine ⟨v,t,ws,h1,?_,by simpa [aC] using h3,mf h4⟩
  have : (AV.d x).isAgg = x.isAgg:=by cases x<;>rfl
  rw [this];exact h2
theorem qi {w : World} {st : St} {T : List AV} {a : Act} (hT : aT w st T a.tmps) {o : Option Operand} {K : Option AV -> Prop} (h : iU T o K) : ∃ x,oV w st x (o.map a.eval) /\ K x:=by
 cases o with
 | none=>exact ⟨none,by simp [oV],h⟩
 | some o=>
  simp only [iU] at h
  rw [aG] at h
  exact ⟨some (opnd T o),bc hT o,h⟩
section
variable {P : Program} {E : TE} {B : Nat} {W w : World} {st : St} {h : ae}
theorem dl {K : KV} {s : Sem Value} (hw : WR B W w st h) (hs : ln P w st (fun v=>K v h) s) : cM P (dE B W w st K) ((do pure (.value (<- s)) : Sem Next).run P w):=by
 obtain ⟨v,x,h1,h2,h3⟩:=hs
 simp only [Sem.run_bind,h1,Result.andThen_ok,Sem.run_pure,cM]
 exact dE.same hw h3 h2
theorem fj {K : KV} {s : Sem Value} (hs : lp P B W w st K s) : cM P (dE B W w st K) ((do pure (.value (<- s)) : Sem Next).run P w):=by
 obtain ⟨v, w', h1, h2⟩ := hs
 simp only [Sem.run_bind,h1,Result.andThen_ok,Sem.run_pure,cM]
 exact h2
theorem fY {K : KV} {x : AV} {v : Value} (hw : WR B W w st h) (hx : aV w st x v) (hk : K x h) : cM P (dE B W w st K) ((pure (.value v) : Sem Next).run P w):=by
 simp only [Sem.run_pure,cM]
 exact dE.same hw hk hx
theorem qO {K : KV} {r : AV} {h' : ae} (hk : K r h') {v : Value} {w' : World} (h : iW B W w st r h' v w') : dE B W w st K v w':=by
 obtain ⟨st', h1, h2, h3, h4⟩ := h
 exact ⟨st', r, h', hk, h1, h2, h3, h4⟩
theorem yi {R : ep} (hR : pv P B W R) {f : AV} {vf : Value} {args : List AV} {vs : List Value} {K : KV} (hw : WR B W w st h) (hf : aV w st f vf) (ha : cS w st args vs) (hk : om R f args h K) :
  cM P (dE B W w st K) ((do let d <- Deferred.ofValue vf vs.toArray;invoke d.target d.args).run P w):=by
 cases f<;>simp only [om] at hk
 case d d=>
  cases d<;>simp only at hk
  case fn f first cap=>
   obtain ⟨r, h', h1, h2⟩ := hk
   obtain ⟨us,e1,e2⟩:=hf
   simp only [AV.isAgg,Bool.false_eq_true,if_false] at e1
   subst e1
   simp only [aC,cC] at e2
   obtain ⟨us,ts,e2,e3,e4⟩:=e2
   cases e2
   simp only [Deferred.ofValue,Sem.run_bind,Sem.run_pure,Result.andThen_ok,invoke]
   have:=hR.call _ _ _ _ _ h1 w st (us ++ (vs ++ ts)) hw (fT (mf e3) (fT ha (mf e4)))
   have he : us.toArray ++ vs.toArray ++ ts.toArray = (us ++ (vs ++ ts)).toArray:=by simp
   rw [he]
   exact this.mono fun v w' hp=>qO h2 hp
 case fn f first cap=>
  obtain ⟨r, h', h1, h2⟩ := hk
  obtain ⟨us,e1,e2⟩:=hf
  simp only [AV.isAgg,Bool.false_eq_true,if_false] at e1
  subst e1
  simp only [aC] at e2
  obtain ⟨us,ts,e2,e3,e4⟩:=e2
  cases e2
  simp only [Deferred.ofValue,Sem.run_bind,Sem.run_pure,Result.andThen_ok,invoke]
  have:=hR.call _ _ _ _ _ h1 w st (us ++ (vs ++ ts)) hw (fT e3 (fT ha e4))
  have he : us.toArray ++ vs.toArray ++ ts.toArray = (us ++ (vs ++ ts)).toArray:=by simp
  rw [he]
  exact this.mono fun v w' hp=>qO h2 hp
 case raw v=>
  split at hk
  ·rename_i e;cases e
  ·rename_i e;cases e
  ·obtain ⟨r, h', h1, _⟩ := hk
   exact absurd h1 (hR.yld _ _ _ _)
  ·exact hk.elim
variable (hE : gJ P E)
include hE
theorem mB {R : ep} (hR : pv P B W R) {T : List AV} {a : Act} {o : Oper} {K : KV} (hw : WR B W w st h) (hT : aT w st T a.tmps) (hk : kG E R T h o.op K) : cM P (dE B W w st K) ((execOp a.eval o).run P w):=by
 obtain ⟨dst,op,type,pos,after,guard⟩:=o
 cases op<;>simp only [kG] at hk<;>try exact hk.elim
 case move x=>
  rw [aG] at hk
  exact fY hw (bc hT x) hk
 case assign x=>
  rw [aG] at hk
  exact fY hw (bc hT x) hk
 case pick c x y=>
  rw [aG] at hk
  have hc:=bc hT c
  split at hk
  ·rename_i b hb
   rw [hb] at hc
   have hc':=bV.1 hc
   simp only [execOp, hc', asBool, Sem.run_bind, Sem.run_pure, Result.andThen_ok, cM]
   rcases aq hk with ⟨h1,hk2⟩ | ⟨h1,hk2⟩
   ·rw [aG] at hk2
    subst h1
    exact dE.same hw hk2 (bc hT x)
   ·rw [aG] at hk2
    subst h1
    exact dE.same hw hk2 (bc hT y)
  ·exact hk.elim
 case alloc t=>
  obtain ⟨h1,hk⟩:=ai hk
  exact fj (xV hE hw (by simpa using h1) hk)
 case box t x=>
  rw [aG] at hk
  obtain ⟨h1,hk⟩:=ai hk
  simp only [Bool.and_eq_true] at h1
  exact fj (uJ hE hw (by simpa using h1.1) h1.2 (bc hT x) hk)
 case build t ps=>
  obtain ⟨h1,hk⟩:=ai hk
  exact fj (yc hE hw hT (by simpa using h1) hk)
 case buildSlice t n ps=>
  obtain ⟨h1,hk⟩:=ai hk
  simp only [Bool.and_eq_true,beq_iff_eq,decide_eq_true_eq,bne_iff_ne] at h1
  exact fj (pI hE hw hT h1.1 h1.2.1 h1.2.2 hk)
 case load t x=>
  rw [aG] at hk
  exact dl hw (nC hE hw (bc hT x) hk)
 case store t x y=>
  rw [aG,aG] at hk
  obtain ⟨w', h', h1, h2, h3, h4⟩ := Ak hE hw (bc hT x) (bc hT y) hk
  simp only [execOp,Sem.run_bind,h1,Result.andThen_ok,Sem.run_pure,cM]
  exact ⟨st, .und, h', h4, h2, cw rfl (by simp [aC]), h3, rfl⟩
 case nilCheck x=>
  rw [aG] at hk
  have hx:=bc hT x
  split at hk
  ·rename_i id e off hb
   rw [hb] at hx
   obtain ⟨b, o', hv, _⟩ := gL.1 hx
   rw [hb] at hk
   simp only [execOp,hv]
   exact fY hw (by rw [<- hv];exact hx) hk
  ·rename_i f first cap hb
   rw [hb] at hx
   rw [hb] at hk
   obtain ⟨us,e1,e2⟩:=hx
   simp only [AV.isAgg,Bool.false_eq_true,if_false] at e1
   have e2':=e2
   simp only [aC] at e2
   obtain ⟨us', ts, e2, _, _⟩ := e2
   rw [e1] at e2
   have hv : a.eval x = .func (.func f) us'.toArray ts.toArray:=(List.cons.inj e2).1
   simp only [execOp,hv]
   exact fY hw ⟨us,by simp [AV.isAgg,e1,hv],e2'⟩ hk
  ·rename_i y off hb
   rw [hb] at hx
   rw [hb] at hk
   obtain ⟨b, o', us, hv, _⟩ := rM.1 hx
   simp only [execOp,hv]
   exact fY hw (by rw [<- hv];exact hx) hk
  ·rename_i f first cap hb
   rw [hb] at hx
   rw [hb] at hk
   obtain ⟨us,e1,e2⟩:=hx
   simp only [AV.isAgg,Bool.false_eq_true,if_false] at e1
   have e2':=e2
   simp only [aC,cC] at e2
   obtain ⟨us', ts, e2, _, _⟩ := e2
   rw [e1] at e2
   have hv : a.eval x = .func (.func f) us'.toArray ts.toArray:=(List.cons.inj e2).1
   simp only [execOp,hv]
   exact fY hw ⟨us,by simp [AV.isAgg,e1,hv],e2'⟩ hk
  ·exact hk.elim
 case binOp op t x y b=>
  rw [aG] at hk
  rcases aq hk with ⟨h1,hk⟩ | ⟨h1,hk⟩
  ·have hy : y = .const (.slice none 0 0):=by
    unfold xa at h1
    split at h1
    ·rfl
    ·cases h1
   subst hy
   exact dl hw (BG hE x (.const (.slice none 0 0)) (bc hT x) hk)
  ·rw [aG] at hk
   exact dl hw (AJ hE x y (bc hT x) (bc hT y) hk)
 case unOp op t x=>
  rw [aG] at hk
  exact dl hw (FE (bc hT x) hk)
 case convert src dst x=>
  rw [aG] at hk
  exact fj (AS hE hw (bc hT x) hk)
 case makeFunc fn first cap=>
  split at hk
  ·rename_i f
   rw [dJ,dJ] at hk
   simp only [execOp,Instr.makeFunc]
   refine fY (x:=.fn f (first.toList.map (opnd T)) (cap.toList.map (opnd T))) hw (cw rfl ?_) hk
   simp only [aC]
   exact ⟨first.toList.map a.eval,cap.toList.map a.eval,by simp [<- Array.toList_map],md hT _,md hT _⟩
  ·exact hk.elim
 case makeSlice t l c=>
  rw [aG,aG] at hk
  have hl:=bc hT l
  have hc:=bc hT c
  split at hk
  ·rename_i k1 l' k2 c' e1 e2
   rw [e1] at hl
   rw [e2] at hc
   have hl':=cf.1 hl
   have hc':=cf.1 hc
   obtain ⟨h1,hk1,hk2⟩:=ai hk
   simp only [Bool.and_eq_true,beq_iff_eq,bne_iff_ne] at h1
   simp only [execOp, hl', hc']
   exact fj (qZ hE hw h1.1 h1.2 hk1 hk2)
  ·exact hk.elim
 case makeMap t r=>
  obtain ⟨h1,hk2⟩:=ai hk
  clear hk
  simp only [Bool.and_eq_true,Option.isNone_iff_eq_none] at h1
  obtain ⟨_,rfl⟩:=h1
  exact fj (ux hE hw hk2)
 case lookup t x i c=>
  obtain ⟨h1,hk2⟩:=ai hk
  clear hk
  simp only [Bool.not_eq_true'] at h1
  subst h1
  rw [aG,aG] at hk2
  exact dl hw (xd hE hw (bc hT x) (bc hT i) hk2)
 case mapUpdate t m i v=>
  rw [aG,aG,aG] at hk
  obtain ⟨w', h', h1, h2, h3, h4⟩ := pt hE hw (bc hT m) (bc hT i) (bc hT v) hk
  simp only [execOp,Sem.run_bind,h1,Result.andThen_ok,Sem.run_pure,cM]
  exact ⟨st, .und, h', h4, h2, cw rfl (by simp [aC]), h3, rfl⟩
 case insert t m i v=>
  rw [aG,aG,aG] at hk
  obtain ⟨w', h', h1, h2, h3, h4⟩ := pt hE hw (bc hT m) (bc hT i) (bc hT v) hk
  simp only [execOp,Sem.run_bind,h1,Result.andThen_ok,Sem.run_pure,cM]
  exact ⟨st, .und, h', h4, h2, cw rfl (by simp [aC]), h3, rfl⟩
 case slice t x lo hi mx=>
  rw [aG] at hk
  obtain ⟨lo', l1, hk⟩ := qi hT hk
  obtain ⟨hi', l2, hk⟩ := qi hT hk
  obtain ⟨mx', l3, hk⟩ := qi hT hk
  exact dl hw (Ac hE (bc hT x) l1 l2 l3 hw hk)
 case fieldAddr s x f=>
  rw [aG] at hk
  exact dl hw (qW hE (bc hT x) hk)
 case field s x f=>
  rw [aG] at hk
  exact dl hw (yL hE (bc hT x) hk)
 case indexAddr t x i=>
  rw [aG,aG] at hk
  exact dl hw (qY hE (bc hT x) (bc hT i) hk)
 case index t x i=>
  rw [aG,aG] at hk
  exact dl hw (y9 hE (bc hT x) (bc hT i) hk)
 case extract x i=>
  rw [aG] at hk
  have hx:=bc hT x
  split at hk
  ·rename_i l hb
   rw [hb] at hx
   obtain ⟨us,e1,e2⟩:=hx
   simp only [AV.isAgg,Bool.false_eq_true,if_false] at e1
   simp only [aC] at e2
   obtain ⟨ws,e2,e3⟩:=e2
   rw [e1] at e2
   have hv : a.eval x = .tuple ws.toArray:=(List.cons.inj e2).1
   obtain ⟨y,hy,hk⟩:=(aE _ _).1 hk
   obtain ⟨g1,g2⟩:=(dS _ _).1 e3
   have hi : i < ws.length:=by rw [g1];exact (List.getElem?_eq_some_iff.1 hy).1
   refine dl hw ⟨ws[i],y,?_,g2 i y _ hy (List.getElem?_eq_getElem hi),hk⟩
   simp [Instr.extract,hv,hi]
  ·rename_i l hb
   rw [hb] at hx
   obtain ⟨us,e1,e2⟩:=hx
   simp only [AV.isAgg,Bool.false_eq_true,if_false] at e1
   simp only [aC,cC] at e2
   obtain ⟨ws,e2,e3⟩:=e2
   rw [e1] at e2
   have hv : a.eval x = .tuple ws.toArray:=(List.cons.inj e2).1
   obtain ⟨y,hy,hk⟩:=(aE _ _).1 hk
   obtain ⟨g1,g2⟩:=(dS _ _).1 (mf e3)
   have hi : i < ws.length:=by have:=(List.getElem?_eq_some_iff.1 hy).1;simp at g1;omega
   refine dl hw ⟨ws[i],.d y,?_,g2 i (.d y) _ (by simp [hy]) (List.getElem?_eq_getElem hi),hk⟩
   simp [Instr.extract,hv,hi]
  ·exact hk.elim
 case call c=>
  split at hk
  ·rename_i f hf
   rw [aG,dJ] at hk
   have:=yi hR hw (bc hT f) (md hT c.args.toList) hk
   simp only [execOp,resolve,hf]
   have he : c.args.map a.eval = (c.args.toList.map a.eval).toArray:=by rw [<- Array.toList_map]
   rw [he]
   exact this
  ·rename_i b hb
   rw [dJ] at hk
   have key : ∀ consts,cM P (dE B W w st K) ((builtin b c.argTypes type consts (c.args.toList.map a.eval).toArray).run P w):=by
    intro consts
    obtain ⟨v, w', h1, h2⟩ := un hE hw (b := b) (ts := c.argTypes) (ty := type) (consts := consts) (md hT c.args.toList) hk
    rw [h1]
    exact h2
   have he : c.args.map a.eval = (c.args.toList.map a.eval).toArray:=by rw [<- Array.toList_map]
   simp only [execOp,resolve,hb,Sem.run_bind,Sem.run_pure,Result.andThen_ok,invoke]
   rw [he]
   exact key _
  ·exact hk.elim
end
end Dw
namespace Dw
open Go Go.RowKit
variable {ds : List Deferred}
def iS (ds : List Deferred) (B : Nat) (W w0 : World) (st0 : St) (T : List AV) (h : ae) (a : Act) (w : World) : Prop:=
 a.defers = ds /\ ∃ st,WR B W w st h /\ aT w st T a.tmps /\ dO w0 st0 w st /\ st.G = st0.G
def eB (dst : Option Nat) (v : AV) (T : List AV) : List AV:=
 match dst with
 | some t=>T.set t v
 | none=>T
theorem eH {dst : Option Nat} {v : AV} {T : List AV} {K : List AV -> Prop} : mQ dst v T K = K (eB dst v T):=by
 cases dst<;>simp [mQ,eB,aU]
theorem cG : ∀ (l : List AV) (n : Nat),g9 l n = (l[n]?).getD .junk
 | [],n=>by simp [g9]
 | a :: l,0=>by simp [g9]
 | a :: l,n + 1=>by simp [g9,cG l n]
theorem xj (l : List AV) (n m : Nat) (v : AV) : g9 (l.set n v) m = if m = n /\ n < l.length then v else g9 l m:=by
 rw [cG,cG]
 by_cases h : m = n
 ·subst h
  by_cases hl : m < l.length
  ·simp [hl]
  ·simp [hl]
 ·simp [List.getElem?_set_ne (Ne.symm h),h]
theorem gy {l : List AV} {n : Nat} {x : AV} (h : g9 l n = x) (hj : x ≠ .junk) : l.set n x = l:=by
 rw [cG] at h
 apply List.ext_getElem?
 intro i
 by_cases hi : i = n
 ·subst hi
  rw [List.getElem?_set]
  simp only [if_true]
  cases hx : l[i]? with
  | none=>simp [hx] at h;exact absurd h.symm hj
  | some y=>
   simp [hx] at h
   subst h
   simp [(List.getElem?_eq_some_iff.1 hx).1]
 ·rw [List.getElem?_set_ne (Ne.symm hi)]
theorem ix {w : World} {st : St} {T : List AV} {a : Act} {dst : Option Nat} {x : AV} {v : Value} (hT : aT w st T a.tmps) (hx : aV w st x v) : aT w st (eB dst x T) (a.put dst v).tmps:=by
 cases dst with
 | none=>exact hT
 | some t=>
  refine ⟨by simp [eB,Act.put,hT.1],fun i=>?_⟩
  simp only [eB,Act.put]
  rw [xj]
  have hsz:=hT.1
  by_cases hi : i = t
  ·subst hi
   by_cases hl : i < T.length
   ·rw [if_pos ⟨rfl,hl⟩]
    have : i < a.tmps.size:=by omega
    simp [this]
    exact hx
   ·rw [if_neg (by omega)]
    have h1:=hT.2 i
    have : ¬ i < a.tmps.size:=by omega
    simp [this] at h1 ⊢
    exact h1
  ·rw [if_neg (by omega)]
   have h1:=hT.2 i
   simp only [Array.getD_eq_getD_getElem?] at h1 ⊢
   rw [Array.getElem?_setIfInBounds_ne (Ne.symm hi)]
   exact h1
theorem dw (a : Act) (dst : Option Nat) (v : Value) : (a.put dst v).defers = a.defers:=by cases dst<;>rfl
section
variable {P : Program} {E : TE} {B : Nat} {W : World}
theorem ug {o : Oper} {a : Act} {N : Value -> World -> Prop} {next : Act -> World -> Prop} {Q : Exit -> Act -> World -> Prop} {r : Result Next} (hn : ∀ v w', N v w' -> next (a.put o.dst v) w') (h : cM P N r) : o.upon P a next Q r := by
 unfold cM at h
 split at h
 ·exact hn _ _ h
 ·exact hn _ _ h
 ·refine Calls.mono h fun e w' he=>?_
  obtain ⟨v,rfl,hv⟩:=he
  exact hn _ _ hv
 ·exact h.elim
theorem yW {all : List Oper} {T : List AV} {g : Option (Nat × Bool)} {A C : List AV -> Prop} (h : iG all T g A C) :
  (g = none /\ A T) \/ ∃ j want t,g = some (j,want) /\ lw all j = some t /\
   ((∃ b,g9 T t = .d (.bool b) /\ (if b = want then A T else C T)) \/ (g9 T t = .und /\ C T)):=by
 unfold iG at h
 split at h
 ·exact .inl ⟨rfl,h⟩
 ·rename_i j want
  split at h
  ·rename_i t ht
   refine .inr ⟨j,want,t,rfl,ht,?_⟩
   rw [cF] at h
   split at h
   ·rename_i b hb
    refine .inl ⟨b,hb,?_⟩
    rcases aq h with ⟨h1,h2⟩ | ⟨h1,h2⟩
    ·rw [aU] at h2
     subst h1
     rw [gy hb (by simp)] at h2
     rcases aq h2 with ⟨h3,h4⟩ | ⟨h3,h4⟩
     ·subst h3;simpa using h4
     ·subst h3;simpa using h4
    ·rw [aU] at h2
     subst h1
     rw [gy hb (by simp)] at h2
     rcases aq h2 with ⟨h3,h4⟩ | ⟨h3,h4⟩
     ·subst h3;simpa using h4
     ·subst h3;simpa using h4
   ·rename_i hb;exact .inr ⟨hb,h⟩
   ·exact h.elim
  ·exact h.elim
theorem yw : ∀ (l : List Oper) (j : Nat),lw l j = (l[j]?).bind (·.dst)
 | [],j=>by simp [lw]
 | o :: l,0=>by simp [lw]
 | o :: l,j + 1=>by simp [lw,yw l j]
def vW (all : List Oper) (T : List AV) (g : Option (Nat × Bool)) (b : Bool) : Prop:=
 (g = none /\ b = true) \/ ∃ j want t,g = some (j,want) /\ lw all j = some t /\ ((∃ c,g9 T t = .d (.bool c) /\ b = (c == want)) \/ (g9 T t = .und /\ b = false))
theorem je {all : List Oper} {T : List AV} {g : Option (Nat × Bool)} {A C : List AV -> Prop} (h : iG all T g A C) : (vW all T g true /\ A T) \/ (vW all T g false /\ C T):=by
 rcases yW h with ⟨h1,h2⟩ | ⟨j,want,t,h1,h2,h3⟩
 ·exact .inl ⟨.inl ⟨h1,rfl⟩,h2⟩
 ·rcases h3 with ⟨b,h4,h5⟩ | ⟨h4,h5⟩
  ·by_cases hb : b = want
   ·rw [if_pos hb] at h5
    exact .inl ⟨.inr ⟨j,want,t,h1,h2,.inl ⟨b,h4,by simp [hb]⟩⟩,h5⟩
   ·rw [if_neg hb] at h5
    exact .inr ⟨.inr ⟨j,want,t,h1,h2,.inl ⟨b,h4,by simp [hb]⟩⟩,h5⟩
  ·exact .inr ⟨.inr ⟨j,want,t,h1,h2,.inr ⟨h4,rfl⟩⟩,h5⟩
theorem fx {ops : Array Oper} {T : List AV} {w : World} {st : St} {tm : Array Value} {o : Oper} {b : Bool} (hT : aT w st T tm) (h : vW ops.toList T o.guard b) : Region.wanted o (yielded ops tm) = b:=by
 unfold Region.wanted
 rcases h with ⟨h1,h2⟩ | ⟨j,want,t,h1,h2,h3⟩
 ·simp [h1,h2]
 ·rw [yw] at h2
  simp only [Array.getElem?_toList] at h2
  simp only [h1]
  have hv:=hT.2 t
  rcases h3 with ⟨c,h4,h5⟩ | ⟨h4,h5⟩
  ·rw [h4] at hv
   have hv':=bV.1 hv
   have : tm[t]? = some (.bool c):=by
    rw [Array.getD_eq_getD_getElem?] at hv'
    cases hx : tm[t]? with
    | none=>rw [hx] at hv';simp [undef] at hv'
    | some y=>rw [hx] at hv';simp at hv';rw [hv']
   have hy : yielded ops tm j = some c:=by simp [yielded,h2,this]
   rw [hy,h5]
   cases c<;>cases want<;>rfl
  ·rw [h4] at hv
   obtain ⟨us,e1,e2⟩:=hv
   simp only [AV.isAgg,Bool.false_eq_true,if_false] at e1
   simp only [aC] at e2
   rw [e1] at e2
   have hv' : tm.getD t undef = undef:=(List.cons.inj e2).1
   have hy : yielded ops tm j = none:=by
    unfold yielded
    rw [h2]
    simp only [Option.bind_some]
    rw [Array.getD_eq_getD_getElem?] at hv'
    cases hx : tm[t]? with
    | none=>rfl
    | some y=>rw [hx] at hv';simp at hv';subst hv';simp [undef]
   rw [hy,h5]
   rfl
variable (hE : gJ P E)
include hE
theorem BK {R : ep} (hR : pv P B W R) {w0 : World} {st0 : St} {T : List AV} {h : ae} {a : Act} {w : World} {o : Oper} {K : KV} {next : Act -> World -> Prop} {Q : Exit -> Act -> World -> Prop} (hI : iS ds B W w0 st0 T h a w)
  (hk : kG E R T h o.op K) (hn : ∀ v h' a' w', K v h' -> iS ds B W w0 st0 (eB o.dst v T) h' a' w' -> next a' w') : o.wp P a w next Q := by
 obtain ⟨hd,st,h1,h2,h3,h4⟩:=hI
 refine ug (N:=dE B W w st K) (fun v w' hp=>?_) (mB hE hR h1 h2 hk)
 obtain ⟨st', av, h', p1, p2, p3, p4, p5⟩ := hp
 exact hn av h' _ w' p1 ⟨by rw [dw]; exact hd, st', p2, ix (gp p4 h2) p3, h3.trans p4, p5.trans h4⟩
omit hE in
theorem nU {w0 : World} {st0 : St} {T : List AV} {h : ae} {a : Act} {w : World} {dst : Option Nat} (hI : iS ds B W w0 st0 T h a w) : iS ds B W w0 st0 (eB dst .und T) h (a.put dst undef) w:=by
 obtain ⟨hd,st,h1,h2,h3,h4⟩:=hI
 exact ⟨by rw [dw];exact hd,st,h1,ix h2 (cw rfl (by simp [aC])),h3,h4⟩
theorem tF {R : ep} (hR : pv P B W R) {ops : Array Oper} {w0 : World} {st0 : St} {Q : Exit -> Act -> World -> Prop} {K : List AV -> ae -> Prop} (hQ : ∀ T h a w,K T h -> iS ds B W w0 st0 T h a w -> Q .normal a w) :
  ∀ (rest : List Oper) (n : Nat) (T : List AV) (h : ae) (a : Act) (w : World),ops.toList.drop n = rest -> iS ds B W w0 st0 T h a w -> iL E R ops.toList rest T h K -> wpOps P ops Q (List.range' n rest.length) a w
 | [],n,T,h,a,w,hd,hI,hk=>by simpa [wpOps] using hQ T h a w hk hI
 | o :: rest,n,T,h,a,w,hd,hI,hk=>by
  simp only [iL] at hk
  have ho : ops[n]? = some o:=by
   have:=congrArg (·[0]?) hd
   simpa using this
  have hd' : ops.toList.drop (n + 1) = rest:=by
   have:=congrArg List.tail hd
   simpa using this
  simp only [List.length_cons,List.range'_succ,wpOps,ho]
  obtain ⟨hdf,st,h1,h2,h3,h4⟩:=id hI
  rcases je hk with ⟨g1,g2⟩ | ⟨g1,g2⟩
  ·rw [fx h2 g1]
   simp only [if_true]
   refine .inl (BK hE hR hI g2 fun v h' a' w' hk' hI'=>?_)
   rw [eH] at hk'
   exact tF hR hQ rest (n + 1) _ h' a' w' hd' hI' hk'
  ·rw [fx h2 g1]
   simp only [Bool.false_eq_true,if_false]
   rw [eH] at g2
   exact tF hR hQ rest (n + 1) _ h _ w hd' (nU hI) g2
theorem nO {R : ep} (hR : pv P B W R) {id : Nat} {ops : Array Oper} {w0 : World} {st0 : St} {Q : Exit -> Act -> World -> Prop} {K : List AV -> ae -> Prop} (hQ : ∀ T h a w,K T h -> iS ds B W w0 st0 T h a w -> Q .normal a w)
  {T : List AV} {h : ae} {a : Act} {w : World} (hI : iS ds B W w0 st0 T h a w) (hk : iL E R ops.toList ops.toList T h K) : (Code.region id ops false).wp P Q a w:=by
 refine wp_region ?_
 have:=tF hE hR hQ ops.toList 0 T h a w rfl hI hk
 rw [List.range_eq_range']
 simpa using this
end
end Dw
namespace Dw
open Go Go.RowKit
variable {ds : List Deferred}
theorem pY {V : List Nat} : ∀ (n i : Nat) (μ : List Mu),iE V n i μ = true -> n <= μ.length /\ ∀ k,k < n -> μ[k]? = some (.old (i + k)) \/ (μ[k]? = some .dead /\ i + k ∈ V)
 | 0,i,μ,_=>⟨Nat.zero_le _,fun k h=>by omega⟩
 | n + 1,i,[],h=>by simp [iE] at h
 | n + 1,i,.void k :: μ,h=>by simp [iE] at h
 | n + 1,i,.cut j k :: μ,h=>by simp [iE] at h
 | n + 1,i,.dead :: μ,h=>by
  simp only [iE,Bool.and_eq_true] at h
  obtain ⟨h1,h2⟩:=h
  obtain ⟨e1,e2⟩:=pY n (i + 1) μ h2
  refine ⟨by simp;omega,fun k hk=>?_⟩
  cases k with
  | zero=>
   rw [List.any_eq_true] at h1
   obtain ⟨x,hx,hxi⟩:=h1
   have:=Nat.eq_of_beq_eq_true hxi
   subst this
   exact .inr ⟨rfl,hx⟩
  | succ k=>
   simp only [List.getElem?_cons_succ]
   have:=e2 k (by omega)
   rwa [show i + 1 + k = i + (k + 1) by omega] at this
 | n + 1,i,.old j :: μ,h=>by
  simp only [iE,Bool.and_eq_true,Nat.beq_eq] at h
  obtain ⟨h1,h2⟩:=h
  obtain ⟨e1,e2⟩:=pY n (i + 1) μ h2
  refine ⟨by simp;omega,fun k hk=>?_⟩
  cases k with
  | zero=>simp [h1]
  | succ k=>
   simp only [List.getElem?_cons_succ]
   have:=e2 k (by omega)
   rwa [show i + 1 + k = i + (k + 1) by omega] at this
def gB (m : Option Mu) (j : Nat) : Prop:=m = some (.old j) \/ ∃ n,m = some (.cut j n)
theorem lR : ∀ (μ : List Mu) (i j : Nat),gB μ[i]? j -> j ∈ lV μ
 | [],i,j,h=>by simp [gB] at h
 | .old a :: μ,0,j,h=>by simp [gB] at h;simp [lV,h]
 | .old a :: μ,i + 1,j,h=>by simp only [List.getElem?_cons_succ] at h;simp [lV,lR μ i j h]
 | .cut a b :: μ,0,j,h=>by simp [gB] at h;simp [lV,h]
 | .cut a b :: μ,i + 1,j,h=>by simp only [List.getElem?_cons_succ] at h;simp [lV,lR μ i j h]
 | .void a :: μ,0,j,h=>by simp [gB] at h
 | .void a :: μ,i + 1,j,h=>by simp only [List.getElem?_cons_succ] at h;simp [lV,lR μ i j h]
 | .dead :: μ,0,j,h=>by simp [gB] at h
 | .dead :: μ,i + 1,j,h=>by simp only [List.getElem?_cons_succ] at h;simp [lV,lR μ i j h]
theorem th : ∀ (l : List Nat),tf l = true -> l.Nodup
 | [],_=>List.nodup_nil
 | x :: l,h=>by
  simp only [tf,Bool.and_eq_true,Bool.not_eq_true'] at h
  rw [List.nodup_cons]
  refine ⟨fun hx=>?_,th l h.2⟩
  have:=h.1
  rw [List.any_eq_false] at this
  exact this x hx (by simp)
theorem zt : ∀ (μ : List Mu),(lV μ).Nodup -> ∀ (i i' j : Nat),gB μ[i]? j -> gB μ[i']? j -> i = i'
 | [], _, i, i', j, h, _ => by simp [gB] at h
 | m :: μ, hn, i, i', j, h, h' => by
  have hsub : (lV μ).Nodup:=by
   cases m<;>simp only [lV,List.nodup_cons] at hn
   ·exact hn.2
   ·exact hn
   ·exact hn
   ·exact hn.2
  have hhead : ∀ (k : Nat),gB (some m) j -> ¬ gB μ[k]? j:=by
   intro k hm hk
   have:=lR μ k j hk
   cases m<;>simp only [lV,List.nodup_cons] at hn<;>simp [gB] at hm
   ·subst hm;exact hn.1 this
   ·subst hm;exact hn.1 this
  cases i with
  | zero=>
   cases i' with
   | zero=>rfl
   | succ i'=>exact absurd (by simpa using h') (hhead i' (by simpa using h))
  | succ i=>
   cases i' with
   | zero=>exact absurd (by simpa using h) (hhead i (by simpa using h'))
   | succ i'=>rw [zt μ hsub i i' j (by simpa using h) (by simpa using h')]
def St.ren (st : St) (G : Nat -> Prop) (μ : List Mu) : St where
 n:=μ.length
 ρ i:=match μ[i]? with
  | some (.old j)=>st.ρ j
  | some (.cut j n)=>(st.ρ j).map fun r=>{ r with n:=n }
  | some (.void k)=>some ⟨0,0,k,0,0⟩
  | some .dead=>none
  | none=>none
 S:=st.S
 G:=G
 U:=st.U
 S0:=st.S0
theorem qa {x : D} (h : x.isNil = true) : x = .fs []:=by
 cases x<;>simp [D.isNil] at h
 rename_i l
 cases l<;>simp_all
theorem u9 {x : D} (h : x.isTup = true) : ∃ l,x = .tup l:=by
 cases x<;>simp [D.isTup] at h
 exact ⟨_,rfl⟩
theorem u7 {x : D} (h : x.isAgg = true) : ∃ l,x = .agg l:=by
 cases x<;>simp [D.isAgg] at h
 exact ⟨_,rfl⟩
theorem Ik {μ : List Mu} {x y : AV} (h : wk μ x y) (hj : y ≠ .junk) : x.isAgg = y.isAgg:=by
 cases x<;>cases y<;>(try rfl)<;>(try exact absurd rfl hj)<;>simp only [wk] at h
 case d.d=>subst h;rfl
 case nilS.d=>rw [qa h];rfl
 case agg.d=>obtain ⟨l,rfl⟩:=u7 h.1;rfl
 case tup.d=>obtain ⟨l,rfl⟩:=u9 h.1;rfl
theorem FK {μ : List Mu} {x y : AV} (h : wk μ x y) (hx : x.cellOk = true) : y.cellOk = true:=by
 cases x<;>cases y<;>(try rfl)<;>(try exact hx)<;>simp only [wk] at h
 case d.d=>subst h;exact hx
 case nilS.d=>rw [qa h];rfl
 case raw.raw=>subst h;exact hx
 case agg.d=>simp [AV.cellOk,AV.one] at hx
 case tup.d=>simp [AV.cellOk,AV.one] at hx
theorem Cd {w : World} {st : St} : ∀ (l : List D) (vs : List Value),cS w st (l.map .d) vs -> iX w st.S l vs
 | [],vs,h=>by simpa [cS,iX] using h
 | x :: l,vs,h=>by
  simp only [List.map_cons,cS] at h
  obtain ⟨v,r,us,h1,h2,h3,h4⟩:=h
  simp only [iX]
  have : (AV.d x).isAgg = x.isAgg:=by cases x<;>rfl
  exact ⟨v,r,us,h1,by rw [<- this];exact h2,by simpa [aC] using h3,Cd l r h4⟩
section
variable {w : World} {st : St} {G : Nat -> Prop} {μ : List Mu} (hG : ∀ i j,gB μ[i]? j -> ¬ st.G j -> ¬ G i) (hV : ∀ i k,μ[i]? = some (.void k) -> ¬ G i) (hC : ∀ (i j n : Nat) (r : qR),μ[i]? = some (Mu.cut j n) -> st.ρ j = some r -> n <= r.n)
include hG hV hC
set_option linter.unusedSectionVars false in
mutual
theorem DP : ∀ (x y : AV) (us : List Value),wk μ x y -> aC w st x us -> aC w (st.ren G μ) y us
 | x,.junk,us,_,_=>by simp [aC]
 | .d x,.d y,us,h,hc=>by
  simp only [wk] at h
  subst h
  simpa [aC,St.ren] using hc
 | .nilS,.nilS,us,_,hc=>by simpa [aC] using hc
 | .nilS,.sl id s l k c,us,h,hc=>by
  simp only [wk] at h
  obtain ⟨h1,rfl,rfl,rfl⟩:=h
  simp only [aC] at hc ⊢
  obtain ⟨a,rfl⟩:=hc
  have hlt : id < μ.length:=(List.getElem?_eq_some_iff.1 h1).1
  refine ⟨a,0,rfl,hlt,hV _ _ h1,Nat.le_refl _,fun h=>absurd rfl h,fun _ h=>by simp at h,fun r hr=>?_⟩
  simp only [St.ren,h1,Option.some.injEq] at hr
  subst hr
  exact ⟨rfl,Nat.le_refl _,fun h=>absurd rfl h,fun _=>⟨Nat.le_refl _,Nat.le_refl _⟩⟩
 | .ptr i e o, .ptr i' e' o', us, h, hc => by
  simp only [wk] at h
  obtain ⟨h1,rfl,rfl⟩:=h
  simp only [aC] at hc ⊢
  obtain ⟨b, o', e1, e2, e3, e4⟩ := hc
  have hlt : i' < μ.length:=(List.getElem?_eq_some_iff.1 h1).1
  exact ⟨b, o', e1, hlt, hG _ _ (.inl h1) e3, fun r hr => e4 r (by simpa [St.ren, h1] using hr)⟩
 | .sl i s l k c, .sl i' s' l' k' c', us, h, hc => by
  simp only [wk] at h
  obtain ⟨h1,rfl,rfl,rfl,rfl⟩:=h
  simp only [aC] at hc ⊢
  obtain ⟨a,c,e1,e2,e3,e4,e5,e6,e7⟩:=hc
  cases hm : μ[i']? with
  | none=>rw [hm] at h1;exact h1.elim
  | some m=>
   have hlt : i' < μ.length:=(List.getElem?_eq_some_iff.1 hm).1
   rw [hm] at h1
   cases m with
   | void _=>exact h1.elim
   | dead=>exact h1.elim
   | old j=>
    have hj : i = j:=h1
    subst hj
    exact ⟨a,c,e1,hlt,hG _ _ (.inl hm) e3,e4,e5,e6,fun r hr=>e7 r (by simpa [St.ren,hm] using hr)⟩
   | cut j n=>
    obtain ⟨hj,hn⟩:=h1
    subst hj
    refine ⟨a,c,e1,hlt,hG _ _ (.inr ⟨n,hm⟩) e3,e4,e5,e6,fun r hr=>?_⟩
    simp only [St.ren,hm,Option.map_eq_some_iff] at hr
    obtain ⟨r0,hr0,rfl⟩:=hr
    obtain ⟨g1,g2,g3,g4⟩:=e7 r0 hr0
    exact ⟨g1,g2,g3,fun hc=>⟨hn hc,Nat.le_trans (hC _ _ _ _ hm hr0) (g4 hc).2⟩⟩
 | .agg l, .agg l', us, h, hc => by
  simp only [wk] at h
  simp only [aC] at hc ⊢
  exact xF l l' us h hc
 | .nilS,.d x,us,h,hc=>by
  simp only [wk] at h
  rw [qa h]
  simp only [aC] at hc ⊢
  obtain ⟨a,rfl⟩:=hc
  simp only [cC]
  exact ⟨a,0,rfl,Nat.le_refl _,fun h=>absurd rfl h⟩
 | .agg l,.d x,us,h,hc=>by
  simp only [wk] at h
  obtain ⟨h1,h2⟩:=h
  obtain ⟨r,rfl⟩:=u7 h1
  simp only [aC] at hc ⊢
  simp only [cC]
  exact aCs_cCs (st:=st.ren G μ) r us (xF l _ us h2 hc)
 | .tup l,.d x,us,h,hc=>by
  simp only [wk] at h
  obtain ⟨h1,h2⟩:=h
  obtain ⟨r,rfl⟩:=u9 h1
  simp only [aC] at hc ⊢
  simp only [cC]
  obtain ⟨u,e1,e2⟩:=hc
  exact ⟨u,e1,Cd (st:=st.ren G μ) r u (kP l _ u h2 e2)⟩
 | .fn f a c, .fn f' a' c', us, h, hc => by
  simp only [wk] at h
  obtain ⟨rfl,h1,h2⟩:=h
  simp only [aC] at hc ⊢
  obtain ⟨u,t,e1,e2,e3⟩:=hc
  exact ⟨u,t,e1,kP a a' u h1 e2,kP c c' t h2 e3⟩
 | .tup l, .tup l', us, h, hc => by
  simp only [wk] at h
  simp only [aC] at hc ⊢
  obtain ⟨u,e1,e2⟩:=hc
  exact ⟨u,e1,kP l l' u h e2⟩
 | .raw v,.raw u,us,h,hc=>by
  simp only [wk] at h
  subst h
  simpa [aC] using hc
 | .und,.und,us,_,hc=>by simpa [aC] using hc
 | .mp i, .mp i', us, h, hc => by
  simp only [wk] at h
  simp only [aC] at hc ⊢
  obtain ⟨b,e1,e2,e3,e4⟩:=hc
  have hlt : i' < μ.length:=(List.getElem?_eq_some_iff.1 h).1
  exact ⟨b,e1,hlt,hG _ _ (.inl h) e3,fun r hr=>e4 r (by simpa [St.ren,h] using hr)⟩
 | .d _,.nilS,_,h,_=>by simp [wk] at h
 | .d _,.ptr ..,_,h,_=>by simp [wk] at h
 | .d _,.sl ..,_,h,_=>by simp [wk] at h
 | .d _,.agg _,_,h,_=>by simp [wk] at h
 | .d _,.fn ..,_,h,_=>by simp [wk] at h
 | .d _,.tup _,_,h,_=>by simp [wk] at h
 | .d _,.raw _,_,h,_=>by simp [wk] at h
 | .d _,.und,_,h,_=>by simp [wk] at h
 | .nilS,.ptr ..,_,h,_=>by simp [wk] at h
 | .nilS,.agg _,_,h,_=>by simp [wk] at h
 | .nilS,.fn ..,_,h,_=>by simp [wk] at h
 | .nilS,.tup _,_,h,_=>by simp [wk] at h
 | .nilS,.raw _,_,h,_=>by simp [wk] at h
 | .nilS,.und,_,h,_=>by simp [wk] at h
 | .ptr ..,.d _,_,h,_=>by simp [wk] at h
 | .ptr ..,.nilS,_,h,_=>by simp [wk] at h
 | .ptr ..,.sl ..,_,h,_=>by simp [wk] at h
 | .ptr ..,.agg _,_,h,_=>by simp [wk] at h
 | .ptr ..,.fn ..,_,h,_=>by simp [wk] at h
 | .ptr ..,.tup _,_,h,_=>by simp [wk] at h
 | .ptr ..,.raw _,_,h,_=>by simp [wk] at h
 | .ptr ..,.und,_,h,_=>by simp [wk] at h
 | .sl ..,.d _,_,h,_=>by simp [wk] at h
 | .sl ..,.nilS,_,h,_=>by simp [wk] at h
 | .sl ..,.ptr ..,_,h,_=>by simp [wk] at h
 | .sl ..,.agg _,_,h,_=>by simp [wk] at h
 | .sl ..,.fn ..,_,h,_=>by simp [wk] at h
 | .sl ..,.tup _,_,h,_=>by simp [wk] at h
 | .sl ..,.raw _,_,h,_=>by simp [wk] at h
 | .sl ..,.und,_,h,_=>by simp [wk] at h
 | .agg _,.nilS,_,h,_=>by simp [wk] at h
 | .agg _,.ptr ..,_,h,_=>by simp [wk] at h
 | .agg _,.sl ..,_,h,_=>by simp [wk] at h
 | .agg _,.fn ..,_,h,_=>by simp [wk] at h
 | .agg _,.tup _,_,h,_=>by simp [wk] at h
 | .agg _,.raw _,_,h,_=>by simp [wk] at h
 | .agg _,.und,_,h,_=>by simp [wk] at h
 | .fn ..,.d _,_,h,_=>by simp [wk] at h
 | .fn ..,.nilS,_,h,_=>by simp [wk] at h
 | .fn ..,.ptr ..,_,h,_=>by simp [wk] at h
 | .fn ..,.sl ..,_,h,_=>by simp [wk] at h
 | .fn ..,.agg _,_,h,_=>by simp [wk] at h
 | .fn ..,.tup _,_,h,_=>by simp [wk] at h
 | .fn ..,.raw _,_,h,_=>by simp [wk] at h
 | .fn ..,.und,_,h,_=>by simp [wk] at h
 | .tup _,.nilS,_,h,_=>by simp [wk] at h
 | .tup _,.ptr ..,_,h,_=>by simp [wk] at h
 | .tup _,.sl ..,_,h,_=>by simp [wk] at h
 | .tup _,.agg _,_,h,_=>by simp [wk] at h
 | .tup _,.fn ..,_,h,_=>by simp [wk] at h
 | .tup _,.raw _,_,h,_=>by simp [wk] at h
 | .tup _,.und,_,h,_=>by simp [wk] at h
 | .raw _,.d _,_,h,_=>by simp [wk] at h
 | .raw _,.nilS,_,h,_=>by simp [wk] at h
 | .raw _,.ptr ..,_,h,_=>by simp [wk] at h
 | .raw _,.sl ..,_,h,_=>by simp [wk] at h
 | .raw _,.agg _,_,h,_=>by simp [wk] at h
 | .raw _,.fn ..,_,h,_=>by simp [wk] at h
 | .raw _,.tup _,_,h,_=>by simp [wk] at h
 | .raw _,.und,_,h,_=>by simp [wk] at h
 | .und,.d _,_,h,_=>by simp [wk] at h
 | .und,.nilS,_,h,_=>by simp [wk] at h
 | .und,.ptr ..,_,h,_=>by simp [wk] at h
 | .und,.sl ..,_,h,_=>by simp [wk] at h
 | .und,.agg _,_,h,_=>by simp [wk] at h
 | .und,.fn ..,_,h,_=>by simp [wk] at h
 | .und,.tup _,_,h,_=>by simp [wk] at h
 | .und,.raw _,_,h,_=>by simp [wk] at h
 | .junk,.d _,_,h,_=>by simp [wk] at h
 | .junk,.nilS,_,h,_=>by simp [wk] at h
 | .junk,.ptr ..,_,h,_=>by simp [wk] at h
 | .junk,.sl ..,_,h,_=>by simp [wk] at h
 | .junk,.agg _,_,h,_=>by simp [wk] at h
 | .junk,.fn ..,_,h,_=>by simp [wk] at h
 | .junk,.tup _,_,h,_=>by simp [wk] at h
 | .junk,.raw _,_,h,_=>by simp [wk] at h
 | .junk,.und,_,h,_=>by simp [wk] at h
 | .d _,.mp _,_,h,_=>by simp [wk] at h
 | .mp _,.d _,_,h,_=>by simp [wk] at h
 | .nilS,.mp _,_,h,_=>by simp [wk] at h
 | .mp _,.nilS,_,h,_=>by simp [wk] at h
 | .ptr ..,.mp _,_,h,_=>by simp [wk] at h
 | .mp _,.ptr ..,_,h,_=>by simp [wk] at h
 | .sl ..,.mp _,_,h,_=>by simp [wk] at h
 | .mp _,.sl ..,_,h,_=>by simp [wk] at h
 | .agg _,.mp _,_,h,_=>by simp [wk] at h
 | .mp _,.agg _,_,h,_=>by simp [wk] at h
 | .fn ..,.mp _,_,h,_=>by simp [wk] at h
 | .mp _,.fn ..,_,h,_=>by simp [wk] at h
 | .tup _,.mp _,_,h,_=>by simp [wk] at h
 | .mp _,.tup _,_,h,_=>by simp [wk] at h
 | .raw _,.mp _,_,h,_=>by simp [wk] at h
 | .mp _,.raw _,_,h,_=>by simp [wk] at h
 | .und,.mp _,_,h,_=>by simp [wk] at h
 | .mp _,.und,_,h,_=>by simp [wk] at h
 | .junk,.mp _,_,h,_=>by simp [wk] at h
theorem xF : ∀ (l r : List AV) (us : List Value),io μ l r -> fO w st l us -> fO w (st.ren G μ) r us
 | [],[],us,_,hc=>by simpa [fO] using hc
 | x :: l,y :: r,us,h,hc=>by
  simp only [io] at h
  simp only [fO] at hc ⊢
  obtain ⟨v,t,e1,e2,e3,e4⟩:=hc
  exact ⟨v,t,e1,FK h.1 e2,DP x y [v] h.1 e3,xF l r t h.2 e4⟩
 | [],_ :: _,_,h,_=>by simp [io] at h
 | _ :: _,[],_,h,_=>by simp [io] at h
theorem kP : ∀ (l r : List AV) (us : List Value),io μ l r -> cS w st l us -> cS w (st.ren G μ) r us
 | [],[],us,_,hc=>by simpa [cS] using hc
 | x :: l,y :: r,us,h,hc=>by
  simp only [io] at h
  simp only [cS] at hc ⊢
  obtain ⟨v,t,ws,e1,e2,e3,e4⟩:=hc
  by_cases hj : y = .junk
  ·subst hj
   exact ⟨v,t,[v],e1,by simp [AV.isAgg],by simp [aC],kP l r t h.2 e4⟩
  ·exact ⟨v,t,ws,e1,by rw [<- Ik h.1 hj];exact e2,DP x y ws h.1 e3,kP l r t h.2 e4⟩
 | [],_ :: _,_,h,_=>by simp [io] at h
 | _ :: _,[],_,h,_=>by simp [io] at h
end
end
theorem gl {μ : List Mu} : ∀ {l r : List AV},io μ l r -> l.length = r.length
 | [],[],_=>rfl
 | x :: l,y :: r,h=>by simp only [io] at h;simp [gl h.2]
 | [],_ :: _,h=>by simp [io] at h
 | _ :: _,[],h=>by simp [io] at h
theorem rF {μ : List Mu} : ∀ {l r : List AV} (i : Nat) (y : AV),io μ l r -> r[i]? = some y -> ∃ x,l[i]? = some x /\ wk μ x y
 | [],[],i,y,_,h=>by simp at h
 | x :: l,z :: r,i,y,h,hy=>by
  simp only [io] at h
  cases i with
  | zero=>simp at hy;subst hy;exact ⟨x,by simp,h.1⟩
  | succ i=>
   obtain ⟨x', e1, e2⟩ := rF i y h.2 (by simpa using hy)
   exact ⟨x', by simpa using e1, e2⟩
 | [],_ :: _,_,_,h,_=>by simp [io] at h
 | _ :: _,[],_,_,h,_=>by simp [io] at h
theorem DO {μ : List Mu} {h : ae} : ∀ {ms : List Mu} {h1 : List AO},Kl μ h ms h1 -> ms.length = h1.length /\ ∀ (i : Nat) (o : AO),h1[i]? = some o -> ∃ m,ms[i]? = some m /\ QH μ h m o
 | [],[],_=>⟨rfl,fun i o ho=>by simp at ho⟩
 | m :: ms,o :: h1,hk=>by
  simp only [Kl] at hk
  obtain ⟨e1,e2⟩:=DO hk.2
  refine ⟨by simp [e1],fun i o' ho=>?_⟩
  cases i with
  | zero=>simp at ho;subst ho;exact ⟨m,by simp,hk.1⟩
  | succ i=>
   obtain ⟨m', g1, g2⟩ := e2 i o' (by simpa using ho)
   exact ⟨m', by simpa using g1, g2⟩
 | [],_ :: _,h=>by simp [Kl] at h
 | _ :: _,[],h=>by simp [Kl] at h
theorem Wk.sound {B n0 : Nat} {V : List Nat} {W w0 w : World} {st0 st : St} {T T1 : List AV} {h h1 : ae} (hk : Wk V n0 T h T1 h1) (hw : WR B W w st h) (hE : dO w0 st0 w st) (hg : st.G = st0.G) (hn : st0.n <= n0)
  (hg0 : ∀ i,st0.G i -> i < n0) (hv0 : ∀ i ∈ V,¬ st0.G i) :
  ∃ st1,WR B W w st1 h1 /\ dO w0 st0 w st1 /\ st1.G = st0.G /\ ∀ vs,cS w st T vs -> cS w st1 T1 vs:=by
 obtain ⟨μ,f1,f2,f3,f4⟩:=hk
 obtain ⟨g1,g2⟩:=pY _ _ _ f1
 simp only [Nat.zero_add] at g2
 have hnd:=th _ f2
 have hinj:=zt μ hnd
 obtain ⟨l1,l2⟩:=DO f4
 have hgh : ∀ i,st0.G i -> μ[i]? = some (.old i):=by
  intro i hgi
  rcases g2 i (hg0 i hgi) with h | ⟨_,h⟩
  ·exact h
  ·exact absurd hgi (hv0 i h)
 have hG : ∀ i j,gB μ[i]? j -> ¬ st.G j -> ¬ st0.G i:=by
  intro i j hi hj hgi
  have:=hgh i hgi
  rw [this] at hi
  rcases hi with hi | ⟨_,hi⟩
  ·cases hi
   rw [hg] at hj
   exact hj hgi
  ·cases hi
 have hV : ∀ i k,μ[i]? = some (.void k) -> ¬ st0.G i:=by
  intro i k hi hgi
  have:=hgh i hgi
  rw [hi] at this
  cases this
 have hD : ∀ i,μ[i]? = some .dead -> ¬ st0.G i:=by
  intro i hi hgi
  have:=hgh i hgi
  rw [hi] at this
  cases this
 have hGr : ∀ i j,gB μ[i]? j -> ¬ st0.G i -> ¬ st.G j:=by
  intro i j hi hgi hj
  rw [hg] at hj
  have:=hinj i j j hi (.inl (hgh j hj))
  subst this
  exact hgi hj
 have hblk : ∀ j o r,st.ρ j = some r -> h[j]? = some o -> o.st ≠ 3 -> r.n = o.elems.length:=by
  intro j o r hr ho hn3
  obtain ⟨o', e1, e2, e3⟩ := hw.dom j r hr
  rw [ho] at e1;cases e1
  obtain ⟨r', r1, r2⟩ := hw.obj j o ho (by omega) e3
  rw [hr] at r1;cases r1
  exact r2.n
 have hobj : ∀ (id : Nat) (m : Mu),μ[id]? = some m -> ∃ o1,h1[id]? = some o1 /\ QH μ h m o1:=by
  intro id m hm
  have hlt : id < h1.length:=by rw [<- l1];exact (List.getElem?_eq_some_iff.1 hm).1
  have ho1 : h1[id]? = some h1[id]:=List.getElem?_eq_getElem hlt
  obtain ⟨m', m1, m2⟩ := l2 id _ ho1
  rw [hm] at m1;cases m1
  exact ⟨_,ho1,m2⟩
 have hC : ∀ (i j n : Nat) (r : qR),μ[i]? = some (Mu.cut j n) -> st.ρ j = some r -> n <= r.n:=by
  intro i j n r hi hr
  obtain ⟨o1,_,m2⟩:=hobj i _ hi
  obtain ⟨o,o2,_,hcs,l0,rest,e1,e2,_⟩:=(aE _ _).1 m2
  rw [hblk j o r hr o2 (iz hcs).2,e1,e2]
  simp
 refine ⟨st.ren st0.G μ,?_,?_,rfl,fun vs hv=>kP hG hV hC T T1 vs f3 hv⟩
 ·have hold : ∀ id j,μ[id]? = some (.old j) -> (st.ren st0.G μ).ρ id = st.ρ j:=fun id j hm=>by simp [St.ren,hm]
  have hcut : ∀ id j n,μ[id]? = some (.cut j n) -> (st.ren st0.G μ).ρ id = (st.ρ j).map fun r=>{ r with n:=n }:=fun id j n hm=>by simp [St.ren,hm]
  have hvoid : ∀ id k,μ[id]? = some (.void k) -> (st.ren st0.G μ).ρ id = some ⟨0,0,k,0,0⟩:=fun id k hm=>by simp [St.ren,hm]
  have hdead : ∀ id,μ[id]? = some .dead -> (st.ren st0.G μ).ρ id = none:=fun id hm=>by simp [St.ren,hm]
  have hnone : ∀ id,μ[id]? = none -> (st.ren st0.G μ).ρ id = none:=fun id hm=>by simp [St.ren,hm]
  -- what a row of the new state was
  have get : ∀ (i : Nat) (r : qR),(st.ren st0.G μ).ρ i = some r -> r.m ≠ 0 -> ∃ j r0,gB μ[i]? j /\ st.ρ j = some r0 /\ r0.b = r.b /\ r0.m = r.m:=by
   intro i r hi hr
   cases hm : μ[i]? with
   | none=>rw [hnone i hm] at hi;cases hi
   | some m=>
    cases m with
    | void k=>rw [hvoid i k hm] at hi;cases hi;exact absurd rfl hr
    | dead=>rw [hdead i hm] at hi;cases hi
    | old j=>exact ⟨j,r,.inl rfl,by rw [<- hold i j hm];exact hi,rfl,rfl⟩
    | cut j n=>
     rw [hcut i j n hm] at hi
     obtain ⟨r0,e1,rfl⟩:=Option.map_eq_some_iff.1 hi
     exact ⟨j,r0,.inr ⟨n,rfl⟩,e1,rfl,rfl⟩
  have hcase : ∀ (id : Nat) (o1 : AO),h1[id]? = some o1 -> (∃ (j : Nat) (o : AO),gB μ[id]? j /\ h[j]? = some o /\ o.k = o1.k /\ o.st = o1.st) \/ (∃ k : Nat,μ[id]? = some (.void k) /\ o1.elems = [] /\ o1.k = k /\ 0 < k /\ o1.st = 0) \/ (μ[id]? = some .dead /\ o1.st = 2):=by
   intro id o1 ho
   obtain ⟨m,m1,m2⟩:=l2 id o1 ho
   cases m with
   | void k=>exact .inr (.inl ⟨k,m1,m2⟩)
   | dead=>exact .inr (.inr ⟨m1,m2⟩)
   | old j=>
    obtain ⟨o,o2,o3⟩:=(aE _ _).1 m2
    exact .inl ⟨j,o,.inl m1,o2,o3.1,o3.2.1⟩
   | cut j n=>
    obtain ⟨o,o2,o3⟩:=(aE _ _).1 m2
    exact .inl ⟨j,o,.inr ⟨n,m1⟩,o2,o3.1,(iz o3.2.1).1⟩
  refine ⟨hw.below,hw.base,hw.seat,l1,?_,?_,?_,?_,hw.stab,?_,?_,?_,?_,hw.x.low,hw.x.ub⟩
  ·intro id o1 ho hst hgi
   obtain ⟨m,m1,m2⟩:=l2 id o1 ho
   cases m with
   | dead=>
    have m2 : o1.st = 2:=m2
    omega
   | void k=>
    obtain ⟨o2,o3,o4,o5⟩:=m2
    refine ⟨⟨0,0,k,0,0⟩,hvoid id k m1,by simp [o2],Nat.le_refl _,o3.symm,o4,fun h=>absurd rfl h⟩
   | old j=>
    obtain ⟨o,o2,o3,o4,o5⟩:=(aE _ _).1 m2
    obtain ⟨r,r1,r2⟩:=hw.obj j o o2 (by omega) (hGr id j (.inl m1) hgi)
    refine ⟨r,by rw [hold id j m1];exact r1,?_⟩
    have hlen : o.elems.length = o1.elems.length:=by
     rcases o5 with ⟨l,e1,e2⟩ | e
     ·rw [e1,e2]
     ·exact gl e
    refine ⟨by rw [r2.n,hlen],r2.m,by rw [r2.k,o3],r2.k0,fun hm=>?_⟩
    obtain ⟨b1,cs,e,fr,b2,b3,b4,b5⟩:=r2.mem hm
    refine ⟨b1,cs,e,fr,b2,b3,b4,fun i x hx=>?_⟩
    rcases o5 with ⟨l,e1,e2⟩ | ew
    ·rw [e2] at hx
     obtain ⟨us,u1,u2,u3⟩:=b5 i x (by rw [e1];exact hx)
     rw [List.getElem?_map] at hx
     obtain ⟨d,_,rfl⟩:=Option.map_eq_some_iff.1 hx
     exact ⟨us,u1,by simpa [aC,St.ren] using u2,u3⟩
    ·obtain ⟨x', hx', hwk⟩ := rF i x ew hx
     obtain ⟨us,u1,u2,u3⟩:=b5 i x' hx'
     exact ⟨us,u1,DP hG hV hC x' x us hwk u2,u3⟩
   | cut j n=>
    obtain ⟨o,o2,o3,o4c,l0,rest,e0,en,o5⟩:=(aE _ _).1 m2
    have o4:=(iz o4c).1
    obtain ⟨r,r1,r2⟩:=hw.obj j o o2 (by omega) (hGr id j (.inr ⟨n,m1⟩) hgi)
    refine ⟨{ r with n:=n },by rw [hcut id j n m1,r1];rfl,?_⟩
    have hlen : l0.length = o1.elems.length:=by
     rcases o5 with ⟨l,e1,e2⟩ | e
     ·rw [e1,e2]
     ·exact gl e
    have hle : n <= r.n:=by rw [r2.n,e0,en];simp
    refine ⟨by show n = _;omega,Nat.le_trans hle r2.m,by show r.k = _;rw [r2.k,o3],r2.k0,fun hm=>?_⟩
    obtain ⟨b1,cs,e,fr,b2,b3,b4,b5⟩:=r2.mem hm
    refine ⟨b1,cs,e,fr,b2,b3,b4,fun i x hx=>?_⟩
    have hpre : ∀ (i : Nat) (x : AV),l0[i]? = some x -> o.elems[i]? = some x:=by
     intro i x hx
     rw [e0,List.getElem?_append_left (List.getElem?_eq_some_iff.1 hx).1]
     exact hx
    rcases o5 with ⟨l,e1,e2⟩ | ew
    ·rw [e2] at hx
     obtain ⟨us,u1,u2,u3⟩:=b5 i x (hpre i x (by rw [e1];exact hx))
     rw [List.getElem?_map] at hx
     obtain ⟨d,_,rfl⟩:=Option.map_eq_some_iff.1 hx
     exact ⟨us,u1,by simpa [aC,St.ren] using u2,u3⟩
    ·obtain ⟨x', hx', hwk⟩ := rF i x ew hx
     obtain ⟨us,u1,u2,u3⟩:=b5 i x' (hpre i x' hx')
     exact ⟨us,u1,DP hG hV hC x' x us hwk u2,u3⟩
  ·intro id o1 ho hst hgi
   obtain ⟨m,m1,m2⟩:=l2 id o1 ho
   cases m with
   | dead=>
    have m2 : o1.st = 2:=m2
    omega
   | void k=>
    obtain ⟨o2,o3,o4,o5⟩:=m2
    omega
   | old j=>
    obtain ⟨o,o2,o3,o4,o5⟩:=(aE _ _).1 m2
    obtain ⟨r,r1,r2⟩:=hw.mobj j o o2 (by omega) (hGr id j (.inl m1) hgi)
    refine ⟨r,by rw [hold id j m1];exact r1,r2.m,r2.low,?_⟩
    obtain ⟨es,e1,e2,ebn,e3⟩:=r2.at_
    rcases o5 with ⟨l,g1,g2⟩ | ew
    ·exact ⟨es,e1,by rw [e2,g1,g2],ebn,fun i x hx=>e3 i x (by rw [g1,<- g2];exact hx)⟩
    ·refine ⟨es,e1,by rw [e2,gl ew],ebn,fun i x hx=>?_⟩
     obtain ⟨x', hx', hwk⟩ := rF i x ew hx
     by_cases hj : x = .junk
     ·exact .inl hj
     ·rcases e3 i x' hx' with rfl | ⟨a,v,e,q1,q2,q3,q4⟩
      ·cases x<;>simp [wk] at hwk hj
      ·subst q1
       cases x<;>simp only [wk] at hwk
       ·subst hwk;exact .inr ⟨a,v,e,rfl,q2,q3,q4⟩
       ·exact absurd rfl hj
   | cut j n=>
    obtain ⟨o,o2,o3,o4c,_⟩:=(aE _ _).1 m2
    have o4:=iz o4c
    omega
  ·intro id r hr
   cases hm : μ[id]? with
   | none=>rw [hnone id hm] at hr;cases hr
   | some m=>
    obtain ⟨o1,ho1,m2⟩:=hobj id m hm
    refine ⟨o1,ho1,?_⟩
    cases m with
    | dead=>rw [hdead id hm] at hr;cases hr
    | void k=>
     obtain ⟨o2,o3,o4,o5⟩:=m2
     exact ⟨by omega,hV id k hm⟩
    | old j=>
     obtain ⟨o,o2,o3,o4,_⟩:=(aE _ _).1 m2
     rw [hold id j hm] at hr
     obtain ⟨o', e1, e2, e3⟩ := hw.dom j r hr
     rw [o2] at e1;cases e1
     exact ⟨by omega,hG id j (.inl hm) e3⟩
    | cut j n=>
     obtain ⟨o,o2,o3,o4c,_⟩:=(aE _ _).1 m2
     have o4:=(iz o4c).1
     rw [hcut id j n hm] at hr
     obtain ⟨r0,hr0,_⟩:=Option.map_eq_some_iff.1 hr
     obtain ⟨o', e1, e2, e3⟩ := hw.dom j r0 hr0
     rw [o2] at e1;cases e1
     exact ⟨by omega,hG id j (.inr ⟨n,hm⟩) e3⟩
  ·intro i j r s hi hj hr hs hb
   obtain ⟨a,ra,a1,a2,a3,a4⟩:=get i r hi hr
   obtain ⟨b,rb,b1,b2,b3,b4⟩:=get j s hj hs
   have:=hw.inj a b ra rb a2 b2 (by omega) (by omega) (by omega)
   subst this
   exact hinj i j a a1 b1
  ·intro id r o1 hr ho hst hm0
   obtain ⟨j,r0,j1,j2,j3,j4⟩:=get id r hr hm0
   rcases hcase id o1 ho with ⟨j', o, m1, o2, o3, o4⟩ | ⟨k, m1, _⟩ | ⟨m1, _⟩
   ·have hjj : j = j':=by rcases j1 with h | ⟨_,h⟩<;>rcases m1 with h' | ⟨_,h'⟩<;>rw [h] at h'<;>cases h'<;>rfl
    subst hjj
    rw [<- j3]
    exact hw.live j r0 o j2 o2 (by omega) (by omega)
   ·rw [m1] at j1;rcases j1 with h | ⟨_,h⟩<;>cases h
   ·rw [m1] at j1;rcases j1 with h | ⟨_,h⟩<;>cases h
  ·intro id r o1 hr ho hst hm0
   obtain ⟨j,r0,j1,j2,j3,j4⟩:=get id r hr hm0
   rcases hcase id o1 ho with ⟨j', o, m1, o2, o3, o4⟩ | ⟨k, m1, _⟩ | ⟨m1, _⟩
   ·have hjj : j = j':=by rcases j1 with h | ⟨_,h⟩<;>rcases m1 with h' | ⟨_,h'⟩<;>rw [h] at h'<;>cases h'<;>rfl
    subst hjj
    rw [<- j3]
    exact hw.frz j r0 o j2 o2 (by omega) (by omega)
   ·rw [m1] at j1;rcases j1 with h | ⟨_,h⟩<;>cases h
   ·rw [m1] at j1;rcases j1 with h | ⟨_,h⟩<;>cases h
  ·intro id hgi
   exact Nat.lt_of_lt_of_le (hg0 id hgi) g1
  ·intro id r hr hm0
   obtain ⟨j,r0,j1,j2,j3,j4⟩:=get id r hr hm0
   rw [<- j3]
   exact hw.x.own j r0 j2 (by omega)
 ·refine ⟨Nat.le_trans hn g1,fun id hid hgi r hr=>?_,hE.S,fun id _ hgi=>hgi,hE.U⟩
  rcases g2 id (by omega) with this | ⟨this,_⟩
  ·have hr' : st.ρ id = some r:=by simpa [St.ren,this] using hr
   exact hE.ρ id hid hgi r hr'
  ·simp [St.ren,this] at hr
def Fa (tm : Array Value) : ResultVar -> Sem Value
 | .tmp t=>pure (tm.getD t undef)
 | .cell a t=>do loadVar t (<- asAddr (tm.getD a undef))
section
variable {P : Program} {E : TE} (hE : gJ P E)
include hE
theorem kK {B : Nat} {W w : World} {st : St} {h : ae} {T : List AV} {tm : Array Value} (hw : WR B W w st h) (hT : aT w st T tm) : ∀ (rs : List ResultVar) (K : List AV -> Prop),ij E h T rs K ->
  ∃ l vs,K l /\ cS w st l vs /\ (rs.mapM (Fa tm)).run P w = .ok vs w
 | [],K,hk=>⟨[],[],hk,by simp [cS],by simp⟩
 | .tmp t :: rs,K,hk=>by
  simp only [ij] at hk
  rw [cF] at hk
  obtain ⟨l,vs,h1,h2,h3⟩:=kK hw hT rs _ hk
  obtain ⟨us,u1,u2⟩:=hT.2 t
  refine ⟨_,tm.getD t undef :: vs,h1,by simp only [cS];exact ⟨_,_,us,rfl,u1,u2,h2⟩,?_⟩
  simp only [List.mapM_cons,Fa,Sem.run_bind,Sem.run_pure,Result.andThen_ok,h3]
 | .cell a t :: rs,K,hk=>by
  simp only [ij] at hk
  rw [cF] at hk
  obtain ⟨v,x,e1,e2,hk2⟩:=nC hE hw (hT.2 a) hk
  obtain ⟨l,vs,h1,h2,h3⟩:=kK hw hT rs _ hk2
  obtain ⟨us,u1,u2⟩:=e2
  refine ⟨_,v :: vs,h1,by simp only [cS];exact ⟨_,_,us,rfl,u1,u2,h2⟩,?_⟩
  have hload : (Fa tm (.cell a t)).run P w = .ok v w:=by
   simp only [Fa]
   cases htm : tm.getD a undef<;>rw [htm] at e1<;>try (simp [Instr.loadAt,Instr.sureAddr,asAddr] at e1 ⊢<;>done)
   rename_i ad
   cases ad<;>simp_all [Instr.loadAt,Instr.sureAddr,asAddr]
  simp only [List.mapM_cons]
  rw [Sem.run_bind,hload]
  simp only [Result.andThen_ok,Sem.run_bind,h3,Sem.run_pure]
omit hE in
theorem Cc {w : World} {st : St} {l : List AV} {vs : List Value} (h : cS w st l vs) : aV w st (gj l) (if h : vs.toArray.size = 1 then vs.toArray[0] else .tuple vs.toArray):=by
 have hl:=((dS _ _).1 h).1
 by_cases h1 : vs.toArray.size = 1
 ·rw [dif_pos h1]
  have h2 : vs.length = 1:=by simpa using h1
  match l,vs,h,hl,h2 with
  | [x],[v],h,_,_=>
   simp only [cS] at h
   obtain ⟨v', r, us, e1, e2, e3, e4⟩ := h
   cases e1
   exact ⟨us,e2,e3⟩
 ·rw [dif_neg h1]
  have h2 : l.length ≠ 1:=by rw [<- hl];simpa using h1
  have ht : gj l = .tup l:=by
   match l,h2 with
   | [],_=>rfl
   | [x],h2=>simp at h2
   | x :: y :: l,_=>rfl
  rw [ht]
  exact cw rfl (by simp only [aC];exact ⟨vs,rfl,h⟩)
theorem fi {B : Nat} {V : List Nat} {W w0 w : World} {st0 : St} {h h1 : ae} {T : List AV} {a : Act} {r : AV} {fn : Func} (hI : iS ds B W w0 st0 T h a w) (hg0 : ∀ i,st0.G i -> i < st0.n) (hv0 : ∀ i ∈ V,¬ st0.G i)
  (hk : ij E h T fn.results.toList (fun l=>nZ V st0.n h (gj l) r h1 \/ (gj l = r /\ h = h1))) : a.defers = ds /\ ∃ v,(results fn a.tmps).run P w = .ok v w /\ iW B W w0 st0 r h1 v w:=by
 obtain ⟨hd,st,i1,i2,i3,i4⟩:=hI
 obtain ⟨l,vs,k1,k2,k3⟩:=kK hE i1 i2 _ _ hk
 have hv:=Cc k2
 refine ⟨hd,(if h : vs.toArray.size = 1 then vs.toArray[0] else .tuple vs.toArray),?_,?_⟩
 ·unfold results
  have hm : ∀ (f : ResultVar -> Sem Value),fn.results.mapM f = (do let l <- fn.results.toList.mapM f;pure l.toArray):=by
   intro f
   rw [Array.mapM_eq_mapM_toList]
   rfl
  show ((do let vs <- fn.results.mapM (Fa a.tmps);pure (if h : vs.size = 1 then vs[0] else .tuple vs) : Sem Value)).run P w = _
  rw [hm]
  simp only [Sem.run_bind,k3,Result.andThen_ok,Sem.run_pure]
 ·rcases k1 with (k1 | ⟨x,k1,rfl,k5⟩) | ⟨rfl,rfl⟩
  ·obtain ⟨st1,s1,s2,s3,s4⟩:=k1.sound i1 i3 i4 (Nat.le_refl _) hg0 hv0
   refine ⟨st1,s1,?_,s2,s3⟩
   obtain ⟨us,u1,u2⟩:=hv
   have:=s4 [_] (by simp only [cS];exact ⟨_,[],us,rfl,u1,u2,rfl⟩)
   simp only [cS] at this
   obtain ⟨v, t, us', e1, e2, e3, e4⟩ := this
   cases e1
   exact ⟨us', e2, e3⟩
  ·obtain ⟨s1,w1,e1,g1,r1,n1,f1⟩:=i1.freeze (bC 8 h (gj l))
   obtain ⟨us,u1,u2⟩:=hv
   have hc:=jq i1 (S:=s1.S) (fun b hb=>n1 b hb) 8 (gj l) x us (fun id hid o ho h2 rr hr hm=>f1 id rr o hid hr hm ho h2) k1 u2
   obtain ⟨μ,m1,m2,m3,m4⟩:=k5
   have k6 : Wk V st0.n [.d x] (freeze h (bC 8 h (gj l))) [.d x] h1:=⟨μ,m1,m2,⟨rfl,trivial⟩,m4⟩
   obtain ⟨st1,s2,s3,s4,s5⟩:=k6.sound w1 (i3.trans e1) (g1.trans i4) (Nat.le_refl _) hg0 hv0
   have hxx : (AV.d x).isAgg = (gj l).isAgg:=by rw [<- kO k1];cases x<;>rfl
   have:=s5 [_] (by simp only [cS];exact ⟨_,[],us,rfl,by rw [hxx];exact u1,by simpa [aC] using hc,rfl⟩)
   simp only [cS] at this
   obtain ⟨v, t, us', f1, f2, f3, f4⟩ := this
   cases f1
   exact ⟨st1, s2, ⟨us', f2, f3⟩, s3, s4⟩
  ·exact ⟨st,i1,hv,i3,i4⟩
end
end Dw
namespace Dw
open Go Go.RowKit
variable {ds : List Deferred}
def Ex.to : Ex -> Exit
 | .normal=>.normal
 | .exit id=>.exit id
 | .ret=>.ret
theorem vY {P : Program} {Q : Exit -> Act -> World -> Prop} {c : Code} {I : Nat -> Act -> World -> Prop} (h0 : ∀ a w,¬ I 0 a w) (round : ∀ n a w,I (n + 1) a w -> c.wp P (Exit.then (I n) Q) a w) (n : Nat) (a : Act) (w : World) (h : I n a w) :
  (Code.loop c).wp P Q a w:=by
 intro b k cs
 have key : ∀ n a w, I n a w -> ∃ e a' w', Q e a' w' /\ Arrives P (lone (b.at a (.code c :: .inLoop c :: k)) cs w) b k cs e a' w' := by
  intro n
  induction n with
  | zero=>exact fun a w h=>absurd h (h0 a w)
  | succ n ih=>
   intro a w hI
   obtain ⟨e,a₁,w₁,hq,harr⟩:=round n a w hI b (.inLoop c :: k) cs
   cases e with
   | normal=>
    obtain ⟨e₂,a₂,w₂,hq₂,harr₂⟩:=ih a₁ w₁ hq
    exact ⟨e₂,a₂,w₂,hq₂,.of_steps (Steps.trans harr (.one step_inLoop)) harr₂⟩
   | exit id=>exact ⟨_,a₁,w₁,hq,.pass (x:=.inLoop c) rfl (fun _ _=>.inl (by simp)) harr⟩
   | goto l=>exact ⟨_,a₁,w₁,hq,.pass (x:=.inLoop c) rfl (fun _ _=>.inl (by simp)) harr⟩
   | ret=>exact ⟨_,a₁,w₁,hq,.pass (x:=.inLoop c) rfl (fun _ _=>.inl (by simp)) harr⟩
   | panic ch=>exact ⟨_,a₁,w₁,hq,.pass (x:=.inLoop c) rfl (fun _ _=>.inl (by simp)) harr⟩
   | outgrown=>exact ⟨_,a₁,w₁,hq,.pass (x:=.inLoop c) rfl (fun _ _=>.inl (by simp)) harr⟩
 obtain ⟨e, a', w', hq, harr⟩ := key n a w h
 exact ⟨e, a', w', hq, .of_steps (.one step_loop) harr⟩
def eo (ds : List Deferred) (B : Nat) (W w0 : World) (st0 : St) (K : Ex -> List AV -> ae -> Prop) (Q : Exit -> Act -> World -> Prop) : Prop:=
 ∀ ex T h a w,K ex T h -> iS ds B W w0 st0 T h a w -> Q ex.to a w
def pz (P : Program) (E : TE) : Prop:=
 ∀ {ds : List Deferred} {id : Nat} {ops : Array Oper} {B : Nat} {W w0 : World} {st0 : St} {Q : Exit -> Act -> World -> Prop} {K : List AV -> ae -> Prop} {R : ep},pv P B W R -> (∀ T h a w,K T h -> iS ds B W w0 st0 T h a w -> Q .normal a w) ->
  ∀ {T : List AV} {h : ae} {a : Act} {w : World},iS ds B W w0 st0 T h a w -> mY E R ops.toList T h K -> (Code.region id ops true).wp P Q a w
section
variable {P : Program} {E : TE} (hE : gJ P E) {B : Nat} {W w0 : World} {st0 : St}
theorem yp {T : List AV} {h : ae} {a : Act} {w : World} {c : Operand} {x y : Code} {A C : List AV -> Prop} {Q : Exit -> Act -> World -> Prop} (hI : iS ds B W w0 st0 T h a w) (hk : ow T c A C)
  (hx : ∀ a w,A T -> iS ds B W w0 st0 T h a w -> x.wp P Q a w) (hy : ∀ a w,C T -> iS ds B W w0 st0 T h a w -> y.wp P Q a w) : (Code.cond c x y).wp P Q a w:=by
 unfold ow at hk
 split at hk
 ·rename_i t
  rw [cF] at hk
  split at hk
  ·rename_i b hb
   have hv : a.eval (.tmp t) = .bool b:=by
    obtain ⟨_,st,_,h2,_⟩:=hI
    have:=h2.2 t
    rw [hb] at this
    exact bV.1 this
   rcases aq hk with ⟨h1,h2⟩ | ⟨h1,h2⟩
   ·subst h1
    rw [aU,gy hb (by simp)] at h2
    exact wp_cond_true hv (hx a w h2 hI)
   ·subst h1
    rw [aU,gy hb (by simp)] at h2
    exact wp_cond_false hv (hy a w h2 hI)
  ·exact hk.elim
 ·rename_i b
  rcases aq hk with ⟨h1,h2⟩ | ⟨h1,h2⟩
  ·subst h1;exact wp_cond_true rfl (hx a w h2 hI)
  ·subst h1;exact wp_cond_false rfl (hy a w h2 hI)
 ·exact hk.elim
theorem B3 {n0 : Nat} {V : List Nat} {T T1 : List AV} {h h1 : ae} {a : Act} {w : World} (hg0 : ∀ i,st0.G i -> i < st0.n) (hn : st0.n <= n0) (hv0 : ∀ i ∈ V,¬ st0.G i) (hk : Wk V n0 T h T1 h1) (hI : iS ds B W w0 st0 T h a w) : iS ds B W w0 st0 T1 h1 a w:=by
 obtain ⟨hd,st,i1,i2,i3,i4⟩:=hI
 have hlen : T.length = T1.length:=by
  obtain ⟨μ,_,_,h3,_⟩:=hk
  exact gl h3
 obtain ⟨st1,s1,s2,s3,s4⟩:=hk.sound i1 i3 i4 hn (fun i hi=>Nat.lt_of_lt_of_le (hg0 i hi) hn) hv0
 refine ⟨hd,st1,s1,⟨⟨by rw [<- hlen];exact i2.1.1,s1.seat⟩,fun i=>?_⟩,s2,s3⟩
 have hall : cS w st T a.tmps.toList:=by
  rw [dS]
  refine ⟨by simp [i2.1.1],fun i x v hx hv=>?_⟩
  have:=i2.2 i
  rw [cG,hx] at this
  simp at hv
  simpa [hv] using this
 have hall1:=(dS _ _).1 (s4 _ hall)
 by_cases hi : i < T1.length
 ·have e1 : T1[i]? = some T1[i]:=List.getElem?_eq_getElem hi
  have hi2 : i < a.tmps.size:=by rw [<- i2.1.1,hlen];exact hi
  have:=hall1.2 i _ _ e1 (by rw [Array.getElem?_toList,Array.getElem?_eq_getElem hi2])
  rw [cG,e1]
  simpa [hi2] using this
 ·rw [cG,List.getElem?_eq_none (by omega)]
  exact ig _ _ _
theorem mO {n0 : Nat} {V : List Nat} {T T1 : List AV} {h h1 : ae} {a : Act} {w : World} (hg0 : ∀ i,st0.G i -> i < st0.n) (hn : st0.n <= n0) (hv0 : ∀ i ∈ V,¬ st0.G i) (hk : DX V n0 T h T1 h1) (hI : iS ds B W w0 st0 T h a w) : iS ds B W w0 st0 T1 h1 a w:=by
 rcases hk with ⟨rfl,hl,hs⟩ | hk
 ·obtain ⟨hd,st,i1,i2,i3,i4⟩:=hI
  refine ⟨hd,st,i1,⟨⟨by rw [hl];exact i2.1.1,i1.seat⟩,fun i=>?_⟩,i3,i4⟩
  rcases hs i with e | e
  ·rw [e];exact ig _ _ _
  ·rw [e];exact i2.2 i
 ·exact B3 hg0 hn hv0 hk hI
variable (hD : pz P E)
include hE hD
theorem dR {R : ep} (hR : pv P B W R) {n0 : Nat} {C V : List Nat} (hg0 : ∀ i,st0.G i -> i < st0.n) (hn : st0.n <= n0) (hv0 : ∀ i ∈ V,¬ st0.G i) : ∀ (c : Code) (T : List AV) (h : ae) (a : Act) (w : World) (K : Ex -> List AV -> ae -> Prop) (Q : Exit -> Act -> World -> Prop),
  eo ds B W w0 st0 K Q -> iS ds B W w0 st0 T h a w -> a7 E R C V n0 c T h K -> c.wp P Q a w
 | .skip,T,h,a,w,K,Q,hQ,hI,hk=>by
  simp only [a7] at hk
  exact wp_skip (hQ .normal T h a w hk hI)
 | .region id ops false,T,h,a,w,K,Q,hQ,hI,hk=>by
  simp only [a7] at hk
  unfold uq at hk
  split at hk
  ·obtain ⟨T1,h1,k1,k2⟩:=hk
   exact nO hE hR (fun T h a w hk hI=>hQ .normal T h a w hk hI) (B3 hg0 hn hv0 k1 hI) k2
  ·exact nO hE hR (fun T h a w hk hI=>hQ .normal T h a w hk hI) hI hk
 | .region id ops true,T,h,a,w,K,Q,hQ,hI,hk=>by
  simp only [a7] at hk
  unfold uq at hk
  split at hk
  ·obtain ⟨T1,h1,k1,k2⟩:=hk
   exact hD hR.mute (fun T h a w hk hI=>hQ .normal T h a w hk hI) (B3 hg0 hn hv0 k1 hI) k2
  ·exact hD hR.mute (fun T h a w hk hI=>hQ .normal T h a w hk hI) hI hk
 | .seq x y,T,h,a,w,K,Q,hQ,hI,hk=>by
  simp only [a7] at hk
  refine wp_seq (dR hR hg0 hn hv0 x T h a w _ _ ?_ hI hk)
  intro ex T h a w hk hI
  cases ex with
  | normal=>exact dR hR hg0 hn hv0 y T h a w K Q hQ hI hk
  | exit id=>exact hQ (.exit id) T h a w hk hI
  | ret=>exact hQ .ret T h a w hk hI
 | .cond c x y,T,h,a,w,K,Q,hQ,hI,hk=>by
  simp only [a7] at hk
  exact yp hI hk (fun a w hk hI=>dR hR hg0 hn hv0 x T h a w K Q hQ hI hk) (fun a w hk hI=>dR hR hg0 hn hv0 y T h a w K Q hQ hI hk)
 | .block id c,T,h,a,w,K,Q,hQ,hI,hk=>by
  simp only [a7] at hk
  refine wp_block (dR hR hg0 hn hv0 c T h a w _ _ ?_ hI hk)
  intro ex T h a w hk hI
  cases ex with
  | normal=>exact hQ .normal T h a w hk hI
  | exit i=>
   simp only [Ex.to,Exit.inBlock]
   rcases aq hk with ⟨h1,h2⟩ | ⟨h1,h2⟩
   ·rw [if_pos (by simpa using h1)]
    exact hQ .normal T h a w h2 hI
   ·rw [if_neg (by intro he;subst he;simp at h1)]
    exact hQ (.exit i) T h a w h2 hI
  | ret=>exact hQ .ret T h a w hk hI
 | .loop c,T,h,a,w,K,Q,hQ,hI,hk=>by
  simp only [a7] at hk
  obtain ⟨n,hk⟩:=hk
  refine vY (I:=fun n a w=>∃ T h,qF V n0 (a7 E R C V n0 c) K n T h /\ iS ds B W w0 st0 T h a w) ?_ ?_ n a w ⟨T,h,hk,hI⟩
  ·rintro a w ⟨T,h,hk,_⟩
   exact hk.elim
  ·rintro m a w ⟨T,h,⟨T1,h1,k1,k2⟩,hI⟩
   refine dR hR hg0 hn hv0 c T1 h1 a w _ _ ?_ (mO hg0 hn hv0 k1 hI) k2
   intro ex T h a w hk hI
   cases ex with
   | normal=>exact ⟨T,h,hk,hI⟩
   | exit id=>exact hQ (.exit id) T h a w hk hI
   | ret=>exact hQ .ret T h a w hk hI
 | .exit id,T,h,a,w,K,Q,hQ,hI,hk=>by
  simp only [a7] at hk
  exact wp_exit (hQ (.exit id) T h a w hk hI)
 | .ret,T,h,a,w,K,Q,hQ,hI,hk=>by
  simp only [a7] at hk
  exact wp_ret (hQ .ret T h a w hk hI)
 | .rangeFunc ..,_,_,_,_,_,_,_,_,hk=>by simp [a7] at hk
 | .scope ..,_,_,_,_,_,_,_,_,hk=>by simp [a7] at hk
 | .label ..,_,_,_,_,_,_,_,_,hk=>by simp [a7] at hk
 | .goto ..,_,_,_,_,_,_,_,_,hk=>by simp [a7] at hk
 | .refuse ..,_,_,_,_,_,_,_,_,hk=>by simp [a7] at hk
end
def kZ (n : Nat) (args : List AV) : List AV:=args ++ List.replicate (n - args.length) .und
section
variable {P : Program} {E : TE} (hE : gJ P E) (hD : pz P E)
include hE hD
end
end Dw
namespace Dw
open Go Go.RowKit
def cU {α : Type} (F : (α -> Prop) -> Prop) : Prop := ∀ K, F K -> ∃ a, K a /\ ∀ K', K' a -> F K'
section
variable {α β : Type}
theorem ap {a : α} : cU (fun K=>K a):=fun _ h=>⟨a,h,fun _ h=>h⟩
theorem az : cU (fun _ : α -> Prop=>False):=fun _ h=>h.elim
theorem aL {b : Bool} {F : (α -> Prop) -> Prop} (h : cU F) : cU (fun K=>a8 b (F K)):=fun K hk=>by
 obtain ⟨h1,h2⟩:=ai hk
 obtain ⟨a,h3,h4⟩:=h K h2
 exact ⟨a,h3,fun K' h5=>aH h1 (h4 K' h5)⟩
theorem bw {b : Bool} {F G : (α -> Prop) -> Prop} (h : cU F) (g : cU G) : cU (fun K=>aR b (F K) (G K)):=by
 cases b
 ·exact g
 ·exact h
theorem bH {p : Prop} {F : (α -> Prop) -> Prop} (h : cU F) : cU (fun K=>p /\ F K):=fun K hk=>by
 obtain ⟨a,h3,h4⟩:=h K hk.2
 exact ⟨a,h3,fun K' h5=>⟨hk.1,h4 K' h5⟩⟩
theorem gd {σ : Type} {F : σ -> (α -> Prop) -> Prop} (h : ∀ s,cU (F s)) : cU (fun K=>∃ s,F s K):=fun K ⟨s,hk⟩=>by
 obtain ⟨a,h3,h4⟩:=h s K hk
 exact ⟨a,h3,fun K' h5=>⟨s,h4 K' h5⟩⟩
theorem aQ {F : (β -> Prop) -> Prop} {G : β -> (α -> Prop) -> Prop} (h : cU F) (g : ∀ b,cU (G b)) : cU (fun K=>F (fun b=>G b K)):=fun K hk=>by
 obtain ⟨b,h3,h4⟩:=h _ hk
 obtain ⟨a,h5,h6⟩:=g b K h3
 exact ⟨a,h5,fun K' h7=>h4 _ (h6 K' h7)⟩
theorem bZ {l : List β} {n : Nat} {G : β -> (α -> Prop) -> Prop} (g : ∀ b,cU (G b)) : cU (fun K=>cX l n (fun b=>G b K)):=fun K hk=>by
 obtain ⟨b,h1,h2⟩:=(aE _ _).1 hk
 obtain ⟨a,h3,h4⟩:=g b K h2
 exact ⟨a,h3,fun K' h5=>(aE _ _).2 ⟨b,h1,h4 K' h5⟩⟩
end
theorem xm (t : TI) (x : AV) (off : Nat) : cU (Bq t x off):=by
 show cU (fun K=>Bq t x off K)
 simp only [Bq,cO,dM]
 exact bw (bw ap (aL ap)) (aL (bZ fun _=>ap))
theorem JD (t : TI) (x : D) (off : Nat) : cU (Jq t x off):=by
 show cU (fun K=>Jq t x off K)
 simp only [Jq,cO,dM]
 exact bw (bw ap (aL ap)) (aL (bZ fun _=>ap))
theorem mD (t : TI) (a : AV) (h : ae) : cU (jX t a h):=by
 show cU (fun K=>jX t a h K)
 unfold jX
 split
 ·exact bZ fun o=>aL (bZ fun x=>xm _ _ _)
 ·exact JD _ _ _
 ·exact az
theorem BO (t : TI) (a v : AV) (h : ae) : cU (iP t a v h):=by
 show cU (fun K=>iP t a v h K)
 unfold iP
 split
 ·simp only [aU,gw]
  exact bZ fun o=>aL (bZ fun x=>aL (bw ap (aL ap)))
 ·exact az
theorem Hv (op : BinOp) (k : IntKind) (a b : Int) : cU (w9 op k a b):=by
 show cU (fun K=>w9 op k a b K)
 unfold w9
 split<;>first | exact az | exact ap | exact aL ap
theorem Hx (op : BinOp) (a b : List UInt8) : cU (Al op a b):=by
 show cU (fun K=>Al op a b K)
 unfold Al
 split<;>first | exact az | exact ap | exact bH ap
theorem oU (op : BinOp) (b : Bool) : cU (xL op b):=by
 show cU (fun K=>xL op b K)
 unfold xL
 split<;>first | exact az | exact ap
theorem zz (E : TE) (op : BinOp) (t : Nat) (x y : AV) : cU (ul E op t x y):=by
 show cU (fun K=>ul E op t x y K)
 unfold ul
 split
 ·split<;>first | exact aL ap | exact aL (Hv _ _ _ _)
 ·exact Hx _ _ _
 ·exact aL (oU _ _)
 ·exact aL (oU _ _)
 ·exact aL (oU _ _)
 ·refine aL ?_
  split
  ·split
   ·exact aL (oU _ _)
   ·exact az
  ·exact az
theorem zE (E : TE) (op : BinOp) (t : Nat) (x : AV) : cU (xe E op t x):=by
 show cU (fun K=>xe E op t x K)
 unfold xe
 split
 ·exact aL (oU _ _)
 ·exact az
theorem Dm (op : UnOp) (x : AV) : cU (Ka op x):=by
 show cU (fun K=>Ka op x K)
 unfold Ka
 split<;>first | exact az | exact ap
theorem lX (E : TE) (s : Nat) (x : AV) (f : Nat) : cU (ez E s x f):=by
 show cU (fun K=>ez E s x f K)
 unfold ez
 refine aL (bZ fun p=>aL ?_)
 split<;>first | exact az | exact ap
theorem tp (E : TE) (s : Nat) (x : AV) (f : Nat) : cU (pW E s x f):=
 aL (bZ fun p=>aL (xm _ _ _))
theorem lY (E : TE) (t : Nat) (x i : AV) : cU (dV E t x i):=by
 show cU (fun K=>dV E t x i K)
 unfold dV
 split
 ·split
  ·exact aL (bH ap)
  ·exact aL (bH (bZ fun _=>aL ap))
  ·exact aL (bH ap)
  ·exact aL (bH ap)
  ·exact az
 ·exact az
theorem tt (E : TE) (t : Nat) (x i : AV) : cU (jx E t x i):=by
 show cU (fun K=>jx E t x i K)
 unfold jx
 split
 ·split
  ·exact aL (bH (bZ fun _=>ap))
  ·exact aL (bH (xm _ _ _))
 ·exact az
theorem cq (d : Nat) (o : Option AV) : cU (db d o):=by
 intro K h
 cases o with
 | none=>exact ⟨_,h,fun _ h=>h⟩
 | some x=>
  cases x<;>try exact (show False from h).elim
  rename_i y
  cases y<;>try exact (show False from h).elim
  exact ⟨_,h,fun _ h=>h⟩
theorem tw (E : TE) (t : Nat) (x : AV) (lo hi mx : Option AV) (h : ae) : cU (ei E t x lo hi mx h):=by
 show cU (fun K=>ei E t x lo hi mx h K)
 unfold ei
 split
 ·exact aL (aQ (cq _ _) fun _=>aQ (cq _ _) fun _=>bH ap)
 ·exact aL (aQ (cq _ _) fun _=>aQ (cq _ _) fun _=>aQ (cq _ _) fun _=>bH ap)
 ·refine aL (aQ (cq _ _) fun _=>aQ (cq _ _) fun _=>?_)
  split
  ·exact bH ap
  ·exact aL (aQ (cq _ _) fun _=>bH (bw ap ap))
 ·refine aL (aQ (cq _ _) fun _=>aQ (cq _ _) fun _=>?_)
  split
  ·exact bH ap
  ·exact aL (aQ (cq _ _) fun _=>bH (bw ap ap))
 ·exact az
theorem tx (k : Nat) (h : ae) (x : AV) : cU (nV k h x):=by
 show cU (fun K=>nV k h x K)
 unfold nV
 split
 ·exact ap
 ·exact bH ap
 ·exact aL ap
 ·simp only [cO,dM]
  exact bZ fun o=>aL (aL (bH (bw (aL ap) (aL ap))))
 ·exact ap
 ·exact az
abbrev KP:=AV × ae -> Prop
theorem zy (t : TI) (base : AV) (new : List AV) (h : ae) : cU (fun K : KP=>pE t base new h (fun v h'=>K (v,h'))):=by
 unfold pE
 refine aL ?_
 split
 ·simp only [bT]
  exact bH ap
 ·simp only [bT,aU,cO]
  exact bZ fun o=>aL (aL (bw ap (bH ap)))
 ·simp only [bT,aU]
  exact bw (bZ fun o=>aL (aL (bH ap))) (bZ fun o=>aL (aL (bH ap)))
 ·exact az
theorem j6 (f : Int -> Int -> Int) : ∀ (l : List AV) (x : AV),cU (lP f x l)
 | [],x=>ap
 | y :: l,x=>by
  intro K h
  unfold lP at h
  split at h
  ·rename_i heq;cases heq
  ·rename_i k a k' b l' heq
   obtain ⟨h1,h2⟩:=List.cons.inj heq
   subst h2
   subst h1
   obtain ⟨v,h3,h4⟩:=j6 f l _ _ h
   exact ⟨v,h3,fun K' h5=>h4 K' h5⟩
  ·exact h.elim
theorem zD (x : AV) : cU (EH x):=by
 show cU (fun K=>EH x K)
 unfold EH
 split<;>first | exact az | exact ap
theorem zB (x : AV) : cU (D9 x):=by
 show cU (fun K=>D9 x K)
 unfold D9
 split<;>first | exact az | exact ap
theorem vB (k : IntKind) (l : List AV) : cU (CI k l):=fun K ⟨⟨L,h1,h2⟩⟩=>⟨L,h2,fun _ h=>⟨⟨L,h1,h⟩⟩⟩
theorem tn (l : List AV) : cU (wH l):=fun K ⟨⟨L,h1,h2⟩⟩=>⟨L,h2,fun _ h=>⟨⟨L,h1,h⟩⟩⟩
theorem EX (E : TE) (ts : List Nat) (x : AV) (h : ae) : cU (fun K : KP=>qI E ts x h (fun v h'=>K (v,h'))):=by
 unfold qI
 split
 ·exact aL (bZ fun o=>aL ap)
 ·exact az
theorem qL (E : TE) (t : Nat) (x i : AV) (h : ae) : cU (gu E t x i h):=by
 show cU (fun K=>gu E t x i h K)
 unfold gu
 split
 ·refine bw ?_ (aL ?_)
  ·split
   ·split
    ·exact aL (bZ fun o=>aL (aQ (vB _ _) fun _=>ap))
    ·exact az
   ·exact az
  ·split
   ·split
    ·exact aL (bZ fun o=>aL (aQ (tn _) fun _=>ap))
    ·exact az
   ·exact az
 ·exact az
theorem qM (E : TE) (t : Nat) (x i v : AV) (h : ae) : cU (eN E t x i v h):=by
 show cU (fun K=>eN E t x i v h K)
 unfold eN
 simp only [aU]
 split
 ·refine bw ?_ (aL ?_)
  ·split
   ·split
    ·exact bZ fun o=>aL (aQ (vB _ _) fun _=>ap)
    ·exact az
   ·exact az
  ·split
   ·split
    ·exact bZ fun o=>aL (aQ (tn _) fun _=>ap)
    ·exact az
   ·exact az
 ·exact az
theorem xk (E : TE) (b : Builtin) (ts : List Nat) (args : List AV) (h : ae) : cU (fun K : KP=>et E b ts args h (fun v h'=>K (v,h'))):=by
 unfold et
 split
 ·exact bw (EX _ _ _ _) (aL (aQ (zD _) fun _=>ap))
 ·split
  ·refine aL (bw ?_ ?_)
   ·split
    ·exact bH (zy _ _ _ _)
    ·exact az
   ·exact aQ (tx _ _ _) fun _=>zy _ _ _ _
  ·exact az
 ·split
  ·simp only [aU,qo]
   exact aL (aQ (tx _ _ _) fun _=>bZ fun o=>aL (aL (bH ap)))
  ·exact az
 ·split
  ·simp only [aU]
   exact aL (bZ fun o=>aL (aL (bH ap)))
  ·exact az
 ·exact aL (aQ (j6 _ _ _) fun _=>ap)
 ·exact aL (aQ (j6 _ _ _) fun _=>ap)
 ·exact aL (aQ (zB _) fun _=>ap)
 ·exact az
theorem EV (E : TE) (src dst : Nat) (x : AV) (h : ae) : cU (fun K : KP=>jQ E src dst x h (fun v h'=>K (v,h'))):=by
 unfold jQ
 split
 ·exact aL ap
 ·simp only [bT]
  exact bw (aL ap) (aL ap)
 ·exact aL ap
 ·exact aL (gd fun s=>bH ap)
 ·exact aL (bZ fun o=>aL (aL (gd fun s=>bH ap)))
 ·exact az
theorem mC (E : TE) (t : TI) (T : List AV) : ∀ (ps : List (Nat × Operand)) (cs : List AV),cU (fG E t T ps cs)
 | [],cs=>ap
 | (i,x) :: ps,cs=>by
  show cU (fun K=>fG E t T ((i,x) :: ps) cs K)
  simp only [fG,aG,gw]
  exact bw (bZ fun p=>aL (mC E t T ps _)) (aL (mC E t T ps _))
theorem oW (t : TI) (T : List AV) : ∀ (ps : List (Nat × Operand)) (es : List AV),cU (iV t T ps es)
 | [],es=>ap
 | (i,x) :: ps,es=>by
  show cU (fun K=>iV t T ((i,x) :: ps) es K)
  simp only [iV,aG,aU]
  exact aL (oW t T ps _)
theorem EW {h : ae} (es : List AV) : cU (fun K : KP=>kS es (fun ds=>K (.d (.fs ds),h))):=by
 show cU (fun K : KP=>kS es (fun ds=>K (.d (.fs ds),h)))
 unfold kS
 split
 ·exact ap
 ·exact az
theorem j7 (T : List AV) (o : Option Operand) : cU (iU T o):=by
 show cU (fun K=>iU T o K)
 cases o with
 | none=>exact ap
 | some x=>simp only [iU,aG];exact ap
theorem EU (R : ep) (f : AV) (args : List AV) (h : ae) : cU (fun K : KP=>om R f args h (fun v h'=>K (v,h'))):=by
 unfold om
 split
 ·exact gd fun r=>gd fun h'=>bH ap
 ·exact gd fun r=>gd fun h'=>bH ap
 ·exact gd fun r=>gd fun h'=>bH ap
 ·exact az
theorem JE (E : TE) (R : ep) (T : List AV) (h : ae) (o : Op) : cU (fun K : KP=>kG E R T h o (fun v h'=>K (v,h'))):=by
 cases o<;>simp only [kG,aG,dJ,j8,bT]<;>try exact az
 case move=>exact ap
 case assign=>exact ap
 case pick=>split<;>first | exact az | exact bw ap ap
 case alloc=>exact aL ap
 case box=>exact aL ap
 case build=>exact aL (aQ (mC _ _ _ _ _) fun _=>ap)
 case buildSlice=>exact aL (bw (aL ap) (aQ (oW _ _ _ _) fun _=>bw ap (EW _)))
 case load=>exact aQ (mD _ _ _) fun _=>ap
 case store=>exact aQ (BO _ _ _ _) fun _=>ap
 case nilCheck=>split<;>first | exact az | exact ap
 case binOp=>exact bw (aQ (zE _ _ _ _) fun _=>ap) (aQ (zz _ _ _ _ _) fun _=>ap)
 case unOp=>exact aQ (Dm _ _) fun _=>ap
 case convert=>exact EV _ _ _ _ _
 case makeFunc=>split<;>first | exact az | exact ap
 case makeSlice=>split<;>first | exact az | exact aL (bH ap)
 case makeMap=>exact aL ap
 case lookup=>exact aL (aQ (qL _ _ _ _ _) fun _=>ap)
 case mapUpdate=>exact aQ (qM _ _ _ _ _ _) fun _=>ap
 case insert=>exact aQ (qM _ _ _ _ _ _) fun _=>ap
 case slice=>exact aQ (j7 _ _) fun _=>aQ (j7 _ _) fun _=>aQ (j7 _ _) fun _=>aQ (tw _ _ _ _ _ _ _) fun _=>ap
 case fieldAddr=>exact aQ (lX _ _ _ _) fun _=>ap
 case field=>exact aQ (tp _ _ _ _) fun _=>ap
 case indexAddr=>exact aQ (lY _ _ _ _) fun _=>ap
 case index=>exact aQ (tt _ _ _ _) fun _=>ap
 case extract=>split<;>first | exact az | exact bZ fun _=>ap
 case call=>
  split
  ·exact EU _ _ _ _
  ·exact xk _ _ _ _ _
  ·exact az
theorem jj {E : TE} {R : ep} {T : List AV} {h : ae} {o : Op} {K : KV} (hk : kG E R T h o K) : ∃ v h', K v h' /\ ∀ K' : KV, K' v h' -> kG E R T h o K' := by
 obtain ⟨⟨v,h'⟩,h1,h2⟩:=JE E R T h o (fun p=>K p.1 p.2) hk
 exact ⟨v, h', h1, fun K' h3 => h2 (fun p => K' p.1 p.2) h3⟩
theorem qC {E : TE} {t : TI} {T T' : List AV} : ∀ (ps : List (Nat × Operand)) (cs : List AV) (K : List AV -> Prop),(∀ p ∈ ps,opnd T p.2 = opnd T' p.2) -> fG E t T ps cs K = fG E t T' ps cs K
 | [],cs,K,_=>rfl
 | (i,x) :: ps,cs,K,h=>by
  have hx : opnd T x = opnd T' x:=h (i,x) (by simp)
  have ih : ∀ cs,fG E t T ps cs K = fG E t T' ps cs K:=fun cs=>qC ps cs K (fun p hp=>h p (by simp [hp]))
  simp only [fG,aG,hx,ih]
theorem tJ {t : TI} {T T' : List AV} : ∀ (ps : List (Nat × Operand)) (cs : List AV) (K : List AV -> Prop),(∀ p ∈ ps,opnd T p.2 = opnd T' p.2) -> iV t T ps cs K = iV t T' ps cs K
 | [],cs,K,_=>rfl
 | (i,x) :: ps,cs,K,h=>by
  have hx : opnd T x = opnd T' x:=h (i,x) (by simp)
  have ih : ∀ cs,iV t T ps cs K = iV t T' ps cs K:=fun cs=>tJ ps cs K (fun p hp=>h p (by simp [hp]))
  simp only [iV,aG,hx,ih]
theorem nK {T T' : List AV} {o : Option Operand} {K : Option AV -> Prop} (h : ∀ x,o = some x -> opnd T x = opnd T' x) : iU T o K = iU T' o K:=by
 cases o with
 | none=>rfl
 | some x=>simp only [iU,aG,h x rfl]
theorem vw {E : TE} {R : ep} {T T' : List AV} {h : ae} {o : Op} {K : KV} (hx : ∀ x ∈ o.operands,opnd T x = opnd T' x) : kG E R T h o K = kG E R T' h o K:=by
 cases o<;>simp only [kG,aG,dJ]
 case lookup t x i c=>rw [hx x (by simp [Op.operands]),hx i (by simp [Op.operands])]
 case mapUpdate t m i v=>rw [hx m (by simp [Op.operands]),hx i (by simp [Op.operands]),hx v (by simp [Op.operands])]
 case insert t m i v=>rw [hx m (by simp [Op.operands]),hx i (by simp [Op.operands]),hx v (by simp [Op.operands])]
 case move x=>rw [hx x (by simp [Op.operands])]
 case assign x=>rw [hx x (by simp [Op.operands])]
 case pick c a b=>rw [hx c (by simp [Op.operands]),hx a (by simp [Op.operands]),hx b (by simp [Op.operands])]
 case box t x=>rw [hx x (by simp [Op.operands])]
 case build t ps=>rw [qC ps.toList _ _ fun p hp=>hx p.2 (by simp [Op.operands];exact ⟨p.1,by simpa using hp⟩)]
 case buildSlice t n ps=>
  have : ∀ es K,iV (E (E t).elem) T ps.toList es K = iV (E (E t).elem) T' ps.toList es K:=fun es K=>tJ ps.toList _ _ fun p hp=>hx p.2 (by simp [Op.operands];exact ⟨p.1,by simpa using hp⟩)
  simp only [this]
 case load t x=>rw [hx x (by simp [Op.operands])]
 case store t x y=>rw [hx x (by simp [Op.operands]),hx y (by simp [Op.operands])]
 case nilCheck x=>rw [hx x (by simp [Op.operands])]
 case binOp op t x y b=>rw [hx x (by simp [Op.operands]),hx y (by simp [Op.operands])]
 case unOp op t x=>rw [hx x (by simp [Op.operands])]
 case convert s d x=>rw [hx x (by simp [Op.operands])]
 case makeFunc fn first cap=>
  have h1 : first.toList.map (opnd T) = first.toList.map (opnd T'):=List.map_congr_left fun x hm=>hx x (by simp [Op.operands,Array.mem_toList_iff.1 hm])
  have h2 : cap.toList.map (opnd T) = cap.toList.map (opnd T'):=List.map_congr_left fun x hm=>hx x (by simp [Op.operands,Array.mem_toList_iff.1 hm])
  rw [h1,h2]
 case makeSlice t x y=>rw [hx x (by simp [Op.operands]),hx y (by simp [Op.operands])]
 case slice t x lo hi mx=>
  rw [hx x (by simp [Op.operands])]
  have h1 : ∀ K,iU T lo K = iU T' lo K:=fun K=>nK fun y hy=>hx y (by subst hy;simp [Op.operands])
  have h2 : ∀ K,iU T hi K = iU T' hi K:=fun K=>nK fun y hy=>hx y (by subst hy;simp [Op.operands])
  have h3 : ∀ K,iU T mx K = iU T' mx K:=fun K=>nK fun y hy=>hx y (by subst hy;simp [Op.operands])
  simp only [h1,h2,h3]
 case fieldAddr t x f=>rw [hx x (by simp [Op.operands])]
 case field t x f=>rw [hx x (by simp [Op.operands])]
 case indexAddr t x y=>rw [hx x (by simp [Op.operands]),hx y (by simp [Op.operands])]
 case index t x y=>rw [hx x (by simp [Op.operands]),hx y (by simp [Op.operands])]
 case extract x i=>rw [hx x (by simp [Op.operands])]
 case call c=>
  have h1 : c.args.toList.map (opnd T) = c.args.toList.map (opnd T'):=List.map_congr_left fun x hm=>hx x (by simp [Op.operands,Call.operands,Array.mem_toList_iff.1 hm])
  rw [h1]
  cases hc : c.callee with
  | value f=>simp only;rw [hx f (by simp [Op.operands,Call.operands,hc])]
  | builtin b=>rfl
  | invoke r m=>rfl
def ib (h g : ae) (id : Nat) : Prop:=(h[id]?).map AO.vis = (g[id]?).map AO.vis
theorem vg {h g : ae} {id : Nat} (hv : ib h g id) {F : List AV -> Prop} (hk : oO h id (fun o=>F o.elems)) : oO g id (fun o=>F o.elems):=by
 obtain ⟨o,h1,h2,h3⟩:=ga hk
 unfold ib at hv
 rw [h1] at hv
 cases hg : g[id]? with
 | none=>rw [hg] at hv;simp at hv
 | some o'=>
  rw [hg] at hv
  simp only [Option.map_some,Option.some.injEq,AO.vis,Prod.mk.injEq] at hv
  refine (aE _ _).2 ⟨o', hg, aH ?_ (by show F o'.elems; rw [<- hv.1]; exact h3)⟩
  rw [<- hv.2.1]
  simpa [Nat.blt_eq] using h2
theorem vj {h g : ae} {id : Nat} (hv : ib h g id) {F : List AV -> Prop} (hk : jg h id (fun o=>F o.elems)) : jg g id (fun o=>F o.elems):=by
 obtain ⟨o,h1,h2⟩:=(aE _ _).1 hk
 obtain ⟨h2,h3⟩:=ai h2
 unfold ib at hv
 rw [h1] at hv
 cases hg : g[id]? with
 | none=>rw [hg] at hv;simp at hv
 | some o'=>
  rw [hg] at hv
  simp only [Option.map_some,Option.some.injEq,AO.vis,Prod.mk.injEq] at hv
  refine (aE _ _).2 ⟨o', hg, aH ?_ (by show F o'.elems; rw [<- hv.1]; exact h3)⟩
  rw [<- hv.2.2]
  exact h2
def cH (T : List AV) : Op -> Option Nat
 | .load _ a=>match opnd T a with | .ptr id _ _=>some id | _=>none
 | .convert _ _ a=>match opnd T a with | .sl id _ _ _ _=>some id | _=>none
 | .slice _ a _ _ _=>match opnd T a with | .sl id _ _ _ _=>some id | _=>none
 | .lookup _ a _ _=>match opnd T a with | .mp id=>some id | _=>none
 | _=>none
theorem E7 (T : List AV) (o : Op) (K : Option Nat -> Prop) : gY T o K = K (cH T o):=by
 cases o<;>simp only [gY,cH,aG]
 case load t a=>cases opnd T a<;>rfl
 case convert s d a=>cases opnd T a<;>rfl
 case slice t a lo hi mx=>cases opnd T a<;>rfl
 case lookup t a x c=>cases opnd T a<;>rfl
theorem Hs (T : List AV) (o : Option Operand) (K : Option AV -> Prop) : iU T o K = K (o.map (opnd T)):=by
 cases o<;>simp [iU,aG]
theorem AL {d : Nat} {o : Option AV} {K : Int -> Prop} (hk : db d o K) : ∃ u,K u /\ (o = none -> u = d) /\ ∀ K' : Int -> Prop,K' u -> db d o K':=by
 cases o with
 | none=>exact ⟨d,hk,fun _=>rfl,fun _ h=>h⟩
 | some v=>
  obtain ⟨u,h1,h2⟩:=cq _ _ _ hk
  exact ⟨u,h1,(fun h=>by cases h),h2⟩
theorem Ab {E : TE} {t : Nat} {x : AV} {lo hi mx : Option AV} {h g : ae} {K : AV -> Prop} (hc : (hi = none \/ mx.isSome = true) \/ ∀ id s l k c,x = .sl id s l k c -> ib h g id) (hk : ei E t x lo hi mx h K) : ei E t x lo hi mx g K:=by
 unfold ei at hk ⊢
 split at hk
 ·exact hk
 ·exact hk
 ·exact hk
 ·rename_i id s len k cap
  obtain ⟨h1,hk⟩:=ai hk
  refine aH h1 ?_
  obtain ⟨l,hk,h2⟩:=cq _ _ _ hk
  refine h2 _ ?_
  clear h2
  obtain ⟨u,hk,hu,h2⟩:=AL hk
  refine h2 _ ?_
  cases mx with
  | some m=>exact hk
  | none=>
   refine ⟨⟨hk.1.1,hk.1.2.1,?_⟩,hk.2⟩
   rcases hk.1.2.2 with h3 | h3
   ·exact .inl h3
   ·rcases hc with (hc | hc) | hc
    ·exact .inl (by rw [hu hc];exact Int.le_refl _)
    ·simp at hc
    ·right
     cases cap with
     | some c=>exact h3
     | none=>
      obtain ⟨o,o1,o2,o3⟩:=h3
      have hv:=hc id s len k none rfl
      simp only [ib,o1,Option.map_some] at hv
      cases hg : g[id]? with
      | none=>rw [hg] at hv;simp at hv
      | some o'=>
       rw [hg] at hv
       simp only [Option.map_some,Option.some.injEq,AO.vis,Prod.mk.injEq] at hv
       refine ⟨o', rfl, ?_, by rw [<- hv.1]; exact o3⟩
       have : Nat.blt o.st 2 = true:=by simpa [Nat.blt_eq] using o2
       rw [hv.2.1] at this
       simpa [Nat.blt_eq] using this
 ·exact hk
theorem jz {E : TE} {R : ep} {T : List AV} {h g : ae} {o : Op} {K : KV} (hc : d6 E o = 0 \/ (d6 E o = 1 /\ ∀ id,cH T o = some id -> ib h g id)) (hk : kG E R T h o K) : kG E R T g o (fun v h'=>h' = g /\ K v h):=by
 cases o<;>simp only [d6] at hc<;>(try (exfalso;revert hc;simp;done))<;>simp only [kG,aG,dJ,true_and] at hk ⊢<;>(try exact hk)
 case load t a=>
  unfold jX at hk ⊢
  have hr : ∀ id,cH T (.load t a) = some id -> ib h g id:=by
   rcases hc with hc | hc
   ·simp at hc
   ·exact hc.2
  simp only [cH] at hr
  split at hk
  ·rename_i id e off hb
   rw [hb] at hr
   exact vg (hr id rfl) (F:=fun el=>cX el e (fun x=>Bq (E t) x off (fun v=>K v h))) hk
  ·exact hk
  ·exact hk
 case lookup t x i c=>
  obtain ⟨hc0,hk⟩:=ai hk
  refine aH hc0 ?_
  have hr : ∀ id,cH T (.lookup t x i c) = some id -> ib h g id:=by
   rcases hc with hc | hc
   ·simp at hc
   ·exact hc.2
  simp only [cH] at hr
  unfold gu at hk ⊢
  split at hk
  ·rename_i id hb
   rw [hb] at hr
   have hv:=hr id rfl
   try simp only [hb]
   rcases aq hk with ⟨h1,hk⟩ | ⟨h1,hk⟩
   ·rw [h1]
    show (match sW (E (E t).len).ik (opnd T i) with | some n=>_ | none=>False)
    split at hk
    ·rename_i n hn
     try simp only [hn]
     split at hk
     ·rename_i z hz
      try simp only [hz]
      obtain ⟨h2,hk⟩:=ai hk
      exact aH h2 (vj hv (F:=fun el=>CI (E (E t).len).ik el (fun L=>K (.d (jZ z L n)) h)) hk)
     ·exact hk.elim
    ·exact hk.elim
   ·rw [h1]
    obtain ⟨h0,hk⟩:=ai hk
    refine aH h0 ?_
    split at hk
    ·rename_i n hn
     try simp only [hn]
     split at hk
     ·rename_i z hz
      try simp only [hz]
      obtain ⟨h2,hk⟩:=ai hk
      exact aH h2 (vj hv (F:=fun el=>wH el (fun L=>K (.d (jZ z L n)) h)) hk)
     ·exact hk.elim
    ·exact hk.elim
  ·exact hk
 case slice t x lo hi mx=>
  simp only [Hs] at hk ⊢
  refine Ab ?_ hk
  cases hi with
  | none=>exact .inl (.inl rfl)
  | some u=>
   cases mx with
   | some m=>exact .inl (.inr rfl)
   | none=>
    right
    intro id s l k c hx
    rcases hc with hc | hc
    ·simp at hc
    ·exact hc.2 id (by simp only [cH,hx])
 case buildSlice t n ps=>
  by_cases h0 : (n == 0) = true
  ·simp only [h0,aR] at hk ⊢
   exact hk
  ·have h1 : ((E t).len == 0) = false:=by
    by_cases h2 : ((E t).len == 0) = true
    ·simp only [bne] at hc
     simp [h0,h2] at hc
    ·simpa using h2
   have h0' : (n == 0) = false:=by simpa using h0
   simp only [h0', h1, aR, j8] at hk ⊢
   have key : ∀ (l : List (Nat × Operand)) (es : List AV),iV (E (E t).elem) T l es (fun es=>kS es (fun ds=>K (.d (.fs ds)) h)) -> iV (E (E t).elem) T l es (fun es=>kS es (fun ds=>g = g /\ K (.d (.fs ds)) h)):=by
    intro l es hh
    obtain ⟨a,h3,h4⟩:=oW _ _ _ _ _ hh
    refine h4 _ ?_
    unfold kS at h3 ⊢
    split at h3
    ·rename_i ds hds
     simp only [hds]
     exact ⟨trivial,h3⟩
    ·exact h3.elim
   obtain ⟨k1,k2⟩:=ai hk
   refine aH k1 ?_
   simpa using key _ _ k2
 case convert s d a=>
  unfold jQ at hk ⊢
  have hd : ((E d).kind == 4) = false:=by
   by_cases hd : ((E d).kind == 4) = true
   ·rw [if_pos hd] at hc;simp at hc
   ·simpa using hd
  have hr : (E s).kind = 4 -> ∀ id,cH T (.convert s d a) = some id -> ib h g id:=by
   intro hs
   rcases hc with hc | hc
   ·simp [hd,hs] at hc
   ·exact hc.2
  simp only [cH] at hr
  split at hk
  ·simpa using hk
  ·rename_i b hb
   rcases aq hk with ⟨h1,h2⟩ | ⟨h1,h2⟩
   ·exact bO h1 (by simpa using h2)
   ·have:=(ai h2).1
    simp [hd] at this
  ·simpa using hk
  ·simpa using hk
  ·rename_i id s' len k cap hb
   obtain ⟨h1,h2⟩:=ai hk
   rw [hb] at hr
   refine aH h1 ?_
   have hv:=hr (by simp at h1;exact h1.1.2) id rfl
   refine vg hv (F:=fun el=>a8 (k == 1) (∃ b : List UInt8,(s' + len <= el.length /\ (el.drop s').take len = b.map fR) /\ (g = g /\ K (.d (.str b)) h))) ?_
   simpa using h2
  ·exact hk
 case call c=>
  cases hcl : c.callee with
  | value f=>rw [hcl] at hc;simp at hc
  | invoke r m=>rw [hcl] at hk;exact hk
  | builtin b=>
   rw [hcl] at hc hk
   simp only at hc hk ⊢
   unfold et at hk ⊢
   have hmt : b = .len -> Bx E c.argTypes.toList = false:=by
    intro e
    subst e
    simp only [Gj] at hc
    cases hm : Bx E c.argTypes.toList with
    | false=>rfl
    | true=>rw [hm] at hc;simp at hc
   have hlm : ∀ x : AV,Bx E c.argTypes.toList = false -> ¬ qI E c.argTypes.toList x h K:=by
    intro x hm hl
    unfold qI at hl
    split at hl
    ·have:=(ai hl).1
     rw [hm] at this;cases this
    ·exact hl
   cases b<;>simp [Gj] at hc
   case len=>
    have hm:=hmt rfl
    split at hk
    ·rename_i x _
     rcases aq hk with ⟨_,h2⟩ | ⟨h1,h2⟩
     ·exact absurd h2 (hlm _ hm)
     ·refine bA h1 ?_
      simp_all
    all_goals simp_all
   all_goals (split at hk<;>simp_all)
theorem pL {E : TE} {o : Op} (h : d6 E o = 2) : ∃ t,o = .alloc t:=by
 cases o<;>simp only [d6] at h<;>(try (exfalso;revert h;simp;done))
 case slice t x lo hi mx=>cases hi<;>cases mx<;>simp at h
 case alloc t=>exact ⟨t,rfl⟩
 case buildSlice t n ps=>exfalso;revert h;split<;>simp
 case convert s d x=>exfalso;revert h;split<;>(try split)<;>simp
 case call c=>
  cases hc : c.callee with
  | builtin b=>
   rw [hc] at h
   cases b<;>simp [Gj] at h
   split at h<;>simp at h
  | _=>rw [hc] at h;simp at h
theorem wy (E : TE) (o : Op) : d6 E o = 0 \/ d6 E o = 1 \/ d6 E o = 2 \/ d6 E o = 3:=by
 cases o<;>simp only [d6]<;>try (simp;done)
 case slice t x lo hi mx=>cases hi<;>cases mx<;>simp
 case buildSlice t n ps=>split<;>simp
 case convert s d x=>split<;>(try split)<;>simp
 case call c=>
  cases c.callee with
  | builtin b=>cases b<;>simp [Gj]<;>(split<;>simp)
  | _=>simp
end Dw
namespace Dw
open Go Go.RowKit
def St.await (st : St) (m : Nat) : St:={ st with n:=st.n + m,G:=fun i=>st.G i \/ (st.n <= i /\ i < st.n + m) }
theorem WR.await {B : Nat} {W w : World} {st : St} {h : ae} (hw : WR B W w st h) (os : List AO) : WR B W w (st.await os.length) (h ++ os) /\ dO w st w (st.await os.length):=by
 have hE : dO w st w (st.await os.length):=⟨Nat.le_add_right _ _,fun id _ _ r hr=>hr,fun b hb=>⟨hb,rfl⟩,fun id hid hg=>by
  rcases hg with hg | hg
  ·exact hg
  ·omega,rfl,rfl,fun _ _=>rfl⟩
 have hin : ∀ id r,st.ρ id = some r -> (h ++ os)[id]? = h[id]?:=fun id r hr=>by
  rw [List.getElem?_append_left (by rw [<- hw.len];exact hw.rho_lt hr)]
 refine ⟨⟨hw.below,hw.base,hw.seat,by simp [St.await,hw.len],fun id o ho hst hg=>?_,fun id o ho hst hg=>?_,fun id r hr=>?_,hw.inj,hw.stab,fun id r o hr ho=>?_,fun id r o hr ho=>?_,fun id hg=>?_,hw.x.own,hw.x.low,hw.x.ub⟩,hE⟩
 ·have hlt : id < h.length:=by
   rcases Nat.lt_or_ge id h.length with h1 | h1
   ·exact h1
   ·have:=(List.getElem?_eq_some_iff.1 ho).1
    simp at this
    exact absurd (.inr ⟨by rw [hw.len];exact h1,by rw [hw.len];exact this⟩) hg
  rw [List.getElem?_append_left hlt] at ho
  obtain ⟨r,r1,r2⟩:=hw.obj id o ho hst (fun h=>hg (.inl h))
  exact ⟨r,r1,r2.mono hE (fun _=>rfl)⟩
 ·have hlt : id < h.length:=by
   rcases Nat.lt_or_ge id h.length with h1 | h1
   ·exact h1
   ·have:=(List.getElem?_eq_some_iff.1 ho).1
    simp at this
    exact absurd (.inr ⟨by rw [hw.len];exact h1,by rw [hw.len];exact this⟩) hg
  rw [List.getElem?_append_left hlt] at ho
  obtain ⟨r,r1,r2⟩:=hw.mobj id o ho hst (fun h=>hg (.inl h))
  exact ⟨r,r1,r2⟩
 ·obtain ⟨o,h1,h2,h3⟩:=hw.dom id r hr
  refine ⟨o,by rw [hin id r hr];exact h1,h2,fun hg=>?_⟩
  rcases hg with hg | hg
  ·exact h3 hg
  ·have:=hw.rho_lt hr;omega
 ·rw [hin id r hr] at ho
  exact hw.live id r o hr ho
 ·rw [hin id r hr] at ho
  exact hw.frz id r o hr ho
 ·rcases hg with hg | hg
  ·exact Nat.lt_of_lt_of_le (hw.gho id hg) (Nat.le_add_right _ _)
  ·exact hg.2
def St.wake (st : St) (id : Nat) (r : qR) : St:={ st with ρ:=fun i=>if i = id then some r else st.ρ i,G:=fun i=>st.G i /\ i ≠ id }
theorem WR.wake {B : Nat} {W w : World} {st : St} {h : ae} (hw : WR B W w st h) {id k : Nat} {x : AV} (ho : h[id]? = some ⟨[x],k,0⟩) (hg : st.G id) {us : List Value} (hu : us.length = k) (hk : 0 < k) (hx : aC w st x us) (e : Nat) :
  WR B W (w.alloc (.cells us.toArray e)) (st.wake id ⟨w.heap.size,0,k,1,1⟩) h /\ dO w st (w.alloc (.cells us.toArray e)) (st.wake id ⟨w.heap.size,0,k,1,1⟩):=by
 have hsame : ∀ i,i < w.heap.size -> (w.alloc (.cells us.toArray e)).heap[i]? = w.heap[i]?:=fun i hi=>Below.heap_alloc w _ i hi
 have hnew : (w.alloc (.cells us.toArray e)).heap[w.heap.size]? = some (.cells us.toArray e (0,0)):=by
  show (w.heap.push _)[w.heap.size]? = _
  simp
 have hno : st.ρ id = none:=by
  cases hr : st.ρ id with
  | none=>rfl
  | some r=>exact absurd hg (hw.dom id r hr).choose_spec.2.2
 have hE : dO w st (w.alloc (.cells us.toArray e)) (st.wake id ⟨w.heap.size,0,k,1,1⟩):=by
  refine ⟨Nat.le_refl _,fun i _ hgi r hr=>?_,fun b hb=>⟨hb,hsame b (hw.stab b hb)⟩,fun i _ hgi=>hgi.1,rfl,rfl,fun b hb=>hsame b (hw.x.ub b hb)⟩
  simp only [St.wake] at hr
  rw [if_neg (fun he : i = id=>hgi (he ▸ hg))] at hr
  exact hr
 have hnid : ∀ i r,st.ρ i = some r -> i ≠ id:=fun i r hr he=>by rw [he,hno] at hr;cases hr
 refine ⟨⟨hw.below.alloc hw.base _,Nat.le_trans hw.base (by simp),hw.seat.mono hE.S,hw.len,fun i o hi hst hgi=>?_,fun i o hi hst hgi=>?_,fun i r hr=>?_,fun i j r s hi hj hr hs hb=>?_,fun b hb=>Nat.lt_of_lt_of_le (hw.stab b hb) (by simp),
  fun i r o hr hi hst hm=>?_,fun i r o hr hi hst hm=>?_,fun i hgi=>hw.gho i hgi.1,fun i r hr hm=>?_,hw.x.low,fun b hb=>Nat.lt_of_lt_of_le (hw.x.ub b hb) (by simp)⟩,hE⟩
 ·by_cases hid : i = id
  ·subst hid
   rw [ho] at hi
   cases hi
   refine ⟨⟨w.heap.size,0,k,1,1⟩,by simp [St.wake],rfl,Nat.le_refl _,rfl,hk,fun _=>⟨hw.base,us.toArray,e,(0,0),hnew,by simp [hu],fun j _ _ hj=>by simp at hj,fun n y hy=>?_⟩⟩
   cases n with
   | succ n=>simp at hy
   | zero=>
    simp at hy
    subst hy
    refine ⟨us,hu,ic hE x us hx,(bE us _).2 fun j v hj=>?_⟩
    rw [cN hnew]
    simpa using hj
  ·obtain ⟨r,r1,r2⟩:=hw.obj i o hi hst (fun h=>hgi ⟨h,hid⟩)
   exact ⟨r,by simp [St.wake,hid,r1],r2.mono hE fun hm=>hsame r.b (hw.blk_lt r1 hm)⟩
 ·by_cases hid : i = id
  ·subst hid
   rw [ho] at hi
   cases hi
   simp at hst
  ·obtain ⟨r,r1,r2⟩:=hw.mobj i o hi hst (fun h=>hgi ⟨h,hid⟩)
   exact ⟨r,by simp [St.wake,hid,r1],r2.keep (hsame r.b (hw.blk_lt r1 r2.m))⟩
 ·simp only [St.wake] at hr
  split at hr
  ·rename_i he
   subst he
   exact ⟨_,ho,by simp,fun h=>h.2 rfl⟩
  ·obtain ⟨o,h1,h2,h3⟩:=hw.dom i r hr
   exact ⟨o,h1,h2,fun h=>h3 h.1⟩
 ·simp only [St.wake] at hi hj
  split at hi<;>split at hj
  ·omega
  ·cases hi;exact absurd hb.symm (Nat.ne_of_lt (hw.blk_lt hj hs))
  ·cases hj;exact absurd hb (Nat.ne_of_lt (hw.blk_lt hi hr))
  ·exact hw.inj i j r s hi hj hr hs hb
 ·simp only [St.wake] at hr
  split at hr
  ·cases hr;exact fun hS=>by have:=hw.stab _ hS;simp at this
  ·exact hw.live i r o hr hi hst hm
 ·simp only [St.wake] at hr
  split at hr
  ·rename_i he
   subst he
   rw [ho] at hi;cases hi
   simp at hst
  ·exact hw.frz i r o hr hi hst hm
 ·simp only [St.wake] at hr
  split at hr
  ·cases hr;exact fun hU=>by have:=hw.x.ub _ hU;simp at this
  ·exact hw.x.own i r hr hm
structure jM where
 i : Nat
 o : Oper
 T : List AV
 h : ae
 tk : Bool
 v : AV
 h' : ae
section
variable (E : TE) (R : ep) (all : List Oper)
def B8 (s : jM) : Prop:=
 vW all s.T s.o.guard s.tk /\ (s.tk = true -> kG E R s.T s.h s.o.op (fun v h'=>v = s.v /\ h' = s.h')) /\ (s.tk = false -> s.v = .und /\ s.h' = s.h)
def g7 : List jM -> List AV -> ae -> List AV -> ae -> Prop
 | [], T, h, T', h' => T' = T /\ h' = h
 | s :: l, T, h, T', h' => s.T = T /\ s.h = h /\ B8 E R all s /\ g7 l (eB s.o.dst s.v T) s.h' T' h'
def gP (s : jM) : Option Ev:=
 if s.tk then
  (if d6 E s.o.op = 1 then (cH s.T s.o.op).map (.read s.i)
  else if d6 E s.o.op = 2 then some (.made s.i s.h.length)
  else if d6 E s.o.op = 3 then some (.heap s.i s.h s.h')
  else none)
 else none
def Eo (ps : List (Nat × Nat)) : Ev -> Ev -> Prop
 | .heap j h h', .read i id => mT ps i j = true -> ib h h' id
 | .read i id,.heap j h h'=>mT ps i j = true -> ib h h' id
 | .made i id,.heap j h h'=>mT ps i j = true -> h[id]? = h'[id]?
 | _,_=>True
theorem sy {ps : List (Nat × Nat)} : ∀ (L : List Ev) (e : Ev) (K : Prop),iC ps e L K -> (∀ e0 ∈ L,Eo ps e0 e) /\ K
 | [],e,K,h=>⟨fun _ h=>by simp at h,by cases e<;>exact h⟩
 | e0 :: L,e,K,h=>by
  have key : Eo ps e0 e /\ iC ps e L K:=by
   cases e<;>cases e0<;>simp only [iC] at h<;>(try exact ⟨trivial,h⟩)
   all_goals
    rcases aq h with ⟨h1,h2⟩ | ⟨h1,h2⟩
    ·exact ⟨fun _=>h2.1,h2.2⟩
    ·exact ⟨fun h3=>(by rw [h1] at h3;cases h3),h2⟩
  obtain ⟨h1,h2⟩:=sy L e K key.2
  exact ⟨fun e1 he=>by
   rcases List.mem_cons.1 he with rfl | he
   ·exact key.1
   ·exact h1 e1 he,h2⟩
def rJ (ps : List (Nat × Nat)) (x y : jM) : Prop := ∀ e e', gP E x = some e -> gP E y = some e' -> Eo ps e e'
theorem lv {ps : List (Nat × Nat)} {K : List AV -> ae -> Prop} : ∀ (rest : List (Nat × Oper)) (L : List Ev) (T : List AV) (h : ae),dg E R all ps rest L T h K ->
  ∃ tr T' h', tr.map (fun s => (s.i, s.o)) = rest /\ g7 E R all tr T h T' h' /\ K T' h' /\ tr.Pairwise (rJ E ps) /\ ∀ e ∈ L, ∀ s ∈ tr, ∀ e', gP E s = some e' -> Eo ps e e'
 | [],L,T,h,hk=>⟨[],T,h,rfl,⟨rfl,rfl⟩,hk,List.Pairwise.nil,fun _ _ s hs=>by simp at hs⟩
 | (i,o) :: rest,L,T,h,hk=>by
  simp only [dg] at hk
  rcases je hk with ⟨g1,g2⟩ | ⟨g1,g2⟩
  ·obtain ⟨v, h', k1, k2⟩ := jj g2
   rw [eH] at k1
   have hok : ∀ s : jM,s = ⟨i,o,T,h,true,v,h'⟩ -> B8 E R all s:=fun s hs=>by
    subst hs
    exact ⟨g1,fun _=>k2 _ ⟨rfl,rfl⟩,fun h=>Bool.noConfusion h⟩
   have fin : ∀ L', (∃ e, gP E ⟨i, o, T, h, true, v, h'⟩ = some e /\ (∀ e0 ∈ L, Eo ps e0 e) /\ L' = e :: L) \/ (gP E ⟨i, o, T, h, true, v, h'⟩ = none /\ L' = L) ->
     dg E R all ps rest L' (eB o.dst v T) h' K -> ∃ tr T' h', tr.map (fun s => (s.i, s.o)) = (i, o) :: rest /\ g7 E R all tr T h T' h' /\ K T' h' /\ tr.Pairwise (rJ E ps) /\ ∀ e ∈ L, ∀ s ∈ tr, ∀ e', gP E s = some e' -> Eo ps e e' := by
    intro L' hL hd
    obtain ⟨tr, T', h'', t1, t2, t3, t4, t5⟩ := lv rest L' _ _ hd
    refine ⟨⟨i, o, T, h, true, v, h'⟩ :: tr, T', h'', by simp [t1], ⟨rfl, rfl, hok _ rfl, t2⟩, t3, ?_, ?_⟩
    ·rw [List.pairwise_cons]
     refine ⟨fun y hy e e' he he'=>?_,t4⟩
     rcases hL with ⟨e1,f1,f2,rfl⟩ | ⟨f1,rfl⟩
     ·rw [f1] at he;cases he
      exact t5 e (by simp) y hy e' he'
     ·rw [f1] at he;cases he
    ·intro e he s hs e' he'
     rcases List.mem_cons.1 hs with rfl | hs
     ·rcases hL with ⟨e1,f1,f2,rfl⟩ | ⟨f1,rfl⟩
      ·rw [f1] at he';cases he'
       exact f2 e he
      ·rw [f1] at he';cases he'
     ·rcases hL with ⟨e1,f1,f2,rfl⟩ | ⟨f1,rfl⟩
      ·exact t5 e (by simp [he]) s hs e' he'
      ·exact t5 e he s hs e' he'
   rcases wy E o.op with hc | hc | hc | hc
   ·rw [hc] at k1
    exact fin L (.inr ⟨by simp [gP,hc],rfl⟩) k1
   ·rw [hc] at k1
    simp only [E7] at k1
    cases hr : cH T o.op with
    | none=>rw [hr] at k1;exact fin L (.inr ⟨by simp [gP,hc,hr],rfl⟩) k1
    | some id=>
     rw [hr] at k1
     obtain ⟨f1,f2⟩:=sy _ _ _ k1
     exact fin _ (.inl ⟨.read i id,by simp [gP,hc,hr],f1,rfl⟩) f2
   ·rw [hc] at k1
    obtain ⟨t,ht⟩:=pL hc
    have hk2:=k2 (fun a b=>a = v /\ b = h') ⟨rfl,rfl⟩
    rw [ht] at hk2
    simp only [kG] at hk2
    obtain ⟨_,hk2⟩:=ai hk2
    rw [bT] at hk2
    obtain ⟨rfl,hh⟩:=hk2
    exact fin _ (.inl ⟨.made i h.length,by simp [gP,hc],fun e0 _=>by cases e0<;>exact trivial,rfl⟩) k1
   ·rw [hc] at k1
    obtain ⟨f1,f2⟩:=sy _ _ _ k1
    exact fin _ (.inl ⟨.heap i h h', by simp [gP, hc], f1, rfl⟩) f2
  ·rw [eH] at g2
   obtain ⟨tr, T', h'', t1, t2, t3, t4, t5⟩ := lv rest L _ _ g2
   refine ⟨⟨i, o, T, h, false, .und, h⟩ :: tr, T', h'', by simp [t1], ⟨rfl, rfl, ⟨g1, fun h => Bool.noConfusion h, fun _ => ⟨rfl, rfl⟩⟩, t2⟩, t3, ?_, ?_⟩
   ·rw [List.pairwise_cons]
    exact ⟨fun y hy e e' he he'=>by simp [gP] at he,t4⟩
   ·intro e he s hs e' he'
    rcases List.mem_cons.1 hs with rfl | hs
    ·simp [gP] at he'
    ·exact t5 e he s hs e' he'
end
end Dw
namespace Dw
open Go Go.RowKit
theorem cr {α : Type} {R : α -> α -> Prop} {l : List α} {A C : List α} {s : α} (h : l.Pairwise R) (hl : l = A ++ s :: C) : (∀ x ∈ A,R x s) /\ (∀ y ∈ C,R s y) /\ (∀ x ∈ A,∀ y ∈ C,R x y) /\ A.Pairwise R /\ C.Pairwise R:=by
 subst hl
 rw [List.pairwise_append] at h
 obtain ⟨h1,h2,h3⟩:=h
 rw [List.pairwise_cons] at h2
 exact ⟨fun x hx=>h3 x hx s (by simp),h2.1,fun x hx y hy=>h3 x hx y (by simp [hy]),h1,h2.2⟩
def Tp (L : Nat -> Bool) : List jM -> List AV -> List AV
 | [],T=>T
 | s :: l,T=>Tp L l (if L s.i then eB s.o.dst s.v T else T)
theorem jN (L : Nat -> Bool) : ∀ (a b : List jM) (T : List AV),Tp L (a ++ b) T = Tp L b (Tp L a T)
 | [],b,T=>rfl
 | s :: a,b,T=>by simp only [List.cons_append,Tp];exact jN L a b _
theorem lZ (d : Option Nat) (v : AV) (T : List AV) : (eB d v T).length = T.length:=by cases d<;>simp [eB]
theorem lU (d : Option Nat) (v : AV) (T : List AV) (t : Nat) : g9 (eB d v T) t = if d = some t /\ t < T.length then v else g9 T t:=by
 cases d with
 | none=>simp [eB]
 | some n=>
  simp only [eB,xj]
  by_cases h : t = n
  ·subst h;simp
  ·have : ¬ (some n = some t /\ t < T.length):=fun hh=>h (Option.some.inj hh.1).symm
   rw [if_neg this,if_neg (fun hh=>h hh.1)]
theorem rK {L : Nat -> Bool} {t : Nat} : ∀ (A : List jM) (T T' : List AV),T.length = T'.length -> (∀ x ∈ A,x.o.dst = some t -> L x.i = true) -> g9 T t = g9 T' t -> g9 (Tp L A T) t = g9 (Tp (fun _=>true) A T') t
 | [], T, T', _, _, h => h
 | x :: A, T, T', hl, hx, h => by
  simp only [Tp,if_true]
  refine rK A _ _ ?_ (fun y hy=>hx y (by simp [hy])) ?_
  ·split
   ·rw [lZ,lZ,hl]
   ·rw [lZ,hl]
  ·by_cases hd : x.o.dst = some t
   ·rw [if_pos (hx x (by simp) hd)]
    rw [lU,lU,hl,h]
   ·have e2 : g9 (eB x.o.dst x.v T') t = g9 T' t:=by rw [lU,if_neg (fun hh=>hd hh.1)]
    rw [e2,<- h]
    split
    ·rw [lU,if_neg (fun hh=>hd hh.1)]
    ·rfl
theorem wa {L : Nat -> Bool} {t : Nat} : ∀ (C : List jM) (T : List AV),(∀ y ∈ C,y.o.dst = some t -> L y.i = false) -> g9 (Tp L C T) t = g9 T t
 | [],T,_=>rfl
 | y :: C,T,h=>by
  simp only [Tp]
  rw [wa C _ (fun z hz=>h z (by simp [hz]))]
  split
  ·rename_i hl
   rw [lU,if_neg]
   rintro ⟨hd,_⟩
   rw [h y (by simp) hd] at hl
   cases hl
  ·rfl
theorem E5 {d e : Option Nat} {v u : AV} {T : List AV} (h : ∀ t,d = some t -> e ≠ some t) : eB e u (eB d v T) = eB d v (eB e u T):=by
 cases d with
 | none=>rfl
 | some a=>
  cases e with
  | none=>rfl
  | some b=>
   have : a ≠ b:=fun he=>h a rfl (by rw [he])
   simp only [eB]
   exact List.set_comm _ _ this
theorem v8 {L : Nat -> Bool} {d : Option Nat} {v : AV} : ∀ (C : List jM) (T : List AV),(∀ y ∈ C,L y.i = true -> ∀ t,d = some t -> y.o.dst ≠ some t) -> Tp L C (eB d v T) = eB d v (Tp L C T)
 | [],T,_=>rfl
 | y :: C,T,h=>by
  simp only [Tp]
  by_cases hl : L y.i = true
  ·rw [if_pos hl,if_pos hl,E5 (h y (by simp) hl),v8 C _ (fun z hz=>h z (by simp [hz]))]
  ·rw [if_neg hl,if_neg hl,v8 C _ (fun z hz=>h z (by simp [hz]))]
theorem pB {L M : Nat -> Bool} : ∀ (C : List jM) (T : List AV),(∀ y ∈ C,L y.i = M y.i) -> Tp L C T = Tp M C T
 | [],T,_=>rfl
 | y :: C,T,h=>by
  simp only [Tp,h y (by simp)]
  exact pB C _ (fun z hz=>h z (by simp [hz]))
section
variable (E : TE)
def hp (L : Nat -> Bool) : List jM -> ae -> ae
 | [],h=>h
 | s :: l,h=>hp L l (if L s.i = true /\ d6 E s.o.op = 3 then s.h' else h)
theorem jV (L : Nat -> Bool) : ∀ (a b : List jM) (h : ae),hp E L (a ++ b) h = hp E L b (hp E L a h)
 | [],b,h=>rfl
 | s :: a,b,h=>by simp only [List.cons_append,hp];exact jV L a b _
variable {E}
theorem nA {L M : Nat -> Bool} : ∀ (C : List jM) (h : ae),(∀ y ∈ C,L y.i = M y.i) -> hp E L C h = hp E M C h
 | [],T,_=>rfl
 | y :: C,T,h=>by
  simp only [hp,h y (by simp)]
  exact nA C _ (fun z hz=>h z (by simp [hz]))
theorem fd {L : Nat -> Bool} : ∀ (C : List jM) (h : ae),(∀ y ∈ C,d6 E y.o.op = 3 -> L y.i = false) -> hp E L C h = h
 | [],h,_=>rfl
 | y :: C,h,hy=>by
  simp only [hp]
  rw [if_neg ?_]
  ·exact fd C h (fun z hz=>hy z (by simp [hz]))
  ·rintro ⟨h1,h2⟩
   rw [hy y (by simp) h2] at h1
   cases h1
variable {R : ep} {all : List Oper}
theorem eF : ∀ {a b : List jM} {T T' : List AV} {h h' : ae},g7 E R all (a ++ b) T h T' h' -> ∃ T1 h1,g7 E R all a T h T1 h1 /\ g7 E R all b T1 h1 T' h'
 | [], b, T, T', h, h', hc => ⟨T, h, ⟨rfl, rfl⟩, hc⟩
 | s :: a, b, T, T', h, h', hc => by
  obtain ⟨h1,h2,h3,h4⟩:=hc
  obtain ⟨T1,g1,k1,k2⟩:=eF h4
  exact ⟨T1,g1,⟨h1,h2,h3,k1⟩,k2⟩
theorem ri : ∀ {a : List jM} {T T' : List AV} {h h' : ae},g7 E R all a T h T' h' -> T' = Tp (fun _=>true) a T
 | [], T, T', h, h', hc => hc.1
 | s :: a, T, T', h, h', hc => by
  obtain ⟨h1,h2,h3,h4⟩:=hc
  simp only [Tp,if_true]
  exact ri h4
theorem eu : ∀ {a : List jM} {T T' : List AV} {h h' : ae},g7 E R all a T h T' h' -> ∀ s ∈ a,B8 E R all s
 | [], T, T', h, h', hc, s, hs => by simp at hs
 | x :: a, T, T', h, h', hc, s, hs => by
  obtain ⟨h1,h2,h3,h4⟩:=hc
  rcases List.mem_cons.1 hs with rfl | hs
  ·exact h3
  ·exact eu h4 s hs
def fQ (l : List jM) : Prop:=∀ s ∈ l,d6 E s.o.op ≠ 3 -> s.h' = s.h
theorem gi {s : jM} (h2 : d6 E s.o.op ≠ 2) (h3 : d6 E s.o.op ≠ 3) (hs : B8 E R all s) : s.h' = s.h:=by
 obtain ⟨_,h4,h5⟩:=hs
 cases htk : s.tk with
 | false=>exact (h5 htk).2
 | true=>
  have hc:=wy E s.o.op
  have:=jz (g:=s.h) (by
   rcases hc with hc | hc | hc | hc
   ·exact .inl hc
   ·exact .inr ⟨hc,fun _ _=>rfl⟩
   ·exact absurd hc h2
   ·exact absurd hc h3) (h4 htk)
  obtain ⟨v, h', ⟨_, _, e⟩, _⟩ := jj this
  exact e.symm
theorem lJ {L : Nat -> Bool} : ∀ {A : List jM} {T T' : List AV} {h h' : ae},g7 E R all A T h T' h' -> fQ (E:=E) A -> (∀ x ∈ A,d6 E x.o.op = 3 -> L x.i = true) -> hp E L A h = h'
 | [], T, T', h, h', hc, _, _ => hc.2.symm
 | x :: A, T, T', h, h', hc, hs, hx => by
  obtain ⟨h1,h2,h3,h4⟩:=hc
  simp only [hp]
  have hs' : fQ (E:=E) A:=fun y hy=>hs y (by simp [hy])
  by_cases hc3 : d6 E x.o.op = 3
  ·rw [if_pos ⟨hx x (by simp) hc3,hc3⟩]
   exact lJ h4 hs' (fun y hy=>hx y (by simp [hy]))
  ·rw [if_neg (fun hh=>hc3 hh.2)]
   have : x.h' = h:=by rw [<- h2];exact hs x (by simp) hc3
   rw [this] at h4
   exact lJ h4 hs' (fun y hy=>hx y (by simp [hy]))
section
variable {β : Type} {φ : ae -> β}
theorem vF : ∀ {A : List jM} {T T' : List AV} {h h' : ae},g7 E R all A T h T' h' -> fQ (E:=E) A -> (∀ x ∈ A,d6 E x.o.op = 3 -> φ x.h = φ x.h') -> φ h = φ h'
 | [], T, T', h, h', hc, _, _ => by rw [hc.2]
 | x :: A, T, T', h, h', hc, hs, hx => by
  obtain ⟨h1,h2,h3,h4⟩:=hc
  have hs' : fQ (E:=E) A:=fun y hy=>hs y (by simp [hy])
  have ih:=vF h4 hs' (fun y hy=>hx y (by simp [hy]))
  by_cases hc3 : d6 E x.o.op = 3
  ·rw [<- ih,<- hx x (by simp) hc3,h2]
  ·rw [<- ih,hs x (by simp) hc3,h2]
theorem gf {L : Nat -> Bool} : ∀ {A : List jM} {T T' : List AV} {h h' : ae},g7 E R all A T h T' h' -> fQ (E:=E) A -> A.Pairwise (fun x y=>d6 E x.o.op = 3 -> d6 E y.o.op = 3 -> L y.i = true -> L x.i = true) ->
  (∀ x ∈ A,d6 E x.o.op = 3 -> L x.i = true -> φ x.h = φ x.h') -> φ (hp E L A h) = φ h
 | [], T, T', h, h', hc, _, _, _ => rfl
 | x :: A, T, T', h, h', hc, hs, hp', hx => by
  obtain ⟨h1,h2,h3,h4⟩:=hc
  have hs' : fQ (E:=E) A:=fun y hy=>hs y (by simp [hy])
  rw [List.pairwise_cons] at hp'
  simp only [hp]
  by_cases hc3 : d6 E x.o.op = 3
  ·by_cases hl : L x.i = true
   ·rw [if_pos ⟨hl,hc3⟩,gf h4 hs' hp'.2 (fun y hy=>hx y (by simp [hy])),<- hx x (by simp) hc3 hl,h2]
   ·rw [if_neg (fun hh=>hl hh.1),fd A h]
    intro y hy hy3
    cases hly : L y.i with
    | false=>rfl
    | true=>exact absurd (hp'.1 y hy hc3 hy3 hly) hl
  ·rw [if_neg (fun hh=>hc3 hh.2)]
   have : x.h' = h:=by rw [<- h2];exact hs x (by simp) hc3
   rw [this] at h4
   exact gf h4 hs' hp'.2 (fun y hy=>hx y (by simp [hy]))
theorem mG {L : Nat -> Bool} : ∀ {A : List jM} {T T' : List AV} {h h' : ae},g7 E R all A T h T' h' -> fQ (E:=E) A -> A.Pairwise (fun x y=>d6 E x.o.op = 3 -> d6 E y.o.op = 3 -> L y.i = true -> L x.i = true) ->
  (∀ x ∈ A,d6 E x.o.op = 3 -> L x.i = false -> φ x.h = φ x.h') -> φ (hp E L A h) = φ h'
 | [], T, T', h, h', hc, _, _, _ => by rw [hc.2]; rfl
 | x :: A, T, T', h, h', hc, hs, hp', hx => by
  have hc0:=hc
  obtain ⟨h1,h2,h3,h4⟩:=hc
  have hs' : fQ (E:=E) A:=fun y hy=>hs y (by simp [hy])
  rw [List.pairwise_cons] at hp'
  simp only [hp]
  by_cases hc3 : d6 E x.o.op = 3
  ·by_cases hl : L x.i = true
   ·rw [if_pos ⟨hl,hc3⟩]
    exact mG h4 hs' hp'.2 (fun y hy=>hx y (by simp [hy]))
   ·have hl' : L x.i = false:=by simpa using hl
    have hlater : ∀ y ∈ A,d6 E y.o.op = 3 -> L y.i = false:=by
     intro y hy hy3
     cases hly : L y.i with
     | false=>rfl
     | true=>exact absurd (hp'.1 y hy hc3 hy3 hly) hl
    rw [if_neg (fun hh=>hl hh.1),fd A h hlater]
    refine vF hc0 hs fun y hy hy3=>?_
    rcases List.mem_cons.1 hy with rfl | hy
    ·exact hx y (by simp) hy3 hl'
    ·exact hx y (by simp [hy]) hy3 (hlater y hy hy3)
  ·rw [if_neg (fun hh=>hc3 hh.2)]
   have : x.h' = h:=by rw [<- h2];exact hs x (by simp) hc3
   rw [this] at h4
   exact mG h4 hs' hp'.2 (fun y hy=>hx y (by simp [hy]))
end
end
section
variable (ops : List Oper)
def Cl (L : Nat -> Bool) : Prop:=∀ y o,ops[y]? = some o -> L y = true -> ∀ e ∈ o.after.toList,Region.binds .any e = true -> L e.on = true
def iv (y m : Nat) : Prop:=∀ x,m.testBit x = true -> ∀ L,Cl ops L -> (∀ o,ops[y]? = some o -> ∀ e ∈ o.after.toList,Region.binds .any e = true -> L e.on = true) -> L x = true
theorem jw (y : Nat) : iv ops y 0:=fun x h=>by simp at h
theorem sN {y : Nat} {o : Oper} {acc : List Nat} (ho : ops[y]? = some o) (hacc : ∀ z,iv ops z (acc.getD z 0)) : ∀ (l : List Edge) (m : Nat),(∀ e ∈ l,e ∈ o.after.toList) -> iv ops y m ->
  iv ops y (l.foldl (fun s e=>if Region.binds .any e then s ||| 2 ^ e.on ||| acc.getD e.on 0 else s) m)
 | [],m,_,h=>h
 | e :: l,m,hl,h=>by
  simp only [List.foldl_cons]
  refine sN ho hacc l _ (fun e' he=>hl e' (by simp [he])) ?_
  split
  ·rename_i hb
   intro x hx L hL hd
   rw [Nat.testBit_or,Nat.testBit_or,Bool.or_eq_true,Bool.or_eq_true] at hx
   have hon : L e.on = true:=hd o ho e (hl e (by simp)) hb
   rcases hx with (hx | hx) | hx
   ·exact h x hx L hL hd
   ·rw [Nat.testBit_two_pow] at hx
    have : e.on = x:=by simpa using hx
    rw [<- this];exact hon
   ·exact hacc e.on x hx L hL (fun o' ho' e' he' hb'=>hL e.on o' ho' hon e' he' hb')
  ·exact h
theorem np : ∀ (l : List Oper) (acc : List Nat),ops.drop acc.length = l -> (∀ z,iv ops z (acc.getD z 0)) -> ∀ z,iv ops z ((cQ l acc).getD z 0)
 | [],acc,_,h=>h
 | o :: l,acc,hd,h=>by
  simp only [cQ]
  have ho : ops[acc.length]? = some o:=by
   have:=congrArg (·[0]?) hd
   simpa using this
  refine np l _ (by
   have:=congrArg List.tail hd
   simpa using this) fun z=>?_
  rw [List.getD_eq_getElem?_getD,List.getElem?_append]
  by_cases h1 : z < acc.length
  ·rw [if_pos h1,<- List.getD_eq_getElem?_getD];exact h z
  ·rw [if_neg h1]
   by_cases h2 : z = acc.length
   ·subst h2
    simp only [Nat.sub_self,List.getElem?_cons_zero,Option.getD_some]
    exact sN ops ho h _ _ (fun e he=>he) (jw ops _)
   ·rw [List.getElem?_eq_none (by simp;omega)]
    exact jw ops z
theorem B2 (z : Nat) : iv ops z ((cQ ops []).getD z 0):=np ops ops [] rfl (fun z=>by simpa using jw ops z) z
theorem Ig {L : Nat -> Bool} (hL : Cl ops L) {x y : Nat} (h : ((cQ ops []).getD y 0).testBit x = true) (hy : L y = true) : L x = true:=
 B2 ops y x h L hL (fun o ho=>hL y o ho hy)
theorem kF : ∀ (l : List Oper) (n k : Nat),(gb l n)[k]? = (l[k]?).map (fun o=>(n + k,o))
 | [],n,k=>by simp [gb]
 | o :: l,n,0=>by simp [gb]
 | o :: l,n,k + 1=>by
  simp only [gb,List.getElem?_cons_succ,kF l (n + 1) k]
  rw [show n + 1 + k = n + (k + 1) by omega]
theorem nH {l : List Oper} {p : Nat × Oper} : p ∈ gb l 0 ↔ l[p.1]? = some p.2:=by
 rw [List.mem_iff_getElem?]
 constructor
 ·rintro ⟨k,hk⟩
  rw [kF] at hk
  obtain ⟨o,h1,h2⟩:=Option.map_eq_some_iff.1 hk
  subst h2
  simpa using h1
 ·intro h
  exact ⟨p.1,by rw [kF,h];simp⟩
theorem oP : ∀ (l : List Oper) (n : Nat),(gb l n).Pairwise (fun x y=>x.1 < y.1)
 | [],n=>List.Pairwise.nil
 | o :: l,n=>by
  simp only [gb,List.pairwise_cons]
  refine ⟨fun y hy=>?_,oP l (n + 1)⟩
  obtain ⟨k,hk⟩:=List.mem_iff_getElem?.1 hy
  rw [kF] at hk
  obtain ⟨o', _, h2⟩ := Option.map_eq_some_iff.1 hk
  subst h2
  show n < n + 1 + k
  omega
theorem jO {l : List Oper} {p : Nat × Oper} : p ∈ bQ l ↔ l[p.1]? = some p.2:=by
 simp only [bQ,List.mem_append,List.mem_filter,nH]
 cases gt p.2<;>simp
theorem rT (l : List Oper) : (bQ l).Pairwise (fun x y=>x.1 ≠ y.1):=by
 have h : (gb l 0).Pairwise (fun x y=>x.1 ≠ y.1):=(oP l 0).imp (fun h=>Nat.ne_of_lt h)
 simp only [bQ,List.pairwise_append]
 refine ⟨h.filter _,h.filter _,fun x hx y hy he=>?_⟩
 rw [List.mem_filter,nH] at hx hy
 rw [he,hy.1] at hx
 obtain ⟨h1,h2⟩:=hx
 have h3 : y.2 = x.2:=Option.some.inj h1
 rw [<- h3] at h2
 have h4:=hy.2
 rw [h2] at h4
 cases h4
end
end Dw
namespace Dw
open Go Go.RowKit
variable {ds : List Deferred}
structure DR (E : TE) (R : ep) (ps : List (Nat × Nat)) (l : List Oper) (T0 : List AV) (h0 : ae) (T' : List AV) (h' : ae) (trA trO : List jM) (TA : List AV) (hA : ae) : Prop where
 map : (trA ++ trO).map (fun s=>(s.i,s.o)) = bQ l
 allA : ∀ s ∈ trA,gt s.o = true
 allO : ∀ s ∈ trO,gt s.o = false
 ch : g7 E R l (trA ++ trO) T0 h0 T' h'
 chA : g7 E R l trA T0 h0 TA hA
 chO : g7 E R l trO TA hA T' h'
 stab : (trA ++ trO).Pairwise (rJ E ps)
 pair : (trA ++ trO).Pairwise (fun x y=>jI E l (cQ l []) ps (x.i,x.o) (y.i,y.o) = true)
 edges : oC l 0 = true
 ung : ∀ s ∈ trA,s.o.guard = none
theorem oe (f : Nat × Oper -> Nat × Oper -> Bool) : ∀ (l : List (Nat × Oper)),od f l = true -> l.Pairwise (fun x y=>f x y = true)
 | [],_=>List.Pairwise.nil
 | x :: l,h=>by
  simp only [od,Bool.and_eq_true,List.all_eq_true] at h
  exact List.Pairwise.cons h.1 (oe f l h.2)
theorem EI {α β : Type} {f : α -> β} {l : List α} {a b : List β} (h : l.map f = a ++ b) : ∃ l1 l2,l = l1 ++ l2 /\ l1.map f = a /\ l2.map f = b:=List.map_eq_append_iff.1 h
theorem DR.of_drawD {E : TE} {R : ep} {l : List Oper} {T0 : List AV} {h0 : ae} {K : List AV -> ae -> Prop} (h : mY E R l T0 h0 K) :
  ∃ fl ps T' h' trA trO TA hA,DR (kT E fl) R ps l T0 h0 T' h' trA trO TA hA /\ K T' h':=by
 obtain ⟨fl,ps,h1,h2⟩:=h
 obtain ⟨tr, T', h', t1, t2, t3, t4, _⟩ := lv (kT E fl) R l _ _ _ _ h2
 simp only [wD,Bool.and_eq_true,List.all_eq_true] at h1
 obtain ⟨⟨e1,e2⟩,e3⟩:=h1
 have hpair:=oe _ _ e2
 rw [<- t1,List.pairwise_map] at hpair
 have t1':=t1
 simp only [bQ] at t1'
 obtain ⟨trA,trO,rfl,m1,m2⟩:=EI t1'
 obtain ⟨TA,hA,c1,c2⟩:=eF t2
 refine ⟨fl, ps, T', h', trA, trO, TA, hA, ⟨t1, fun s hs => ?_, fun s hs => ?_, t2, c1, c2, t4, hpair, e1, fun s hs => ?_⟩, t3⟩
 ·have : (s.i,s.o) ∈ trA.map (fun s=>(s.i,s.o)):=List.mem_map.2 ⟨s,hs,rfl⟩
  rw [m1,List.mem_filter] at this
  exact this.2
 ·have : (s.i,s.o) ∈ trO.map (fun s=>(s.i,s.o)):=List.mem_map.2 ⟨s,hs,rfl⟩
  rw [m2,List.mem_filter] at this
  simpa using this.2
 ·have : (s.i,s.o) ∈ trA.map (fun s=>(s.i,s.o)):=List.mem_map.2 ⟨s,hs,rfl⟩
  rw [m1,List.mem_filter,nH] at this
  have h3:=e3 s.o (List.mem_of_getElem? this.1)
  rw [Bool.or_eq_true] at h3
  rcases h3 with h3 | h3
  ·rw [this.2] at h3;simp at h3
  ·simpa using h3
theorem kr : ∀ (l : List Oper) (n : Nat),oC l n = true -> ∀ (k : Nat) (o : Oper),l[k]? = some o -> ∀ e ∈ o.after.toList,Region.binds .any e = true -> e.on < n + k
 | [],n,_,k,o,h=>by simp at h
 | x :: l,n,h,k,o,ho=>by
  simp only [oC,Bool.and_eq_true,List.all_eq_true] at h
  cases k with
  | zero=>
   simp at ho
   subst ho
   intro e he hb
   have:=h.1 e he
   rw [hb] at this
   simpa using this
  | succ k=>
   intro e he hb
   have:=kr l (n + 1) h.2 k o (by simpa using ho) e he hb
   omega
theorem cB {E : TE} {o : Oper} : gt o = true ↔ d6 E o.op = 2:=by
 constructor
 ·intro h
  unfold gt at h
  split at h
  ·rename_i ho;rw [ho];rfl
  ·cases h
 ·intro h
  obtain ⟨t,ht⟩:=pL h
  simp [gt,ht]
theorem pl {E : TE} {l : List Oper} {ps : List (Nat × Nat)} {L : Nat -> Bool} (hL : Cl l L) {x y : jM} (h : jI E l (cQ l []) ps (x.i,x.o) (y.i,y.o) = true) :
  (qt l x.o y.o = true -> L y.i = true -> L x.i = true) /\ (d6 E x.o.op = 3 -> d6 E y.o.op = 3 -> L y.i = true -> L x.i = true) /\
  ((d6 E x.o.op = 1 \/ d6 E x.o.op = 2) -> d6 E y.o.op = 3 -> L y.i = true -> L x.i = false -> mT ps x.i y.i = true) /\ (d6 E x.o.op = 3 -> d6 E y.o.op = 1 -> L y.i = true -> L x.i = false -> mT ps y.i x.i = true):=by
 simp only [jI,Bool.and_eq_true,Bool.or_eq_true,Bool.not_eq_true'] at h
 obtain ⟨⟨⟨h1,h2⟩,h3⟩,h4⟩:=h
 have fw : ((cQ l []).getD y.i 0).testBit x.i = true -> L y.i = true -> L x.i = true:=fun hb hy=>Ig l hL hb hy
 refine ⟨fun hc hy=>?_,fun hx3 hy3 hy=>?_,fun hx hy3 hy hnx=>?_,fun hx3 hy1 hy hnx=>?_⟩
 ·rcases h1 with h1 | h1
  ·exact fw h1 hy
  ·rw [hc] at h1;cases h1
 ·rcases h2 with h2 | h2
  ·exact fw h2 hy
  ·simp [hx3,hy3] at h2
 ·rcases h3 with (h3 | h3) | h3
  ·rw [fw h3 hy] at hnx;cases hnx
  ·rcases hx with hx | hx<;>simp [hx,hy3] at h3
  ·exact h3
 ·rcases h4 with (h4 | h4) | h4
  ·rw [fw h4 hy] at hnx;cases hnx
  ·simp [hx3,hy1] at h4
  ·exact h4
theorem se {l : List Oper} {x y : Oper} {t : Nat} (h : x.dst = some t) (hu : t ∈ g0 l y) : qt l x y = true:=by
 simp only [qt,h,Bool.or_eq_true]
 exact .inl (.inl (by simpa using hu))
theorem sf {l : List Oper} {x y : Oper} {t : Nat} (h : x.dst = some t) (hu : y.dst = some t) : qt l x y = true:=by
 simp only [qt,h,hu,Bool.or_eq_true]
 exact .inl (.inr (by simp))
theorem qu {l : List Oper} {x y : Oper} {t : Nat} (h : y.dst = some t) (hu : t ∈ g0 l x) : qt l x y = true:=by
 simp only [qt,h,Bool.or_eq_true]
 exact .inr (by simpa using hu)
section
variable {E : TE} {R : ep} {all : List Oper}
theorem rP : ∀ {A : List jM} {T T' : List AV} {h h' : ae},g7 E R all A T h T' h' -> (∀ s ∈ A,gt s.o = true) -> (∀ s ∈ A,s.o.guard = none) ->
  ∃ os : List AO,h' = h ++ os /\ os.length = A.length /\ ∀ (k : Nat) (s : jM),A[k]? = some s -> s.tk = true /\ s.h.length = h.length + k /\ ∃ t,s.o.op = .alloc t /\ (E t).kind ≠ 0 /\ s.v = .ptr (h.length + k) 0 0 /\
   os[k]? = some ⟨[(E t).zero],(E t).size,0⟩
 | [], T, T', h, h', hc, _, _ => ⟨[], by simp [hc.2], rfl, fun k s hs => by simp at hs⟩
 | s :: A, T, T', h, h', hc, ha, hg => by
  obtain ⟨h1,h2,h3,h4⟩:=hc
  obtain ⟨w1,w2,w3⟩:=h3
  obtain ⟨t,ht⟩:=pL (E:=E) (cB.1 (ha s (by simp)))
  have htk : s.tk = true:=by
   rcases w1 with ⟨_,e⟩ | ⟨j,want,u,e,_⟩
   ·exact e
   ·rw [hg s (by simp)] at e;cases e
  have hop:=w2 htk
  rw [ht] at hop
  simp only [kG] at hop
  obtain ⟨hk,hop⟩:=ai hop
  rw [bT] at hop
  obtain ⟨o1,o2⟩:=hop
  obtain ⟨os,e1,e2,e3⟩:=rP h4 (fun s hs=>ha s (by simp [hs])) (fun s hs=>hg s (by simp [hs]))
  refine ⟨⟨[(E t).zero],(E t).size,0⟩ :: os,by rw [e1,<- o2,h2];simp,by simp [e2],fun k s' hs'=>?_⟩
  cases k with
  | zero=>
   simp at hs'
   subst hs'
   exact ⟨htk,by rw [h2];rfl,t,ht,by simpa using hk,by rw [<- o1,h2];rfl,by simp⟩
  | succ k=>
   simp at hs'
   obtain ⟨f1, f2, t', f3, f4, f5, f6⟩ := e3 k s' hs'
   have hl : s.h'.length = h.length + 1:=by rw [<- o2,h2];simp
   exact ⟨f1, by rw [f2, hl]; omega, t', f3, f4, by rw [f5, hl]; congr 1; omega, by simpa using f6⟩
end
def Gh (st0 : St) (h0 : ae) (trA : List jM) (L : Nat -> Bool) : Nat -> Prop:=fun id=>st0.G id \/ ∃ (k : Nat) (s : jM),trA[k]? = some s /\ L s.i = false /\ id = h0.length + k
def K6 (ds : List Deferred) (E : TE) (B : Nat) (W w0 : World) (st0 : St) (T0 : List AV) (h0 : ae) (trA trO : List jM) (hA : ae) (L : Nat -> Bool) (a : Act) (w : World) : Prop:=
 a.defers = ds /\ ∃ st,WR B W w st (hp E L trO hA) /\ aT w st (Tp L (trA ++ trO) T0) a.tmps /\ dO w0 st0 w st /\ st.G = Gh st0 h0 trA L
def bJ (L : Nat -> Bool) (i : Nat) : Nat -> Bool:=fun j=>L j || j == i
theorem rv {l : List Oper} {L : Nat -> Bool} {i : Nat} (hL : Cl l L) (hd : ∀ o,l[i]? = some o -> ∀ e ∈ o.after.toList,Region.binds .any e = true -> L e.on = true) : Cl l (bJ L i):=by
 intro y o ho hy e he hb
 simp only [bJ,Bool.or_eq_true,beq_iff_eq] at hy ⊢
 rcases hy with hy | hy
 ·exact .inl (hL y o ho hy e he hb)
 ·subst hy
  exact .inl (hd o ho e he hb)
section
variable {P : Program} {E : TE} (hE : gJ P E) {B : Nat} {W w0 : World} {st0 : St} {ps : List (Nat × Nat)} {ops : Array Oper} {T0 T' TA : List AV} {h0 h' hA : ae} {trA trO : List jM}
theorem pi {t : Nat} (hk : (E t).kind ≠ 0) (hE : gJ P E) (w : World) (st : St) : ∃ us,us.length = (E t).size /\ 0 < us.length /\ aC w st (E t).zero us /\
  (Instr.alloc t true (.tuple #[])).run P w = .ok (.pointer (some ⟨w.heap.size,0,none⟩)) (w.alloc (.cells us.toArray t)):=by
 obtain ⟨z,h1,h2⟩:=ka hE hk w
 obtain ⟨us,u1,u2,u3,u4,u5,u6⟩:=dk (w:=w) (st:=st) (hE.facts hk).zfit (kQ h2)
 have hpos:=(hE.facts hk).pos
 refine ⟨us,u2,by omega,u3,?_⟩
 have hcs : z.cells = us.toArray:=by rw [<- u1]
 simp only [Instr.alloc,newVar,Sem.run_bind,h1,Result.andThen_ok,dY,Sem.run_pure,hcs]
variable {R : ep} (hR : pv P B W R) (hD : DR E R ps ops.toList T0 h0 T' h' trA trO TA hA) (hg0 : ∀ i,st0.G i -> i < st0.n) (hlen : st0.n = h0.length)
include hE hR hD hg0 hlen
theorem He {L : Nat -> Bool} {s : jM} {a : Act} {w : World} {Q : Exit -> Act -> World -> Prop} {next : Act -> World -> Prop} (hs : s ∈ trA ++ trO) (hL : Cl ops.toList L) (hi : L s.i = false)
  (hd : ∀ o,ops.toList[s.i]? = some o -> ∀ e ∈ o.after.toList,Region.binds .any e = true -> L e.on = true) (hM : K6 ds E B W w0 st0 T0 h0 trA trO hA L a w)
  (hn : ∀ a' w', K6 ds E B W w0 st0 T0 h0 trA trO hA (bJ L s.i) a' w' -> next a' w') : wpOp P ops Q s.i next a w := by
 have hL':=rv hL hd
 -- where it stands
 obtain ⟨A,C,hAC⟩:=List.append_of_mem hs
 have hnd : (trA ++ trO).Pairwise (fun x y=>x.i ≠ y.i):=by
  have:=rT ops.toList
  rw [<- hD.map,List.pairwise_map] at this
  exact this
 obtain ⟨Dl,nd2,_,_,_⟩:=cr hnd hAC
 obtain ⟨p1,p2,_,_,_⟩:=cr hD.pair hAC
 have hops : ops[s.i]? = some s.o:=by
  have : (s.i,s.o) ∈ bQ ops.toList:=by rw [<- hD.map];exact List.mem_map.2 ⟨s,hs,rfl⟩
  rw [jO] at this
  simpa using this
 have moreA : ∀ x ∈ A,bJ L s.i x.i = L x.i:=fun x hx=>by simp [bJ,Dl x hx]
 have moreC : ∀ y ∈ C,bJ L s.i y.i = L y.i:=fun y hy=>by simp [bJ,(nd2 y hy).symm]
 have moreS : bJ L s.i s.i = true:=by simp [bJ]
 -- temporaries
 have hch:=hD.ch
 rw [hAC] at hch
 obtain ⟨T1,g1,ch1,ch2⟩:=eF hch
 obtain ⟨hsT,hsh,hsok,ch3⟩:=ch2
 have hT1 : s.T = Tp (fun _=>true) A T0:=by rw [hsT];exact ri ch1
 have hTp : Tp L (trA ++ trO) T0 = Tp L C (Tp L A T0):=by
  rw [hAC,jN]
  simp only [Tp,hi,Bool.false_eq_true,if_false]
 have huse : ∀ t ∈ g0 ops.toList s.o,g9 (Tp L (trA ++ trO) T0) t = g9 s.T t:=by
  intro t ht
  rw [hTp,hT1,wa,rK A T0 T0 rfl ?_ rfl]
  ·intro x hx hdst
   have:=(pl hL' (p1 x hx)).1 (se hdst ht) moreS
   rw [moreA x hx] at this
   exact this
  ·intro y hy hdst
   cases hly : L y.i with
   | false=>rfl
   | true=>
    have:=(pl hL (p2 y hy)).1 (qu hdst ht) hly
    rw [hi] at this;cases this
 have hopnd : ∀ x ∈ s.o.op.operands,opnd (Tp L (trA ++ trO) T0) x = opnd s.T x:=by
  intro x hx
  cases x with
  | tmp t=>
   refine huse t ?_
   simp only [g0,List.mem_append,List.mem_filterMap]
   exact .inl ⟨.tmp t,by simpa using hx,rfl⟩
  | const v=>rfl
  | global g=>rfl
  | func f=>rfl
 have hTnew : Tp (bJ L s.i) (trA ++ trO) T0 = eB s.o.dst s.v (Tp L (trA ++ trO) T0):=by
  rw [hTp,hAC,jN]
  simp only [Tp,moreS,if_true]
  rw [pB A T0 moreA,pB C _ moreC]
  refine v8 C _ fun y hy hly t hdt hyt=>?_
  have:=(pl hL (p2 y hy)).1 (sf hdt hyt) hly
  rw [hi] at this;cases this
 obtain ⟨hdf,st,m1,m2,m3,m4⟩:=hM
 -- whether it is wanted
 have hwant : vW ops.toList (Tp L (trA ++ trO) T0) s.o.guard s.tk:=by
  rcases hsok.1 with e | ⟨j,want,t,e1,e2,e3⟩
  ·exact .inl e
  ·refine .inr ⟨j,want,t,e1,e2,?_⟩
   have : t ∈ g0 ops.toList s.o:=by
    simp only [g0,List.mem_append]
    exact .inr (by simp [e1,e2])
   rw [huse t this]
   exact e3
 have hw:=fx m2 hwant
 -- an object out of nothing
 by_cases hc2 : d6 E s.o.op = 2
 ·have hsA : s ∈ trA:=by
   rcases List.mem_append.1 hs with h | h
   ·exact h
   ·have:=hD.allO s h
    rw [cB.2 hc2] at this;cases this
  obtain ⟨os,o1,o2,o3⟩:=rP hD.chA hD.allA hD.ung
  obtain ⟨k,hk⟩:=List.mem_iff_getElem?.1 hsA
  obtain ⟨f1,f2,t,f3,f4,f5,f6⟩:=o3 k s hk
  rw [f1] at hw
  unfold wpOp
  simp only [hops,hw,if_true]
  left
  obtain ⟨us,u1,u2,u3,u4⟩:=pi f4 hE w st
  have hrun : (execOp a.eval s.o).run P w = .ok (.value (.pointer (some ⟨w.heap.size,0,none⟩))) (w.alloc (.cells us.toArray t)):=by
   simp only [execOp,f3,Sem.run_bind,u4,Result.andThen_ok,Sem.run_pure]
  simp only [Oper.wp,hrun,Oper.upon]
  have hndO : ∀ y ∈ trO,bJ L s.i y.i = L y.i:=by
   intro y hy
   have hne : y.i ≠ s.i:=by
    rw [List.pairwise_append] at hnd
    exact (hnd.2.2 s hsA y hy).symm
   simp [bJ,hne]
  have hheap : hp E (bJ L s.i) trO hA = hp E L trO hA:=nA trO hA hndO
  have hstill : fQ (E:=E) trO:=fun y hy h3=>gi (fun h2=>by have:=hD.allO y hy;rw [cB.2 h2] at this;cases this) h3 (eu hD.chO y hy)
  have hpO : trO.Pairwise (fun x y=>d6 E x.o.op = 3 -> d6 E y.o.op = 3 -> L y.i = true -> L x.i = true):=by
   have:=hD.pair
   rw [List.pairwise_append] at this
   exact this.2.1.imp fun h=>(pl hL h).2.1
  -- the object is as it was made
  have hobj : (hp E L trO hA)[h0.length + k]? = some ⟨[(E t).zero],(E t).size,0⟩:=by
   have:=gf (φ:=fun g : ae=>g[h0.length + k]?) hD.chO hstill hpO (fun y hy hy3 hly=>by
    have hpr : jI E ops.toList (cQ ops.toList []) ps (s.i,s.o) (y.i,y.o) = true:=by
     have:=hD.pair
     rw [List.pairwise_append] at this
     exact this.2.2 s hsA y hy
    have hst : rJ E ps s y:=by
     have:=hD.stab
     rw [List.pairwise_append] at this
     exact this.2.2 s hsA y hy
    have hmem:=(pl hL hpr).2.2.1 (.inr hc2) hy3 hly hi
    cases htk : y.tk with
    | false=>rw [((eu hD.chO y hy).2.2 htk).2]
    | true=>
     have:=hst (.made s.i s.h.length) (.heap y.i y.h y.h') (by simp [gP,f1,hc2]) (by simp [gP,htk,hy3])
     rw [f2] at this
     exact this hmem)
   rw [this,o1,List.getElem?_append_right (by omega)]
   simpa using f6
  have hgid : st.G (h0.length + k):=by
   rw [m4]
   exact .inr ⟨k,s,hk,hi,rfl⟩
  obtain ⟨w1,e1⟩:=m1.wake hobj hgid u1 (by omega) u3 t
  refine hn _ _ ⟨by rw [dw];exact hdf,_,by rw [hheap];exact w1,?_,m3.trans e1,?_⟩
  ·rw [hTnew,f5]
   refine ix (gp e1 m2) (gL.2 ⟨w.heap.size,0,rfl,?_,fun h=>h.2 rfl,fun r hr=>?_⟩)
   ·exact m1.gho _ hgid
   ·simp only [St.wake,if_true,Option.some.injEq] at hr
    subst hr
    simp
  ·funext id
   apply propext
   simp only [St.wake,m4,Gh]
   constructor
   ·rintro ⟨h1 | ⟨k', s', h1, h2, h3⟩, hne⟩
    ·exact .inl h1
    ·refine .inr ⟨k', s', h1, ?_, h3⟩
     have : s'.i ≠ s.i:=by
      intro he
      have hndA : trA.Pairwise (fun x y=>x.i ≠ y.i):=by rw [List.pairwise_append] at hnd;exact hnd.1
      have hkk : k' ≠ k:=fun hh=>hne (by rw [h3,hh])
      rw [List.pairwise_iff_getElem] at hndA
      obtain ⟨a1,a2⟩:=List.getElem?_eq_some_iff.1 h1
      obtain ⟨b1,b2⟩:=List.getElem?_eq_some_iff.1 hk
      rcases Nat.lt_or_gt_of_ne hkk with hlt | hlt
      ·exact hndA k' k a1 b1 hlt (by rw [a2,b2,he])
      ·exact hndA k k' b1 a1 hlt (by rw [a2,b2,he])
     simp [bJ,h2,this]
   ·rintro (h1 | ⟨k', s', h1, h2, h3⟩)
    ·refine ⟨.inl h1,fun he=>?_⟩
     have:=hg0 id h1
     omega
    ·simp only [bJ,Bool.or_eq_false_iff,beq_eq_false_iff_ne] at h2
     refine ⟨.inr ⟨k', s', h1, h2.1, h3⟩, fun he => ?_⟩
     have : k' = k:=by omega
     subst this
     rw [hk] at h1
     cases h1
     exact h2.2 rfl
 ·-- any other
  have hsO : s ∈ trO:=by
   rcases List.mem_append.1 hs with h | h
   ·exact absurd (cB.1 (hD.allA s h)) hc2
   ·exact h
  have hndA : ∀ x ∈ trA,bJ L s.i x.i = L x.i:=by
   intro x hx
   have hne : x.i ≠ s.i:=by
    rw [List.pairwise_append] at hnd
    exact hnd.2.2 x hx s hsO
   simp [bJ,hne]
  have hGh : Gh st0 h0 trA (bJ L s.i) = Gh st0 h0 trA L:=by
   funext id
   apply propext
   simp only [Gh]
   constructor
   ·rintro (h1 | ⟨k', s', h1, h2, h3⟩)
    ·exact .inl h1
    ·exact .inr ⟨k', s', h1, by rw [<- hndA s' (List.mem_of_getElem? h1)]; exact h2, h3⟩
   ·rintro (h1 | ⟨k', s', h1, h2, h3⟩)
    ·exact .inl h1
    ·exact .inr ⟨k', s', h1, by rw [hndA s' (List.mem_of_getElem? h1)]; exact h2, h3⟩
  -- where it stands among the others
  obtain ⟨A1,C1,hAC1⟩:=List.append_of_mem hsO
  have hndO : trO.Pairwise (fun x y=>x.i ≠ y.i):=by rw [List.pairwise_append] at hnd;exact hnd.2.1
  have hpairO : trO.Pairwise (fun x y=>jI E ops.toList (cQ ops.toList []) ps (x.i,x.o) (y.i,y.o) = true):=by have:=hD.pair;rw [List.pairwise_append] at this;exact this.2.1
  have hstabO : trO.Pairwise (rJ E ps):=by have:=hD.stab;rw [List.pairwise_append] at this;exact this.2.1
  obtain ⟨q1,q2,q3,q4,q5⟩:=cr hpairO hAC1
  obtain ⟨r1,r2,_,_,_⟩:=cr hstabO hAC1
  obtain ⟨n1,n2,_,_,_⟩:=cr hndO hAC1
  have mA1 : ∀ x ∈ A1,bJ L s.i x.i = L x.i:=fun x hx=>by simp [bJ,n1 x hx]
  have mC1 : ∀ y ∈ C1,bJ L s.i y.i = L y.i:=fun y hy=>by simp [bJ,(n2 y hy).symm]
  have hstill : fQ (E:=E) trO:=fun y hy h3=>gi (fun h2=>by have:=hD.allO y hy;rw [cB.2 h2] at this;cases this) h3 (eu hD.chO y hy)
  have hstA : fQ (E:=E) A1:=fun y hy=>hstill y (by rw [hAC1];simp [hy])
  have hstC : fQ (E:=E) C1:=fun y hy=>hstill y (by rw [hAC1];simp [hy])
  have hokO:=eu hD.chO
  have hchO:=hD.chO
  rw [hAC1] at hchO
  obtain ⟨T2,g2,d1,d2⟩:=eF hchO
  obtain ⟨_,d3,_,d4⟩:=d2
  subst d3
  have pairs33 : ∀ (l : List jM),l.Pairwise (fun x y=>jI E ops.toList (cQ ops.toList []) ps (x.i,x.o) (y.i,y.o) = true) -> l.Pairwise (fun x y=>d6 E x.o.op = 3 -> d6 E y.o.op = 3 -> L y.i = true -> L x.i = true):=
   fun l h=>h.imp fun h=>(pl hL h).2.1
  have hhp : hp E L trO hA = hp E L C1 (hp E L A1 hA):=by
   rw [hAC1,jV]
   simp [hp,hi]
  have hhp' : hp E (bJ L s.i) trO hA = hp E L C1 (if d6 E s.o.op = 3 then s.h' else hp E L A1 hA):=by
   rw [hAC1,jV]
   simp only [hp,moreS,true_and]
   rw [nA A1 hA mA1,nA C1 _ mC1]
  -- the heap it meets
  have h3heap : d6 E s.o.op = 3 -> hp E L trO hA = s.h /\ hp E (bJ L s.i) trO hA = s.h':=by
   intro hc3
   have hall : hp E L A1 hA = s.h:=lJ d1 hstA (fun x hx hx3=>by
    have:=(pl hL' (q1 x hx)).2.1 hx3 hc3 moreS
    rw [mA1 x hx] at this;exact this)
   have hnone : ∀ y ∈ C1,d6 E y.o.op = 3 -> L y.i = false:=by
    intro y hy hy3
    cases hly : L y.i with
    | false=>rfl
    | true=>
     have:=(pl hL (q2 y hy)).2.1 hc3 hy3 hly
     rw [hi] at this;cases this
   exact ⟨by rw [hhp, fd C1 _ hnone, hall], by rw [hhp', if_pos hc3, fd C1 _ hnone]⟩
  have hNheap : d6 E s.o.op ≠ 3 -> hp E (bJ L s.i) trO hA = hp E L trO hA:=by
   intro hc3
   rw [hhp', if_neg hc3, hhp]
  have hread : d6 E s.o.op = 1 -> s.tk = true -> ∀ id,cH s.T s.o.op = some id -> ib s.h (hp E L trO hA) id:=by
   intro hc1 htk id hid
   have hev : gP E s = some (.read s.i id):=by simp [gP,htk,hc1,hid]
   have a1 : ib (hp E L A1 hA) s.h id:=mG (φ:=fun g : ae=>(g[id]?).map AO.vis) d1 hstA (pairs33 A1 q4) (fun x hx hx3 hlx=>by
    have hmem:=(pl hL' (q1 x hx)).2.2.2 hx3 hc1 moreS (by rw [mA1 x hx];exact hlx)
    cases hxt : x.tk with
    | false=>rw [((hokO x (by rw [hAC1];simp [hx])).2.2 hxt).2]
    | true=>exact r1 x hx (.heap x.i x.h x.h') (.read s.i id) (by simp [gP,hxt,hx3]) hev hmem)
   have hsh' : s.h' = s.h:=hstill s hsO (by omega)
   rw [hsh'] at d4
   by_cases hex : ∃ y ∈ C1,d6 E y.o.op = 3 /\ L y.i = true
   ·obtain ⟨y,hy,hy3,hly⟩:=hex
    have hallA : hp E L A1 hA = s.h:=lJ d1 hstA (fun x hx hx3=>(pl hL (q3 x hx y hy)).2.1 hx3 hy3 hly)
    have:=gf (φ:=fun g : ae=>(g[id]?).map AO.vis) d4 hstC (pairs33 C1 q5) (fun y hy hy3 hly=>by
     have hmem:=(pl hL (q2 y hy)).2.2.1 (.inl hc1) hy3 hly hi
     cases hyt : y.tk with
     | false=>rw [((hokO y (by rw [hAC1];simp [hy])).2.2 hyt).2]
     | true=>exact r2 y hy (.read s.i id) (.heap y.i y.h y.h') hev (by simp [gP,hyt,hy3]) hmem)
    show (s.h[id]?).map AO.vis = ((hp E L trO hA)[id]?).map AO.vis
    rw [hhp,hallA]
    exact this.symm
   ·have hnone : ∀ y ∈ C1,d6 E y.o.op = 3 -> L y.i = false:=by
     intro y hy hy3
     cases hly : L y.i with
     | false=>rfl
     | true=>exact absurd ⟨y,hy,hy3,hly⟩ hex
    rw [hhp,fd C1 _ hnone]
    exact a1.symm
  unfold wpOp
  simp only [hops,hw]
  cases htk : s.tk with
  | false=>
   simp only [Bool.false_eq_true,if_false]
   obtain ⟨v1,v2⟩:=hsok.2.2 htk
   refine hn _ _ ⟨by rw [dw];exact hdf,st,?_,?_,m3,by rw [hGh];exact m4⟩
   ·have : hp E (bJ L s.i) trO hA = hp E L trO hA:=by
     by_cases hc3 : d6 E s.o.op = 3
     ·obtain ⟨e1,e2⟩:=h3heap hc3
      rw [e2,e1,v2]
     ·exact hNheap hc3
    rw [this]
    exact m1
   ·rw [hTnew,v1]
    exact ix m2 (cw rfl (by simp [aC]))
  | true=>
   simp only [if_true]
   left
   have hop:=hsok.2.1 htk
   have hop2 : kG E R (Tp L (trA ++ trO) T0) s.h s.o.op (fun v h'=>v = s.v /\ h' = s.h'):=by
    rw [vw hopnd];exact hop
   have hop3 : kG E R (Tp L (trA ++ trO) T0) (hp E L trO hA) s.o.op (fun v h'=>v = s.v /\ h' = hp E (bJ L s.i) trO hA):=by
    by_cases hc3 : d6 E s.o.op = 3
    ·obtain ⟨e1,e2⟩:=h3heap hc3
     rw [e1,e2]
     exact hop2
    ·have hrT : cH (Tp L (trA ++ trO) T0) s.o.op = cH s.T s.o.op:=by
      unfold cH
      split
      ·rename_i t x hx
       rw [hopnd x (by rw [hx];simp [Op.operands])]
      ·rename_i t u x hx
       rw [hopnd x (by rw [hx];simp [Op.operands])]
      ·rename_i t x lo hi mx hx
       rw [hopnd x (by rw [hx];simp [Op.operands])]
      ·rename_i t x i c hx
       rw [hopnd x (by rw [hx];simp [Op.operands])]
      ·rfl
     have:=jz (g:=hp E L trO hA) (by
      rcases wy E s.o.op with hc | hc | hc | hc
      ·exact .inl hc
      ·refine .inr ⟨hc,fun id hid=>hread hc htk id (by rw [<- hrT];exact hid)⟩
      ·exact absurd hc hc2
      ·exact absurd hc hc3) hop2
     obtain ⟨v,h2,⟨k1,k2,_⟩,k3⟩:=jj this
     exact k3 _ ⟨k2,by rw [k1,hNheap hc3]⟩
   refine ug (N:=dE B W w st (fun v h'=>v = s.v /\ h' = hp E (bJ L s.i) trO hA)) (fun v w' hpost=>?_) (mB hE hR m1 m2 hop3)
   obtain ⟨st', av, h2, ⟨k1, k2⟩, k3, k4, k5, k6⟩ := hpost
   subst k1
   rw [k2] at k3
   exact hn _ _ ⟨by rw [dw]; exact hdf, st', k3, by rw [hTnew]; exact ix (gp k5 m2) k4, m3.trans k5, by rw [k6, m4, hGh]⟩
end
end Dw
namespace Dw
open Go Go.RowKit
variable {ds : List Deferred}
def gv (listed : Array Bool) : Nat -> Bool:=fun j=>listed.getD j false
theorem Dj {listed : Array Bool} {i : Nat} (h : i < listed.size) : gv (listed.setIfInBounds i true) = bJ (gv listed) i:=by
 funext j
 simp only [gv,bJ,Array.getD_eq_getD_getElem?]
 by_cases hj : j = i
 ·subst hj
  simp [h]
 ·rw [Array.getElem?_setIfInBounds_ne (Ne.symm hj)]
  have : (j == i) = false:=by simpa using hj
  simp [this]
theorem lG {p q : Nat -> Bool} {i : Nat} : ∀ (l : List Nat),(∀ j,q j = true -> p j = true) -> i ∈ l -> p i = true -> q i = false -> (l.filter q).length < (l.filter p).length
 | [],_,hi,_,_=>by simp at hi
 | x :: l,h,hi,hp,hq=>by
  have hle : ∀ l : List Nat,(l.filter q).length <= (l.filter p).length:=by
   intro l
   induction l with
   | nil=>simp
   | cons y l ih=>
    simp only [List.filter_cons]
    by_cases hqy : q y = true
    ·rw [if_pos hqy,if_pos (h y hqy)];simp [ih]
    ·rw [if_neg hqy]
     split
     ·simp;omega
     ·exact ih
  by_cases hx : x = i
  ·subst hx
   simp only [List.filter_cons,hp,hq,if_true,Bool.false_eq_true,if_false,List.length_cons]
   have:=hle l
   omega
  ·have hi' : i ∈ l:=by
    rcases List.mem_cons.1 hi with h | h
    ·exact absurd h.symm hx
    ·exact h
   have ih:=lG l h hi' hp hq
   simp only [List.filter_cons]
   by_cases hqy : q x = true
   ·rw [if_pos hqy,if_pos (h x hqy)];simp [ih]
   ·rw [if_neg hqy]
    split
    ·simp;omega
    ·exact ih
section
variable {P : Program} {E : TE} (hE : gJ P E) {B : Nat} {W w0 : World} {st0 : St} {ps : List (Nat × Nat)} {ops : Array Oper} {T0 T' TA : List AV} {h0 h' hA : ae} {trA trO : List jM}
variable {R : ep} (hR : pv P B W R) (hD : DR E R ps ops.toList T0 h0 T' h' trA trO TA hA) (hg0 : ∀ i,st0.G i -> i < st0.n) (hlen : st0.n = h0.length)
include hE hR hD hg0 hlen
omit hE hR hg0 hlen in
theorem rt {L : Nat -> Bool} {a : Act} {w : World} (hall : ∀ j,j < ops.size -> L j = true) (hM : K6 ds E B W w0 st0 T0 h0 trA trO hA L a w) : iS ds B W w0 st0 T' h' a w:=by
 obtain ⟨hdf,st,m1,m2,m3,m4⟩:=hM
 have hl : ∀ s ∈ trA ++ trO,L s.i = true:=by
  intro s hs
  have : (s.i,s.o) ∈ bQ ops.toList:=by rw [<- hD.map];exact List.mem_map.2 ⟨s,hs,rfl⟩
  rw [jO] at this
  refine hall s.i ?_
  have:=(List.getElem?_eq_some_iff.1 this).1
  simpa using this
 have hstill : fQ (E:=E) trO:=fun y hy h3=>gi (fun h2=>by have:=hD.allO y hy;rw [cB.2 h2] at this;cases this) h3 (eu hD.chO y hy)
 refine ⟨hdf,st,?_,?_,m3,?_⟩
 ·rw [<- lJ hD.chO hstill (fun x hx _=>hl x (by simp [hx]))]
  exact m1
 ·rw [ri hD.ch,<- pB (L:=L) (M:=fun _=>true) _ _ hl]
  exact m2
 ·rw [m4]
  funext id
  apply propext
  simp only [Gh]
  constructor
  ·rintro (h1 | ⟨k,s,h1,h2,_⟩)
   ·exact h1
   ·rw [hl s (by simp [List.mem_of_getElem? h1])] at h2;cases h2
  ·exact .inl
theorem EK {Q : Exit -> Act -> World -> Prop} (hQ : ∀ a w,iS ds B W w0 st0 T' h' a w -> Q .normal a w) : ∀ (fuel : Nat) (listed : Array Bool) (a : Act) (w : World),listed.size = ops.size -> Cl ops.toList (gv listed) ->
  K6 ds E B W w0 st0 T0 h0 trA trO hA (gv listed) a w -> ((List.range ops.size).filter (fun j=>!gv listed j)).length <= fuel -> wpAny P .any ops Q fuel listed a w:=by
 have hready : ∀ (listed : Array Bool),listed.size = ops.size -> Cl ops.toList (gv listed) -> Region.ready .any ops listed = [] -> ∀ j,j < ops.size -> gv listed j = true:=by
  intro listed hsz hL hr
  have key : ∀ n j,j < n -> j < ops.size -> gv listed j = true:=by
   intro n
   induction n with
   | zero=>intro j hj;omega
   | succ n ih=>
    intro j hj hjs
    cases hc : gv listed j with
    | true=>rfl
    | false=>
     have : j ∈ Region.ready .any ops listed:=by
      rw [mem_ready]
      refine ⟨?_,ops[j],Array.getElem?_eq_getElem hjs,fun e he hb=>?_⟩
      ·have hjl : j < listed.size:=by omega
       simp only [gv,Array.getD_eq_getD_getElem?,Array.getElem?_eq_getElem hjl,Option.getD_some] at hc ⊢
       exact hc
      ·have:=kr ops.toList 0 hD.edges j ops[j] (by simp [hjs]) e (by simpa using he) hb
       exact ih e.on (by omega) (by omega)
     rw [hr] at this
     cases this
  exact fun j hj=>key (j + 1) j (Nat.lt_succ_self j) hj
 have hstep : ∀ (listed : Array Bool) (i : Nat),listed.size = ops.size -> i ∈ Region.ready .any ops listed -> gv listed i = false /\ i < ops.size /\
   ∀ o,ops.toList[i]? = some o -> ∀ e ∈ o.after.toList,Region.binds .any e = true -> gv listed e.on = true:=by
  intro listed i hsz hi
  rw [mem_ready] at hi
  obtain ⟨h1,o,h2,h3⟩:=hi
  have hlt : i < ops.size:=(Array.getElem?_eq_some_iff.1 h2).1
  have hil : i < listed.size:=by omega
  refine ⟨?_,hlt,fun o' ho' e he hb=>?_⟩
  ·simp only [gv,Array.getD_eq_getD_getElem?,Array.getElem?_eq_getElem hil,Option.getD_some] at h1 ⊢
   exact h1
  ·have : o' = o:=by
    rw [Array.getElem?_toList,h2] at ho'
    exact (Option.some.inj ho').symm
   subst this
   exact h3 e (by simpa using he) hb
 intro fuel
 induction fuel with
 | zero=>
  intro listed a w hsz hL hM hf
  have hnil : (List.range ops.size).filter (fun j=>!gv listed j) = []:=List.length_eq_zero_iff.1 (by omega)
  have hall : ∀ j,j < ops.size -> gv listed j = true:=by
   intro j hj
   cases hc : gv listed j with
   | true=>rfl
   | false=>
    have : j ∈ (List.range ops.size).filter (fun j=>!gv listed j):=List.mem_filter.2 ⟨List.mem_range.2 hj,by simp [hc]⟩
    rw [hnil] at this
    cases this
  refine ⟨?_,hQ a w (rt hD hall hM)⟩
  cases hr : Region.ready .any ops listed with
  | nil=>rfl
  | cons i l=>
   obtain ⟨h1,h2,_⟩:=hstep listed i hsz (by rw [hr];simp)
   rw [hall i h2] at h1
   cases h1
 | succ fuel ih=>
  intro listed a w hsz hL hM hf
  refine ⟨fun hr=>hQ a w (rt hD (hready listed hsz hL hr) hM),fun i hi=>?_⟩
  obtain ⟨h1,h2,h3⟩:=hstep listed i hsz hi
  have hin : (i,ops[i]) ∈ bQ ops.toList:=by rw [jO];simp [h2]
  rw [<- hD.map] at hin
  obtain ⟨s,hs,hse⟩:=List.mem_map.1 hin
  have hsi : s.i = i:=congrArg Prod.fst hse
  subst hsi
  refine He hE hR hD hg0 hlen hs hL h1 h3 hM fun a' w' hM'=>?_
  have hset:=Dj (listed:=listed) (i:=s.i) (by omega)
  refine ih _ a' w' (by simp [hsz]) (by rw [hset];exact rv hL h3) (by rw [hset];exact hM') ?_
  rw [hset]
  have:=lG (p:=fun j=>!gv listed j) (q:=fun j=>!bJ (gv listed) s.i j) (i:=s.i) (List.range ops.size) (fun j hj=>by
   simp only [bJ, Bool.not_eq_true', Bool.or_eq_false_iff] at hj ⊢
   exact hj.1) (List.mem_range.2 h2) (by simp [h1]) (by simp [bJ])
  omega
end
theorem pO {P : Program} {E : TE} (hE : gJ P E) : pz P E:=by
 intro ds id ops B W w0 st0 Q K R hR hQ T h a w hI hk
 obtain ⟨hd,st,i1,i2,i3,i4⟩:=hI
 obtain ⟨fl, ps, T', h', trA, trO, TA, hA, hD, hK⟩ := DR.of_drawD hk
 have hE0:=hE
 replace hE:=hE.flag fl
 refine wp_region_any hE.1 ?_
 -- the draw of an order
 obtain ⟨j1,j2⟩:=i1.same (w':={ w with drawn:=w.drawn + 1 }) rfl rfl rfl rfl
 obtain ⟨os,o1,o2,o3⟩:=rP hD.chA hD.allA hD.ung
 obtain ⟨k1,k2⟩:=j1.await os
 have hg0 : ∀ i,st.G i -> i < st.n:=i1.gho
 refine EK (ds:=ds) hE hR (B:=B) (W:=W) (w0:=w) (st0:=st) hD hg0 i1.len (fun a' w' hI'=>?_) ops.size _ a _ (by simp) ?_ ?_ (by
  have:=List.length_filter_le (fun j=>!gv (Array.replicate ops.size false) j) (List.range ops.size)
  simpa using this)
 ·obtain ⟨hd', st', p1, p2, p3, p4⟩ := hI'
  exact hQ T' h' a' w' hK ⟨hd', st', p1, p2, i3.trans p3, p4.trans i4⟩
 ·intro y o ho hy
  have hyl : gv (Array.replicate ops.size false) y = false:=by
   simp only [gv,Array.getD_eq_getD_getElem?,Array.getElem?_replicate]
   split<;>rfl
  rw [hyl] at hy
  cases hy
 ·have hl : ∀ y,gv (Array.replicate ops.size false) y = false:=by
   intro y
   simp only [gv,Array.getD_eq_getD_getElem?,Array.getElem?_replicate]
   split<;>rfl
  refine ⟨hd,st.await os.length,?_,?_,j2.trans k2,?_⟩
  ·rw [fd trO hA (fun y _ _=>hl y.i),o1]
   exact k1
  ·have : Tp (gv (Array.replicate ops.size false)) (trA ++ trO) T = T:=by
    have : ∀ (l : List jM) (T : List AV),Tp (gv (Array.replicate ops.size false)) l T = T:=by
     intro l
     induction l with
     | nil=>intro T;rfl
     | cons s l ih=>intro T;simp only [Tp,hl,Bool.false_eq_true,if_false];exact ih T
    exact this _ _
   rw [this]
   exact gp k2 (gp j2 i2)
  ·funext id
   apply propext
   simp only [St.await,Gh]
   constructor
   ·rintro (h1 | ⟨h1,h2⟩)
    ·exact .inl h1
    ·have hk : id - h.length < trA.length:=by rw [<- o2];have:=i1.len;omega
     exact .inr ⟨id - h.length,trA[id - h.length],List.getElem?_eq_getElem hk,hl _,by have:=i1.len;omega⟩
   ·rintro (h1 | ⟨k,s,h1,h2,h3⟩)
    ·exact .inl h1
    ·have:=(List.getElem?_eq_some_iff.1 h1).1
     have:=i1.len
     exact .inr ⟨by omega,by omega⟩
end Dw
namespace Dw
open Go Go.RowKit
mutual
def cn (σ F : List Nat) (H : ae) : AV -> AV -> Prop
 | .d x,a=>bl 8 H a = some x /\ ∀ id ∈ bC 8 H a,id ∈ F
 | .nilS,.nilS=>True
 | .ptr i e o,.ptr i' e' o'=>σ[i]? = some i' /\ e = e' /\ o = o'
 | .sl i s l k c,.sl i' s' l' k' c'=>σ[i]? = some i' /\ s = s' /\ l = l' /\ k = k' /\ c = c'
 | .agg l,.agg l'=>eY σ F H l l'
 | .fn f a c,.fn f' a' c'=>f = f' /\ eY σ F H a a' /\ eY σ F H c c'
 | .tup l,.tup l'=>eY σ F H l l'
 | .raw v,.raw u=>v = u
 | .und,.und=>True
 | .junk,.junk=>True
 | .mp i,.mp i'=>σ[i]? = some i'
 | _,_=>False
def eY (σ F : List Nat) (H : ae) : List AV -> List AV -> Prop
 | [],[]=>True
 | a :: l,b :: r=>cn σ F H a b /\ eY σ F H l r
 | _,_=>False
end
def IZ (σ F : List Nat) (H : ae) (o o' : AO) : Prop:=
 o.k = o'.k /\ o.st = o'.st /\ ((∃ l : List D,o.elems = l.map .d /\ o'.elems = l.map .d) \/ eY σ F H o.elems o'.elems)
def pP (σ F : List Nat) (H : ae) : List Nat -> List AO -> Prop
 | [],[]=>True
 | j :: l,o :: r=>cX H j (fun o'=>IZ σ F H o o') /\ pP σ F H l r
 | _,_=>False
mutual
def ren (τ : Nat -> Nat) : AV -> AV
 | .ptr i e o=>.ptr (τ i) e o
 | .sl i s l k c=>.sl (τ i) s l k c
 | .agg l=>.agg (nQ τ l)
 | .fn f a c=>.fn f (nQ τ a) (nQ τ c)
 | .tup l=>.tup (nQ τ l)
 | .d x=>.d x
 | .nilS=>.nilS
 | .raw v=>.raw v
 | .und=>.und
 | .junk=>.junk
 | .mp i=>.mp (τ i)
def nQ (τ : Nat -> Nat) : List AV -> List AV
 | []=>[]
 | a :: l=>ren τ a :: nQ τ l
end
mutual
def AV.flat : AV -> Bool
 | .d x=>x.flat
 | .agg l=>AV.flats l
 | .fn _ a c=>AV.flats a && AV.flats c
 | .tup l=>AV.flats l
 | _=>true
def AV.flats : List AV -> Bool
 | []=>true
 | a :: l=>a.flat && AV.flats l
end
def gF (τ : Nat -> Nat) (o : AO) : AO:={ o with elems:=nQ τ o.elems }
def cg : ae -> List Nat -> List AO -> ae
 | H,j :: σ,o :: h=>cg (H.set j o) σ h
 | H,_,_=>H
def kI (σ : List Nat) (τ : Nat -> Nat) (H : ae) (h1 : List AO) : ae:=cg H σ (h1.map (gF τ)) ++ (h1.drop σ.length).map (gF τ)
def AE (σ : List Nat) (n : Nat) (i : Nat) : Nat:=match σ[i]? with | some j=>j | none=>n + (i - σ.length)
@[simp] theorem o9 (τ : Nat -> Nat) : ∀ (l : List AV),nQ τ l = l.map (ren τ)
 | []=>rfl
 | a :: l=>by simp [nQ,o9 τ l]
theorem l4 (τ : Nat -> Nat) (l : List D) : nQ τ (l.map .d) = l.map .d:=by
 rw [o9,List.map_map]
 apply List.map_congr_left
 intro x _
 simp [ren]
theorem ng : ∀ (H : ae) (σ : List Nat) (h : List AO),(cg H σ h).length = H.length
 | H,[],h=>by cases h<;>rfl
 | H,j :: σ,[]=>rfl
 | H,j :: σ,o :: h=>by simp [cg,ng]
theorem iF : ∀ (H : ae) (σ : List Nat) (h : List AO) (id : Nat),id ∉ σ -> (cg H σ h)[id]? = H[id]?
 | H,[],h,id,_=>by cases h<;>rfl
 | H,j :: σ,[],id,_=>rfl
 | H,j :: σ,o :: h,id,hi=>by
  simp only [List.mem_cons,not_or] at hi
  rw [cg,iF _ σ h id hi.2,List.getElem?_set_ne (Ne.symm hi.1)]
theorem nb : ∀ (H : ae) (σ : List Nat) (h : List AO) (i j : Nat) (o : AO),σ.Nodup -> σ[i]? = some j -> h[i]? = some o -> j < H.length -> (cg H σ h)[j]? = some o
 | H,[],h,i,j,o,_,hj,_,_=>by simp at hj
 | H,a :: σ,[],i,j,o,_,_,ho,_=>by simp at ho
 | H,a :: σ,b :: h,i,j,o,hn,hj,ho,hl=>by
  rw [List.nodup_cons] at hn
  cases i with
  | zero=>
   simp at hj ho
   subst hj;subst ho
   rw [cg,iF _ σ h _ hn.1,List.getElem?_set_self hl]
  | succ i=>
   rw [cg]
   exact nb _ σ h i j o hn.2 (by simpa using hj) (by simpa using ho) (by simpa using hl)
theorem yx {σ F : List Nat} {H : ae} : ∀ {l : List Nat} {h : List AO}, pP σ F H l h -> l.length = h.length /\ ∀ (i : Nat) (o : AO), h[i]? = some o -> ∃ j o', l[i]? = some j /\ H[j]? = some o' /\ IZ σ F H o o'
 | [],[],_=>⟨rfl,fun i o ho=>by simp at ho⟩
 | j :: l,o :: h,hk=>by
  simp only [pP] at hk
  obtain ⟨e1,e2⟩:=yx hk.2
  refine ⟨by simp [e1],fun i o' ho=>?_⟩
  cases i with
  | zero=>
   simp at ho;subst ho
   obtain ⟨o'', g1, g2⟩ := (aE _ _).1 hk.1
   exact ⟨j, o'', by simp, g1, g2⟩
  | succ i=>
   obtain ⟨j', o'', g1, g2, g3⟩ := e2 i o' (by simpa using ho)
   exact ⟨j', o'', by simpa using g1, g2, g3⟩
 | [],_ :: _,h=>by simp [pP] at h
 | _ :: _,[],h=>by simp [pP] at h
theorem lA {σ F : List Nat} {H : ae} : ∀ {l r : List AV},eY σ F H l r -> l.length = r.length
 | [],[],_=>rfl
 | x :: l,y :: r,h=>by simp only [eY] at h;simp [lA h.2]
 | [],_ :: _,h=>by simp [eY] at h
 | _ :: _,[],h=>by simp [eY] at h
theorem sw {σ F : List Nat} {H : ae} : ∀ {l r : List AV} (i : Nat) (x : AV),eY σ F H l r -> l[i]? = some x -> ∃ y,r[i]? = some y /\ cn σ F H x y
 | [],[],i,x,_,h=>by simp at h
 | z :: l,y :: r,i,x,h,hx=>by
  simp only [eY] at h
  cases i with
  | zero=>simp at hx;subst hx;exact ⟨y,by simp,h.1⟩
  | succ i=>
   obtain ⟨x', e1, e2⟩ := sw i x h.2 (by simpa using hx)
   exact ⟨x', by simpa using e1, e2⟩
 | [],_ :: _,_,_,h,_=>by simp [eY] at h
 | _ :: _,[],_,_,h,_=>by simp [eY] at h
theorem Eg {σ F : List Nat} {H : ae} {x y : AV} (h : cn σ F H x y) : x.isAgg = y.isAgg:=by
 cases x
 case d x=>
  simp only [cn] at h
  rw [<- kO h.1];cases x<;>rfl
 all_goals (cases y<;>first | rfl | (simp only [cn] at h))
theorem AY {σ F : List Nat} {H : ae} {x y : AV} (h : cn σ F H x y) (hy : y.cellOk = true) : x.cellOk = true:=by
 cases x
 case d x=>
  simp only [cn] at h
  show (AV.d x).one = true
  rw [D.one_av]
  refine Au ?_ h.1
  cases y<;>(try exact hy)
  simp [bl] at h
 case raw v=>
  cases y<;>first | exact hy | (simp only [cn] at h)
  subst h;exact hy
 all_goals (cases y<;>first | rfl | exact hy | (simp only [cn] at h))
def Iv (st : St) (n : Nat) (σ : List Nat) (Sd Ud : Nat -> Prop) : St where
 n:=n
 ρ i:=(σ[i]?).bind st.ρ
 S:=Sd
 G i:=∃ j,σ[i]? = some j /\ st.G j
 U:=Ud
 S0:=Sd
section
variable {B : Nat} {W w : World} {st : St} {H : ae} (hw : WR B W w st H) {σ F : List Nat} {n : Nat} {Sd Ud : Nat -> Prop} (hn : n = σ.length) (hS : ∀ b,st.S b -> Sd b) (hF : ∀ id ∈ F,∀ o,H[id]? = some o -> o.st < 2 -> ∀ r,st.ρ id = some r -> r.m ≠ 0 -> Sd r.b)
include hw hn hS hF
set_option linter.unusedSectionVars false in
mutual
theorem AX : ∀ (x y : AV) (us : List Value),cn σ F H x y -> aC w st y us -> aC w (Iv st n σ Sd Ud) x us
 | .d x,y,us,h,hc=>by
  simp only [cn] at h
  simp only [aC]
  exact jq hw hS 8 y x us (fun id hid=>hF id (h.2 id hid)) h.1 hc
 | .nilS,.nilS,us,_,hc=>by simpa [aC] using hc
 | .ptr i e o, .ptr i' e' o', us, h, hc => by
  simp only [cn] at h
  obtain ⟨h1,rfl,rfl⟩:=h
  simp only [aC] at hc ⊢
  obtain ⟨b,p,e1,e2,e3,e4⟩:=hc
  exact ⟨b,p,e1,by show i < n;rw [hn];exact (List.getElem?_eq_some_iff.1 h1).1,fun ⟨j,g1,g2⟩=>e3 (by rw [h1] at g1;cases g1;exact g2),fun r hr=>e4 r (by simpa [Iv,h1] using hr)⟩
 | .sl i s l k c, .sl i' s' l' k' c', us, h, hc => by
  simp only [cn] at h
  obtain ⟨h1,rfl,rfl,rfl,rfl⟩:=h
  simp only [aC] at hc ⊢
  obtain ⟨a,cc,e1,e2,e3,e4,e5,e6,e7⟩:=hc
  exact ⟨a,cc,e1,by show i < n;rw [hn];exact (List.getElem?_eq_some_iff.1 h1).1,fun ⟨j,g1,g2⟩=>e3 (by rw [h1] at g1;cases g1;exact g2),e4,e5,e6,fun r hr=>e7 r (by simpa [Iv,h1] using hr)⟩
 | .agg l, .agg l', us, h, hc => by
  simp only [cn] at h
  simp only [aC] at hc ⊢
  exact yy l l' us h hc
 | .fn f a c, .fn f' a' c', us, h, hc => by
  simp only [cn] at h
  obtain ⟨rfl,h1,h2⟩:=h
  simp only [aC] at hc ⊢
  obtain ⟨u,t,e1,e2,e3⟩:=hc
  exact ⟨u,t,e1,lz a a' u h1 e2,lz c c' t h2 e3⟩
 | .tup l, .tup l', us, h, hc => by
  simp only [cn] at h
  simp only [aC] at hc ⊢
  obtain ⟨u,e1,e2⟩:=hc
  exact ⟨u,e1,lz l l' u h e2⟩
 | .raw v,.raw u,us,h,hc=>by
  simp only [cn] at h
  subst h
  simpa [aC] using hc
 | .und,.und,us,_,hc=>by simpa [aC] using hc
 | .junk,_,us,_,_=>by simp [aC]
 | .mp i, .mp i', us, h, hc => by
  simp only [cn] at h
  simp only [aC] at hc ⊢
  obtain ⟨b,e1,e2,e3,e4⟩:=hc
  exact ⟨b,e1,by show i < n;rw [hn];exact (List.getElem?_eq_some_iff.1 h).1,fun ⟨j,g1,g2⟩=>e3 (by rw [h] at g1;cases g1;exact g2),fun r hr=>e4 r (by simpa [Iv,h] using hr)⟩
 | .nilS,.d _,_,h,_=>by simp [cn] at h
 | .nilS,.ptr ..,_,h,_=>by simp [cn] at h
 | .nilS,.sl ..,_,h,_=>by simp [cn] at h
 | .nilS,.agg _,_,h,_=>by simp [cn] at h
 | .nilS,.fn ..,_,h,_=>by simp [cn] at h
 | .nilS,.tup _,_,h,_=>by simp [cn] at h
 | .nilS,.raw _,_,h,_=>by simp [cn] at h
 | .nilS,.und,_,h,_=>by simp [cn] at h
 | .nilS,.junk,_,h,_=>by simp [cn] at h
 | .ptr ..,.d _,_,h,_=>by simp [cn] at h
 | .ptr ..,.nilS,_,h,_=>by simp [cn] at h
 | .ptr ..,.sl ..,_,h,_=>by simp [cn] at h
 | .ptr ..,.agg _,_,h,_=>by simp [cn] at h
 | .ptr ..,.fn ..,_,h,_=>by simp [cn] at h
 | .ptr ..,.tup _,_,h,_=>by simp [cn] at h
 | .ptr ..,.raw _,_,h,_=>by simp [cn] at h
 | .ptr ..,.und,_,h,_=>by simp [cn] at h
 | .ptr ..,.junk,_,h,_=>by simp [cn] at h
 | .sl ..,.d _,_,h,_=>by simp [cn] at h
 | .sl ..,.nilS,_,h,_=>by simp [cn] at h
 | .sl ..,.ptr ..,_,h,_=>by simp [cn] at h
 | .sl ..,.agg _,_,h,_=>by simp [cn] at h
 | .sl ..,.fn ..,_,h,_=>by simp [cn] at h
 | .sl ..,.tup _,_,h,_=>by simp [cn] at h
 | .sl ..,.raw _,_,h,_=>by simp [cn] at h
 | .sl ..,.und,_,h,_=>by simp [cn] at h
 | .sl ..,.junk,_,h,_=>by simp [cn] at h
 | .agg _,.d _,_,h,_=>by simp [cn] at h
 | .agg _,.nilS,_,h,_=>by simp [cn] at h
 | .agg _,.ptr ..,_,h,_=>by simp [cn] at h
 | .agg _,.sl ..,_,h,_=>by simp [cn] at h
 | .agg _,.fn ..,_,h,_=>by simp [cn] at h
 | .agg _,.tup _,_,h,_=>by simp [cn] at h
 | .agg _,.raw _,_,h,_=>by simp [cn] at h
 | .agg _,.und,_,h,_=>by simp [cn] at h
 | .agg _,.junk,_,h,_=>by simp [cn] at h
 | .fn ..,.d _,_,h,_=>by simp [cn] at h
 | .fn ..,.nilS,_,h,_=>by simp [cn] at h
 | .fn ..,.ptr ..,_,h,_=>by simp [cn] at h
 | .fn ..,.sl ..,_,h,_=>by simp [cn] at h
 | .fn ..,.agg _,_,h,_=>by simp [cn] at h
 | .fn ..,.tup _,_,h,_=>by simp [cn] at h
 | .fn ..,.raw _,_,h,_=>by simp [cn] at h
 | .fn ..,.und,_,h,_=>by simp [cn] at h
 | .fn ..,.junk,_,h,_=>by simp [cn] at h
 | .tup _,.d _,_,h,_=>by simp [cn] at h
 | .tup _,.nilS,_,h,_=>by simp [cn] at h
 | .tup _,.ptr ..,_,h,_=>by simp [cn] at h
 | .tup _,.sl ..,_,h,_=>by simp [cn] at h
 | .tup _,.agg _,_,h,_=>by simp [cn] at h
 | .tup _,.fn ..,_,h,_=>by simp [cn] at h
 | .tup _,.raw _,_,h,_=>by simp [cn] at h
 | .tup _,.und,_,h,_=>by simp [cn] at h
 | .tup _,.junk,_,h,_=>by simp [cn] at h
 | .raw _,.d _,_,h,_=>by simp [cn] at h
 | .raw _,.nilS,_,h,_=>by simp [cn] at h
 | .raw _,.ptr ..,_,h,_=>by simp [cn] at h
 | .raw _,.sl ..,_,h,_=>by simp [cn] at h
 | .raw _,.agg _,_,h,_=>by simp [cn] at h
 | .raw _,.fn ..,_,h,_=>by simp [cn] at h
 | .raw _,.tup _,_,h,_=>by simp [cn] at h
 | .raw _,.und,_,h,_=>by simp [cn] at h
 | .raw _,.junk,_,h,_=>by simp [cn] at h
 | .und,.d _,_,h,_=>by simp [cn] at h
 | .und,.nilS,_,h,_=>by simp [cn] at h
 | .und,.ptr ..,_,h,_=>by simp [cn] at h
 | .und,.sl ..,_,h,_=>by simp [cn] at h
 | .und,.agg _,_,h,_=>by simp [cn] at h
 | .und,.fn ..,_,h,_=>by simp [cn] at h
 | .und,.tup _,_,h,_=>by simp [cn] at h
 | .und,.raw _,_,h,_=>by simp [cn] at h
 | .und,.junk,_,h,_=>by simp [cn] at h
 | .nilS,.mp _,_,h,_=>by simp [cn] at h
 | .ptr ..,.mp _,_,h,_=>by simp [cn] at h
 | .sl ..,.mp _,_,h,_=>by simp [cn] at h
 | .agg _,.mp _,_,h,_=>by simp [cn] at h
 | .fn ..,.mp _,_,h,_=>by simp [cn] at h
 | .tup _,.mp _,_,h,_=>by simp [cn] at h
 | .raw _,.mp _,_,h,_=>by simp [cn] at h
 | .und,.mp _,_,h,_=>by simp [cn] at h
 | .mp _,.nilS,_,h,_=>by simp [cn] at h
 | .mp _,.ptr ..,_,h,_=>by simp [cn] at h
 | .mp _,.sl ..,_,h,_=>by simp [cn] at h
 | .mp _,.agg _,_,h,_=>by simp [cn] at h
 | .mp _,.fn ..,_,h,_=>by simp [cn] at h
 | .mp _,.tup _,_,h,_=>by simp [cn] at h
 | .mp _,.raw _,_,h,_=>by simp [cn] at h
 | .mp _,.und,_,h,_=>by simp [cn] at h
 | .mp _,.d _,_,h,_=>by simp [cn] at h
 | .mp _,.junk,_,h,_=>by simp [cn] at h
theorem yy : ∀ (l r : List AV) (us : List Value),eY σ F H l r -> fO w st r us -> fO w (Iv st n σ Sd Ud) l us
 | [],[],us,_,hc=>by simpa [fO] using hc
 | x :: l,y :: r,us,h,hc=>by
  simp only [eY] at h
  simp only [fO] at hc ⊢
  obtain ⟨v,t,e1,e2,e3,e4⟩:=hc
  exact ⟨v,t,e1,AY h.1 e2,AX x y [v] h.1 e3,yy l r t h.2 e4⟩
 | [],_ :: _,_,h,_=>by simp [eY] at h
 | _ :: _,[],_,h,_=>by simp [eY] at h
theorem lz : ∀ (l r : List AV) (us : List Value),eY σ F H l r -> cS w st r us -> cS w (Iv st n σ Sd Ud) l us
 | [],[],us,_,hc=>by simpa [cS] using hc
 | x :: l,y :: r,us,h,hc=>by
  simp only [eY] at h
  simp only [cS] at hc ⊢
  obtain ⟨v,t,ws,e1,e2,e3,e4⟩:=hc
  exact ⟨v,t,ws,e1,by rw [Eg h.1];exact e2,AX x y ws h.1 e3,lz l r t h.2 e4⟩
 | [],_ :: _,_,h,_=>by simp [eY] at h
 | _ :: _,[],_,h,_=>by simp [eY] at h
end
end
structure M7 (w : World) (st st1 : St) (τ : Nat -> Nat) (fl : Bool) : Prop where
 n : ∀ i,i < st.n -> τ i < st1.n
 G : ∀ i,i < st.n -> ¬ st.G i -> ¬ st1.G (τ i)
 ρ : ∀ i,i < st.n -> ∀ r,st1.ρ (τ i) = some r -> st.ρ i = some r
 S : fl = false -> ∀ b,st.S b -> st1.S b
section
variable {w : World} {st st1 : St} {τ : Nat -> Nat} {fl : Bool} (hb : M7 w st st1 τ fl)
include hb
set_option linter.unusedSectionVars false in
set_option linter.unnecessarySimpa false in
mutual
theorem xq : ∀ (x : AV) (us : List Value),(fl = true -> x.flat = true) -> aC w st x us -> aC w st1 (ren τ x) us
 | .d x,us,hf,hc=>by
  simp only [ren,aC] at hc ⊢
  cases hfl : fl with
  | true=>exact wr x us (by simpa [AV.flat] using hf hfl) hc
  | false=>exact gq (fun b h=>⟨hb.S hfl b h,rfl⟩) x us hc
 | .nilS,us,_,hc=>by simpa [ren,aC] using hc
 | .ptr i e o,us,_,hc=>by
  simp only [ren,aC] at hc ⊢
  obtain ⟨b,p,e1,e2,e3,e4⟩:=hc
  exact ⟨b,p,e1,hb.n i e2,hb.G i e2 e3,fun r hr=>e4 r (hb.ρ i e2 r hr)⟩
 | .sl i s l k c,us,_,hc=>by
  simp only [ren,aC] at hc ⊢
  obtain ⟨a,cc,e1,e2,e3,e4,e5,e6,e7⟩:=hc
  exact ⟨a,cc,e1,hb.n i e2,hb.G i e2 e3,e4,e5,e6,fun r hr=>e7 r (hb.ρ i e2 r hr)⟩
 | .agg l,us,hf,hc=>by
  simp only [ren,aC] at hc ⊢
  exact zL l us (fun h=>by simpa [AV.flat] using hf h) hc
 | .fn f a c,us,hf,hc=>by
  simp only [ren,aC] at hc ⊢
  obtain ⟨u,t,e1,e2,e3⟩:=hc
  exact ⟨u,t,e1,o8 a u (fun h=>by have:=hf h;simp [AV.flat] at this;exact this.1) e2,o8 c t (fun h=>by have:=hf h;simp [AV.flat] at this;exact this.2) e3⟩
 | .tup l,us,hf,hc=>by
  simp only [ren,aC] at hc ⊢
  obtain ⟨u,e1,e2⟩:=hc
  exact ⟨u,e1,o8 l u (fun h=>by simpa [AV.flat] using hf h) e2⟩
 | .raw v,us,_,hc=>by simpa [ren,aC] using hc
 | .und,us,_,hc=>by simpa [ren,aC] using hc
 | .junk,us,_,hc=>by simp [ren,aC]
 | .mp i,us,_,hc=>by
  simp only [ren,aC] at hc ⊢
  obtain ⟨b,e1,e2,e3,e4⟩:=hc
  exact ⟨b,e1,hb.n i e2,hb.G i e2 e3,fun r hr=>e4 r (hb.ρ i e2 r hr)⟩
theorem zL : ∀ (l : List AV) (us : List Value),(fl = true -> AV.flats l = true) -> fO w st l us -> fO w st1 (nQ τ l) us
 | [],us,_,hc=>by simpa [nQ,fO] using hc
 | x :: l,us,hf,hc=>by
  simp only [nQ,fO] at hc ⊢
  obtain ⟨v,t,e1,e2,e3,e4⟩:=hc
  exact ⟨v,t,e1,by cases x<;>simpa [ren,AV.cellOk,AV.one] using e2,xq x [v] (fun h=>by have:=hf h;simp [AV.flats] at this;exact this.1) e3,zL l t (fun h=>by have:=hf h;simp [AV.flats] at this;exact this.2) e4⟩
theorem o8 : ∀ (l : List AV) (us : List Value),(fl = true -> AV.flats l = true) -> cS w st l us -> cS w st1 (nQ τ l) us
 | [],us,_,hc=>by simpa [nQ,cS] using hc
 | x :: l,us,hf,hc=>by
  simp only [nQ,cS] at hc ⊢
  obtain ⟨v,t,ws,e1,e2,e3,e4⟩:=hc
  exact ⟨v,t,ws,e1,by
   have : (ren τ x).isAgg = x.isAgg:=by cases x<;>rfl
   rw [this];exact e2,xq x ws (fun h=>by have:=hf h;simp [AV.flats] at this;exact this.1) e3,o8 l t (fun h=>by have:=hf h;simp [AV.flats] at this;exact this.2) e4⟩
end
end
end Dw
