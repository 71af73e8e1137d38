/-
  Own lemmas, no conditions: Wx, Wz, Xa, Xb, Pn, Xc, Xd, Xe, Xf, Xg, Po, Xi, Xj, Xk, Xl, Xm, Pp, Pq, Pr, Ps, Pt, Pu, Xo, Xp, Xq.
-/
import Derived.Test.YtogifnjnpljnfaaGreatDoorGrpE
set_option linter.unusedVariables false
set_option linter.unusedSimpArgs false
namespace Go.Proofs.YtogifnjnpljnfaaGreatDoor
open Go Dw
section
set_option maxRecDepth 10000
attribute [local irreducible] bn
set_option maxHeartbeats 2000000
open Paths
attribute [local irreducible] am cut normal bp aF text aj glue bi ar
theorem rq {t : List aM} (hG : cM t) {j m : Nat} (hj : j < t.length) (hm : m < t[j].ents.length) : 1 <= t[j].ents[m].node /\ t[j].ents[m].node <= (t.length : Int) - 1:=hG _ (List.getElem_mem hj) _ (List.getElem_mem hm)
attribute [local irreducible] bq ed fD aW fm dv aX cM eX im g8
theorem Fb {R : List Bool} {n : Nat} {e : bm} {K : List AV -> Prop} (h : n = e.node.toNat) (k : K (kM (im R e))) : fb (kM R) n (.d (.bool true)) K:=by
 unfold im at k
 exact pg h k
theorem L7 {t : List aM} {k : Nat} (hI : bq (ed t) t.length 0 = bq (ed t) t.length k) (hk : t.length <= k) : bq (ed t) t.length 0 = (0,0):=hI.trans (br hk)
theorem O0 {t : List aM} (h : bq (ed t) t.length 0 = (0,0)) : cM t:=wX fun j hj=>gr t.length 0 rfl (by rw [h]) j (Nat.zero_le _) hj
theorem Up {t : List aM} (r j : Nat) : (b8 t (bU t (eD t 0) r) j).length = t.length:=by rw [iM,kL,mK]
theorem Vl {t : List aM} {k : Nat} (h : k < t.length) : t[((k : Nat) : Int).toNat]? = some t[k]:=by simp [h]
theorem G0 {t : List aM} (hb : ∀ x ∈ t,x.ents.length < 2000000 /\ ∀ y ∈ x.ents,y.name.length < 2000000) : ∀ x ∈ t,x.ents.length < 2000000:=fun x hx=>(hb x hx).1
theorem UZ (t : List aM) (hb : ∀ x ∈ t,x.ents.length < 2000000 /\ ∀ y ∈ x.ents,y.name.length < 2000000) : Fn 73 [aS t] (.tup [i (aW t).1,i (aW t).2]):=by
 refine ac aZ Tryz.func73 rfl (by kernel_rfl) ?_
 conv=>whnf
 repeat' (first
 | ((with_reducible refine aB (fun h=>?_) (fun h=>?_))<;>(try simp only [List.length_map] at h)<;>conv=>whnf)
 | ((with_reducible refine bu (fun h=>?_) (fun h=>?_))<;>(try simp only [List.length_map] at h)<;>conv=>whnf)
 | ((with_reducible refine dj (fun h=>?_) (fun h=>?_))<;>conv=>whnf)
 | ((with_reducible refine ao (fun h=>?_) (fun h=>?_))<;>conv=>whnf)
 | ((with_reducible refine ak ?_);(first | refine aa (af (xs:=[_,_]) (Q3 t (k : Int) (t[k]'(by omega)) (by omega) (Vl (by omega)) (by omega) (hb _ (List.getElem_mem _)).1 (hb _ (List.getElem_mem _)).2) _) ?_ | refine aa (af (xs:=[_,_]) (Q2 t (q : Int) (by omega) (G0 hb)) _) ?_);conv=>whnf)
 | ((with_reducible refine aO ?_);first | (refine bh (fun (q : Nat)=>t.length - q) (fun (q : Nat)=>1 <= q /\ q <= t.length /\ bq (fD t (fm t 0)) t.length 0 = bq (fD t (fm t 0)) t.length q) (fun (q : Nat)=>[(0,.d (aS t)),(6,.sl 0 0 t.length 1 (some t.length)),(10,.d (i q))]) (fun (q : Nat)=>[⟨kM (fm t 0),1,0⟩]) (1) (by exact ⟨Nat.le_refl _,by omega,eQ (by omega) (by unfold fD;rfl)⟩) ?_ (fun q Cq hIq hCq=>?_);(exact ⟨[.old 0],rfl,rfl,⟨rfl,(by first | exact ⟨rfl,rfl,rfl,rfl,rfl⟩ ),(by first | exact congrArg (D.int .i64) (by omega) ),trivial⟩,⟨⟨rfl,rfl,.inl ⟨_,rfl,(by rw [show r = t.length by omega];unfold fm;rfl)⟩⟩,trivial⟩⟩);all_goals (conv=>whnf)) | (refine ni (fun (m : Nat) (R : List Bool)=>(t[j]'(by omega)).ents.length - m) (fun (m : Nat) (R : List Bool)=>Rd t (b8 t (bU t (eD t 0) r) j) R j m) (fun (m : Nat) (R : List Bool)=>[(0,.d (aS t)),(6,.sl 0 0 t.length 1 (some t.length)),(7,.d (i r)),(8,.d (i j)),(9,.d (i m))]) (fun (m : Nat) (R : List Bool)=>[⟨kM (R),1,0⟩]) (0) (b8 t (bU t (eD t 0) r) j) (by exact TF (Up r j)) ?_ (fun m R Cm hIm hCm=>?_);(exact ⟨[.old 0],rfl,rfl,⟨rfl,(by first | exact ⟨rfl,rfl,rfl,rfl,rfl⟩ ),rfl,rfl,(by first | exact congrArg (D.int .i64) (by omega) ),trivial⟩,⟨⟨rfl,rfl,.inl ⟨_,rfl,rfl⟩⟩,trivial⟩⟩);all_goals (conv=>whnf)) | (refine bh (fun (j : Nat)=>t.length - j) (fun (j : Nat)=>j <= t.length) (fun (j : Nat)=>[(0,.d (aS t)),(6,.sl 0 0 t.length 1 (some t.length)),(7,.d (i r)),(8,.d (i j))]) (fun (j : Nat)=>[⟨kM (b8 t (bU t (eD t 0) r) j),1,0⟩]) (0) (by exact Nat.zero_le _) ?_ (fun j Cj hIj hCj=>?_);(exact ⟨[.old 0],rfl,rfl,⟨rfl,(by first | exact ⟨rfl,rfl,rfl,rfl,rfl⟩ ),rfl,(by first | exact congrArg (D.int .i64) (by omega) ),trivial⟩,⟨⟨rfl,rfl,.inl ⟨_,rfl,rfl⟩⟩,trivial⟩⟩);all_goals (conv=>whnf)) | (refine bh (fun (r : Nat)=>t.length - r) (fun (r : Nat)=>r <= t.length) (fun (r : Nat)=>[(0,.d (aS t)),(6,.sl 0 0 t.length 1 (some t.length)),(7,.d (i r))]) (fun (r : Nat)=>[⟨kM (bU t (eD t 0) r),1,0⟩]) (0) (by exact Nat.zero_le _) ?_ (fun r Cr hIr hCr=>?_);(exact ⟨[.old 0],rfl,rfl,⟨rfl,⟨rfl,rfl,(by simp),rfl,(by simp)⟩,(by first | exact congrArg (D.int .i64) (by omega) ),trivial⟩,⟨⟨rfl,rfl,.inl ⟨_,rfl,rfl⟩⟩,trivial⟩⟩);have hE:=L7 hI.2 (by omega);have hG:=O0 hE;all_goals (conv=>whnf)) | (refine bh (fun (k : Nat)=>t.length - k) (fun (k : Nat)=>k <= t.length /\ bq (ed t) t.length 0 = bq (ed t) t.length k) (fun (k : Nat)=>[(0,.d (aS t)),(4,.d (i k))]) (fun (k : Nat)=>[]) (0) (by exact ⟨Nat.zero_le _,rfl⟩) ?_ (fun k C hI hC=>?_);(exact ⟨[],rfl,rfl,⟨rfl,(by first | exact congrArg (D.int .i64) (by omega) ),trivial⟩,trivial⟩);all_goals (conv=>whnf)))
 | ((with_reducible show C _ _);first | (refine hC (k + 1) _ _ ?_ (by omega) ?_;clear hC;rotate_left;(exact ⟨[],rfl,rfl,⟨rfl,(by first | exact congrArg (D.int .i64) (by omega) ),trivial⟩,trivial⟩);(exact ⟨by omega,hI.2.trans (eQ (by omega) ((kt (by omega)).trans (by assumption)))⟩)))
 | ((with_reducible show Cj _ _);first | (refine hCj (j + 1) _ _ ?_ (by omega) ?_;clear hCj;rotate_left;(exact ⟨[.old 0],rfl,rfl,⟨rfl,(by first | exact ⟨rfl,rfl,rfl,rfl,rfl⟩ ),rfl,(by first | exact congrArg (D.int .i64) (by omega) ),trivial⟩,⟨⟨rfl,rfl,.inl ⟨_,rfl,(by rw [gH,<- Ms hIm (by omega) (Up r j) (by first | exact .inl (sS (by rw [hIm.len];omega) (by assumption)) | exact .inr (by omega))])⟩⟩,trivial⟩⟩);(exact (by omega : j + 1 <= t.length))))
 | ((with_reducible show Cm _ _);first | (refine hCm (m + 1) (im R ((t[j]'(by omega)).ents[m]'(by omega))) _ _ ?_ (by omega) ?_;clear hCm;rotate_left;(exact ⟨[.old 0],rfl,rfl,⟨rfl,(by first | exact ⟨rfl,rfl,rfl,rfl,rfl⟩ ),rfl,rfl,(by first | exact congrArg (D.int .i64) (by omega) ),trivial⟩,⟨⟨rfl,rfl,.inl ⟨_,rfl,rfl⟩⟩,trivial⟩⟩);(exact JI hIm (by omega) (by omega) (xb (by rw [hIm.len];omega) (by assumption)))))
 | ((with_reducible show Cq _ _);first | (refine hCq (q + 1) _ _ ?_ (by omega) ?_;clear hCq;rotate_left;(exact ⟨[.old 0],rfl,rfl,⟨rfl,(by first | exact ⟨rfl,rfl,rfl,rfl,rfl⟩ ),(by first | exact congrArg (D.int .i64) (by omega) ),trivial⟩,⟨⟨rfl,rfl,.inl ⟨_,rfl,rfl⟩⟩,trivial⟩⟩);(exact ⟨by omega,by omega,hIq.2.2.trans (eQ (by omega) (LT (by omega) (by omega) (by omega) (by omega) (xb (by rw [kJ];omega) (by assumption))))⟩)))
 | ((with_reducible show Cr _ _);first | (refine hCr (r + 1) _ _ ?_ (by omega) ?_;clear hCr;rotate_left;(exact ⟨[.old 0],rfl,rfl,⟨rfl,(by first | exact ⟨rfl,rfl,rfl,rfl,rfl⟩ ),(by first | exact congrArg (D.int .i64) (by omega) ),trivial⟩,⟨⟨rfl,rfl,.inl ⟨_,rfl,(by rw [show j = t.length by omega];rfl)⟩⟩,trivial⟩⟩);(exact (by omega : r + 1 <= t.length))))
 | (refine bf (by omega) ?_;conv=>whnf)
 | (refine ax (by omega) ?_;conv=>whnf)
 | (refine ax (by have:=(hb _ (List.getElem_mem (by omega : j < t.length))).1;omega) ?_;conv=>whnf)
 | (refine Dk (n:=t.length) (by rw [List.length_map];refine ⟨by omega,Int.le_refl _,by omega,?_⟩;show (t.length : Int) * ((1 : Nat) : Int) <= _;omega) (by rw [List.length_map]) ?_;conv=>whnf)
 | (refine mI (m:=0) ?_ ?_ ?_;(focus rfl);(focus (rw [List.length_replicate];omega));conv=>whnf)
 | (refine pg (m:=0) ?_ ?_;(focus rfl);conv=>whnf)
 | (refine mI (R:=R) (m:=j) ?_ ?_ ?_;(focus omega);(focus (rw [hIm.len];omega));conv=>whnf)
 | (refine mI (R:=R) (m:=((t[j]'(by omega)).ents[m]'(by omega)).node.toNat) ?_ ?_ ?_;(focus omega);(focus (rw [hIm.len];have:=rq hG (j:=j) (m:=m) (by omega) (by omega);omega));conv=>whnf)
 | (refine Fb (R:=R) (e:=((t[j]'(by omega)).ents[m]'(by omega))) ?_ ?_;(focus omega);conv=>whnf)
 | (refine mI (R:=fm t 0) (m:=q) ?_ ?_ ?_;(focus omega);(focus (rw [kJ];omega));conv=>whnf)
 | (refine ⟨⟨by have:=rq hG (j:=j) (m:=m) (by omega) (by omega);omega,by have:=rq hG (j:=j) (m:=m) (by omega) (by omega);(try simp only [List.length_map]);omega⟩,?_⟩;conv=>whnf)
 | (refine ⟨⟨by omega,by (try simp only [List.length_map]);omega⟩,?_⟩;conv=>whnf)
 | ((with_reducible refine ag ?_);first | (exact dy (mV (Cz (t:=t) (by omega) (by omega) hE hIq.2.2 ((dU (by omega) (by rw [CL (by omega) (by omega) (by omega)];decide)).trans (by rw [CL (by omega) (by omega) (by omega)]))));done) | (exact dy (mV (Cz (t:=t) (by omega) (by omega) hE hIq.2.2 ((dU (by omega) (by rw [CN (by omega) (by omega) (by omega) (by assumption)];decide)).trans (by rw [CN (by omega) (by omega) (by omega) (by assumption)]))));done) | (exact dy (mV (Cz (t:=t) (by omega) (by omega) hE hIq.2.2 ((dU (by omega) (by rw [CM (by omega) (by omega) (by omega) (by omega) (sS (by rw [kJ];omega) (by assumption))];decide)).trans (by rw [CM (by omega) (by omega) (by omega) (by omega) (sS (by rw [kJ];omega) (by assumption))]))));done) | (exact dy (mV (Cz (t:=t) (by omega) (by omega) hE hIq.2.2 (br (by omega))));done) | (exact dy (mV (KG (t:=t) (by omega)));done) | (exact dy (mV (KH (t:=t) (by omega)));done) | (exact dy (mV (OH (by omega) (by omega) hI.2 (by omega) h));done))
  | fail
  )
end
section
set_option maxRecDepth 10000
attribute [local irreducible] bn
set_option maxHeartbeats 2000000
open Paths
attribute [local irreducible] am cut normal bp aF text aj glue bi ar
def dh (a b : Bs) : Bool:=if a = b then true else decide (am a = 0) && (decide (am b = 0) && decide (bi a = bi b))
theorem pm {a b : Bs} (h0 : am a = 0) (h1 : am b = 0) : dh a b = decide (bi a = bi b):=by
 unfold dh
 split
 ·rename_i h;rw [h];exact (decide_eq_true rfl).symm
 ·rw [decide_eq_true h0,decide_eq_true h1,Bool.true_and,Bool.true_and]
theorem tT {a b : Bs} (h : a = b) : dh a b = true:=if_pos h
theorem tU {a b : Bs} (h : ¬ a = b) (h2 : ¬ (am a = 0 /\ am b = 0)) : dh a b = false:=by
 unfold dh
 rw [if_neg h]
 by_cases h0 : am a = 0
 ·rw [decide_eq_true h0,decide_eq_false (fun h1=>h2 ⟨h0,h1⟩)];rfl
 ·rw [decide_eq_false h0];rfl
attribute [local irreducible] dh
theorem Ox (a b : Bs) (ha : a.length < 2000000) (hb : b.length < 2000000) (h0 : ¬ am a = 0) (h2 : am b = 0) : Fn 159 [.str a,.str b] (.bool (dh a b)):=by
 refine ac aZ Tryz.func159 rfl (by kernel_rfl) ?_
 conv=>whnf
 repeat' (first
 | ((with_reducible refine aJ (by assumption) ?_);conv=>whnf)
 | ((with_reducible refine aB (fun h=>?_) (fun h=>?_))<;>(try simp only [List.length_map] at h)<;>conv=>whnf)
 | ((with_reducible refine ak ?_);(first | refine aa (ah (Cv a ha h0) rfl rfl) ?_ | refine aa (ah (F1 b hb h2) rfl rfl) ?_);conv=>whnf)
 | ((with_reducible refine ag ?_);first | (exact aD (congrArg D.bool (tT (by first | assumption )).symm);done) | (exact aD (congrArg D.bool (by first | rw [tU (by first | assumption ) (by simp [*])] ));done))
  | fail
  )
theorem Oy (a b : Bs) (ha : a.length < 2000000) (hb : b.length < 2000000) (h0 : ¬ am a = 0) (h2 : ¬ am b = 0) : Fn 159 [.str a,.str b] (.bool (dh a b)):=by
 refine ac aZ Tryz.func159 rfl (by kernel_rfl) ?_
 conv=>whnf
 repeat' (first
 | ((with_reducible refine aJ (by assumption) ?_);conv=>whnf)
 | ((with_reducible refine aB (fun h=>?_) (fun h=>?_))<;>(try simp only [List.length_map] at h)<;>conv=>whnf)
 | ((with_reducible refine ak ?_);(first | refine aa (ah (Cv a ha h0) rfl rfl) ?_ | refine aa (ah (Cv b hb h2) rfl rfl) ?_);conv=>whnf)
 | ((with_reducible refine ag ?_);first | (exact aD (congrArg D.bool (tT (by first | assumption )).symm);done) | (exact aD (congrArg D.bool (by first | rw [tU (by first | assumption ) (by simp [*])] ));done))
  | fail
  )
theorem Ny (a b : Bs) (ha : a.length < 2000000) (hb : b.length < 2000000) (h0 : am a = 0) (h1 : ¬ am b = 0): Fn 159 [.str a,.str b] (.bool (dh a b)):=by
 refine ac aZ Tryz.func159 rfl (by kernel_rfl) ?_
 conv=>whnf
 repeat' (first
 | ((with_reducible refine aJ (by assumption) ?_);conv=>whnf)
 | ((with_reducible refine aB (fun h=>?_) (fun h=>?_))<;>(try simp only [List.length_map] at h)<;>conv=>whnf)
 | ((with_reducible refine ak ?_);(first | refine aa (ah (F1 a ha h0) rfl rfl) ?_ | refine aa (ah (Cv b hb h1) rfl rfl) ?_);conv=>whnf)
 | ((with_reducible refine ag ?_);first | (exact aD (congrArg D.bool (tT (by first | assumption )).symm);done) | (exact aD (congrArg D.bool (by first | rw [tU (by first | assumption ) (by simp [*])] ));done))
  | fail
  )
theorem Kw (a b : Bs) (ha : a.length < 2000000) (hb : b.length < 2000000) : Fn 159 [.str a,.str b] (.bool (dh a b)):=by
 by_cases h0 : am a = 0
 ·by_cases h1 : am b = 0
  ·rw [pm h0 h1];exact Rp a b ha hb h0 h1
  ·exact Ny a b ha hb h0 h1
 ·by_cases h2 : am b = 0
  ·exact Ox a b ha hb h0 h2
  ·exact Oy a b ha hb h0 h2
def xc (p : bm -> Bool) : List bm -> Nat -> Int
 | [],_=>-1
 | e :: l,k=>if p e = true then k else xc p l (k + 1)
theorem KR {p : bm -> Bool} {l : List bm} {k : Nat} (hk : k < l.length) (h : p l[k] = true) : xc p (l.drop k) k = (k : Int):=by rw [List.drop_eq_getElem_cons hk];exact if_pos h
theorem KQ {p : bm -> Bool} {l : List bm} {k : Nat} (hk : k < l.length) (h : p l[k] = false) : xc p (l.drop k) k = xc p (l.drop (k + 1)) (k + 1):=by rw [List.drop_eq_getElem_cons hk];exact if_neg (by rw [h];decide)
theorem C4 {p : bm -> Bool} {l : List bm} {k : Nat} (hk : l.length <= k) : xc p (l.drop k) k = -1:=by rw [List.drop_eq_nil_of_le hk];rfl
theorem C0 {p : bm -> Bool} : ∀ (l : List bm) (k : Nat),decide (0 <= xc p l k) = l.any p
 | [],k=>by simp [xc]
 | e :: l,k=>by
  have e1 : xc p (e :: l) k = if p e = true then (k : Int) else xc p l (k + 1):=rfl
  rw [List.any_cons]
  by_cases h : p e = true
  ·rw [if_pos h] at e1;rw [e1,h,Bool.true_or];exact decide_eq_true (by omega)
  ·rw [if_neg h] at e1;rw [e1,show p e = false by simpa using h,Bool.false_or];exact C0 l (k + 1)
attribute [local irreducible] xc
theorem Ro (x y : bm) (hx : x.name.length < 2000000) (hy : y.name.length < 2000000) : Fn 158 [y.enc,.fp x.enc 0] (.bool (dh x.name y.name)):=by
 refine ac aZ Tryz.func158 rfl (by kernel_rfl) ?_
 conv=>whnf
 repeat' (first
 | ((with_reducible refine ak ?_);(first | refine aa (af (xs:=[_,_]) (Kw x.name y.name hx hy) _) ?_);conv=>whnf)
 | ((with_reducible refine ag ?_);first | (exact aD rfl;done))
  | fail
  )
theorem Rw (x : bm) (s : Bs) (hx : x.name.length < 2000000) (hs : s.length < 2000000) : Fn 162 [x.enc,.fp (.str s) 0] (.bool (dh x.name s)):=by
 refine ac aZ Tryz.func162 rfl (by kernel_rfl) ?_
 conv=>whnf
 repeat' (first
 | ((with_reducible refine ak ?_);(first | refine aa (af (xs:=[_,_]) (Kw x.name s hx hs) _) ?_);conv=>whnf)
 | ((with_reducible refine ag ?_);first | (exact aD rfl;done))
  | fail
  )
theorem NK (l : List bm) (x : bm) (hx : x.name.length < 2000000) (hl : l.length < 2000000) (hb : ∀ y ∈ l,y.name.length < 2000000) : Fn 161 [.fs (l.map bm.enc),.fn 158 [] [.fp x.enc 0]] (i (xc (fun y=>dh x.name y.name) l 0)):=by
 refine ac aZ Tryz.func161 rfl (by kernel_rfl) ?_
 conv=>whnf
 repeat' (first
 | ((with_reducible refine aB (fun h=>?_) (fun h=>?_))<;>(try simp only [List.length_map] at h)<;>conv=>whnf)
 | ((with_reducible refine ao (fun h=>?_) (fun h=>?_))<;>conv=>whnf)
 | ((with_reducible refine aO ?_);first | (refine bh (fun (k : Nat)=>l.length - k) (fun (k : Nat)=>k <= l.length /\ xc (fun y=>dh x.name y.name) l 0 = xc (fun y=>dh x.name y.name) (l.drop k) k) (fun (k : Nat)=>[(0,.d (.fs (l.map bm.enc))),(1,.d (.fn 158 [] [.fp x.enc 0])),(7,.d (i l.length)),(8,.d (i k))]) (fun (k : Nat)=>[]) (0) (by exact ⟨Nat.zero_le _,rfl⟩) ?_ (fun k C hI hC=>?_);(exact ⟨[],rfl,rfl,⟨rfl,rfl,(congrArg (D.int .i64) (by simp only [List.length_map])),(by first | exact congrArg (D.int .i64) (by omega) ),trivial⟩,trivial⟩);all_goals (conv=>whnf)))
 | ((with_reducible show C _ _);first | (refine hC (k + 1) _ _ ?_ (by omega) ?_;clear hC;rotate_left;(exact ⟨[],rfl,rfl,⟨rfl,rfl,rfl,(by first | exact congrArg (D.int .i64) (by omega) ),trivial⟩,trivial⟩);(exact ⟨by omega,hI.2.trans (KQ (by omega) (by assumption))⟩)))
 | (refine bf (by omega) ?_;conv=>whnf)
 | (refine ax (by omega) ?_;conv=>whnf)
 | ((with_reducible refine ak ?_);(refine aa (af (xs:=[_,_]) (Ro x (l[k]'(by omega)) hx (hb _ (List.getElem_mem _))) _) ?_);conv=>whnf)
 | ((with_reducible refine ag ?_);first | (exact aD (congrArg i (hI.2.trans (KR (by omega) (by assumption))).symm);done) | (exact aD (congrArg i (hI.2.trans (C4 (by omega))).symm);done))
  | fail
  )
theorem NJ (l : List bm) (s : Bs) (hs : s.length < 2000000) (hl : l.length < 2000000) (hb : ∀ y ∈ l,y.name.length < 2000000) : Fn 161 [.fs (l.map bm.enc),.fn 162 [] [.fp (.str s) 0]] (i (xc (fun y=>dh y.name s) l 0)):=by
 refine ac aZ Tryz.func161 rfl (by kernel_rfl) ?_
 conv=>whnf
 repeat' (first
 | ((with_reducible refine aB (fun h=>?_) (fun h=>?_))<;>(try simp only [List.length_map] at h)<;>conv=>whnf)
 | ((with_reducible refine ao (fun h=>?_) (fun h=>?_))<;>conv=>whnf)
 | ((with_reducible refine aO ?_);first | (refine bh (fun (k : Nat)=>l.length - k) (fun (k : Nat)=>k <= l.length /\ xc (fun y=>dh y.name s) l 0 = xc (fun y=>dh y.name s) (l.drop k) k) (fun (k : Nat)=>[(0,.d (.fs (l.map bm.enc))),(1,.d (.fn 162 [] [.fp (.str s) 0])),(7,.d (i l.length)),(8,.d (i k))]) (fun (k : Nat)=>[]) (0) (by exact ⟨Nat.zero_le _,rfl⟩) ?_ (fun k C hI hC=>?_);(exact ⟨[],rfl,rfl,⟨rfl,rfl,(congrArg (D.int .i64) (by simp only [List.length_map])),(by first | exact congrArg (D.int .i64) (by omega) ),trivial⟩,trivial⟩);all_goals (conv=>whnf)))
 | ((with_reducible show C _ _);first | (refine hC (k + 1) _ _ ?_ (by omega) ?_;clear hC;rotate_left;(exact ⟨[],rfl,rfl,⟨rfl,rfl,rfl,(by first | exact congrArg (D.int .i64) (by omega) ),trivial⟩,trivial⟩);(exact ⟨by omega,hI.2.trans (KQ (by omega) (by assumption))⟩)))
 | (refine bf (by omega) ?_;conv=>whnf)
 | (refine ax (by omega) ?_;conv=>whnf)
 | ((with_reducible refine ak ?_);(refine aa (af (xs:=[_,_]) (Rw (l[k]'(by omega)) s (hb _ (List.getElem_mem _)) hs) _) ?_);conv=>whnf)
 | ((with_reducible refine ag ?_);first | (exact aD (congrArg i (hI.2.trans (KR (by omega) (by assumption))).symm);done) | (exact aD (congrArg i (hI.2.trans (C4 (by omega))).symm);done))
  | fail
  )
theorem Rv (l : List bm) (x : bm) (hx : x.name.length < 2000000) (hl : l.length < 2000000) (hb : ∀ y ∈ l,y.name.length < 2000000) : Fn 160 [.fs (l.map bm.enc),.fn 158 [] [.fp x.enc 0]] (.bool (l.any fun y=>dh x.name y.name)):=by
 refine ac aZ Tryz.func160 rfl (by kernel_rfl) ?_
 conv=>whnf
 repeat' (first
 | ((with_reducible refine ak ?_);(first | refine aa (af (xs:=[_,_]) (NK l x hx hl hb) _) ?_);conv=>whnf)
 | ((with_reducible refine ag ?_);first | (exact aD (congrArg D.bool (C0 l 0));done))
  | fail
  )
end
section
set_option maxRecDepth 10000
attribute [local irreducible] bn
set_option maxHeartbeats 2000000
open Paths
attribute [local irreducible] am cut normal bp aF text aj glue bi ar
def ur (len : Int) (l : List bm) (k : Nat) (y : bm) : Int:=aI [am y.name,if !((l.take k).any fun z=>dh y.name z.name) then 0 else 5,if ar y.node 1 (len - 1) then 0 else 6]
attribute [local irreducible] bq ed fD aW fm dv aX cM eX im g8 dh
theorem Rn (t : List aM) (x : aM) (k : Nat) (y : bm) (hk : k < x.ents.length) (ht : t.length < 2000000) (hy : y.name.length < 2000000) (hl : x.ents.length < 2000000) (hb : ∀ z ∈ x.ents,z.name.length < 2000000) : Fn 157 [i k,y.enc,.fp x.enc 0,.fp (aS t) 0] (i (ur t.length x.ents k y)):=by
 refine ac aZ Tryz.func157 rfl (by kernel_rfl) ?_
 conv=>whnf
 repeat' (first
 | ((with_reducible refine ak ?_);(first | refine aa (af (xs:=[_]) (D6 y.name hy) _) ?_ | refine aa (ah (Rv (x.ents.take k) y hy (by rw [List.length_take];omega) (fun z hz=>hb z (List.mem_of_mem_take hz))) rfl (aK rfl (aK rfl bM))) ?_ | refine aa (ah (Ip _ 5) rfl rfl) ?_ | refine aa (ah (Ip _ 6) rfl rfl) ?_ | refine aa (ah (QF y.node 1 _) rfl rfl) ?_ | refine aa (ah (Cw [am y.name,if (!(List.take k x.ents).any fun z=>dh y.name z.name) = true then 0 else 5,if ar y.node 1 (((t.map aM.enc).length : Int) - 1) = true then 0 else 6] (by decide : 3 < 2000000)) rfl (aK rfl bM)) ?_);conv=>whnf)
 | (refine ⟨[],[(4,2),(6,2),(12,2),(13,2),(12,8),(13,8),(12,10),(13,10)],(by decide +kernel),?_⟩;conv=>whnf)
 | (refine ax (by first | (simp only [List.length_map];omega)) ?_;conv=>whnf)
 | (refine MJ (f:=bm.enc) (l:=x.ents) 0 k ?_ ?_ ?_ ?_ ?_;(rfl);(rfl);(omega);(exact fun x=>rfl);conv=>whnf)
 | ((with_reducible refine ag ?_);first | (exact aD (congrArg i (by unfold ur;rw [List.length_map]));done))
 | (refine ⟨rfl,?_⟩;conv=>whnf)
  | fail
  )
def oD (len : Int) (l : List bm) (k : Nat) : Int:=match l[k]? with
 | some y=>ur len l k y
 | none=>0
theorem rk {len : Int} {l : List bm} {k : Nat} (h : k < l.length) : oD len l k = ur len l k l[k]:=by unfold oD;rw [List.getElem?_eq_getElem h]
theorem LR {len : Int} {l : List bm} {k : Nat} (hk : k < l.length) (hv : ∀ z ∈ l.take k,am z.name = 0) : ur len l k l[k] = iB len (l.take k) l[k]:=by
 unfold ur iB
 by_cases h : am l[k].name = 0
 ·have e : (l.take k).any (fun z=>dh l[k].name z.name) = (l.take k).any fun y=>decide (bi y.name = bi l[k].name):=by
   rw [Bool.eq_iff_iff,List.any_eq_true,List.any_eq_true]
   constructor
   ·rintro ⟨z,hz,e⟩
    rw [pm h (hv z hz)] at e
    exact ⟨z,hz,decide_eq_true (of_decide_eq_true e).symm⟩
   ·rintro ⟨z,hz,e⟩
    exact ⟨z,hz,by rw [pm h (hv z hz)];exact decide_eq_true (of_decide_eq_true e).symm⟩
  rw [e,h]
  generalize ((l.take k).any fun y=>decide (bi y.name = bi l[k].name)) = b
  generalize ar l[k].node 1 (len - 1) = w
  cases b<;>cases w<;>simp [aI]
 ·rw [if_pos h]
  simp [aI,h]
theorem CG {len : Int} {a : List bm} {y : bm} (h : iB len a y = 0) : am y.name = 0:=by
 unfold iB at h
 split at h
 ·rename_i h1;exact absurd h h1
 ·rename_i h1;exact Classical.not_not.1 h1
theorem GA {len : Int} {l : List bm} : ∀ (n k : Nat),n = l.length - k -> (∀ z ∈ l.take k,am z.name = 0) -> (bq (oD len l) l.length k).2 = dc len l n k
 | 0,k,hn,_=>by rw [br (by omega)];rfl
 | n + 1,k,hn,hv=>by
  have hk : k < l.length:=by omega
  have e1 : oD len l k = iB len (l.take k) l[k]:=(rk hk).trans (LR hk hv)
  rw [fC hk hn]
  by_cases e : iB len (l.take k) l[k] = 0
  ·rw [if_neg (by simpa using e),eQ hk (e1.trans e)]
   have : n = l.length - (k + 1):=by omega
   subst this
   refine GA _ (k + 1) rfl fun z hz=>?_
   rw [List.take_succ_eq_append_getElem hk] at hz
   rcases List.mem_append.1 hz with hz | hz
   ·exact hv z hz
   ·rw [List.mem_singleton.1 hz];exact CG e
  ·rw [if_pos e,dU hk (by rw [e1];exact e)];exact e1
attribute [local irreducible] ur oD
theorem IF (t : List aM) (x : aM) (ht : t.length < 2000000) (hl : x.ents.length < 2000000) (hb : ∀ z ∈ x.ents,z.name.length < 2000000) : Fn 156 [.fs (x.ents.map bm.enc),.fn 157 [] [.fp x.enc 0,.fp (aS t) 0]] (.tup [i (bq (oD t.length x.ents) x.ents.length 0).1,i (bq (oD t.length x.ents) x.ents.length 0).2]):=by
 refine ac aZ Tryz.func156 rfl (by kernel_rfl) ?_
 conv=>whnf
 repeat' (first
 | ((with_reducible refine aB (fun h=>?_) (fun h=>?_))<;>(try simp only [List.length_map] at h)<;>conv=>whnf)
 | ((with_reducible refine bu (fun h=>?_) (fun h=>?_))<;>(try simp only [List.length_map] at h)<;>conv=>whnf)
 | ((with_reducible refine aO ?_);first | (refine bh (fun (k : Nat)=>x.ents.length - k) (fun (k : Nat)=>k <= x.ents.length /\ bq (oD t.length x.ents) x.ents.length 0 = bq (oD t.length x.ents) x.ents.length k) (fun (k : Nat)=>[(1,.d (.fn 157 [] [.fp x.enc 0,.fp (aS t) 0])),(9,.d (.fs (x.ents.map bm.enc))),(10,.d (i x.ents.length)),(11,.d (i k))]) (fun (k : Nat)=>[]) (0) (by exact ⟨Nat.zero_le _,rfl⟩) ?_ (fun k C hI hC=>?_);(exact ⟨[],rfl,rfl,⟨rfl,rfl,(congrArg (D.int .i64) (by simp only [List.length_map])),(by first | exact congrArg (D.int .i64) (by omega) ),trivial⟩,trivial⟩);all_goals (conv=>whnf)))
 | ((with_reducible show C _ _);first | (refine hC (k + 1) _ _ ?_ (by omega) ?_;clear hC;rotate_left;(exact ⟨[],rfl,rfl,⟨rfl,rfl,rfl,(by first | exact congrArg (D.int .i64) (by omega) ),trivial⟩,trivial⟩);(exact ⟨by omega,hI.2.trans (eQ (by omega) ((rk (by omega)).trans (by assumption)))⟩)))
 | (refine bf (by omega) ?_;conv=>whnf)
 | (refine ax (by omega) ?_;conv=>whnf)
 | ((with_reducible refine ak ?_);(refine aa (af (xs:=[_,_,_,_]) (Rn t x k (x.ents[k]'(by omega)) (by omega) ht (hb _ (List.getElem_mem _)) hl hb) _) ?_);conv=>whnf)
 | ((with_reducible refine ag ?_);first | (exact dy (mV (hI.2.trans ((dU (by omega) (by rw [rk (by omega)];exact h)).trans (by rw [rk (by omega)]))));done) | (exact dy (mV (hI.2.trans (br (by omega))));done))
  | fail
  )
end
section
set_option maxRecDepth 10000
attribute [local irreducible] bn
set_option maxHeartbeats 2000000
open Paths
attribute [local irreducible] am cut normal bp aF text aj glue bi ar
theorem H6 {K : Int} {es : List bm} {tg : Bs} {v : Int} (hv : v = if (aj tg).1.stream ≠ [] \/ (K = 3 /\ (aj tg).1.abs = false) then 3 else 0) : aI [(aj tg).2,v] = ia ⟨K,es,tg⟩:=by
 subst hv
 unfold ia
 by_cases h : (aj tg).2 = 0
 ·rw [h]
  simp only [ne_eq,not_true_eq_false,if_false]
  split<;>simp [aI]
 ·rw [if_pos h];simp [aI,h]
attribute [local irreducible] ia
attribute [local irreducible] bq ed fD aW fm dv aX cM eX im g8 dh ur oD dc
theorem OB (es : List bm) (tg : Bs) : Fn 155 [aM.enc ⟨2,es,tg⟩] (i (ia ⟨2,es,tg⟩)):=by
 refine ac aZ Tryz.func155 rfl (by kernel_rfl) ?_
 conv=>whnf
 repeat' (first
 | ((with_reducible refine ao (fun h=>?_) (fun h=>?_))<;>conv=>whnf)
 | ((with_reducible refine ak ?_);(first | refine aa (aA (II tg) rfl) ?_ | refine aa (ah (Ip _ 3) rfl rfl) ?_ | refine aa (ah (Cw [(aj tg).2,_] (by decide : 2 < 2000000)) rfl (aK rfl bM)) ?_);conv=>whnf)
 | ((with_reducible refine ag ?_);first | (exact aD (congrArg i (H6 (by have hz : ({ data:=#[] } : ByteArray).data.toList = []:=rfl;simp_all)));done))
  | fail
  )
theorem OC (es : List bm) (tg : Bs) : Fn 155 [aM.enc ⟨3,es,tg⟩] (i (ia ⟨3,es,tg⟩)):=by
 refine ac aZ Tryz.func155 rfl (by kernel_rfl) ?_
 conv=>whnf
 repeat' (first
 | ((with_reducible refine ao (fun h=>?_) (fun h=>?_))<;>conv=>whnf)
 | ((with_reducible refine ak ?_);(first | refine aa (aA (II tg) rfl) ?_ | refine aa (ah (Ip _ 3) rfl rfl) ?_ | refine aa (ah (Cw [(aj tg).2,_] (by decide : 2 < 2000000)) rfl (aK rfl bM)) ?_);conv=>whnf)
 | ((with_reducible refine ag ?_);first | (exact aD (congrArg i (H6 (by have hz : ({ data:=#[] } : ByteArray).data.toList = []:=rfl;simp_all)));done))
  | fail
  )
theorem wn (e : Int) : Fn 39 [.bool true,i e] (i 0):=Ip true e
theorem yd (e : Int) : Fn 39 [.bool false,i e] (i e):=Ip false e
theorem IL (K : Int) (h : ar K 0 3 = true) : Fn 60 [i K,i 0,i 3] (.bool true):=by
 have:=QF K 0 3
 rwa [h] at this
theorem w0 : ar 0 0 3 = true:=by decide +kernel
theorem w1 : ar 1 0 3 = true:=by decide +kernel
theorem w2 : ar 2 0 3 = true:=by decide +kernel
theorem w3 : ar 3 0 3 = true:=by decide +kernel
theorem Cx : Fn 29 [.fs [i 0,i 0,i 0]] (i 0):=Cw [0,0,0] (by decide)
theorem Cy : Fn 29 [.fs [i 0,i 0,i 3]] (i 3):=Cw [0,0,3] (by decide)
theorem F6 : Fn 29 [.fs [i 0,i 35,i 0]] (i 35):=Cw [0,35,0] (by decide)
theorem F7 : Fn 29 [.fs [i 0,i 35,i 3]] (i 35):=Cw [0,35,3] (by decide)
theorem Qv {tg : Bs} (h : decide (tg = ({ data:=#[] } : ByteArray).data.toList) = true) : tg = []:=of_decide_eq_true h
theorem Qs {tg : Bs} (h : decide (tg = ({ data:=#[] } : ByteArray).data.toList) = false) : ¬ tg = []:=of_decide_eq_false h
theorem OQ {t : List aM} {d : Int} {es : List bm} {tg : Bs} (h : tg = []) : (bq (oD t.length es) es.length 0).2 = dv t d ⟨0,es,tg⟩:=by
 rw [BE,if_pos h];exact GA _ 0 rfl (fun z hz=>by simp at hz)
theorem Gx {t : List aM} {d : Int} {x : aM} {len : Int} (h : x.ents.length = 0) (h2 : dv t d x = 0) : (bq (oD len x.ents) x.ents.length 0).2 = dv t d x:=by
 rw [br (by omega),h2]
theorem Ol (t : List aM) (d : Int) (es : List bm) (tg : Bs) (h0 : 0 <= d) (hd : t[d.toNat]? = some ⟨0,es,tg⟩) (ht : t.length < 2000000) (hl : es.length < 2000000) (hb : ∀ y ∈ es,y.name.length < 2000000) : Fn 90 [aS t,i d] (i (dv t d ⟨0,es,tg⟩)):=by
 refine ac aZ Tryz.func90 rfl (by kernel_rfl) ?_
 conv=>whnf
 repeat' (first
 | ((with_reducible refine aB (fun h=>?_) (fun h=>?_))<;>(try simp only [List.length_map] at h)<;>conv=>whnf)
 | ((with_reducible refine ao (fun h=>?_) (fun h=>?_))<;>conv=>whnf)
 | ((with_reducible refine ak ?_);(first | refine aa (af (xs:=[_,_,_]) (IL 0 w0) _) ?_ | refine aa (af (xs:=[_,_]) (wn _) _) ?_ | refine aa (af (xs:=[_,_]) (yd _) _) ?_ | refine aa (ah Cx rfl (aK rfl bM)) ?_ | refine aa (ah Cy rfl (aK rfl bM)) ?_ | refine aa (ah (IF t ⟨0,es,tg⟩ ht hl hb) rfl (aK rfl (aK rfl bM))) ?_);conv=>whnf)
 | (refine ⟨[],[(11,2),(11,3),(11,9)],(by decide +kernel),?_⟩;conv=>whnf)
 | (refine gD h0 hd ?_;conv=>whnf)
 | ((with_reducible refine ag ?_);first | (exact aD (congrArg i (BE.trans (if_neg (by first | exact Qs (by assumption) ))).symm);done) | (exact aD (congrArg i (OQ (by first | exact Qv (by assumption) )));done))
 | (refine ⟨rfl,?_⟩;conv=>whnf)
  | fail
  )
theorem Om (t : List aM) (d : Int) (es : List bm) (tg : Bs) (h0 : 0 <= d) (hd : t[d.toNat]? = some ⟨1,es,tg⟩) (ht : t.length < 2000000) (hl : es.length < 2000000) (hb : ∀ y ∈ es,y.name.length < 2000000) : Fn 90 [aS t,i d] (i (dv t d ⟨1,es,tg⟩)):=by
 refine ac aZ Tryz.func90 rfl (by kernel_rfl) ?_
 conv=>whnf
 repeat' (first
 | ((with_reducible refine aB (fun h=>?_) (fun h=>?_))<;>(try simp only [List.length_map] at h)<;>conv=>whnf)
 | ((with_reducible refine ao (fun h=>?_) (fun h=>?_))<;>conv=>whnf)
 | ((with_reducible refine ak ?_);(first | refine aa (af (xs:=[_,_,_]) (IL 1 w1) _) ?_ | refine aa (af (xs:=[_,_]) (wn _) _) ?_ | refine aa (af (xs:=[_,_]) (yd _) _) ?_ | refine aa (ah Cx rfl (aK rfl bM)) ?_ | refine aa (ah Cy rfl (aK rfl bM)) ?_ | refine aa (ah F6 rfl (aK rfl bM)) ?_ | refine aa (ah F7 rfl (aK rfl bM)) ?_ | refine aa (ah (IF t ⟨1,es,tg⟩ ht hl hb) rfl (aK rfl (aK rfl bM))) ?_);conv=>whnf)
 | (refine ⟨[],[(11,2),(11,3),(11,9)],(by decide +kernel),?_⟩;conv=>whnf)
 | (refine gD h0 hd ?_;conv=>whnf)
 | ((with_reducible refine ag ?_);first | (exact aD (congrArg i (zq.trans (if_pos (by omega))).symm);done) | (exact aD (congrArg i (zq.trans ((if_neg (by omega)).trans (if_neg (fun hh=>(fun hh=>by have:=congrArg List.length hh;simp only [List.length_nil] at this;omega) hh.1)))).symm);done) | (exact aD (congrArg i (zq.trans ((if_neg (by omega)).trans (if_neg (fun hh=>((by first | exact Qs (by assumption) ) : ¬ tg = []) hh.2)))).symm);done) | (exact aD (congrArg i (Gx (x:=⟨1,es,tg⟩) (by show es.length = 0;omega) (zq.trans ((if_neg (by omega)).trans (if_pos ⟨List.length_eq_zero_iff.1 (by omega),(by first | exact Qv (by assumption) )⟩)))));done))
 | (refine ⟨rfl,?_⟩;conv=>whnf)
  | fail
  )
theorem On (t : List aM) (d : Int) (es : List bm) (tg : Bs) (h0 : 0 <= d) (hd : t[d.toNat]? = some ⟨2,es,tg⟩) (ht : t.length < 2000000) (hl : es.length < 2000000) (hb : ∀ y ∈ es,y.name.length < 2000000) : Fn 90 [aS t,i d] (i (dv t d ⟨2,es,tg⟩)):=by
 refine ac aZ Tryz.func90 rfl (by kernel_rfl) ?_
 conv=>whnf
 repeat' (first
 | ((with_reducible refine aB (fun h=>?_) (fun h=>?_))<;>(try simp only [List.length_map] at h)<;>conv=>whnf)
 | ((with_reducible refine bu (fun h=>?_) (fun h=>?_))<;>(try simp only [List.length_map] at h)<;>conv=>whnf)
 | ((with_reducible refine ao (fun h=>?_) (fun h=>?_))<;>conv=>whnf)
 | ((with_reducible refine ak ?_);(first | refine aa (af (xs:=[_,_,_]) (IL 2 w2) _) ?_ | refine aa (af (xs:=[_,_]) (wn _) _) ?_ | refine aa (af (xs:=[_,_]) (yd _) _) ?_ | refine aa (ah Cx rfl (aK rfl bM)) ?_ | refine aa (ah Cy rfl (aK rfl bM)) ?_ | refine aa (ah F6 rfl (aK rfl bM)) ?_ | refine aa (ah F7 rfl (aK rfl bM)) ?_ | refine aa (af (xs:=[_]) (OB es tg) _) ?_ | refine aa (ah (IF t ⟨2,es,tg⟩ ht hl hb) rfl (aK rfl (aK rfl bM))) ?_);conv=>whnf)
 | (refine ⟨[],[(11,2),(11,3),(11,9)],(by decide +kernel),?_⟩;conv=>whnf)
 | (refine gD h0 hd ?_;conv=>whnf)
 | ((with_reducible refine ag ?_);first | (exact aD (congrArg i ((lh (by omega : (2 : Int) = 2 \/ (2 : Int) = 3)).trans (if_pos (by omega))).symm);done) | (exact aD (congrArg i ((lh (by omega : (2 : Int) = 2 \/ (2 : Int) = 3)).trans ((if_neg (by omega)).trans (if_neg (fun hh=>by have:=congrArg List.length hh;simp only [List.length_nil] at this;omega)))).symm);done) | (exact aD (congrArg i ((lh (by omega : (2 : Int) = 2 \/ (2 : Int) = 3)).trans ((if_neg (by omega)).trans ((if_pos (List.length_eq_zero_iff.1 (by omega))).trans rfl))).symm);done) | (exact aD (congrArg i (Gx (x:=⟨2,es,tg⟩) (by show es.length = 0;omega) ((lh (by omega : (2 : Int) = 2 \/ (2 : Int) = 3)).trans ((if_neg (by omega)).trans ((if_pos (List.length_eq_zero_iff.1 (by omega))).trans (by assumption))))));done))
 | (refine ⟨rfl,?_⟩;conv=>whnf)
  | fail
  )
theorem Oo (t : List aM) (d : Int) (es : List bm) (tg : Bs) (h0 : 0 <= d) (hd : t[d.toNat]? = some ⟨3,es,tg⟩) (ht : t.length < 2000000) (hl : es.length < 2000000) (hb : ∀ y ∈ es,y.name.length < 2000000) : Fn 90 [aS t,i d] (i (dv t d ⟨3,es,tg⟩)):=by
 refine ac aZ Tryz.func90 rfl (by kernel_rfl) ?_
 conv=>whnf
 repeat' (first
 | ((with_reducible refine aB (fun h=>?_) (fun h=>?_))<;>(try simp only [List.length_map] at h)<;>conv=>whnf)
 | ((with_reducible refine bu (fun h=>?_) (fun h=>?_))<;>(try simp only [List.length_map] at h)<;>conv=>whnf)
 | ((with_reducible refine ao (fun h=>?_) (fun h=>?_))<;>conv=>whnf)
 | ((with_reducible refine ak ?_);(first | refine aa (af (xs:=[_,_,_]) (IL 3 w3) _) ?_ | refine aa (af (xs:=[_,_]) (wn _) _) ?_ | refine aa (af (xs:=[_,_]) (yd _) _) ?_ | refine aa (ah Cx rfl (aK rfl bM)) ?_ | refine aa (ah Cy rfl (aK rfl bM)) ?_ | refine aa (ah F6 rfl (aK rfl bM)) ?_ | refine aa (ah F7 rfl (aK rfl bM)) ?_ | refine aa (af (xs:=[_]) (OC es tg) _) ?_ | refine aa (ah (IF t ⟨3,es,tg⟩ ht hl hb) rfl (aK rfl (aK rfl bM))) ?_);conv=>whnf)
 | (refine ⟨[],[(11,2),(11,3),(11,9)],(by decide +kernel),?_⟩;conv=>whnf)
 | (refine gD h0 hd ?_;conv=>whnf)
 | ((with_reducible refine ag ?_);first | (exact aD (congrArg i ((lh (by omega : (3 : Int) = 2 \/ (3 : Int) = 3)).trans (if_pos (by omega))).symm);done) | (exact aD (congrArg i ((lh (by omega : (3 : Int) = 2 \/ (3 : Int) = 3)).trans ((if_neg (by omega)).trans (if_neg (fun hh=>by have:=congrArg List.length hh;simp only [List.length_nil] at this;omega)))).symm);done) | (exact aD (congrArg i ((lh (by omega : (3 : Int) = 2 \/ (3 : Int) = 3)).trans ((if_neg (by omega)).trans ((if_pos (List.length_eq_zero_iff.1 (by omega))).trans rfl))).symm);done) | (exact aD (congrArg i (Gx (x:=⟨3,es,tg⟩) (by show es.length = 0;omega) ((lh (by omega : (3 : Int) = 2 \/ (3 : Int) = 3)).trans ((if_neg (by omega)).trans ((if_pos (List.length_eq_zero_iff.1 (by omega))).trans (by assumption))))));done))
 | (refine ⟨rfl,?_⟩;conv=>whnf)
  | fail
  )
theorem ST {K : Int} (h : ar K 0 3 = false) : Fn 60 [i K,i 0,i 3] (.bool false):=by
 have:=QF K 0 3
 rwa [h] at this
theorem D7 {p : Prop} {_ : Decidable p} (e : Int) (h : ¬ p) : Fn 39 [.bool (decide p),i e] (i e):=by
 rw [decide_eq_false h];exact yd e
theorem wo (a b : Int) : Fn 29 [.fs [i 15,i a,i b]] (i 15):=Cw [15,a,b] (by decide : 3 < 2000000)
theorem S8 (t : List aM) (d : Int) (x : aM) (h0 : 0 <= d) (hd : t[d.toNat]? = some x) (hk : ar x.kind 0 3 = false) (hkk : x.kind < 0 \/ 3 < x.kind) : Fn 90 [aS t,i d] (i (dv t d x)):=by
 refine ac aZ Tryz.func90 rfl (by kernel_rfl) ?_
 conv=>whnf
 repeat' (first
 | ((with_reducible refine aJ ?_ ?_);(focus ((try simp only [List.length_map,List.length_cons,List.length_nil,List.length_append]);omega));conv=>whnf)
 | ((with_reducible refine aB (fun h=>?_) (fun h=>?_))<;>(try simp only [List.length_map] at h)<;>conv=>whnf)
 | ((with_reducible refine ao (fun h=>?_) (fun h=>?_))<;>conv=>whnf)
 | ((with_reducible refine ak ?_);(first | refine aa (af (xs:=[_,_,_]) (ST hk) _) ?_ | refine aa (af (xs:=[_,_]) (wn _) _) ?_ | refine aa (af (xs:=[_,_]) (yd _) _) ?_ | refine aa (af (xs:=[_,_]) (D7 (p:=x.kind = 0) _ (by omega)) _) ?_ | refine aa (af (xs:=[_,_]) (D7 (p:=x.kind = 3) _ (by omega)) _) ?_ | refine aa (ah (wo 0 0) rfl (aK rfl bM)) ?_ | refine aa (ah (wo 0 3) rfl (aK rfl bM)) ?_ | refine aa (ah (wo 35 0) rfl (aK rfl bM)) ?_ | refine aa (ah (wo 35 3) rfl (aK rfl bM)) ?_);conv=>whnf)
 | (refine ⟨[],[(11,2),(11,3),(11,9)],(by decide +kernel),?_⟩;conv=>whnf)
 | (refine gD h0 hd ?_;conv=>whnf)
 | ((with_reducible refine ag ?_);first | (exact aD (congrArg i (PD hk).symm);done))
 | (refine ⟨rfl,?_⟩;conv=>whnf)
  | fail
  )
theorem Vb (t : List aM) (d : Int) (x : aM) (h0 : 0 <= d) (hd : t[d.toNat]? = some x) (ht : t.length < 2000000) (hl : x.ents.length < 2000000) (hb : ∀ y ∈ x.ents,y.name.length < 2000000) : Fn 90 [aS t,i d] (i (dv t d x)):=by
 cases hk : ar x.kind 0 3 with
 | false=>
  refine S8 t d x h0 hd hk ?_
  have : ¬ (0 <= x.kind /\ x.kind <= 3):=fun h=>by
   have : ar x.kind 0 3 = true:=by simpa [ar] using h
   rw [hk] at this;cases this
  omega
 | true=>
  have hw : 0 <= x.kind /\ x.kind <= 3:=(by simpa [ar] using hk)
  obtain ⟨K,es,tg⟩:=x
  have : K = 0 \/ K = 1 \/ K = 2 \/ K = 3:=by simp only at hw;omega
  rcases this with rfl | rfl | rfl | rfl
  ·exact Ol t d es tg h0 hd ht hl hb
  ·exact Om t d es tg h0 hd ht hl hb
  ·exact On t d es tg h0 hd ht hl hb
  ·exact Oo t d es tg h0 hd ht hl hb
end
section
def wG (t : List aM) (k : Nat) : List bm:=match t[k]? with
 | some x=>x.ents
 | none=>[]
def sh (t : List aM) (k m j : Nat) : Nat:=aX (t.take k) j + eO ((wG t k).take m) j
def dQ (t : List aM) (k m : Nat) : List Int:=(List.range t.length).map fun j=>((sh t k m j : Nat) : Int)
theorem gA (t : List aM) (k m : Nat) : (dQ t k m).length = t.length:=by simp [dQ]
theorem iY {t : List aM} {k m j : Nat} (h : j < (dQ t k m).length) : (dQ t k m)[j] = ((sh t k m j : Nat) : Int):=by
 simp [dQ]
theorem LP (t : List aM) : List.replicate t.length (0 : Int) = dQ t 0 0:=by
 apply List.ext_getElem
 ·rw [gA,List.length_replicate]
 ·intro j h1 h2
  rw [iY,List.getElem_replicate]
  simp [sh,aX,eO]
theorem uP {t : List aM} {k : Nat} (h : k < t.length) : wG t k = t[k].ents:=by unfold wG;rw [List.getElem?_eq_getElem h]
theorem Ec {t : List aM} {k m : Nat} (hk : k < t.length) (hm : m < t[k].ents.length) {n : Nat} (hn : t[k].ents[m].node = (n : Int)) {v : Int} (hv : v = ((sh t k m n : Nat) : Int) + 1) : (dQ t k m).set n v = dQ t k (m + 1):=by
 apply List.ext_getElem
 ·rw [List.length_set,gA,gA]
 ·intro j h1 h2
  rw [List.getElem_set,iY h2]
  have hs : sh t k (m + 1) j = sh t k m j + lc (decide (t[k].ents[m].node = (j : Int))):=by
   unfold sh
   rw [uP hk,mh _ _ hm];omega
  rw [hs,hn]
  by_cases e : n = j
  ·subst e
   rw [if_pos rfl,hv]
   simp [lc]
  ·rw [if_neg e,iY]
   have : ¬ (n : Int) = (j : Int):=by omega
   simp [lc,this]
theorem Eb {t : List aM} {k m : Nat} (hk : k < t.length) (hm : t[k].ents.length <= m) : dQ t k m = dQ t (k + 1) 0:=by
 apply List.ext_getElem
 ·rw [gA,gA]
 ·intro j h1 h2
  rw [iY,iY]
  congr 1
  unfold sh
  rw [uP hk,kD t k hk,List.take_of_length_le hm,List.take_zero]
  simp [eO]
theorem Gm {t : List aM} {k j : Nat} (hk : t.length <= k) (h : j < (dQ t k 0).length) : (dQ t k 0)[j] = ((aX t j : Nat) : Int):=by
 rw [iY]
 unfold sh
 rw [List.take_of_length_le hk,List.take_zero]
 simp [eO]
theorem IU {t : List aM} {k m j : Nat} (hb : ∀ x ∈ t,x.ents.length < 2000000) (hm : m <= 2000000) : sh t k m j <= 2000000 * t.length + 2000000:=by
 have h1 : ∀ (l : List aM),(∀ x ∈ l,x.ents.length < 2000000) -> aX l j <= 2000000 * l.length:=by
  intro l
  induction l with
  | nil=>intro _;simp [aX]
  | cons x l ih=>
   intro h
   have:=ih fun y hy=>h y (by simp [hy])
   have:=h x (by simp)
   have:=ou (n:=j) x.ents
   simp only [aX,List.length_cons];omega
 have h2:=h1 (t.take k) fun x hx=>hb x (List.mem_of_mem_take hx)
 have h3:=ou (n:=j) ((wG t k).take m)
 rw [List.length_take] at h2 h3
 unfold sh
 have : min k t.length <= t.length:=Nat.min_le_right _ _
 omega
end
section
set_option maxRecDepth 10000
attribute [local irreducible] bn
set_option maxHeartbeats 2000000
open Paths
attribute [local irreducible] am cut normal bp aF text aj glue bi ar
attribute [local irreducible] ia bq ed fD aW fm dv aX cM eX im g8 dh ur oD dc
structure Tb (t : List aM) : Prop where
 tl : t.length < 2000000
 el : ∀ x ∈ t,x.ents.length < 2000000
 nl : ∀ x ∈ t,∀ y ∈ x.ents,y.name.length < 2000000
theorem PC {t : List aM} {k : Nat} (h : k < t.length) : t[((k : Nat) : Int).toNat]? = some t[k]:=by simp [h]
theorem S7 {t : List aM} (B : Tb t) (k : Nat) (h : k < t.length) : Fn 90 [aS t,i k] (i (ed t k)):=by
 have:=Vb t (k : Int) t[k] (by omega) (PC h) B.tl (B.el _ (List.getElem_mem h)) (B.nl _ (List.getElem_mem h))
 rwa [<- kt h] at this
theorem U7 (t : List aM) (B : Tb t) (k : Nat) (hk : k < t.length) (x : aM) : Fn 89 [i k,x.enc,.fp (aS t) 0] (i (ed t k)):=by
 refine ac aZ Tryz.func89 rfl (by kernel_rfl) ?_
 conv=>whnf
 repeat' (first
 | ((with_reducible refine ak ?_);(first | refine aa (af (xs:=[_,_]) (S7 B k hk) _) ?_);conv=>whnf)
 | ((with_reducible refine ag ?_);first | (exact aD rfl;done))
  | fail
  )
theorem Oz (t : List aM) (B : Tb t)  : Fn 88 [aS t,.fn 89 [] [.fp (aS t) 0]] (.tup [i (bq (ed t) t.length 0).1,i (bq (ed t) t.length 0).2]):=by
 have hbt:=B.tl
 refine ac aZ Tryz.func88 rfl (by kernel_rfl) ?_
 conv=>whnf
 repeat' (first
 | ((with_reducible refine aB (fun h=>?_) (fun h=>?_))<;>(try simp only [List.length_map] at h)<;>conv=>whnf)
 | ((with_reducible refine bu (fun h=>?_) (fun h=>?_))<;>(try simp only [List.length_map] at h)<;>conv=>whnf)
 | ((with_reducible refine aO ?_);first | (refine bh (fun (k : Nat)=>t.length - k) (fun (k : Nat)=>k <= t.length /\ bq (ed t) t.length 0 = bq (ed t) t.length k) (fun (k : Nat)=>[(1,.d (.fn 89 [] [.fp (aS t) 0])),(9,.d (aS t)),(10,.d (i t.length)),(11,.d (i k))]) (fun (k : Nat)=>[]) (0) (by exact ⟨Nat.zero_le _,rfl⟩) ?_ (fun k C hI hC=>?_);(exact ⟨[],rfl,rfl,⟨rfl,rfl,(congrArg (D.int .i64) (by simp only [List.length_map])),(by first | exact congrArg (D.int .i64) (by omega) ),trivial⟩,trivial⟩);all_goals (conv=>whnf)))
 | ((with_reducible show C _ _);first | (refine hC (k + 1) _ _ ?_ (by omega) ?_;clear hC;rotate_left;(exact ⟨[],rfl,rfl,⟨rfl,rfl,rfl,(by first | exact congrArg (D.int .i64) (by omega) ),trivial⟩,trivial⟩);(exact ⟨by omega,hI.2.trans (eQ (by omega) (by assumption))⟩)))
 | (refine bf (by omega) ?_;conv=>whnf)
 | (refine ax (by omega) ?_;conv=>whnf)
 | ((with_reducible refine ak ?_);(refine aa (af (xs:=[_,_,_]) (U7 t B k (by omega) (t[k]'(by omega))) _) ?_);conv=>whnf)
 | ((with_reducible refine ag ?_);first | (exact dy (mV (hI.2.trans (dU (by omega) h)));done) | (exact dy (mV (hI.2.trans (br (by omega))));done))
  | fail
  )
theorem F4 {b : Bool} (e : Int) : Fn 39 [.bool b,i e] (i (if b = true then 0 else e)):=Ip b e
theorem LS {t : List aM} {R : List Bool} {k : Nat} (h0 : 1 <= k) (h : k < t.length) (hR : k < R.length) {c : Int} (hc : c = (aX t k : Nat)) {a : Int} {b : Int} {d : Int} (ha : a = if decide (0 < c) = true then 0 else 12) (hb : b = if c = 1 \/ t[k].kind = 1 then 0 else 23) (hd : d = if R[k] = true then 0 else 14) : aI [a,b,d] = fD t R k:=by
 subst ha hb hd hc
 rw [mm h0 h,List.getElem?_eq_getElem hR]
 generalize aX t k = n
 by_cases e0 : n = 0
 ·subst e0;simp [aI]
 ·have e1 : 0 < n:=by omega
  by_cases e2 : n = 1
  ·subst e2
   cases R[k]<;>simp [aI]
  ·have e3 : 1 < n:=by omega
   have e4 : ¬ (n : Int) = 1:=by omega
   by_cases e5 : t[k].kind = 1
   ·cases R[k]<;>simp [aI,e0,e1,e3,e5]
   ·simp [aI,e0,e1,e3,e4,e5]
theorem JN {l : List Int} {n m : Nat} {K : AV -> Prop} (e : n = m) (h : m < l.length) (k : K (.d (i l[m]))) : cX (b9 l) n K:=by
 subst e
 exact cj (x:=.d (i l[n])) (by simp [b9,h]) k
theorem Vd (t : List aM) (R : List Bool) (cs : List Int) (k : Nat) (hk : k < t.length) (hR : R.length = t.length) (hC : cs.length = t.length) (hc : ∀ j (h : j < cs.length),cs[j] = ((aX t j : Nat) : Int)) : Fn 92 [i k,aM.enc (t[k]'hk),.fp (.fs (cs.map i)) 0,.fp (.fs (R.map D.bool)) 0] (i (fD t R k)):=by
 refine ac aZ Tryz.func92 rfl (by kernel_rfl) ?_
 conv=>whnf
 repeat' (first
 | ((with_reducible refine aB (fun h=>?_) (fun h=>?_))<;>(try simp only [List.length_map] at h)<;>conv=>whnf)
 | ((with_reducible refine ak ?_);(first | refine aa (af (xs:=[_,_]) (F4 _) _) ?_ | refine aa (ah (Cw [_,_,_] (by decide : 3 < 2000000)) rfl (aK rfl bM)) ?_);conv=>whnf)
 | (refine ⟨[],[(6,5),(9,5),(17,5),(20,5),(17,16),(20,16)],(by decide +kernel),?_⟩;conv=>whnf)
 | (refine bf (by omega) ?_;conv=>whnf)
 | ((with_reducible refine ag ?_);first | (exact aD (congrArg i (by unfold fD;rw [if_pos (by omega)]));done) | (exact aD (congrArg i (LS (c:=cs[k]) (by omega) hk (by omega) (hc _ _) rfl (by simp [h]) rfl));done))
  | fail
  )
theorem S6 (t : List aM) (B : Tb t) (R : List Bool) (cs : List Int) (hR : R.length = t.length) (hCs : cs.length = t.length) (hc : ∀ j (h : j < cs.length),cs[j] = ((aX t j : Nat) : Int)) : Fn 88 [aS t,.fn 92 [] [.fp (.fs (cs.map i)) 0,.fp (.fs (R.map D.bool)) 0]] (.tup [i (bq (fD t R) t.length 0).1,i (bq (fD t R) t.length 0).2]):=by
 have hbt:=B.tl
 refine ac aZ Tryz.func88 rfl (by kernel_rfl) ?_
 conv=>whnf
 repeat' (first
 | ((with_reducible refine aB (fun h=>?_) (fun h=>?_))<;>(try simp only [List.length_map] at h)<;>conv=>whnf)
 | ((with_reducible refine bu (fun h=>?_) (fun h=>?_))<;>(try simp only [List.length_map] at h)<;>conv=>whnf)
 | ((with_reducible refine aO ?_);first | (refine bh (fun (k : Nat)=>t.length - k) (fun (k : Nat)=>k <= t.length /\ bq (fD t R) t.length 0 = bq (fD t R) t.length k) (fun (k : Nat)=>[(1,.d (.fn 92 [] [.fp (.fs (cs.map i)) 0,.fp (.fs (R.map D.bool)) 0])),(9,.d (aS t)),(10,.d (i t.length)),(11,.d (i k))]) (fun (k : Nat)=>[]) (0) (by exact ⟨Nat.zero_le _,rfl⟩) ?_ (fun k C hI hC=>?_);(exact ⟨[],rfl,rfl,⟨rfl,rfl,(congrArg (D.int .i64) (by simp only [List.length_map])),(by first | exact congrArg (D.int .i64) (by omega) ),trivial⟩,trivial⟩);all_goals (conv=>whnf)))
 | ((with_reducible show C _ _);first | (refine hC (k + 1) _ _ ?_ (by omega) ?_;clear hC;rotate_left;(exact ⟨[],rfl,rfl,⟨rfl,rfl,rfl,(by first | exact congrArg (D.int .i64) (by omega) ),trivial⟩,trivial⟩);(exact ⟨by omega,hI.2.trans (eQ (by omega) (by assumption))⟩)))
 | (refine bf (by omega) ?_;conv=>whnf)
 | (refine ax (by omega) ?_;conv=>whnf)
 | ((with_reducible refine ak ?_);(refine aa (af (xs:=[_,_,_,_]) (Vd t R cs k (by omega) hR hCs hc) _) ?_);conv=>whnf)
 | ((with_reducible refine ag ?_);first | (exact dy (mV (hI.2.trans (dU (by omega) h)));done) | (exact dy (mV (hI.2.trans (br (by omega))));done))
  | fail
  )
end
section
set_option maxRecDepth 10000
attribute [local irreducible] bn
set_option maxHeartbeats 2000000
open Paths
attribute [local irreducible] am cut normal bp aF text aj glue bi ar
def qj (t : List aM) : Int:=aI [if decide (0 < ((t.map aM.enc).length : Int)) = true then 0 else 10,if decide (((t.map aM.enc).length : Int) <= 40) = true then 0 else 8]
theorem LD (t : List aM) : Fn 29 [.fs [i (if decide (0 < ((t.map aM.enc).length : Int)) = true then 0 else 10),i (if decide (((t.map aM.enc).length : Int) <= 40) = true then 0 else 8)]] (i (qj t)):=Cw [_,_] (by decide : 2 < 2000000)
theorem K0 (t : List aM) : qj t = if t.length = 0 then 10 else if 40 < t.length then 8 else 0:=by
 unfold qj
 rw [List.length_map]
 by_cases h : t.length = 0
 ·rw [if_pos h,h];simp [aI]
 ·by_cases h2 : 40 < t.length
  ·rw [if_neg h,if_pos h2,decide_eq_true (by omega),decide_eq_false (by omega)];simp [aI]
  ·rw [if_neg h,if_neg h2,decide_eq_true (by omega),decide_eq_true (by omega)];simp [aI]
theorem OJ {t : List aM} (h : ¬ qj t = 0) : aW t = (0,qj t):=by
 rw [K0] at *
 by_cases h1 : t.length = 0
 ·rw [if_pos h1,KG h1]
 ·by_cases h2 : 40 < t.length
  ·rw [if_neg h1,if_pos h2,KH h2]
  ·rw [if_neg h1,if_neg h2] at h;exact absurd rfl h
theorem xn {t : List aM} (h : qj t = 0) : 0 < t.length /\ t.length <= 40:=by
 rw [K0] at h
 by_cases h1 : t.length = 0
 ·rw [if_pos h1] at h;exact absurd h (by decide)
 ·by_cases h2 : 40 < t.length
  ·rw [if_neg h1,if_pos h2] at h;exact absurd h (by decide)
  ·omega
theorem OF {t : List aM} (h : qj t = 0) (h2 : ¬ (bq (ed t) t.length 0).2 = 0) : aW t = ((bq (ed t) t.length 0).1,(bq (ed t) t.length 0).2):=by
 have:=xn h
 unfold aW
 rw [if_neg (by omega),if_neg (by omega),if_neg h2]
theorem OI {t : List aM} (h : qj t = 0) (h2 : (bq (ed t) t.length 0).2 = 0) : aW t = ((bq (fD t (fm t 0)) t.length 0).1,(bq (fD t (fm t 0)) t.length 0).2):=by
 have:=xn h
 unfold aW
 rw [if_neg (by omega),if_neg (by omega),if_pos h2]
theorem O1 {t : List aM} (h : (bq (ed t) t.length 0).2 = 0) : cM t:=wX fun j hj=>gr t.length 0 rfl h j (Nat.zero_le _) hj
theorem Kh {H : ae} {a b id k1 k2 k3 n : Nat} {c : Option Nat} {cs : List Int} {R : List D} (ha : H[a]? = some ⟨[.sl id 0 n 1 c],k1,0⟩) (hi : H[id]? = some ⟨b9 cs,k2,0⟩) (hn : n = cs.length) (hb : H[b]? = some ⟨[.d (.fs R)],k3,0⟩) : bl 8 H (.fn 92 [] [.ptr a 0 0,.ptr b 0 0]) = some (.fn 92 [] [.fp (.fs (cs.map i)) 0,.fp (.fs R) 0]):=by
 have h1 : bl 7 H (.ptr a 0 0) = some (.fp (.fs (cs.map i)) 0):=ma (n:=6) ha Nat.two_pos rfl (iu (n:=4) (f:=i) hn hi (by decide))
 have h2 : bl 7 H (.ptr b 0 0) = some (.fp (.fs R) 0):=ma (n:=6) hb Nat.two_pos rfl rfl
 show (match vl (bl 7 H) [] with
  | some a'=>match vl (bl 7 H) [.ptr a 0 0,.ptr b 0 0] with
   | some c=>some (D.fn 92 a' c)
   | none=>none
  | none=>none) = _
 rw [show vl (bl 7 H) [.ptr a 0 0,.ptr b 0 0] = some [.fp (.fs (cs.map i)) 0,.fp (.fs R) 0] from aK h1 (aK h2 bM)]
 rfl
theorem HO {l : List Int} {n m : Nat} {v : Int} {K : List AV -> Prop} (e : n = m) (k : K (b9 (l.set m v))) : fb (b9 l) n (.d (i v)) K:=by
 subst e
 refine rC ?_
 have : (b9 l).set n (.d (i v)) = b9 (l.set n v):=by simp [b9,List.map_set]
 rw [this];exact k
theorem OL {t : List aM} {k m n : Nat} (hE : ∀ x ∈ t,x.ents.length < 2000000) (hl : t.length <= 40) (hk : k < t.length) (hm : m < t[k].ents.length) (h : n < (dQ t k m).length) : 0 <= (dQ t k m)[n] /\ (dQ t k m)[n] <= 82000000:=by
 have h1:=hE _ (List.getElem_mem hk)
 have h2:=IU (j:=n) (k:=k) (m:=m) hE (by omega)
 rw [iY h];omega
theorem HS {t : List aM} {k m n : Nat} {v : Int} (hk : k < t.length) (hm : m < t[k].ents.length) (hn : t[k].ents[m].node = (n : Int)) (h : n < (dQ t k m).length) (hv : v = (dQ t k m)[n] + 1) : b9 ((dQ t k m).set n v) = b9 (dQ t k (m + 1)):=by
 rw [Ec hk hm hn (by rw [hv,iY h])]
theorem p6 {t : List aM} (hG : cM t) {k m : Nat} (hk : k < t.length) (hm : m < t[k].ents.length) : t[k].ents[m].node.toNat < (dQ t k m).length /\ 1 <= t[k].ents[m].node /\ t[k].ents[m].node <= (t.length : Int) - 1 /\ t[k].ents[m].node = ((t[k].ents[m].node.toNat : Nat) : Int):=by
 have:=rq hG hk hm
 rw [gA];omega
attribute [local irreducible] qj ia bq ed fD aW fm dv aX cM eX im g8 dh ur oD dc dQ
theorem SS (t : List aM) (B : Tb t) (hp : ¬ qj t = 0) : Fn 48 [aS t] (.tup [i (aW t).1,i (aW t).2]):=by
 refine ac aZ Tryz.func48 rfl (by kernel_rfl) ?_
 conv=>whnf
 repeat' (first
 | ((with_reducible refine co (by assumption) ?_);conv=>whnf)
 | ((with_reducible refine ak ?_);(first | refine aa (af (xs:=[_,_]) (F4 _) _) ?_ | refine aa (ah (LD t) rfl (aK rfl bM)) ?_ );conv=>whnf)
 | (refine ⟨[],[(4,3)],(by decide +kernel),?_⟩;conv=>whnf)
 | ((with_reducible refine ag ?_);first | (exact dy (mV (OJ hp));done))
 | (refine ⟨rfl,?_⟩;conv=>whnf)
  | fail
  )
theorem SQ (t : List aM) (B : Tb t) (hp : qj t = 0) (hn : ¬ (bq (ed t) t.length 0).2 = 0) : Fn 48 [aS t] (.tup [i (aW t).1,i (aW t).2]):=by
 refine ac aZ Tryz.func48 rfl (by kernel_rfl) ?_
 conv=>whnf
 repeat' (first
 | ((with_reducible refine cY (by first | assumption ) ?_);conv=>whnf)
 | ((with_reducible refine co (by assumption) ?_);conv=>whnf)
 | ((with_reducible refine ak ?_);(first | refine aa (af (xs:=[_,_]) (F4 _) _) ?_ | refine aa (ah (LD t) rfl (aK rfl bM)) ?_ | refine aa (ah (Oz t B) rfl (aK rfl (aK rfl bM))) ?_ );conv=>whnf)
 | (refine ⟨[],[(4,3)],(by decide +kernel),?_⟩;conv=>whnf)
 | ((with_reducible refine ag ?_);first | (exact dy (mV (OF hp hn));done))
 | (refine ⟨rfl,?_⟩;conv=>whnf)
  | fail
  )
theorem SR (t : List aM) (B : Tb t) (hp : qj t = 0) (hn : (bq (ed t) t.length 0).2 = 0) : Fn 48 [aS t] (.tup [i (aW t).1,i (aW t).2]):=by
 have hl:=xn hp;have hG:=O1 hn;have hE:=B.el
 refine ac aZ Tryz.func48 rfl (by kernel_rfl) ?_
 conv=>whnf
 repeat' (first
 | ((with_reducible refine cY (by first | assumption ) ?_);conv=>whnf)
 | ((with_reducible refine aB (fun h=>?_) (fun h=>?_))<;>(try simp only [List.length_map] at h)<;>conv=>whnf)
 | ((with_reducible refine ak ?_);(first | refine aa (af (xs:=[_,_]) (F4 _) _) ?_ | refine aa (ah (LD t) rfl (aK rfl bM)) ?_ | refine aa (ah (Oz t B) rfl (aK rfl (aK rfl bM))) ?_ | refine aa (ah (S6 t B (fm t 0) (dQ t k 0) (kJ t 0) (gA t k 0) (fun j h=>Gm (by omega) h)) rfl (aK rfl (aK (Kh rfl rfl (gA t k 0).symm rfl) bM))) ?_ | refine aa (af (xs:=[_,_]) (Vc t 0 hG (by omega) (by omega) B.el) _) ?_);conv=>whnf)
 | (refine ⟨[],[(4,3)],(by decide +kernel),?_⟩;conv=>whnf)
 | ((with_reducible refine aO ?_);first | (refine bh (fun (m : Nat)=>(t[k]'(by omega)).ents.length - m) (fun (m : Nat)=>m <= (t[k]'(by omega)).ents.length) (fun (m : Nat)=>[(1,.ptr 0 0 0),(7,.ptr 2 0 0),(39,.d (aS t)),(40,.d (i t.length)),(41,.d (i k)),(46,.d (.fs ((t[k]'(by omega)).ents.map bm.enc))),(47,.d (i (t[k]'(by omega)).ents.length)),(48,.d (i m))]) (fun (m : Nat)=>[⟨[.d (aS t)],1,0⟩,⟨b9 (dQ t k m),1,0⟩,⟨[.sl 1 0 t.length 1 (some t.length)],1,0⟩]) (0) (by exact Nat.zero_le _) ?_ (fun m Cm hIm hCm=>?_);(exact ⟨[.old 0,.old 1,.old 2],rfl,rfl,⟨⟨rfl,rfl,rfl⟩,⟨rfl,rfl,rfl⟩,rfl,rfl,rfl,rfl,(congrArg (D.int .i64) (by simp only [List.length_map])),(by first | exact congrArg (D.int .i64) (by omega) ),trivial⟩,⟨⟨rfl,rfl,.inl ⟨[_],rfl,rfl⟩⟩,⟨rfl,rfl,.inl ⟨_,rfl,rfl⟩⟩,⟨rfl,rfl,.inr ⟨⟨rfl,rfl,rfl,rfl,rfl⟩,trivial⟩⟩,trivial⟩⟩);all_goals (conv=>whnf)) | (refine bh (fun (k : Nat)=>t.length - k) (fun (k : Nat)=>k <= t.length) (fun (k : Nat)=>[(1,.ptr 0 0 0),(7,.ptr 2 0 0),(39,.d (aS t)),(40,.d (i t.length)),(41,.d (i k))]) (fun (k : Nat)=>[⟨[.d (aS t)],1,0⟩,⟨b9 (dQ t k 0),1,0⟩,⟨[.sl 1 0 t.length 1 (some t.length)],1,0⟩]) (0) (by exact Nat.zero_le _) ?_ (fun k C hI hC=>?_);(exact ⟨[.old 0,.old 2,.old 3],rfl,rfl,⟨⟨rfl,rfl,rfl⟩,⟨rfl,rfl,rfl⟩,rfl,(congrArg (D.int .i64) (by simp only [List.length_map])),(by first | exact congrArg (D.int .i64) (by omega) ),trivial⟩,⟨⟨rfl,rfl,.inl ⟨[_],rfl,rfl⟩⟩,⟨rfl,rfl,.inl ⟨_,rfl,(by rw [LP])⟩⟩,⟨rfl,rfl,.inr ⟨⟨rfl,rfl,(by simp),rfl,(by simp)⟩,trivial⟩⟩,trivial⟩⟩);all_goals (conv=>whnf)))
 | ((with_reducible show C _ _);first | (refine hC (k + 1) _ _ ?_ (by omega) ?_;clear hC;rotate_left;(exact ⟨[.old 0,.old 1,.old 2],rfl,rfl,⟨⟨rfl,rfl,rfl⟩,⟨rfl,rfl,rfl⟩,rfl,rfl,(by first | exact congrArg (D.int .i64) (by omega) ),trivial⟩,⟨⟨rfl,rfl,.inl ⟨[_],rfl,rfl⟩⟩,⟨rfl,rfl,.inl ⟨_,rfl,(congrArg b9 (Eb (by omega) (by omega)).symm)⟩⟩,⟨rfl,rfl,.inr ⟨⟨rfl,rfl,rfl,rfl,rfl⟩,trivial⟩⟩,trivial⟩⟩);(exact (by omega : k + 1 <= t.length))))
 | ((with_reducible show Cm _ _);first | (refine hCm (m + 1) _ _ ?_ (by omega) ?_;clear hCm;rotate_left;(exact ⟨[.old 0,.old 1,.old 2],rfl,rfl,⟨⟨rfl,rfl,rfl⟩,⟨rfl,rfl,rfl⟩,rfl,rfl,rfl,rfl,rfl,(by first | exact congrArg (D.int .i64) (by omega) ),trivial⟩,⟨⟨rfl,rfl,.inl ⟨[_],rfl,rfl⟩⟩,⟨rfl,rfl,.inl ⟨_,rfl,(HS (by omega) (by omega) (p6 hG (by omega) (by omega)).2.2.2 (p6 hG (by omega) (by omega)).1 rfl).symm⟩⟩,⟨rfl,rfl,.inr ⟨⟨rfl,rfl,rfl,rfl,rfl⟩,trivial⟩⟩,trivial⟩⟩);(exact (by omega : m + 1 <= (t[k]'(by omega)).ents.length))))
 | (refine bf (by omega) ?_;conv=>whnf)
 | (refine ax (by omega) ?_;conv=>whnf)
 | (refine Jw (n:=t.length) (by rw [List.length_map];refine ⟨by omega,Int.le_refl _,by omega,?_⟩;show (t.length : Int) * ((8 : Nat) : Int) <= _;omega) (by rw [List.length_map]) ?_;conv=>whnf)
 | (refine JN (l:=dQ t k m) (m:=((t[k]'(by omega)).ents[m]'(by omega)).node.toNat) ?_ ?_ ?_;(focus omega);(focus (exact (p6 hG (by omega) (by omega)).1));conv=>whnf)
 | (refine HO (l:=dQ t k m) (m:=((t[k]'(by omega)).ents[m]'(by omega)).node.toNat) ?_ ?_;(focus omega);conv=>whnf)
 | (refine ⟨⟨by have hgk:=p6 hG (k:=k) (m:=m) (by omega) (by omega);omega,by have hgk:=p6 hG (k:=k) (m:=m) (by omega) (by omega);(try simp only [List.length_map]);omega⟩,?_⟩;conv=>whnf)
 | (refine ax (by have:=OL (n:=((t[k]'(by omega)).ents[m]'(by omega)).node.toNat) hE (by omega) (by omega) (by omega) (p6 hG (by omega) (by omega)).1;omega) ?_;conv=>whnf)
 | (refine ax (by have:=hE _ (List.getElem_mem (by omega : k < t.length));omega) ?_;conv=>whnf)
 | ((with_reducible refine ag ?_);first | (exact dy (mV (OI hp hn));done))
 | (refine ⟨rfl,?_⟩;conv=>whnf)
  | fail
  )
theorem T6 (t : List aM) (B : Tb t) : Fn 48 [aS t] (.tup [i (aW t).1,i (aW t).2]):=by
 by_cases hp : qj t = 0
 ·by_cases hn : (bq (ed t) t.length 0).2 = 0
  ·exact SR t B hp hn
  ·exact SQ t B hp hn
 ·exact SS t B hp
end
section
set_option maxRecDepth 10000
attribute [local irreducible] bn
set_option maxHeartbeats 2000000
open Paths
attribute [local irreducible] am cut normal bp aF text aj glue bi ar
def Hb (t : List aM) (d : Int) (s : Bs) : Int:=
 if (aW t).2 ≠ 0 then (aW t).2 else if ar d 0 ((t.length : Int) - 1) = false then 6 else match t[d.toNat]? with
 | none=>6
 | some x=>if x.kind ≠ 0 then 35 else if am s ≠ 0 then am s else if bX x.ents s < 0 then 6 else 0
section
variable {t : List aM} {d : Int} {s : Bs} (h : (aW t).2 = 0) (h2 : ar d 0 ((t.length : Int) - 1) = true) {x : aM} (hx : t[d.toNat]? = some x)
include h h2 hx
end
attribute [local irreducible] aW Hb bX
theorem TW (t : List aM) (B : Tb t) : Fn 24 [aS t] (i (aW t).2):=by
 refine ac aZ Tryz.func24 rfl (by kernel_rfl) ?_
 conv=>whnf
 repeat' (first
 | ((with_reducible refine ak ?_);(first | refine aa (af (xs:=[_]) (T6 t B) _) ?_);conv=>whnf)
 | ((with_reducible refine ag ?_);first | (exact aD rfl;done))
  | fail
  )
def EC (p : Int -> Bool) : List Int -> Nat -> Int
 | [],_=>-1
 | e :: l,k=>if p e = true then k else EC p l (k + 1)
theorem Pv {p : Int -> Bool} {l : List Int} {k : Nat} (hk : k < l.length) (h : p l[k] = true) : EC p (l.drop k) k = (k : Int):=by rw [List.drop_eq_getElem_cons hk];exact if_pos h
theorem O9 {p : Int -> Bool} {l : List Int} {k : Nat} (hk : k < l.length) (h : p l[k] = false) : EC p (l.drop k) k = EC p (l.drop (k + 1)) (k + 1):=by rw [List.drop_eq_getElem_cons hk];exact if_neg (by rw [h];decide)
theorem Jl {p : Int -> Bool} {l : List Int} {k : Nat} (hk : l.length <= k) : EC p (l.drop k) k = -1:=by rw [List.drop_eq_nil_of_le hk];rfl
theorem C5 {p : Int -> Bool} : ∀ (l : List Int) (k : Nat),decide (0 <= EC p l k) = l.any p
 | [],k=>by simp [EC]
 | e :: l,k=>by
  have e1 : EC p (e :: l) k = if p e = true then (k : Int) else EC p l (k + 1):=rfl
  rw [List.any_cons]
  by_cases h : p e = true
  ·rw [if_pos h] at e1;rw [e1,h,Bool.true_or];exact decide_eq_true (by omega)
  ·rw [if_neg h] at e1;rw [e1,show p e = false by simpa using h,Bool.false_or];exact C5 l (k + 1)
def Ir (t : List aM) (n : Int) : Bool:=!ar n 0 ((t.length : Int) - 1)
attribute [local irreducible] EC
theorem UR (t : List aM) (B : Tb t) (n : Int) : Fn 59 [i n,.fp (aS t) 0] (.bool (Ir t n)):=by
 have hbt:=B.tl
 refine ac aZ Tryz.func59 rfl (by kernel_rfl) ?_
 conv=>whnf
 repeat' (first
 | ((with_reducible refine ak ?_);(first | refine aa (af (xs:=[_,_,_]) (QF n 0 _) _) ?_);conv=>whnf)
 | (refine ax (by first | (simp only [List.length_map];omega)) ?_;conv=>whnf)
 | ((with_reducible refine ag ?_);first | (exact aD (congrArg D.bool (by unfold Ir;rw [List.length_map]));done))
  | fail
  )
theorem QW (t : List aM) (B : Tb t) (l : List Int) (hl : l.length < 2000000) : Fn 120 [.fs (l.map i),.fn 59 [] [.fp (aS t) 0]] (i (EC (Ir t) l 0)):=by
 refine ac aZ Tryz.func120 rfl (by kernel_rfl) ?_
 conv=>whnf
 repeat' (first
 | ((with_reducible refine aB (fun h=>?_) (fun h=>?_))<;>(try simp only [List.length_map] at h)<;>conv=>whnf)
 | ((with_reducible refine ao (fun h=>?_) (fun h=>?_))<;>conv=>whnf)
 | ((with_reducible refine aO ?_);first | (refine bh (fun (k : Nat)=>l.length - k) (fun (k : Nat)=>k <= l.length /\ EC (Ir t) l 0 = EC (Ir t) (l.drop k) k) (fun (k : Nat)=>[(0,.d (.fs (l.map i))),(1,.d (.fn 59 [] [.fp (aS t) 0])),(7,.d (i l.length)),(8,.d (i k))]) (fun (k : Nat)=>[]) (0) (by exact ⟨Nat.zero_le _,rfl⟩) ?_ (fun k C hI hC=>?_);(exact ⟨[],rfl,rfl,⟨rfl,rfl,(congrArg (D.int .i64) (by simp only [List.length_map])),(by first | exact congrArg (D.int .i64) (by omega) ),trivial⟩,trivial⟩);all_goals (conv=>whnf)))
 | ((with_reducible show C _ _);first | (refine hC (k + 1) _ _ ?_ (by omega) ?_;clear hC;rotate_left;(exact ⟨[],rfl,rfl,⟨rfl,rfl,rfl,(by first | exact congrArg (D.int .i64) (by omega) ),trivial⟩,trivial⟩);(exact ⟨by omega,hI.2.trans (O9 (by omega) (by assumption))⟩)))
 | (refine bf (by omega) ?_;conv=>whnf)
 | (refine ax (by omega) ?_;conv=>whnf)
 | ((with_reducible refine ak ?_);(refine aa (af (xs:=[_,_]) (UR t B (l[k]'(by omega))) _) ?_);conv=>whnf)
 | ((with_reducible refine ag ?_);first | (exact aD (congrArg i (hI.2.trans (Pv (by omega) (by assumption))).symm);done) | (exact aD (congrArg i (hI.2.trans (Jl (by omega))).symm);done))
  | fail
  )
theorem US (t : List aM) (B : Tb t) (l : List Int) (hl : l.length < 2000000) : Fn 61 [.fs (l.map i),.fn 59 [] [.fp (aS t) 0]] (.bool (l.any (Ir t))):=by
 refine ac aZ Tryz.func61 rfl (by kernel_rfl) ?_
 conv=>whnf
 repeat' (first
 | ((with_reducible refine ak ?_);(first | refine aa (af (xs:=[_,_]) (QW t B l hl) _) ?_);conv=>whnf)
 | ((with_reducible refine ag ?_);first | (exact aD (congrArg D.bool (C5 l 0));done))
  | fail
  )
theorem UC (t : List aM) (B : Tb t) (l : List Int) (hl : l.length < 2000000) : Fn 30 [aS t,.fs (l.map i)] (i (if (!l.any (Ir t)) = true then 0 else 6)):=by
 refine ac aZ Tryz.func30 rfl (by kernel_rfl) ?_
 conv=>whnf
 repeat' (first
 | ((with_reducible refine ak ?_);(first | refine aa (ah (US t B l hl) rfl (aK rfl (aK rfl bM))) ?_ | refine aa (af (xs:=[_,_]) (F4 _) _) ?_);conv=>whnf)
 | ((with_reducible refine ag ?_);first | (exact aD rfl;done))
  | fail
  )
end
section
set_option maxRecDepth 10000
attribute [local irreducible] bn
set_option maxHeartbeats 2000000
open Paths
attribute [local irreducible] am cut normal bp aF text aj glue bi ar
theorem CJ {len : Int} {l : List bm} : ∀ (n k : Nat),n = l.length - k -> dc len l n k = 0 -> ∀ j (h : j < l.length),k <= j -> am l[j].name = 0
 | 0,k,hn,_,j,h,hk=>by omega
 | n + 1,k,hn,he,j,h,hk=>by
  have hkl : k < l.length:=by omega
  rw [fC hkl hn] at he
  by_cases e : iB len (l.take k) l[k] = 0
  ·rw [if_neg (by simpa using e)] at he
   by_cases hj : j = k
   ·subst hj;exact CG e
   ·exact CJ (l.length - (k + 1)) (k + 1) rfl he j h (by omega)
  ·rw [if_pos e] at he;exact absurd he e
theorem Mk {t : List aM} {d : Int} {x : aM} (h : dv t d x = 0) : ∀ e ∈ x.ents,am e.name = 0:=by
 unfold dv at h
 split at h
 ·exact absurd h (by decide)
 ·split at h
  ·exact absurd h (by decide)
  ·split at h
   ·exact absurd h (by decide)
   ·split at h
    ·rename_i h1;exact absurd h h1
    ·rename_i h1
     intro e he
     obtain ⟨j,hj,rfl⟩:=List.getElem_of_mem he
     exact CJ _ 0 rfl (Classical.not_not.1 h1) j hj (Nat.zero_le _)
theorem ot {t : List aM} (h : (aW t).2 = 0) : 0 < t.length /\ t.length <= 40 /\ ∀ j,j < t.length -> ed t j = 0:=by
 unfold aW at h
 by_cases h1 : t.length = 0
 ·rw [if_pos h1] at h;exact absurd h (by decide)
 ·by_cases h2 : 40 < t.length
  ·rw [if_neg h1,if_pos h2] at h;exact absurd h (by decide)
  ·rw [if_neg h1,if_neg h2] at h
   by_cases h3 : (bq (ed t) t.length 0).2 = 0
   ·exact ⟨by omega,by omega,fun j hj=>gr t.length 0 rfl h3 j (Nat.zero_le _) hj⟩
   ·rw [if_neg h3] at h;exact absurd h h3
theorem Gi {t : List aM} (h : (aW t).2 = 0) {d : Nat} {x : aM} (hx : t[d]? = some x) : ∀ e ∈ x.ents,am e.name = 0:=by
 obtain ⟨hd,rfl⟩:=List.getElem?_eq_some_iff.1 hx
 have:=(ot h).2.2 d hd
 rw [kt hd] at this
 exact Mk this
theorem Df {s : Bs} (hs : am s = 0) : ∀ (l : List bm) (k : Nat),(∀ e ∈ l,am e.name = 0) -> xc (fun y=>dh y.name s) l k = iH l s k
 | [],k,_=>rfl
 | e :: l,k,h=>by
  have ih:=Df hs l (k + 1) fun y hy=>h y (by simp [hy])
  have e1 : xc (fun y=>dh y.name s) (e :: l) k = if dh e.name s = true then (k : Int) else xc (fun y=>dh y.name s) l (k + 1):=rfl
  have e2 : iH (e :: l) s k = if bi e.name = bi s then (k : Int) else iH l s (k + 1):=rfl
  rw [e1,e2,ih,pm (h e (by simp)) hs]
  simp only [decide_eq_true_eq]
theorem Dd {s : Bs} : ∀ (l : List bm) (k : Nat),¬ iH l s k < 0 -> (k : Int) <= iH l s k /\ iH l s k < k + l.length
 | [],k,h=>by simp [iH] at h
 | e :: l,k,h=>by
  have e2 : iH (e :: l) s k = if bi e.name = bi s then (k : Int) else iH l s (k + 1):=rfl
  rw [e2] at h ⊢
  split
  ·simp only [List.length_cons];omega
  ·rename_i h1
   rw [if_neg h1] at h
   have:=Dd l (k + 1) h
   simp only [List.length_cons];omega
theorem De {l : List bm} {s : Bs} (h : ¬ bX l s < 0) : 0 <= bX l s /\ (bX l s).toNat < l.length:=by
 have:=Dd l 0 h
 unfold bX at *
 omega
def qV (l : List bm) (s : Bs) : bm:=(l[(bX l s).toNat]?).getD ⟨[],0⟩
theorem CH {l : List bm} {s : Bs} (h : (bX l s).toNat < l.length) : qV l s = l[(bX l s).toNat]:=by unfold qV;rw [List.getElem?_eq_getElem h];rfl
theorem Kx (l : List bm) (s : Bs) (hs : s.length < 2000000) (hl : l.length < 2000000) (hb : ∀ y ∈ l,y.name.length < 2000000) (hv : ∀ e ∈ l,am e.name = 0) (h : am s = 0) : Fn 161 [.fs (l.map bm.enc),.fn 162 [] [.fp (.str s) 0]] (i (bX l s)):=by
 have:=NJ l s hs hl hb
 rwa [Df h l 0 hv] at this
theorem Hd {l : List bm} {s : Bs} {K : D -> Prop} (h : ¬ bX l s < 0) (k : K (qV l s).enc) : 0 <= bX l s /\ cX (l.map bm.enc) (bX l s).toNat K:=by
 obtain ⟨h0,h1⟩:=De h
 rw [CH h1] at k
 exact ⟨h0,cj (x:=bm.enc l[(bX l s).toNat]) (by simp [h1]) k⟩
attribute [local irreducible] aW Hb bX qV Ir
theorem Td (t : List aM) (B : Tb t) (d : Int) (s : Bs) (hs : s.length < 2000000) (x : aM) (hx : t[d.toNat]? = some x) (h0 : 0 <= d) (hv : ∀ e ∈ x.ents,am e.name = 0) (hn : am s = 0) (hf : bX x.ents s < 0) : Fn 93 [aS t,i d,.str s] (.tup [bm.enc ⟨[],0⟩,.bool false]):=by
 refine ac aZ Tryz.func93 rfl (by kernel_rfl) ?_
 conv=>whnf
 repeat' (first
 | ((with_reducible refine bP (by assumption) ?_);conv=>whnf)
 | ((with_reducible refine ak ?_);(first | refine aa (ah (Kx x.ents s hs (B.el _ (List.mem_of_getElem? hx)) (B.nl _ (List.mem_of_getElem? hx)) hv hn) rfl (aK rfl (aK rfl bM))) ?_);conv=>whnf)
 | (refine gD h0 hx ?_;conv=>whnf)
 | ((with_reducible refine ag ?_);first | (exact aP (aY (aK (be (aK rfl (aK rfl bM))) (aK rfl bM))) rfl;done) )
  | fail
  )
theorem Tc (t : List aM) (B : Tb t) (d : Int) (s : Bs) (hs : s.length < 2000000) (x : aM) (hx : t[d.toNat]? = some x) (h0 : 0 <= d) (hv : ∀ e ∈ x.ents,am e.name = 0) (hn : am s = 0) (hf : ¬ bX x.ents s < 0) : Fn 93 [aS t,i d,.str s] (.tup [(qV x.ents s).enc,.bool true]):=by
 refine ac aZ Tryz.func93 rfl (by kernel_rfl) ?_
 conv=>whnf
 repeat' (first
 | ((with_reducible refine aJ (by assumption) ?_);conv=>whnf)
 | ((with_reducible refine ak ?_);(first | refine aa (ah (Kx x.ents s hs (B.el _ (List.mem_of_getElem? hx)) (B.nl _ (List.mem_of_getElem? hx)) hv hn) rfl (aK rfl (aK rfl bM))) ?_);conv=>whnf)
 | (refine gD h0 hx ?_;conv=>whnf)
 | (refine Hd (by assumption) ?_;conv=>whnf)
 | ((with_reducible refine ag ?_);first | (exact dy rfl;done) )
  | fail
  )
def QG (t : List aM) (d : Int) : Int:=if (![d].any (Ir t)) = true then 0 else 6
theorem Sr {t : List aM} (B : Tb t) (d : Int) : Fn 30 [aS t,.fs [i d]] (i (QG t d)):=UC t B [d] (by simp)
theorem Sq {t : List aM} (B : Tb t) {d : Int} (h : ar d 0 ((t.length : Int) - 1) = true) : Fn 30 [aS t,.fs [i d]] (i 0):=by
 have:=Sr B d
 have e : QG t d = 0:=by unfold QG Ir;simp [h]
 rwa [e] at this
theorem LC {a b : Int} (h : ¬ a = 0) : Fn 29 [.fs [i a,i b]] (i a):=by
 have:=Cw [a,b] (by decide : 2 < 2000000)
 have e : aI [a,b] = a:=by simp [aI,h]
 rwa [e] at this
theorem F3 {b : Int} : Fn 29 [.fs [i 0,i b]] (i b):=by
 have:=Cw [0,b] (by decide : 2 < 2000000)
 have e : aI [0,b] = b:=by
  by_cases h : b = 0
  ·subst h;simp [aI]
  ·simp [aI,h]
 rwa [e] at this
theorem N7 {t : List aM} (B : Tb t) {c : Int} (h : (aW t).2 = c) : Fn 24 [aS t] (i c):=by subst h;exact TW t B
theorem IJ {p : Prop} {_ : Decidable p} (e : Int) (h : p) : Fn 39 [.bool (decide p),i e] (i 0):=by
 rw [decide_eq_true h];exact wn e
def PA (t : List aM) (d : Int) (s : Bs) : Int:=if Hb t d s = 0 then (qV ((t[d.toNat]?).getD ⟨0,[],[]⟩).ents s).node else 0
attribute [local irreducible] PA QG
end
section
set_option maxRecDepth 10000
attribute [local irreducible] bn
set_option maxHeartbeats 2000000
open Paths
attribute [local irreducible] am cut normal bp aF text aj glue bi ar
theorem B1 {f : AV -> Option D} : ∀ {l : List AV} {r : List D},l.length = r.length -> (∀ (j : Nat) (a : AV) (x : D),l[j]? = some a -> r[j]? = some x -> f a = some x) -> vl f l = some r
 | [],[],_,_=>rfl
 | [],_ :: _,h,_=>by simp at h
 | _ :: _,[],h,_=>by simp at h
 | a :: l,x :: r,h,hf=>by
  have h1:=hf 0 a x rfl rfl
  have h2:=B1 (l:=l) (r:=r) (by simpa using h) fun j a x ha hx=>hf (j + 1) a x (by simpa using ha) (by simpa using hx)
  exact aK h1 h2
def M2 (x : aM) (q : Nat) : AV:=.agg [.d (i x.kind),.sl q 0 x.ents.length 2 none,.d (.str x.target)]
def DW (H : ae) (r : Nat) (e : Option AV) (x : aM) : Prop:=∃ q,e = some (M2 x q) /\ H[q]? = some ⟨(x.ents.map bm.enc).map .d,2,0⟩ /\ q ≠ r
def QI (t : List aM) (H : ae) (k : Nat) (cv : AV) : Prop:=(k = 0 /\ cv = .nilS) \/ ∃ (r : Nat) (Es : List AV),cv = .sl r 0 k 3 none /\ H[r]? = some ⟨Es,3,0⟩ /\ Es.length = k /\ ∀ j x,j < k -> t[j]? = some x -> DW H r Es[j]? x
theorem CB {t : List aM} {H H' : ae} {k r id r' : Nat} {Es Fs : List AV} (h : ∀ j x,j < k -> t[j]? = some x -> DW H r Es[j]? x) (hk : k < t.length) (hr : H'[r']? = some ⟨Fs,3,0⟩) (hl : Fs.length = k + 1) (hE : ∀ j,j < k -> Fs[j]? = Es[j]?) (he : Fs[k]? = some (M2 t[k] id)) (hid : H'[id]? = some ⟨(t[k].ents.map bm.enc).map .d,2,0⟩) (hne : id ≠ r') (hm : H.length <= r') (hf : ∀ q,q ≠ r -> q < H.length -> H'[q]? = H[q]?) : QI t H' (k + 1) (.sl r' 0 (k + 1) 3 none):=by
 refine .inr ⟨r', Fs, rfl, hr, hl, fun j x hj hx => ?_⟩
 by_cases e : j < k
 ·obtain ⟨q,h1,h2,h3⟩:=h j x e hx
  have hq : q < H.length:=(List.getElem?_eq_some_iff.1 h2).1
  exact ⟨q,by rw [hE j e];exact h1,by rw [hf q h3 hq];exact h2,by omega⟩
 ·have : j = k:=by omega
  subst this
  rw [List.getElem?_eq_getElem hk] at hx
  cases hx
  exact ⟨id,he,hid,hne⟩
theorem CC {t : List aM} {H : ae} {k : Nat} {cv : AV} (h : QI t H k cv) (hk : k = t.length) : bl 8 H cv = some (aS t):=by
 subst hk
 rcases h with ⟨h0,rfl⟩ | ⟨r,Es,rfl,hr,hl,hN⟩
 ·have : t = []:=List.length_eq_zero_iff.1 h0
  subst this;rfl
 ·have hv : vl (bl 7 H) Es = some (t.map aM.enc):=by
   refine B1 (by rw [hl,List.length_map]) fun j a x ha hx=>?_
   rw [List.getElem?_map] at hx
   cases ht : t[j]? with
   | none=>rw [ht] at hx;simp at hx
   | some y=>
    rw [ht] at hx
    simp only [Option.map_some,Option.some.injEq] at hx
    subst hx
    obtain ⟨q,h1,h2,_⟩:=hN j y (List.getElem?_eq_some_iff.1 ht).1 ht
    rw [ha] at h1
    cases h1
    exact be (aK rfl (aK (ca (n:=4) (f:=bm.enc) h2 Nat.two_pos) (aK rfl bM)))
  show (match H[r]? with
   | some o=>if o.st < 2 then (if 0 + t.length <= o.elems.length then (vl (bl 7 H) ((o.elems.drop 0).take t.length)).map D.fs else none) else none
   | none=>none) = _
  simp only [hr]
  rw [if_pos (by decide),if_pos (by omega),List.drop_zero,List.take_of_length_le (by omega),hv];rfl
theorem KI {l : List AV} {x : aM} {q n k : Nat} (h : l.length = k) (hn : n = x.ents.length) : (l ++ [.agg [.d (i x.kind),.sl q 0 n 2 none,.d (.str x.target)]])[k]? = some (M2 x q):=by
 subst h;subst hn;simp [M2]
theorem Gr {x : aM} {q n k : Nat} (h : k = 0) (hn : n = x.ents.length) : ([.agg [.d (i x.kind),.sl q 0 n 2 none,.d (.str x.target)]] : List AV)[k]? = some (M2 x q):=by
 subst h;subst hn;rfl
theorem AT {l l' : List AV} {k j : Nat} (h : l.length = k) (hj : j < k) : (l ++ l')[j]? = l[j]?:=List.getElem?_append_left (by omega)
attribute [local irreducible] eR DW
theorem c9 (t : List aM) (B : Tb t) : Fn 9 [aS t] (aS t):=by
 have hbt:=B.tl;have hbe:=B.el
 refine ac aZ Tryz.func9 rfl (by kernel_rfl) ?_
 conv=>whnf
 repeat' (first
 | ((with_reducible refine aJ ?_ ?_);(focus ((try simp only [List.length_map,List.length_cons,List.length_nil,List.length_append]);omega));conv=>whnf)
 | ((with_reducible refine aB (fun h=>?_) (fun h=>?_))<;>(try simp only [List.length_map] at h)<;>conv=>whnf)
 | (refine ⟨[],[(5,12),(17,12)],(by decide +kernel),?_⟩;conv=>whnf)
 | ((with_reducible refine aO ?_);first | (apply Bw (fun (k : Nat) (cv : AV) (H : ae)=>t.length - k) (fun (k : Nat) (cv : AV) (H : ae)=>k <= t.length /\ QI t H k cv) (fun (k : Nat) (cv : AV) (H : ae)=>[(0,.d (aS t)),(3,cv),(4,.d (i k))]) (0) (.nilS) ([]);rotate_left;(focus (exact .inl ⟨rfl,⟨(by first | rfl ),(by first | rfl ),(by first | rfl ),trivial⟩⟩));rotate_left;(focus (exact ⟨Nat.zero_le _,.inl ⟨rfl,rfl⟩⟩));intro k cv H C hI hC;obtain ⟨hk,hI2⟩:=hI;rcases hI2 with ⟨hk0,rfl⟩ | ⟨r,Es,rfl,hr,hE,hN⟩;rotate_left;have hlr:=lM hr;rotate_left;all_goals (conv=>whnf)))
 | ((with_reducible show C _ _);first | (refine hC (k + 1) (.sl n 0 (k + 1) 3 none) _ _ ?_ (by omega) ?_;clear hC;rotate_left;(exact ⟨(by first | rfl ),(by subst hk0;rfl),(by first | rfl ),trivial⟩);(refine ⟨by omega,CB (Fs:=?_) (id:=?_) (H:=[]) (r:=0) (Es:=[]) (by intro j x hj;omega) (by omega) ?_ ?_ ?_ ?_ ?_ ?_ ?_ ?_⟩;rotate_left 2;(focus assumption);(focus (simp only [List.length_cons,List.length_nil];omega));(focus (intro j hj;omega));(focus (refine Gr (x:=t[k]'(by omega)) hk0 ?_;simp only [List.length_map]));(focus (repeat (first | assumption | refine bN (by assumption) (by omega) ?_ )));(focus omega);(focus exact Nat.zero_le _);(focus (intro q hq hlt;simp only [List.length_nil] at hlt;omega)))) | (refine hC (k + 1) (.sl n 0 (k + 1) 3 none) _ _ ?_ (by omega) ?_;clear hC;rotate_left;(exact ⟨(by first | rfl ),(by first | rfl ),(by first | rfl ),trivial⟩);(refine ⟨by omega,CB (Fs:=?_) (id:=?_) hN (by omega) ?_ ?_ ?_ ?_ ?_ ?_ ?_ ?_⟩;rotate_left 2;(focus assumption);(focus (simp only [List.length_append,List.length_cons,List.length_nil];omega));(focus (intro j hj;exact AT hE hj));(focus (refine KI (x:=t[k]'(by omega)) hE ?_;simp only [List.length_map]));(focus (repeat (first | assumption | refine bN (by assumption) (by omega) ?_ | refine b7 (by assumption) (by omega) ?_)));(focus omega);(focus omega);(focus (intro q hq hlt;(repeat (first | rfl | refine bN (by assumption) (by omega) ?_ | refine b7 (by assumption) (by omega) ?_)))))))
 | (refine ⟨(by intro y hy;obtain ⟨x,_,rfl⟩:=List.mem_map.1 hy;first | exact ⟨rfl,rfl⟩),?_⟩;conv=>whnf)
 | (refine bf (by omega) ?_;conv=>whnf)
 | (refine ax (by omega) ?_;conv=>whnf)
 | (refine L9 (fun n H hn hl hf ho=>?_);conv=>whnf)
 | (refine Mz (by omega) (fun H hl hf ho=>?_);conv=>whnf)
 | (refine Mm (x:=?_) ?_ ?_;rotate_left;(focus ((repeat (first | assumption | refine bN (by assumption) (by omega) ?_ ));done));conv=>whnf)
 | (refine ⟨Nat.le_refl _,?_⟩;conv=>whnf)
 | (refine ⟨⟨(by simp only [List.length_map,List.length_append];omega),cm (by have:=B.el _ (List.getElem_mem (by omega : k < t.length));simp only [List.length_map,List.length_cons,List.length_nil,List.length_append];omega) rfl⟩,?_⟩;conv=>whnf)
 | (refine ⟨cm (by have:=B.el _ (List.getElem_mem (by omega : k < t.length));simp only [List.length_map,List.length_cons,List.length_nil,List.length_append];omega) rfl,?_⟩;conv=>whnf)
 | ((with_reducible refine ag ?_);first | (exact aP (CC (by first | exact .inl ⟨hk0,rfl⟩ | exact .inr ⟨r,Es,rfl,hr,hE,hN⟩) (by omega)) rfl;done))
  | fail
  )
end
section
open Go Dw Paths
structure Fd where
 node : Int
 parent : Int
 name : Bs
 trail : List Int
def jy : Fd:=⟨0,0,[],[]⟩
def Fd.enc (x : Fd) (stream : Bs) (st : Int) : D:=.agg [i x.node,i x.parent,.str x.name,.str stream,i st,.fs (x.trail.map i)]
structure Fo where
 x : Fd
 e : Int
 st : Int
def ba (tr : List Int) : Int:=tr.getLastD 0
def aw (t : List aM) (n : Int) : aM:=(t[n.toNat]?).getD ⟨0,[],[]⟩
def fS : List bm -> Int -> Option Bs
 | [],_=>none
 | e :: l,n=>if e.node = n then some e.name else fS l n
def q0 : List aM -> Int -> Nat -> Int × Bs
 | [],_,_=>(-1,[])
 | x :: l,n,k=>match fS x.ents n with
  | some s=>((k : Int),s)
  | none=>q0 l n (k + 1)
def fJ (t : List aM) (n : Int) : Int × Bs:=q0 t n 0
def bz (t : List aM) (tr : List Int) (p : Bs) : bm:=qV (aw t (ba tr)).ents p
def di (t : List aM) (tr : List Int) (p : Bs) : PP:=(aj (aw t (bz t tr p).node).target).1
def yQ (t : List aM) (F : List Int -> List Bs -> Bool -> Int -> Option Fo) (tr : List Int) (p : Bs) (r : List Bs) (last : Bool) (st : Int) : Option Fo:=
 if 64 < r.length + 1 then some ⟨jy,25,st⟩
 else if p = [46] then F tr r last st
 else if p = [46,46] then F (if 1 < tr.length then tr.dropLast else tr) r last st
 else if bX (aw t (ba tr)).ents p < 0 then some ⟨⟨-1,ba tr,p,tr⟩,if r = [] then 0 else 6,st⟩
 else if (aw t (bz t tr p).node).kind = 0 then F (tr ++ [(bz t tr p).node]) r last st
 else if (aw t (bz t tr p).node).kind = 1 then some ⟨⟨(bz t tr p).node,ba tr,(bz t tr p).name,tr⟩,if r = [] then 0 else 35,st⟩
 else if r = [] /\ last = false then some ⟨⟨(bz t tr p).node,ba tr,(bz t tr p).name,tr⟩,0,st⟩
 else if 8 < st + 1 then some ⟨jy,25,st + 1⟩
 else if (aw t (bz t tr p).node).kind = 2 then F (if (di t tr p).abs = true then [0] else tr) ((di t tr p).parts ++ r) last (st + 1)
 else match F [0] (di t tr p).parts true (st + 1) with
  | none=>none
  | some o=>if o.e ≠ 0 then some ⟨jy,o.e,o.st⟩ else if o.x.node = -1 then some ⟨jy,6,o.st⟩ else if (aw t o.x.node).kind ≠ 0 then some ⟨jy,35,o.st⟩ else F (tr ++ [o.x.node]) r last o.st
def kV (t : List aM) : Nat -> List Int -> List Bs -> Bool -> Int -> Option Fo
 | 0,_,_,_,_=>none
 | n + 1,tr,ps,last,st=>match ps with
  | []=>some ⟨⟨ba tr,(fJ t (ba tr)).1,(fJ t (ba tr)).2,tr⟩,0,st⟩
  | p :: r=>yQ t (fun a b c d=>kV t n a b c d) tr p r last st
theorem KN (t : List aM) (n : Nat) (tr : List Int) (last : Bool) (st : Int) : kV t (n + 1) tr [] last st = some ⟨⟨ba tr,(fJ t (ba tr)).1,(fJ t (ba tr)).2,tr⟩,0,st⟩:=rfl
theorem uW (t : List aM) (n : Nat) (tr : List Int) (p : Bs) (r : List Bs) (last : Bool) (st : Int) : kV t (n + 1) tr (p :: r) last st = yQ t (fun a b c d=>kV t n a b c d) tr p r last st:=rfl
theorem wV {t : List aM} {n : Nat} {tr : List Int} {last : Bool} {st : Int} {o : Fo} (h : kV t n tr [] last st = some o) : o = ⟨⟨ba tr,(fJ t (ba tr)).1,(fJ t (ba tr)).2,tr⟩,0,st⟩:=by
 cases n with
 | zero=>cases h
 | succ n=>rw [KN] at h;exact (Option.some.inj h).symm
inductive QK (t : List aM) (m : Nat) (tr : List Int) (p : Bs) (r : List Bs) (last : Bool) (st : Int) (o : Fo) : Prop
 | big (h : 64 < r.length + 1) (e : o = ⟨jy,25,st⟩)
 | dot (h : p = [46]) (f : kV t m tr r last st = some o)
 | up (h0 : ¬ p = [46]) (h : p = [46,46]) (h1 : 1 < tr.length) (f : kV t m tr.dropLast r last st = some o)
 | top (h0 : ¬ p = [46]) (h : p = [46,46]) (h1 : ¬ 1 < tr.length) (f : kV t m tr r last st = some o)
 | no (h0 : ¬ p = [46]) (h : ¬ p = [46,46]) (hl : bX (aw t (ba tr)).ents p < 0) (hr : r = []) (e : o = ⟨⟨-1,ba tr,p,tr⟩,0,st⟩)
 | miss (h0 : ¬ p = [46]) (h : ¬ p = [46,46]) (hl : bX (aw t (ba tr)).ents p < 0) (hr : r ≠ []) (e : o = ⟨⟨-1,ba tr,p,tr⟩,6,st⟩)
 | dir (h0 : ¬ p = [46]) (h : ¬ p = [46,46]) (hl : ¬ bX (aw t (ba tr)).ents p < 0) (k : (aw t (bz t tr p).node).kind = 0) (f : kV t m (tr ++ [(bz t tr p).node]) r last st = some o)
 | file (h0 : ¬ p = [46]) (h : ¬ p = [46,46]) (hl : ¬ bX (aw t (ba tr)).ents p < 0) (k : (aw t (bz t tr p).node).kind = 1) (hr : r = []) (e : o = ⟨⟨(bz t tr p).node,ba tr,(bz t tr p).name,tr⟩,0,st⟩)
 | nodir (h0 : ¬ p = [46]) (h : ¬ p = [46,46]) (hl : ¬ bX (aw t (ba tr)).ents p < 0) (k : (aw t (bz t tr p).node).kind = 1) (hr : r ≠ []) (e : o = ⟨⟨(bz t tr p).node,ba tr,(bz t tr p).name,tr⟩,35,st⟩)
 | stop (h0 : ¬ p = [46]) (h : ¬ p = [46,46]) (hl : ¬ bX (aw t (ba tr)).ents p < 0) (k0 : ¬ (aw t (bz t tr p).node).kind = 0) (k1 : ¬ (aw t (bz t tr p).node).kind = 1) (hr : r = []) (hf : last = false) (e : o = ⟨⟨(bz t tr p).node,ba tr,(bz t tr p).name,tr⟩,0,st⟩)
 | loop (h0 : ¬ p = [46]) (h : ¬ p = [46,46]) (hl : ¬ bX (aw t (ba tr)).ents p < 0) (k0 : ¬ (aw t (bz t tr p).node).kind = 0) (k1 : ¬ (aw t (bz t tr p).node).kind = 1) (hr : r ≠ [] \/ last = true) (h8 : 8 < st + 1) (e : o = ⟨jy,25,st + 1⟩)
 | linkA (h0 : ¬ p = [46]) (h : ¬ p = [46,46]) (hl : ¬ bX (aw t (ba tr)).ents p < 0) (k : (aw t (bz t tr p).node).kind = 2) (hr : r ≠ [] \/ last = true) (h8 : st + 1 <= 8) (ab : (di t tr p).abs = true) (f : kV t m [0] ((di t tr p).parts ++ r) last (st + 1) = some o)
 | linkR (h0 : ¬ p = [46]) (h : ¬ p = [46,46]) (hl : ¬ bX (aw t (ba tr)).ents p < 0) (k : (aw t (bz t tr p).node).kind = 2) (hr : r ≠ [] \/ last = true) (h8 : st + 1 <= 8) (ab : (di t tr p).abs = false) (f : kV t m tr ((di t tr p).parts ++ r) last (st + 1) = some o)
 | mount (h0 : ¬ p = [46]) (h : ¬ p = [46,46]) (hl : ¬ bX (aw t (ba tr)).ents p < 0) (k0 : ¬ (aw t (bz t tr p).node).kind = 0) (k1 : ¬ (aw t (bz t tr p).node).kind = 1) (k2 : ¬ (aw t (bz t tr p).node).kind = 2) (hr : r ≠ [] \/ last = true) (h8 : st + 1 <= 8) (q : Fo) (g : kV t m [0] (di t tr p).parts true (st + 1) = some q)
   (c : (q.e ≠ 0 /\ o = ⟨jy,q.e,q.st⟩) \/ (q.e = 0 /\ q.x.node = -1 /\ o = ⟨jy,6,q.st⟩) \/ (q.e = 0 /\ ¬ q.x.node = -1 /\ ¬ (aw t q.x.node).kind = 0 /\ o = ⟨jy,35,q.st⟩) \/ (q.e = 0 /\ ¬ q.x.node = -1 /\ (aw t q.x.node).kind = 0 /\ kV t m (tr ++ [q.x.node]) r last q.st = some o))
theorem sM {t : List aM} {n : Nat} {tr : List Int} {p : Bs} {r : List Bs} {last : Bool} {st : Int} {o : Fo} (hf : kV t n tr (p :: r) last st = some o) : ∃ m,n = m + 1 /\ QK t m tr p r last st o:=by
 cases n with
 | zero=>cases hf
 | succ m=>
  refine ⟨m,rfl,?_⟩
  rw [uW] at hf
  unfold yQ at hf
  by_cases hb : 64 < r.length + 1
  ·rw [if_pos hb] at hf;exact .big hb (by cases hf;rfl)
  rw [if_neg hb] at hf
  by_cases h0 : p = [46]
  ·rw [if_pos h0] at hf;exact .dot h0 hf
  rw [if_neg h0] at hf
  by_cases h : p = [46,46]
  ·rw [if_pos h] at hf
   by_cases h1 : 1 < tr.length
   ·rw [if_pos h1] at hf;exact .up h0 h h1 hf
   ·rw [if_neg h1] at hf;exact .top h0 h h1 hf
  rw [if_neg h] at hf
  by_cases hl : bX (aw t (ba tr)).ents p < 0
  ·rw [if_pos hl] at hf
   by_cases hr : r = []
   ·rw [if_pos hr] at hf;exact .no h0 h hl hr (by cases hf;rfl)
   ·rw [if_neg hr] at hf;exact .miss h0 h hl hr (by cases hf;rfl)
  rw [if_neg hl] at hf
  by_cases k0 : (aw t (bz t tr p).node).kind = 0
  ·rw [if_pos k0] at hf;exact .dir h0 h hl k0 hf
  rw [if_neg k0] at hf
  by_cases k1 : (aw t (bz t tr p).node).kind = 1
  ·rw [if_pos k1] at hf
   by_cases hr : r = []
   ·rw [if_pos hr] at hf;exact .file h0 h hl k1 hr (by cases hf;rfl)
   ·rw [if_neg hr] at hf;exact .nodir h0 h hl k1 hr (by cases hf;rfl)
  rw [if_neg k1] at hf
  by_cases hr : r = [] /\ last = false
  ·rw [if_pos hr] at hf;exact .stop h0 h hl k0 k1 hr.1 hr.2 (by cases hf;rfl)
  rw [if_neg hr] at hf
  have hr2 : r ≠ [] \/ last = true:=by
   by_cases e : r = []
   ·right
    cases last
    ·exact absurd ⟨e,rfl⟩ hr
    ·rfl
   ·exact .inl e
  by_cases h8 : 8 < st + 1
  ·rw [if_pos h8] at hf;exact .loop h0 h hl k0 k1 hr2 h8 (by cases hf;rfl)
  rw [if_neg h8] at hf
  by_cases k2 : (aw t (bz t tr p).node).kind = 2
  ·rw [if_pos k2] at hf
   cases hab : (di t tr p).abs with
   | true=>rw [if_pos hab] at hf;exact .linkA h0 h hl k2 hr2 (by omega) hab hf
   | false=>rw [if_neg (by rw [hab];decide)] at hf;exact .linkR h0 h hl k2 hr2 (by omega) hab hf
  rw [if_neg k2] at hf
  cases hq : kV t m [0] (di t tr p).parts true (st + 1) with
  | none=>simp only [hq] at hf;cases hf
  | some q=>
   simp only [hq] at hf
   refine .mount h0 h hl k0 k1 k2 hr2 (by omega) q hq ?_
   by_cases he : q.e = 0
   ·rw [if_neg (by simpa using he)] at hf
    by_cases hn : q.x.node = -1
    ·rw [if_pos hn] at hf;exact .inr (.inl ⟨he,hn,by cases hf;rfl⟩)
    rw [if_neg hn] at hf
    by_cases hk : (aw t q.x.node).kind = 0
    ·rw [if_neg (by simpa using hk)] at hf;exact .inr (.inr (.inr ⟨he,hn,hk,hf⟩))
    ·rw [if_pos hk] at hf;exact .inr (.inr (.inl ⟨he,hn,hk,by cases hf;rfl⟩))
   ·rw [if_pos he] at hf;exact .inl ⟨he,by cases hf;rfl⟩
structure Vt (t : List aM) : Prop where
 b : Tb t
 ok : (aW t).2 = 0
def gK (t : List aM) (n : Int) : Prop:=0 <= n /\ n.toNat < t.length
def mP (t : List aM) (tr : List Int) : Prop:=tr[0]? = some 0 /\ ∀ n ∈ tr,gK t n
theorem gK.get {t : List aM} {n : Int} (h : gK t n) : t[n.toNat]? = some (aw t n):=by
 unfold aw;rw [List.getElem?_eq_getElem h.2];rfl
theorem gK.mem {t : List aM} {n : Int} (h : gK t n) : aw t n ∈ t:=List.mem_of_getElem? h.get
theorem mP.ne {t : List aM} {tr : List Int} (h : mP t tr) : 0 < tr.length:=(List.getElem?_eq_some_iff.1 h.1).1
theorem Bl {tr : List Int} (h : 0 < tr.length) : ba tr ∈ tr:=by
 unfold ba
 rw [List.getLastD_eq_getLast?,List.getLast?_eq_getElem?,List.getElem?_eq_getElem (by omega)]
 exact List.getElem_mem _
theorem Ey {tr : List Int} (h : 0 < tr.length) : tr[tr.length - 1]? = some (ba tr):=by
 unfold ba
 rw [List.getLastD_eq_getLast?,List.getLast?_eq_getElem?,List.getElem?_eq_getElem (by omega)];rfl
theorem qE (tr : List Int) (x : Int) : ba (tr ++ [x]) = x:=by simp [ba]
theorem mP.here {t : List aM} {tr : List Int} (h : mP t tr) : gK t (ba tr):=h.2 _ (Bl h.ne)
theorem mP.snoc {t : List aM} {tr : List Int} {n : Int} (h : mP t tr) (hn : gK t n) : mP t (tr ++ [n]):=by
 refine ⟨by rw [List.getElem?_append_left h.ne];exact h.1,fun m hm=>?_⟩
 rcases List.mem_append.1 hm with hm | hm
 ·exact h.2 m hm
 ·rw [List.mem_singleton] at hm;subst hm;exact hn
theorem mP.drop {t : List aM} {tr : List Int} (h : mP t tr) (h1 : 1 < tr.length) : mP t tr.dropLast:=by
 refine ⟨?_,fun m hm=>h.2 m (List.dropLast_sublist _ |>.mem hm)⟩
 rw [List.getElem?_dropLast,if_pos (by omega)];exact h.1
section
variable {t : List aM} (V : Vt t)
include V
theorem Vt.good : cM t:=wX (ot V.ok).2.2
theorem Vt.len : 0 < t.length /\ t.length <= 40:=⟨(ot V.ok).1,(ot V.ok).2.1⟩
theorem Vt.root : mP t [0]:=⟨rfl,fun n hn=>by rw [List.mem_singleton] at hn;subst hn;exact ⟨by omega,V.len.1⟩⟩
theorem Vt.nod {n : Int} (h : gK t n) : dv t n (aw t n) = 0:=by
 have h1:=(ot V.ok).2.2 _ h.2
 rw [kt h.2] at h1
 have h2:=h.get
 rw [List.getElem?_eq_getElem h.2] at h2
 rw [Option.some.inj h2] at h1
 have : ((n.toNat : Nat) : Int) = n:=Int.toNat_of_nonneg h.1
 rwa [this] at h1
theorem Vt.names {n : Int} (h : gK t n) : ∀ e ∈ (aw t n).ents,am e.name = 0:=Gi V.ok h.get
theorem Vt.ent {n : Int} (h : gK t n) {e : bm} (he : e ∈ (aw t n).ents) : gK t e.node:=by
 have:=V.good _ h.mem e he
 exact ⟨by omega,by omega⟩
theorem Vt.kind {n : Int} (h : gK t n) : 0 <= (aw t n).kind /\ (aw t n).kind <= 3:=by
 have:=V.nod h
 unfold dv at this
 split at this
 ·cases this
 ·rename_i h1
  simp only [ar,Bool.and_eq_false_iff,decide_eq_false_iff_not] at h1
  omega
theorem Vt.noents {n : Int} (h : gK t n) (hk : ¬ (aw t n).kind = 0) : (aw t n).ents = []:=by
 have:=V.nod h
 unfold dv at this
 split at this
 ·cases this
 split at this
 ·cases this
 split at this
 ·cases this
 ·rename_i h3
  apply Classical.byContradiction
  intro hc
  exact h3 (.inl ⟨hk,hc⟩)
theorem Vt.targ {n : Int} (h : gK t n) (h0 : ¬ (aw t n).kind = 0) (h1 : ¬ (aw t n).kind = 1) : (aj (aw t n).target).2 = 0:=by
 have hn:=V.nod h
 have hk:=V.kind h
 unfold dv at hn
 split at hn
 ·cases hn
 split at hn
 ·cases hn
 split at hn
 ·cases hn
 split at hn
 ·rename_i h4;exact absurd hn h4
 split at hn
 ·rename_i h5
  unfold sZ at h5
  simp only [Bool.or_eq_false_iff,decide_eq_false_iff_not] at h5
  omega
 ·unfold ia at hn
  split at hn
  ·rename_i h6;exact absurd hn h6
  ·rename_i h6;exact Classical.not_not.1 h6
end
theorem Hc {l : List bm} {p : Bs} (h : ¬ bX l p < 0) : qV l p ∈ l:=by
 obtain ⟨h0,h1⟩:=De h
 rw [CH h1];exact List.getElem_mem _
theorem Vt.next {t : List aM} (V : Vt t) {tr : List Int} (hT : mP t tr) {p : Bs} (hl : ¬ bX (aw t (ba tr)).ents p < 0) : gK t (bz t tr p).node:=V.ent hT.here (Hc hl)
def FO (ps : List Bs) : Prop:=∀ p ∈ ps,aF p = 0
theorem Vt.tgt {t : List aM} (V : Vt t) {tr : List Int} (hT : mP t tr) {p : Bs} (hl : ¬ bX (aw t (ba tr)).ents p < 0) (k0 : ¬ (aw t (bz t tr p).node).kind = 0) (k1 : ¬ (aw t (bz t tr p).node).kind = 1) : FO (di t tr p).parts /\ (di t tr p).parts.length <= 16:=by
 have h:=V.targ (V.next hT hl) k0 k1
 have:=ge h
 exact ⟨fun x hx=>(this.1 x hx).2,this.2⟩
theorem FO.app {a b : List Bs} (ha : FO a) (hb : FO b) : FO (a ++ b):=fun p hp=>(List.mem_append.1 hp).elim (ha p) (hb p)
theorem yR {t : List aM} (V : Vt t) : ∀ (n : Nat) (tr : List Int) (ps : List Bs) (last : Bool) (st : Int),mP t tr -> 0 <= st -> (100 * (9 - st)).toNat + ps.length < n -> (∃ o,kV t n tr ps last st = some o) /\ ∀ o,kV t n tr ps last st = some o -> st <= o.st /\ (o.e = 0 -> (st <= 8 -> o.st <= 8) /\ (o.x.node = -1 \/ gK t o.x.node) /\ mP t o.x.trail)
 | 0,_,_,_,_,_,_,h=>by omega
 | n + 1,tr,[],last,st,hT,h0,h=>by
  refine ⟨⟨_,rfl⟩,fun o ho=>?_⟩
  have:=wV ho
  subst this
  exact ⟨Int.le_refl _,fun _=>⟨fun h=>h,.inr hT.here,hT⟩⟩
 | n + 1,tr,p :: r,last,st,hT,h0,h=>by
  rw [List.length_cons] at h
  have IH:=yR V n
  have nt : ∀ (e : Int) (s : Int) (x : Fd),e ≠ 0 -> st <= s -> (∃ o,some (⟨x,e,s⟩ : Fo) = some o) /\ ∀ o : Fo,some (⟨x,e,s⟩ : Fo) = some o -> st <= o.st /\ (o.e = 0 -> (st <= 8 -> o.st <= 8) /\ (o.x.node = -1 \/ gK t o.x.node) /\ mP t o.x.trail):=
   fun e s x he hs=>⟨⟨_,rfl⟩,fun o ho=>by cases ho;exact ⟨hs,fun hz=>absurd hz he⟩⟩
  rw [uW]
  unfold yQ
  by_cases hb : 64 < r.length + 1
  ·rw [if_pos hb];exact nt 25 st _ (by decide) (Int.le_refl _)
  rw [if_neg hb]
  by_cases h0' : p = [46]
  ·rw [if_pos h0'];exact IH tr r last st hT h0 (by omega)
  rw [if_neg h0']
  by_cases h' : p = [46,46]
  ·rw [if_pos h']
   by_cases h1 : 1 < tr.length
   ·rw [if_pos h1];exact IH _ r last st (hT.drop h1) h0 (by omega)
   ·rw [if_neg h1];exact IH tr r last st hT h0 (by omega)
  rw [if_neg h']
  by_cases hl : bX (aw t (ba tr)).ents p < 0
  ·rw [if_pos hl]
   by_cases hr : r = []
   ·rw [if_pos hr];exact ⟨⟨_,rfl⟩,fun o ho=>by cases ho;exact ⟨Int.le_refl _,fun _=>⟨fun h=>h,.inl rfl,hT⟩⟩⟩
   ·rw [if_neg hr];exact nt 6 st _ (by decide) (Int.le_refl _)
  rw [if_neg hl]
  have hN:=V.next hT hl
  by_cases k0 : (aw t (bz t tr p).node).kind = 0
  ·rw [if_pos k0];exact IH _ r last st (hT.snoc hN) h0 (by omega)
  rw [if_neg k0]
  by_cases k1 : (aw t (bz t tr p).node).kind = 1
  ·rw [if_pos k1]
   by_cases hr : r = []
   ·rw [if_pos hr];exact ⟨⟨_,rfl⟩,fun o ho=>by cases ho;exact ⟨Int.le_refl _,fun _=>⟨fun h=>h,.inr hN,hT⟩⟩⟩
   ·rw [if_neg hr];exact nt 35 st _ (by decide) (Int.le_refl _)
  rw [if_neg k1]
  by_cases hr : r = [] /\ last = false
  ·rw [if_pos hr];exact ⟨⟨_,rfl⟩,fun o ho=>by cases ho;exact ⟨Int.le_refl _,fun _=>⟨fun h=>h,.inr hN,hT⟩⟩⟩
  rw [if_neg hr]
  by_cases h8 : 8 < st + 1
  ·rw [if_pos h8];exact nt 25 (st + 1) _ (by decide) (by omega)
  rw [if_neg h8]
  have hg:=V.tgt hT hl k0 k1
  by_cases k2 : (aw t (bz t tr p).node).kind = 2
  ·rw [if_pos k2]
   have hz : mP t (if (di t tr p).abs = true then [0] else tr):=by
    cases (di t tr p).abs
    ·exact hT
    ·exact V.root
   have:=IH _ ((di t tr p).parts ++ r) last (st + 1) hz (by omega) (by rw [List.length_append];omega)
   exact ⟨this.1,fun o ho=>⟨by have:=(this.2 o ho).1;omega,fun he=>by have:=(this.2 o ho).2 he;exact ⟨fun _=>this.1 (by omega),this.2⟩⟩⟩
  ·rw [if_neg k2]
   have hq:=IH [0] (di t tr p).parts true (st + 1) V.root (by omega) (by omega)
   obtain ⟨⟨q,e⟩,hq2⟩:=hq
   have hq3:=hq2 q e
   simp only [e]
   by_cases he : q.e = 0
   ·rw [if_neg (by simpa using he)]
    by_cases hn1 : q.x.node = -1
    ·rw [if_pos hn1];exact nt 6 q.st _ (by decide) (by omega)
    rw [if_neg hn1]
    by_cases hk : (aw t q.x.node).kind = 0
    ·rw [if_neg (by simpa using hk)]
     have h4:=hq3.2 he
     have h5 : gK t q.x.node:=h4.2.1.resolve_left hn1
     have:=IH _ r last q.st (hT.snoc h5) (by omega) (by omega)
     exact ⟨this.1,fun o ho=>⟨by have:=(this.2 o ho).1;omega,fun he=>by have:=(this.2 o ho).2 he;exact ⟨fun _=>this.1 (h4.1 (by omega)),this.2⟩⟩⟩
    ·rw [if_pos hk];exact nt 35 q.st _ (by decide) (by omega)
   ·rw [if_pos he];exact nt q.e q.st _ he (by omega)
theorem GS {t : List aM} (V : Vt t) : ∀ (n : Nat) {tr : List Int} {ps : List Bs} {last : Bool} {st : Int} {o : Fo},mP t tr -> kV t n tr ps last st = some o -> st <= o.st /\ (o.e = 0 -> (st <= 8 -> o.st <= 8) /\ (o.x.node = -1 \/ gK t o.x.node) /\ mP t o.x.trail)
 | 0,_,_,_,_,_,_,h=>by cases h
 | n + 1,tr,[],last,st,o,hT,h=>by
  have:=wV h
  subst this
  exact ⟨Int.le_refl _,fun _=>⟨fun h=>h,.inr hT.here,hT⟩⟩
 | n + 1,tr,p :: r,last,st,o,hT,h=>by
  have IH : ∀ {tr : List Int} {ps : List Bs} {last : Bool} {st : Int} {o : Fo},mP t tr -> kV t n tr ps last st = some o -> st <= o.st /\ (o.e = 0 -> (st <= 8 -> o.st <= 8) /\ (o.x.node = -1 \/ gK t o.x.node) /\ mP t o.x.trail):=GS V n
  obtain ⟨m,e,hc⟩:=sM h
  cases e
  rcases hc with ⟨hb,he⟩ | ⟨hz,hf⟩ | ⟨hz0,hz,h1,hf⟩ | ⟨hz0,hz,h1,hf⟩ | ⟨hz0,hz,hl,hr,he⟩ | ⟨hz0,hz,hl,hr,he⟩ | ⟨hz0,hz,hl,hk,hf⟩ | ⟨hz0,hz,hl,hk,hr,he⟩ | ⟨hz0,hz,hl,hk,hr,he⟩ | ⟨hz0,hz,hl,k0,k1,hr,hfl,he⟩ | ⟨hz0,hz,hl,k0,k1,hr,h8,he⟩ | ⟨hz0,hz,hl,hk,hr,h8,hab,hf⟩ | ⟨hz0,hz,hl,hk,hr,h8,hab,hf⟩ | ⟨hz0,hz,hl,k0,k1,k2,hr,h8,q,hg,hc⟩
  ·subst he;exact ⟨Int.le_refl _,fun h=>absurd (show (25 : Int) = 0 from h) (by decide)⟩
  ·exact IH hT hf
  ·exact IH (hT.drop h1) hf
  ·exact IH hT hf
  ·subst he;exact ⟨Int.le_refl _,fun _=>⟨fun h=>h,.inl rfl,hT⟩⟩
  ·subst he;exact ⟨Int.le_refl _,fun h=>absurd (show (6 : Int) = 0 from h) (by decide)⟩
  ·exact IH (hT.snoc (V.next hT hl)) hf
  ·subst he;exact ⟨Int.le_refl _,fun _=>⟨fun h=>h,.inr (V.next hT hl),hT⟩⟩
  ·subst he;exact ⟨Int.le_refl _,fun h=>absurd (show (35 : Int) = 0 from h) (by decide)⟩
  ·subst he;exact ⟨Int.le_refl _,fun _=>⟨fun h=>h,.inr (V.next hT hl),hT⟩⟩
  ·subst he;exact ⟨by show st <= st + 1;omega,fun h=>absurd (show (25 : Int) = 0 from h) (by decide)⟩
  ·have:=IH V.root hf
   exact ⟨by omega,fun e=>⟨fun _=>(this.2 e).1 h8,(this.2 e).2⟩⟩
  ·have:=IH hT hf
   exact ⟨by omega,fun e=>⟨fun _=>(this.2 e).1 h8,(this.2 e).2⟩⟩
  ·have hq:=IH V.root hg
   rcases hc with ⟨he,ho⟩ | ⟨he,hn,ho⟩ | ⟨he,hn,hk,ho⟩ | ⟨he,hn,hk,hf⟩
   ·subst ho;exact ⟨by show st <= q.st;omega,fun h=>absurd h he⟩
   ·subst ho;exact ⟨by show st <= q.st;omega,fun h=>absurd (show (6 : Int) = 0 from h) (by decide)⟩
   ·subst ho;exact ⟨by show st <= q.st;omega,fun h=>absurd (show (35 : Int) = 0 from h) (by decide)⟩
   ·have h4:=hq.2 he
    have:=IH (hT.snoc (h4.2.1.resolve_left hn)) hf
    exact ⟨by omega,fun e=>⟨fun _=>(this.2 e).1 (h4.1 h8),(this.2 e).2⟩⟩
end
section
set_option maxRecDepth 10000
attribute [local irreducible] bn
set_option maxHeartbeats 2000000
open Paths
attribute [local irreducible] am cut normal bp aF text aj glue bi ar
def lI (t : List aM) (st : Int) : AO:=⟨[.d (.agg [aS t,i st])],2,0⟩
theorem eJ {P : Program} {f : Nat} {xs : List D} {r : AV} {o o' oc : AO} {l' : List D} (hf : bn P f (.ptr 0 0 0 :: xs.map .d) [o] r [o']) (hr : ∀ τ,ren τ r = r) (ho' : o'.elems = l'.map .d) {H : ae} {id : Nat} (h : H[id]? = some oc) {args : List AV} (ho : IZ [id] (args.flatMap (bC 8 H)) H o oc) (hv : vl (bl 8 H) args = some xs)
  (hd : ∀ j ∈ args.flatMap (bC 8 H),j ≠ id) : bn P f (.ptr id 0 0 :: args) H r ((Dw.freeze H (args.flatMap (bC 8 H))).set id o'):=by
 refine gg (σ:=[id]) (F:=args.flatMap (bC 8 H)) (fl:=false) hf (by simp) (fun j hj=>by simpa using hd j hj) ⟨⟨rfl,rfl,rfl⟩,qA H args xs _ (fun _ h=>h) hv⟩ ⟨(aE _ _).2 ⟨_,h,ho⟩,trivial⟩ (fun h=>by cases h) (hr _) ?_
 show cg _ [id] _ ++ _ = _
 have : gF (AE [id] H.length) o' = o':=by
  obtain ⟨e,k,s⟩:=o'
  simp only at ho'
  subst ho'
  simp only [gF,l4]
 simp only [cg,List.map_cons,List.map_nil,List.length_cons,List.length_nil,List.drop_succ_cons,List.drop_zero,this,List.append_nil]
 rfl
theorem yA {l : List bm} {n : Int} {m : Nat} (hm : m < l.length) : fS (l.drop m) n = if l[m].node = n then some l[m].name else fS (l.drop (m + 1)) n:=by
 rw [List.drop_eq_getElem_cons hm];rfl
theorem Dn {t : List aM} {n : Int} {k : Nat} (hk : k < t.length) : q0 (t.drop k) n k = match fS t[k].ents n with | some s=>((k : Int),s) | none=>q0 (t.drop (k + 1)) n (k + 1):=by
 rw [List.drop_eq_getElem_cons hk];rfl
theorem PQ {t : List aM} {n : Int} {k m : Nat} (hk : k < t.length) (hm : m < t[k].ents.length) (h1 : fJ t n = q0 (t.drop k) n k) (h2 : fS t[k].ents n = fS (t[k].ents.drop m) n) (h : t[k].ents[m].node = n) : D.tup [i k,.str t[k].ents[m].name] = .tup [i (fJ t n).1,.str (fJ t n).2]:=by
 rw [h1,Dn hk,h2,yA hm,if_pos h]
theorem PS {t : List aM} {n : Int} {k m : Nat} (hk : k < t.length) (hm : m < t[k].ents.length) (h2 : fS t[k].ents n = fS (t[k].ents.drop m) n) (h : ¬ t[k].ents[m].node = n) : fS t[k].ents n = fS (t[k].ents.drop (m + 1)) n:=by
 rw [h2,yA hm,if_neg h]
theorem PR {t : List aM} {n : Int} {k m : Nat} (hk : k < t.length) (hm : t[k].ents.length <= m) (h1 : fJ t n = q0 (t.drop k) n k) (h2 : fS t[k].ents n = fS (t[k].ents.drop m) n) : fJ t n = q0 (t.drop (k + 1)) n (k + 1):=by
 rw [h1,Dn hk,h2,List.drop_eq_nil_of_le hm];rfl
theorem PO {t : List aM} {n : Int} {k : Nat} (hk : t.length <= k) (h1 : fJ t n = q0 (t.drop k) n k) : D.tup [i (-1),.str []] = .tup [i (fJ t n).1,.str (fJ t n).2]:=by
 rw [h1,List.drop_eq_nil_of_le hk];rfl
attribute [local irreducible] fS q0
theorem Vf (tr : List Int) (c : Option Nat) (h1 : 0 < tr.length) : bn Tryz.prog 95 [.sl 0 0 tr.length 1 c] [⟨b9 tr,1,0⟩] (.sl 0 0 tr.length 1 (some tr.length)) [⟨b9 tr,1,0⟩]:=by
 refine ac aZ Tryz.func95 rfl (by kernel_rfl) ?_
 conv=>whnf
 repeat' (first
 | ((with_reducible refine aJ ?_ ?_);(focus ((try simp only [List.length_map,List.length_cons,List.length_nil,List.length_append]);omega));conv=>whnf)
 | (refine ⟨⟨by omega,by omega,by omega,by omega⟩,?_⟩;conv=>whnf)
 | ((with_reducible refine ag ?_);first | (exact pQ rfl rfl;done))
  | fail
  )
theorem Tf (t : List aM) (st : Int) (h0 : 0 <= st) (h1 : st <= 100) (h8 : st + 1 <= 8) : bn Tryz.prog 96 (.ptr 0 0 0 :: ([] : List D).map .d) [lI t st] (.d (i 0)) [lI t (st + 1)]:=by
 refine ac aZ Tryz.func96 rfl (by kernel_rfl) ?_
 conv=>whnf
 repeat' (first
 | ((with_reducible refine ak ?_);(first | refine aa (af (xs:=[_,_]) (IJ (p:=st + 1 <= 8) 25 (by assumption)) _) ?_ );conv=>whnf)
 | (refine ax (by omega) ?_;conv=>whnf)
 | ((with_reducible refine ag ?_);first | (exact bR (.inl ⟨[.old 0],rfl,rfl,⟨rfl,trivial⟩,⟨⟨rfl,rfl,.inr ⟨⟨rfl,rfl,rfl,trivial⟩,trivial⟩⟩,trivial⟩⟩);done))
  | fail
  )
theorem Tg (t : List aM) (st : Int) (h0 : 0 <= st) (h1 : st <= 100) (h8 : ¬ st + 1 <= 8) : bn Tryz.prog 96 (.ptr 0 0 0 :: ([] : List D).map .d) [lI t st] (.d (i 25)) [lI t (st + 1)]:=by
 refine ac aZ Tryz.func96 rfl (by kernel_rfl) ?_
 conv=>whnf
 repeat' (first
 | ((with_reducible refine ak ?_);(first | refine aa (af (xs:=[_,_]) (D7 (p:=st + 1 <= 8) 25 (by assumption)) _) ?_);conv=>whnf)
 | (refine ax (by omega) ?_;conv=>whnf)
 | ((with_reducible refine ag ?_);first | (exact bR (.inl ⟨[.old 0],rfl,rfl,⟨rfl,trivial⟩,⟨⟨rfl,rfl,.inr ⟨⟨rfl,rfl,rfl,trivial⟩,trivial⟩⟩,trivial⟩⟩);done))
  | fail
  )
theorem Ve (a b : Int) (s : Bs) (tr : List Int) : Fn 94 [i a,i b,.str s,.fs (tr.map i)] (Fd.enc ⟨a,b,s,tr⟩ [] 0):=by
 refine ac aZ Tryz.func94 rfl (by kernel_rfl) ?_
 conv=>whnf
 repeat' (first
 | ((with_reducible refine ag ?_);first | (exact aP (be (aK rfl (aK rfl (aK rfl (aK rfl (aK rfl (aK rfl bM))))))) rfl;done))
  | fail
  )
theorem Vg (t : List aM) (B : Tb t) (d : Int) : Fn 98 [aS t,i d] (.tup [i (fJ t d).1,.str (fJ t d).2]):=by
 have hbt:=B.tl
 refine ac aZ Tryz.func98 rfl (by kernel_rfl) ?_
 conv=>whnf
 repeat' (first
 | ((with_reducible refine aB (fun h=>?_) (fun h=>?_))<;>(try simp only [List.length_map] at h)<;>conv=>whnf)
 | (refine ⟨[],[],(by decide +kernel),?_⟩;conv=>whnf)
 | ((with_reducible refine aO ?_);first | (refine bh (fun (m : Nat)=>(t[k]'(by omega)).ents.length - m) (fun (m : Nat)=>m <= (t[k]'(by omega)).ents.length /\ fS (t[k]'(by omega)).ents d = fS ((t[k]'(by omega)).ents.drop m) d) (fun (m : Nat)=>[(1,.d (i d)),(6,.d (i k)),(10,.d (aS t)),(11,.d (i t.length)),(12,.d (i k)),(18,.d (.fs ((t[k]'(by omega)).ents.map bm.enc))),(19,.d (i (t[k]'(by omega)).ents.length)),(20,.d (i m))]) (fun (m : Nat)=>[]) (0) (by exact ⟨Nat.zero_le _,rfl⟩) ?_ (fun m Ci hIi hCi=>?_);(exact ⟨[],rfl,rfl,⟨rfl,rfl,rfl,rfl,rfl,rfl,(congrArg (D.int .i64) (by simp only [List.length_map])),(by first | exact congrArg (D.int .i64) (by omega) ),trivial⟩,trivial⟩);all_goals (conv=>whnf)) | (refine bh (fun (k : Nat)=>t.length - k) (fun (k : Nat)=>k <= t.length /\ fJ t d = q0 (t.drop k) d k) (fun (k : Nat)=>[(1,.d (i d)),(10,.d (aS t)),(11,.d (i t.length)),(12,.d (i k))]) (fun (k : Nat)=>[]) (0) (by exact ⟨Nat.zero_le _,rfl⟩) ?_ (fun k C hI hC=>?_);(exact ⟨[],rfl,rfl,⟨rfl,rfl,(by first | exact congrArg (D.int .i64) (by simp only [List.length_map]) ),(by first | exact congrArg (D.int .i64) (by omega) ),trivial⟩,trivial⟩);all_goals (conv=>whnf)))
 | ((with_reducible show C _ _);first | (refine hC (k + 1) _ _ ?_ (by omega) ?_;clear hC;rotate_left;(exact ⟨[],rfl,rfl,⟨rfl,rfl,rfl,(by first | exact congrArg (D.int .i64) (by omega) ),trivial⟩,trivial⟩);(exact ⟨by omega,PR (by omega) (by omega) hI.2 hIi.2⟩)))
 | ((with_reducible show Ci _ _);first | (refine hCi (m + 1) _ _ ?_ (by omega) ?_;clear hCi;rotate_left;(exact ⟨[],rfl,rfl,⟨rfl,rfl,rfl,rfl,rfl,rfl,rfl,(by first | exact congrArg (D.int .i64) (by omega) ),trivial⟩,trivial⟩);(exact ⟨by omega,PS (by omega) (by omega) hIi.2 (by assumption)⟩)))
 | (refine bf (by omega) ?_;conv=>whnf)
 | (refine ax (by omega) ?_;conv=>whnf)
 | (refine ax (by have:=B.tl;have:=B.el _ (List.getElem_mem (by omega : k < t.length));omega) ?_;conv=>whnf)
 | ((with_reducible refine ag ?_);first | (exact dy (PQ (by omega) (by omega) hI.2 hIi.2 (by assumption));done) | (exact dy (PO (by omega) hI.2);done))
  | fail
  )
end
section
set_option maxRecDepth 10000
attribute [local irreducible] bn
set_option maxHeartbeats 2000000
open Paths
attribute [local irreducible] am cut normal bp aF text aj glue bi ar
abbrev lj (l : List Bs) : D:=.fs (l.map .str)
theorem P1 {p : Bs} {r : List Bs} {hi : Int} {K : List D -> Prop} (h : hi = ((r.length + 1 : Nat) : Int)) (k : K (r.map .str)) : Du ((p :: r).map .str) 1 hi 1 K:=by
 subst h
 refine ⟨.mk,⟨by decide,by omega,by simp,fun y hy=>?_⟩,?_⟩
 ·obtain ⟨x,_,rfl⟩:=List.mem_map.1 hy;rfl
 ·have : (((p :: r).map D.str).take ((r.length + 1 : Nat) : Int).toNat).drop (1 : Int).toNat = r.map D.str:=by
   show ((D.str p :: r.map D.str).take (r.length + 1)).drop 1 = _
   rw [List.take_of_length_le (by simp)];rfl
  rw [this];exact k
theorem Pw {p : Bs} {r : List Bs} {K : D -> Prop} (k : K (.str p)) : 0 <= (0 : Int) /\ cX (List.map D.str (p :: r)) (Int.toNat 0) K:=⟨by decide,k⟩
theorem I6 {t : List aM} {n : Nat} {tr : List Int} {ps : List Bs} {last : Bool} {st : Int} {o : Fo} (h : kV t n tr ps last st = some o) (hb : 64 < ps.length) : o = ⟨jy,25,st⟩:=by
 cases ps with
 | nil=>simp at hb
 | cons p r=>
  obtain ⟨m,rfl,hc⟩:=sM h
  rw [uW] at h
  unfold yQ at h
  rw [if_pos (by simpa using hb)] at h
  cases h;rfl
theorem gK.nn {t : List aM} {n : Int} (h : gK t n) : 0 <= n:=h.1
theorem FO.tl {p : Bs} {r : List Bs} (h : FO (p :: r)) : FO r:=fun x hx=>h x (by simp [hx])
theorem MS {t : List aM} {tr : List Int} (h : mP t tr) : ∃ r,tr = 0 :: r:=by
 have h1:=h.1
 cases tr with
 | nil=>cases h1
 | cons a r=>simp at h1;exact ⟨r,by rw [h1]⟩
theorem HN {μ : List Mu} {tr : List Int} (h : 0 < tr.length) : ∃ l0 rest : List AV,b9 tr = l0 ++ rest /\ tr.length - 1 = l0.length /\ ((∃ l : List D,l0 = l.map .d /\ b9 tr.dropLast = l.map .d) \/ io μ l0 (b9 tr.dropLast)):=
 ⟨b9 tr.dropLast,b9 [tr.getLast (by intro e;subst e;simp at h)],by show _ = List.map AV.d (List.map i _) ++ List.map AV.d (List.map i _);rw [<- List.map_append,<- List.map_append,List.dropLast_concat_getLast],by simp,.inl ⟨_,rfl,rfl⟩⟩
theorem Fc {t : List aM} {μ : List Mu} {tr : List Int} (h : mP t tr) : ∃ l0 rest : List AV,b9 tr = l0 ++ rest /\ 1 = l0.length /\ ((∃ l : List D,l0 = l.map .d /\ b9 [0] = l.map .d) \/ io μ l0 (b9 [0])):=by
 obtain ⟨r,rfl⟩:=MS h
 exact ⟨b9 [0],b9 r,rfl,rfl,.inl ⟨_,rfl,rfl⟩⟩
theorem zQ {μ : List Mu} {tr : List Int} {x : Int} : io μ (((b9 tr).drop 0).take tr.length ++ [.d (i x)]) (b9 (tr ++ [x])):=by
 rw [List.drop_zero,List.take_of_length_le (by simp [b9])]
 have : b9 tr ++ [.d (i x)] = b9 (tr ++ [x]):=by simp [b9]
 rw [this];exact em _ _
theorem HV {tr : List Int} (h1 : 0 < tr.length) {H : ae} {id : Nat} (h : H[id]? = some ⟨b9 tr,1,0⟩) {n : Nat} {c : Option Nat} (hn : n = tr.length) : bn Tryz.prog 95 [.sl id 0 n 1 c] H (.sl id 0 n 1 (some n)) H:=by
 subst hn
 refine gg (σ:=[id]) (F:=[]) (fl:=false) (Vf tr c h1) (by simp) (fun _ h=>by cases h) ⟨⟨rfl,rfl,rfl,rfl,rfl⟩,trivial⟩ ⟨(aE _ _).2 ⟨_,h,rfl,rfl,.inl ⟨_,rfl,rfl⟩⟩,trivial⟩ (fun h=>by cases h) rfl ?_
 show cg (Dw.freeze H []) [id] _ ++ _ = _
 have e : gF (AE [id] H.length) ⟨b9 tr,1,0⟩ = ⟨b9 tr,1,0⟩:=by simp only [gF,b9,l4]
 simp only [cg,List.map_cons,List.map_nil,List.length_cons,List.length_nil,List.drop_succ_cons,List.drop_zero,e,List.append_nil]
 show H.set id _ = H
 obtain ⟨hl,rfl'⟩:=List.getElem?_eq_some_iff.1 h
 rw [<- rfl'];exact List.set_getElem_self hl
theorem Dq (n : Nat) (H : ae) : ∀ l : List D,(l.map AV.d).flatMap (bC n H) = []
 | []=>rfl
 | x :: l=>by
  rw [List.map_cons,List.flatMap_cons,Dq n H l,List.append_nil]
  cases n<;>rfl
theorem JP {a b : Int} {s : Bs} {tr : List Int} {H : ae} {id : Nat} (h : H[id]? = some ⟨b9 tr,1,0⟩) {n : Nat} {c : Option Nat} (hn : n = tr.length) : bn Tryz.prog 94 [.d (i a),.d (i b),.d (.str s),.sl id 0 n 1 c] H (.d (Fd.enc ⟨a,b,s,tr⟩ [] 0)) (Dw.freeze H [id]):=by
 have hr : bC 8 H (.sl id 0 n 1 c) = [id]:=by
  show id :: (match H[id]? with | some o=>o.elems.flatMap (bC 7 H) | none=>[]) = _
  rw [h]
  simp only [b9,Dq]
 refine gg (σ:=[]) (F:=[id]) (fl:=false) (Ve a b s tr) (by simp) (fun _ _ h=>by cases h) ⟨⟨rfl,fun _ h=>by cases h⟩,⟨rfl,fun _ h=>by cases h⟩,⟨rfl,fun _ h=>by cases h⟩,⟨iu (f:=i) (l:=tr) hn h (by decide),fun j hj=>by rw [hr] at hj;exact hj⟩,trivial⟩ trivial (fun h=>by cases h) rfl ?_
 simp [kI,cg]
theorem Ty {r : List Bs} (h : r = []) : ((r.map D.str).length : Int) = 0:=by subst h;rfl
theorem Tz {r : List Bs} (h : r ≠ []) : ¬ ((r.map D.str).length : Int) = 0:=by
 rw [List.length_map];intro e;exact h (List.length_eq_zero_iff.1 (by omega))
theorem Tu {n : Nat} (h : 1 < n) : jc 1 ((n : Int) - 1) = ((n - 1 : Nat) : Int):=by unfold jc;split<;>omega
theorem Tv {n : Nat} (h : ¬ 1 < n) : jc 1 ((n : Int) - 1) = ((1 : Nat) : Int):=by unfold jc;split<;>omega
theorem Jp {tr : List Int} {n : Nat} {K : AV -> Prop} (hn : 0 < tr.length) (e : n = tr.length - 1) (k : K (.d (i (ba tr)))) : cX (b9 tr) n K:=by
 subst e
 refine cj (x:=.d (i (ba tr))) ?_ k
 rw [List.getElem?_map,List.getElem?_map,Ey hn];rfl
section
variable {t : List aM} (V : Vt t) {tr : List Int} (hT : mP t tr) {p : Bs} (hp : aF p = 0) (h0 : ¬ p = [46]) (h : ¬ p = [46,46])
include hp h0 h in
theorem KZ : am p = 0:=by
 have : bp p = false:=by unfold bp;rw [decide_eq_false h0,decide_eq_false h];rfl
 unfold aF at hp
 rwa [this,if_neg (by decide)] at hp
include hp in
theorem Do : p.length < 2000000:=by have:=(ry hp).2.2.2;omega
include V hT hp h0 h
theorem Ta (hl : bX (aw t (ba tr)).ents p < 0) : Fn 93 [aS t,i (ba tr),.str p] (.tup [bm.enc ⟨[],0⟩,.bool false]):=
 Td t V.b _ p (Do hp) _ hT.here.get hT.here.1 (V.names hT.here) (KZ hp h0 h) hl
theorem S9 (hl : ¬ bX (aw t (ba tr)).ents p < 0) : Fn 93 [aS t,i (ba tr),.str p] (.tup [(bz t tr p).enc,.bool true]):=
 Tc t V.b _ p (Do hp) _ hT.here.get hT.here.1 (V.names hT.here) (KZ hp h0 h) hl
end
theorem SC {t : List aM} (V : Vt t) {tr : List Int} (hT : mP t tr) {p : Bs} (hl : ¬ bX (aw t (ba tr)).ents p < 0) (k0 : ¬ (aw t (bz t tr p).node).kind = 0) (k1 : ¬ (aw t (bz t tr p).node).kind = 1) : Fn 36 [.str (aw t (bz t tr p).node).target] (.tup [js (di t tr p),i 0]):=by
 have:=II (aw t (bz t tr p).node).target
 rwa [V.targ (V.next hT hl) k0 k1] at this
theorem F5 {p : Prop} {_ : Decidable p} (e : Int) (h : ¬ p) : Fn 39 [.bool (!decide p),i e] (i 0):=by rw [decide_eq_false h];exact wn e
theorem KE {p : Prop} {_ : Decidable p} (e : Int) (h : p) : Fn 39 [.bool (!decide p),i e] (i e):=by rw [decide_eq_true h];exact yd e
theorem LE {a b : Int} (h : a = 0) : Fn 29 [.fs [i a,i b]] (i b):=by subst h;exact F3
theorem LH {fr : Bool} {a b : Nat} (h : fr = true -> a = b) : (match pJ fr a with | some c=>some (c - 0) | none=>none) = pJ fr b:=by
 cases fr
 ·rfl
 ·rw [h rfl];rfl
def QM (t : List aM) (n : Nat) : Prop:=∀ m < n,∀ (ps : List Bs) (last : Bool) (st : Int) (o : Fo),FO ps -> ps.length <= 64 -> 0 <= st -> st <= 8 -> kV t m [0] ps last st = some o -> bn Tryz.prog 49 (.ptr 0 0 0 :: ([lj ps,.bool last] : List D).map .d) [lI t st] (.d (.tup [o.x.enc [] 0,i o.e])) [lI t o.st]
def QA : AV:=.agg [.d (i 0),.d (i 0),.d (.str []),.d (.str []),.d (i 0),.nilS]
attribute [local irreducible] fS q0 fJ kV bX qV bz di aw ba mP gK QA
theorem Th (t : List aM) (V : Vt t) (q : Fo) (ps : List Bs) (st : Int) (hr : bn Tryz.prog 49 (.ptr 0 0 0 :: ([lj ps,.bool true] : List D).map .d) [lI t st] (.d (.tup [q.x.enc [] 0,i q.e])) [lI t q.st]) (he : ¬ q.e = 0) (hn : ¬ q.x.node = -1) : bn Tryz.prog 97 (.ptr 0 0 0 :: ([lj ps] : List D).map .d) [lI t st] (.d (.tup [i (0),i (q.e)])) [lI t q.st]:=by
 refine ac aZ Tryz.func97 rfl (by kernel_rfl) ?_
 conv=>whnf
 repeat' (first
 | ((with_reducible refine co (by assumption) ?_);conv=>whnf)
 | ((with_reducible refine ak ?_);(first | refine aa (eJ (hr) (fun _=>rfl) (l':=[_]) rfl rfl ⟨rfl,rfl,.inl ⟨[_],rfl,rfl⟩⟩ (d5 _ [_,_]) (fun j hj=>absurd hj (List.not_mem_nil))) ?_ | refine aa (af (xs:=[_,_]) (F5 (p:=q.x.node = -1) 6 hn) _) ?_ | refine aa (ah (LC (a:=q.e) (b:=0) he) rfl (aK rfl bM)) ?_);conv=>whnf)
 | ((with_reducible refine ag ?_);first | (exact dH (l:=[_]) (rfl) rfl rfl rfl rfl;done) )
  | fail
  )
theorem Ti (t : List aM) (V : Vt t) (q : Fo) (ps : List Bs) (st : Int) (hr : bn Tryz.prog 49 (.ptr 0 0 0 :: ([lj ps,.bool true] : List D).map .d) [lI t st] (.d (.tup [q.x.enc [] 0,i q.e])) [lI t q.st]) (he : ¬ q.e = 0) (hn : q.x.node = -1) : bn Tryz.prog 97 (.ptr 0 0 0 :: ([lj ps] : List D).map .d) [lI t st] (.d (.tup [i (0),i (q.e)])) [lI t q.st]:=by
 refine ac aZ Tryz.func97 rfl (by kernel_rfl) ?_
 conv=>whnf
 repeat' (first
 | ((with_reducible refine co (by assumption) ?_);conv=>whnf)
 | ((with_reducible refine ak ?_);(first | refine aa (eJ (hr) (fun _=>rfl) (l':=[_]) rfl rfl ⟨rfl,rfl,.inl ⟨[_],rfl,rfl⟩⟩ (d5 _ [_,_]) (fun j hj=>absurd hj (List.not_mem_nil))) ?_ | refine aa (af (xs:=[_,_]) (KE (p:=q.x.node = -1) 6 hn) _) ?_ | refine aa (ah (LC (a:=q.e) (b:=6) he) rfl (aK rfl bM)) ?_);conv=>whnf)
 | ((with_reducible refine ag ?_);first | (exact dH (l:=[_]) (rfl) rfl rfl rfl rfl;done) )
  | fail
  )
theorem Tj (t : List aM) (V : Vt t) (q : Fo) (ps : List Bs) (st : Int) (hr : bn Tryz.prog 49 (.ptr 0 0 0 :: ([lj ps,.bool true] : List D).map .d) [lI t st] (.d (.tup [q.x.enc [] 0,i q.e])) [lI t q.st]) (he : q.e = 0) (hn : q.x.node = -1) : bn Tryz.prog 97 (.ptr 0 0 0 :: ([lj ps] : List D).map .d) [lI t st] (.d (.tup [i (0),i (6)])) [lI t q.st]:=by
 refine ac aZ Tryz.func97 rfl (by kernel_rfl) ?_
 conv=>whnf
 repeat' (first
 | ((with_reducible refine ak ?_);(first | refine aa (eJ (hr) (fun _=>rfl) (l':=[_]) rfl rfl ⟨rfl,rfl,.inl ⟨[_],rfl,rfl⟩⟩ (d5 _ [_,_]) (fun j hj=>absurd hj (List.not_mem_nil))) ?_ | refine aa (af (xs:=[_,_]) (KE (p:=q.x.node = -1) 6 hn) _) ?_ | refine aa (ah (LE (a:=q.e) (b:=6) he) rfl (aK rfl bM)) ?_);conv=>whnf)
 | ((with_reducible refine ag ?_);first | (exact dH (l:=[_]) (rfl) rfl rfl rfl rfl;done) )
  | fail
  )
theorem Tk (t : List aM) (V : Vt t) (q : Fo) (ps : List Bs) (st : Int) (hr : bn Tryz.prog 49 (.ptr 0 0 0 :: ([lj ps,.bool true] : List D).map .d) [lI t st] (.d (.tup [q.x.enc [] 0,i q.e])) [lI t q.st]) (he : q.e = 0) (hn : ¬ q.x.node = -1) (hN : gK t q.x.node) (hk : (aw t q.x.node).kind = 0) : bn Tryz.prog 97 (.ptr 0 0 0 :: ([lj ps] : List D).map .d) [lI t st] (.d (.tup [i (q.x.node),i (0)])) [lI t q.st]:=by
 refine ac aZ Tryz.func97 rfl (by kernel_rfl) ?_
 conv=>whnf
 repeat' (first
 | ((with_reducible refine ak ?_);(first | refine aa (eJ (hr) (fun _=>rfl) (l':=[_]) rfl rfl ⟨rfl,rfl,.inl ⟨[_],rfl,rfl⟩⟩ (d5 _ [_,_]) (fun j hj=>absurd hj (List.not_mem_nil))) ?_ | refine aa (af (xs:=[_,_]) (F5 (p:=q.x.node = -1) 6 hn) _) ?_ | refine aa (af (xs:=[_,_]) (IJ (p:=(aw t q.x.node).kind = 0) 35 hk) _) ?_ | refine aa (ah (LE (a:=q.e) (b:=0) he) rfl (aK rfl bM)) ?_);conv=>whnf)
 | (refine ⟨[],[(1,12)],(by decide +kernel),?_⟩;conv=>whnf)
 | (refine gD hN.nn hN.get ?_;conv=>whnf)
 | ((with_reducible refine ag ?_);first | (exact dH (l:=[_]) (rfl) rfl rfl rfl rfl;done))
 | (refine ⟨rfl,?_⟩;conv=>whnf)
  | fail
  )
theorem Tl (t : List aM) (V : Vt t) (q : Fo) (ps : List Bs) (st : Int) (hr : bn Tryz.prog 49 (.ptr 0 0 0 :: ([lj ps,.bool true] : List D).map .d) [lI t st] (.d (.tup [q.x.enc [] 0,i q.e])) [lI t q.st]) (he : q.e = 0) (hn : ¬ q.x.node = -1) (hN : gK t q.x.node) (hk : ¬ (aw t q.x.node).kind = 0) : bn Tryz.prog 97 (.ptr 0 0 0 :: ([lj ps] : List D).map .d) [lI t st] (.d (.tup [i (q.x.node),i (35)])) [lI t q.st]:=by
 refine ac aZ Tryz.func97 rfl (by kernel_rfl) ?_
 conv=>whnf
 repeat' (first
 | ((with_reducible refine ak ?_);(first | refine aa (eJ (hr) (fun _=>rfl) (l':=[_]) rfl rfl ⟨rfl,rfl,.inl ⟨[_],rfl,rfl⟩⟩ (d5 _ [_,_]) (fun j hj=>absurd hj (List.not_mem_nil))) ?_ | refine aa (af (xs:=[_,_]) (F5 (p:=q.x.node = -1) 6 hn) _) ?_ | refine aa (af (xs:=[_,_]) (D7 (p:=(aw t q.x.node).kind = 0) 35 hk) _) ?_ | refine aa (ah (LE (a:=q.e) (b:=0) he) rfl (aK rfl bM)) ?_);conv=>whnf)
 | (refine ⟨[],[(1,12)],(by decide +kernel),?_⟩;conv=>whnf)
 | (refine gD hN.nn hN.get ?_;conv=>whnf)
 | ((with_reducible refine ag ?_);first | (exact dH (l:=[_]) (rfl) rfl rfl rfl rfl;done))
 | (refine ⟨rfl,?_⟩;conv=>whnf)
  | fail
  )
theorem Tm (t : List aM) (V : Vt t) (q : Fo) (ps : List Bs) (st : Int) (hr : bn Tryz.prog 49 (.ptr 0 0 0 :: ([lj ps,.bool true] : List D).map .d) [lI t st] (.d (.tup [q.x.enc [] 0,i q.e])) [lI t q.st]) (he : ¬ q.e = 0) : bn Tryz.prog 97 (.ptr 0 0 0 :: ([lj ps] : List D).map .d) [lI t st] (.d (.tup [i 0,i q.e])) [lI t q.st]:=by
 by_cases hn : q.x.node = -1
 ·exact Ti t V q ps st hr he hn
 ·exact Th t V q ps st hr he hn
theorem UL (t : List aM) (V : Vt t) (n : Nat) (IH : QM t n) (ps0 : List Bs) (last : Bool) (st0 : Int) (o : Fo) (hP0 : FO ps0) (hl0 : ps0.length <= 64) (hs0 : 0 <= st0) (hs8 : st0 <= 8) (hn : n <= 2000) (hF0 : kV t n [0] ps0 last st0 = some o) : bn Tryz.prog 49 (.ptr 0 0 0 :: ([lj ps0,.bool last] : List D).map .d) [lI t st0] (.d (.tup [o.x.enc [] 0,i o.e])) [lI t o.st]:=by
 refine ac aZ Tryz.func49 rfl (by kernel_rfl) ?_
 conv=>whnf
 repeat' (first
 | ((with_reducible refine bP (by assumption) ?_);conv=>whnf)
 | ((with_reducible refine aJ (by assumption) ?_);conv=>whnf)
 | ((with_reducible refine bO (by assumption) ?_);conv=>whnf)
 | ((with_reducible refine bA (by assumption) ?_);conv=>whnf)
 | ((with_reducible refine Hr (by assumption) ?_);conv=>whnf)
 | ((with_reducible refine co (by assumption) ?_);conv=>whnf)
 | ((with_reducible refine cY (by omega) ?_);conv=>whnf)
 | ((with_reducible refine co (by omega) ?_);conv=>whnf)
 | ((with_reducible refine aJ ?_ ?_);(focus ((try simp only [List.length_map,List.length_cons,List.length_nil,List.length_append]);omega));conv=>whnf)
 | ((with_reducible refine bP ?_ ?_);(focus ((try simp only [List.length_map,List.length_cons,List.length_nil,List.length_append]);omega));conv=>whnf)
 | ((with_reducible refine aB (fun h=>?_) (fun h=>?_))<;>(try simp only [List.length_map] at h)<;>conv=>whnf)
 | ((with_reducible refine ak ?_);(first | refine aa (af (xs:=[_,_,_]) (Ta V hT hp hz0 hz hl) _) ?_ | refine aa (af (xs:=[_,_,_]) (S9 V hT hp hz0 hz hl) _) ?_ | refine aa (JP (tr:=tr) rfl rfl) ?_ | refine aa (af (xs:=[_,_]) (IJ (p:=((r.map D.str).length : Int) = 0) 6 hr0) _) ?_ | refine aa (af (xs:=[_,_]) (IJ (p:=((r.map D.str).length : Int) = 0) 35 hr0) _) ?_ | refine aa (af (xs:=[_,_]) (D7 (p:=((r.map D.str).length : Int) = 0) 6 hr0) _) ?_ | refine aa (af (xs:=[_,_]) (D7 (p:=((r.map D.str).length : Int) = 0) 35 hr0) _) ?_ | refine aa (af (xs:=[_,_]) (wn 35) _) ?_ | refine aa (HV hT.ne rfl rfl) ?_ | refine aa (eJ (Tf t st h0 (by omega) h8) (fun _=>rfl) (l':=[_]) rfl rfl ⟨rfl,rfl,.inl ⟨[_],rfl,rfl⟩⟩ (d5 _ []) (fun j hj=>absurd hj (List.not_mem_nil))) ?_ | refine aa (eJ (Tg t st h0 (by omega) (by omega)) (fun _=>rfl) (l':=[_]) rfl rfl ⟨rfl,rfl,.inl ⟨[_],rfl,rfl⟩⟩ (d5 _ []) (fun j hj=>absurd hj (List.not_mem_nil))) ?_ | refine aa (af (xs:=[_]) (SC V hT hl (by omega) (by omega)) _) ?_ | refine aa (eJ (Tm t V q (di t tr p).parts (st + 1) (IH m (by omega) (di t tr p).parts true (st + 1) q (V.tgt hT hl (by omega) (by omega)).1 (by omega) (by omega) (by omega) hg) he) (fun _=>rfl) (l':=[_]) rfl rfl ⟨rfl,rfl,.inl ⟨[_],rfl,rfl⟩⟩ (d5 _ [_]) (fun j hj=>absurd hj (List.not_mem_nil))) ?_ | refine aa (eJ (Tj t V q (di t tr p).parts (st + 1) (IH m (by omega) (di t tr p).parts true (st + 1) q (V.tgt hT hl (by omega) (by omega)).1 (by omega) (by omega) (by omega) hg) he hn) (fun _=>rfl) (l':=[_]) rfl rfl ⟨rfl,rfl,.inl ⟨[_],rfl,rfl⟩⟩ (d5 _ [_]) (fun j hj=>absurd hj (List.not_mem_nil))) ?_ | refine aa (eJ (Tl t V q (di t tr p).parts (st + 1) (IH m (by omega) (di t tr p).parts true (st + 1) q (V.tgt hT hl (by omega) (by omega)).1 (by omega) (by omega) (by omega) hg) he hn hN hk) (fun _=>rfl) (l':=[_]) rfl rfl ⟨rfl,rfl,.inl ⟨[_],rfl,rfl⟩⟩ (d5 _ [_]) (fun j hj=>absurd hj (List.not_mem_nil))) ?_ | refine aa (eJ (Tk t V q (di t tr p).parts (st + 1) (IH m (by omega) (di t tr p).parts true (st + 1) q (V.tgt hT hl (by omega) (by omega)).1 (by omega) (by omega) (by omega) hg) he hn hN hk) (fun _=>rfl) (l':=[_]) rfl rfl ⟨rfl,rfl,.inl ⟨[_],rfl,rfl⟩⟩ (d5 _ [_]) (fun j hj=>absurd hj (List.not_mem_nil))) ?_ | refine aa (aA (KF (di t tr p).parts r (by omega) (by omega)) rfl) ?_ | refine aa (af (xs:=[_,_]) (Vg t V.b _) _) ?_);conv=>whnf)
 | (refine ⟨[],[],(by decide +kernel),?_⟩;conv=>whnf)
 | (refine ⟨[33],[(3,1)],(by decide +kernel),?_⟩;conv=>whnf)
 | ((with_reducible refine aO ?_);first | (refine Di (fun (tr : List Int) (ps : List Bs) (st : Int) (m : Nat) (fr : Bool)=>m) (fun (tr : List Int) (ps : List Bs) (st : Int) (m : Nat) (fr : Bool)=>mP t tr /\ FO ps /\ ps.length <= 64 /\ 0 <= st /\ st <= 8 /\ tr.length + m <= 5000 /\ m <= n /\ (fr = true -> tr.length = 1) /\ kV t m tr ps last st = some o) (fun (tr : List Int) (ps : List Bs) (st : Int) (m : Nat) (fr : Bool)=>[(0,.ptr 0 0 0),(1,.d (lj ps)),(2,.d (.bool last)),(6,.ptr 1 0 0),(8,.sl 2 0 tr.length 1 (pJ fr tr.length))]) (fun (tr : List Int) (ps : List Bs) (st : Int) (m : Nat) (fr : Bool)=>[lI t st,⟨[(E 35).zero],6,0⟩,⟨b9 tr,1,0⟩]) ([0]) (ps0) (st0) (n) (true) (by exact ⟨V.root,hP0,hl0,hs0,hs8,(by simp only [List.length_cons,List.length_nil];omega),Nat.le_refl _,fun _=>rfl,hF0⟩) ?_ (fun tr ps st m fr C hI hC=>?_);(exact ⟨[.old 0,.old 1,.old 2],rfl,rfl,⟨⟨rfl,rfl,rfl⟩,rfl,rfl,⟨rfl,rfl,rfl⟩,(by first | exact ⟨rfl,rfl,rfl,rfl,rfl⟩ ),trivial⟩,⟨⟨rfl,rfl,.inl ⟨[_],rfl,rfl⟩⟩,⟨rfl,rfl,.inr ⟨⟨rfl,rfl,rfl,rfl,rfl,trivial,trivial⟩,trivial⟩⟩,⟨rfl,rfl,.inl ⟨_,rfl,rfl⟩⟩,trivial⟩⟩);obtain ⟨hT,hP,hps,h0,h8x,hbd,hmn,hfr,hF⟩:=hI;have hTn:=hT.ne;rcases ps with (_ | ⟨p,r⟩);(rotate_left;obtain ⟨m,rfl,hc⟩:=sM hF;have hp:=hP p (by simp);have hr64 : r.length + 1 <= 64:=hps;rcases hc with ⟨hb,he⟩ | ⟨hz,hf⟩ | ⟨hz0,hz,h1,hf⟩ | ⟨hz0,hz,h1,hf⟩ | ⟨hz0,hz,hl,hr,he⟩ | ⟨hz0,hz,hl,hr,he⟩ | ⟨hz0,hz,hl,hk,hf⟩ | ⟨hz0,hz,hl,hk,hr,he⟩ | ⟨hz0,hz,hl,hk,hr,he⟩ | ⟨hz0,hz,hl,k0,k1,hr,hfl,he⟩ | ⟨hz0,hz,hl,k0,k1,(hr | hr),h8,he⟩ | ⟨hz0,hz,hl,hk,(hr | hr),h8,hab,hf⟩ | ⟨hz0,hz,hl,hk,(hr | hr),h8,hab,hf⟩ | ⟨hz0,hz,hl,k0,k1,k2,(hr | hr),h8,q,hg,(⟨he,ho⟩ | ⟨he,hn,ho⟩ | ⟨he,hn,hk,ho⟩ | ⟨he,hn,hk,hf⟩)⟩;(exfalso;simp only [List.length_cons] at hps;omega);all_goals (try have hr0:=Ty hr);all_goals (try have hr0:=Tz hr);all_goals (try subst he);all_goals (try subst hfl);all_goals (try have hkk:=V.kind (V.next hT hl));all_goals (try have h16:=(V.tgt hT hl (by first | assumption | omega) (by first | assumption | omega)).2);all_goals (try subst ho);all_goals (try have hq:=GS V m V.root hg);all_goals (try have hqs:=hq.1);all_goals (try have hqe:=hq.2 he);all_goals (try have hq8:=hqe.1 h8);all_goals (try have hN:=hqe.2.1.resolve_left hn));all_goals (try (have ho:=wV hF;subst ho));all_goals (conv=>whnf)))
 | ((with_reducible show C _ _);first | (refine hC (tr) (r) (st) (m) (fr) _ _ ?_ (by omega) ?_;clear hC;rotate_left;(exact ⟨[.old 0,.old 1,.old 2],rfl,rfl,⟨⟨rfl,rfl,rfl⟩,rfl,rfl,⟨rfl,rfl,rfl⟩,(by first | exact ⟨rfl,rfl,rfl,rfl,rfl⟩ ),trivial⟩,⟨⟨rfl,rfl,.inl ⟨[_],rfl,rfl⟩⟩,⟨rfl,rfl,.inr ⟨⟨rfl,rfl,rfl,rfl,rfl,trivial,trivial⟩,trivial⟩⟩,⟨rfl,rfl,.inl ⟨_,rfl,rfl⟩⟩,trivial⟩⟩);(exact ⟨hT,hP.tl,(by omega),h0,h8x,by ((try simp only [List.length_append,List.length_cons,List.length_nil,List.length_dropLast]);omega),by omega,hfr,hf⟩)) | (refine hC (tr.dropLast) (r) (st) (m) (fr) _ _ ?_ (by omega) ?_;clear hC;rotate_left;(exact ⟨[.old 0,.old 1,.cut 2 (tr.length - 1)],rfl,rfl,⟨⟨rfl,rfl,rfl⟩,rfl,rfl,⟨rfl,rfl,rfl⟩,⟨⟨rfl,fun _=>(by omega)⟩,rfl,(by simp only [List.length_dropLast];omega),rfl,LH (fun e=>by have:=hfr e;omega)⟩,trivial⟩,⟨⟨rfl,rfl,.inl ⟨[_],rfl,rfl⟩⟩,⟨rfl,rfl,.inr ⟨⟨rfl,rfl,rfl,rfl,rfl,trivial,trivial⟩,trivial⟩⟩,⟨rfl,⟨rfl,HN hT.ne⟩⟩,trivial⟩⟩);(exact ⟨hT.drop h1,hP.tl,(by omega),h0,h8x,by ((try simp only [List.length_append,List.length_cons,List.length_nil,List.length_dropLast]);omega),by omega,(fun e=>by have:=hfr e;omega),hf⟩)) | (refine hC (tr) (r) (st) (m) (fr) _ _ ?_ (by omega) ?_;clear hC;rotate_left;(exact ⟨[.old 0,.old 1,.old 2],rfl,rfl,⟨⟨rfl,rfl,rfl⟩,rfl,rfl,⟨rfl,rfl,rfl⟩,⟨rfl,rfl,(by have:=hT.ne;omega),rfl,LH (fun e=>rfl)⟩,trivial⟩,⟨⟨rfl,rfl,.inl ⟨[_],rfl,rfl⟩⟩,⟨rfl,rfl,.inr ⟨⟨rfl,rfl,rfl,rfl,rfl,trivial,trivial⟩,trivial⟩⟩,⟨rfl,rfl,.inl ⟨_,rfl,rfl⟩⟩,trivial⟩⟩);(exact ⟨hT,hP.tl,(by omega),h0,h8x,by ((try simp only [List.length_append,List.length_cons,List.length_nil,List.length_dropLast]);omega),by omega,hfr,hf⟩)) | (refine hC (tr ++ [(bz t tr p).node]) (r) (st) (m) (false) _ _ ?_ (by omega) ?_;clear hC;rotate_left;(exact ⟨[.old 0,.old 1,.old 5],rfl,rfl,⟨⟨rfl,rfl,rfl⟩,rfl,rfl,⟨rfl,rfl,rfl⟩,⟨rfl,rfl,(by simp),rfl,rfl⟩,trivial⟩,⟨⟨rfl,rfl,.inl ⟨[_],rfl,rfl⟩⟩,⟨rfl,rfl,.inr ⟨⟨rfl,rfl,rfl,rfl,rfl,trivial,trivial⟩,trivial⟩⟩,⟨rfl,rfl,.inr zQ⟩,trivial⟩⟩);(exact ⟨hT.snoc (V.next hT hl),hP.tl,(by omega),h0,h8x,by ((try simp only [List.length_append,List.length_cons,List.length_nil,List.length_dropLast]);omega),by omega,(fun e=>by cases e),hf⟩)) | (refine hC ([0]) ((di t tr p).parts ++ r) (st + 1) (m) (fr) _ _ ?_ (by omega) ?_;clear hC;rotate_left;(exact ⟨[.old 0,.old 1,.cut 2 1],rfl,rfl,⟨⟨rfl,rfl,rfl⟩,rfl,rfl,⟨rfl,rfl,rfl⟩,⟨⟨rfl,fun _=>Nat.le_refl _⟩,rfl,rfl,rfl,LH (fun e=>hfr e)⟩,trivial⟩,⟨⟨rfl,rfl,.inl ⟨[_],rfl,rfl⟩⟩,⟨rfl,rfl,.inr ⟨⟨rfl,rfl,rfl,rfl,rfl,trivial,trivial⟩,trivial⟩⟩,⟨rfl,⟨rfl,Fc hT⟩⟩,trivial⟩⟩);(exact ⟨V.root,((V.tgt hT hl (by omega) (by omega)).1.app hP.tl),(by first | omega | ((try simp only [List.length_append,List.length_cons,List.length_nil,List.length_dropLast]);omega)),(by omega),(by omega),by ((try simp only [List.length_append,List.length_cons,List.length_nil,List.length_dropLast]);omega),by omega,(fun _=>rfl),hf⟩)) | (refine hC (tr) ((di t tr p).parts ++ r) (st + 1) (m) (fr) _ _ ?_ (by omega) ?_;clear hC;rotate_left;(exact ⟨[.old 0,.old 1,.old 2],rfl,rfl,⟨⟨rfl,rfl,rfl⟩,rfl,rfl,⟨rfl,rfl,rfl⟩,(by first | exact ⟨rfl,rfl,rfl,rfl,rfl⟩ ),trivial⟩,⟨⟨rfl,rfl,.inl ⟨[_],rfl,rfl⟩⟩,⟨rfl,rfl,.inr ⟨⟨rfl,rfl,rfl,rfl,rfl,trivial,trivial⟩,trivial⟩⟩,⟨rfl,rfl,.inl ⟨_,rfl,rfl⟩⟩,trivial⟩⟩);(exact ⟨hT,((V.tgt hT hl (by omega) (by omega)).1.app hP.tl),(by first | omega | ((try simp only [List.length_append,List.length_cons,List.length_nil,List.length_dropLast]);omega)),(by omega),(by omega),by ((try simp only [List.length_append,List.length_cons,List.length_nil,List.length_dropLast]);omega),by omega,hfr,hf⟩)) | (refine hC (tr ++ [q.x.node]) (r) (q.st) (m) (false) _ _ ?_ (by omega) ?_;clear hC;rotate_left;(exact ⟨[.old 0,.old 1,.old 7],rfl,rfl,⟨⟨rfl,rfl,rfl⟩,rfl,rfl,⟨rfl,rfl,rfl⟩,⟨rfl,rfl,(by simp),rfl,rfl⟩,trivial⟩,⟨⟨rfl,rfl,.inl ⟨[_],rfl,rfl⟩⟩,⟨rfl,rfl,.inr ⟨⟨rfl,rfl,rfl,rfl,rfl,trivial,trivial⟩,trivial⟩⟩,⟨rfl,rfl,.inr zQ⟩,trivial⟩⟩);(exact ⟨hT.snoc hN,hP.tl,(by omega),(by omega),(by omega),by ((try simp only [List.length_append,List.length_cons,List.length_nil,List.length_dropLast]);omega),by omega,(fun e=>by cases e),hf⟩)))
 | (refine ⟨⟨(by first | (simp;done)),cm (by simp only [List.length_map,List.length_cons,List.length_nil,List.length_append];omega) rfl⟩,?_⟩;conv=>whnf)
 | (refine ⟨Jv ⟨rfl,rfl⟩,?_⟩;conv=>whnf)
 | (refine ax (by omega) ?_;conv=>whnf)
 | (refine ⟨Nat.le_refl _,?_⟩;conv=>whnf)
 | (refine jH 0 (tr.length - 1) rfl (Tu (by assumption)) ⟨Nat.zero_le _,by omega⟩ ?_;conv=>whnf)
 | (refine jH 0 1 rfl (Tv (by assumption)) ⟨Nat.zero_le _,by omega⟩ ?_;conv=>whnf)
 | (refine jH 0 1 rfl rfl ⟨Nat.zero_le _,by omega⟩ ?_;conv=>whnf)
 | (refine Pw ?_;conv=>whnf)
 | (refine gD (V.next hT hl).nn (V.next hT hl).get ?_;conv=>whnf)
 | (refine Jp hT.ne (by omega) ?_;conv=>whnf)
 | (refine P1 (by simp only [List.length_map,List.length_cons]) ?_;conv=>whnf)
 | (refine ⟨⟨by omega,by omega⟩,?_⟩;conv=>whnf)
 | ((with_reducible refine ag ?_);first | (have ho:=I6 hf (by omega);subst ho;exact bR (.inl ⟨[.old 0],rfl,rfl,⟨⟨rfl,⟨rfl,rfl,rfl,rfl,rfl,rfl,rfl,trivial⟩,rfl,trivial⟩,trivial⟩,⟨⟨rfl,rfl,.inl ⟨[_],rfl,rfl⟩⟩,trivial⟩⟩);done) | (exact dH (l:=[_]) rfl rfl rfl rfl rfl;done) | (exact bR (.inl ⟨[.old 0],rfl,rfl,⟨⟨rfl,⟨rfl,rfl,rfl,rfl,rfl,rfl,rfl,trivial⟩,rfl,trivial⟩,trivial⟩,⟨⟨rfl,rfl,.inl ⟨[_],rfl,rfl⟩⟩,trivial⟩⟩);done))
 | (refine ⟨rfl,?_⟩;conv=>whnf)
  | fail
  )
theorem Uo {t : List aM} (V : Vt t) : ∀ n ≤ 2001,QM t n
 | 0,_=>fun m hm=>by omega
 | n + 1,hn=>fun m hm ps last st o h1 h2 h3 h4 h5=>by
  have IH : QM t m:=fun k hk=>Uo V n (by omega) k (by omega)
  exact UL t V m IH ps last st o h1 h2 h3 h4 (by omega) h5
end
section
set_option maxRecDepth 10000
attribute [local irreducible] bn
set_option maxHeartbeats 2000000
open Paths
attribute [local irreducible] am cut normal bp aF text aj glue bi ar
structure Rs where
 x : Fd
 s : Bs
 st : Int
 e : Int
def Rs.enc (r : Rs) : D:=r.x.enc r.s r.st
def gT (t : List aM) (ps : List Bs) (last : Bool) : Fo:=(kV t 2000 [0] ps last 0).getD ⟨jy,25,0⟩
def il (t : List aM) (s : Bs) (last : Bool) : Rs:=
 if (aj s).2 ≠ 0 then ⟨jy,[],0,(aj s).2⟩ else if (aj s).1.abs = false then ⟨jy,[],0,3⟩
 else if (gT t (aj s).1.parts last).e ≠ 0 then ⟨jy,[],0,(gT t (aj s).1.parts last).e⟩ else ⟨(gT t (aj s).1.parts last).x,(aj s).1.stream,(gT t (aj s).1.parts last).st,0⟩
def dP (t : List aM) (s : Bs) (last : Bool) : Rs:=if (aW t).2 ≠ 0 then ⟨jy,[],0,(aW t).2⟩ else il t s last
theorem Et {t : List aM} (V : Vt t) {ps : List Bs} {last : Bool} (hl : ps.length <= 64) : kV t 2000 [0] ps last 0 = some (gT t ps last):=by
 obtain ⟨⟨o,ho⟩,_⟩:=yR V 2000 [0] ps last 0 V.root (by omega) (by omega)
 unfold gT;rw [ho];rfl
theorem tC {s : Bs} (h : (aj s).2 = 0) : FO (aj s).1.parts /\ (aj s).1.parts.length <= 16:=by
 have:=ge h
 exact ⟨fun x hx=>(this.1 x hx).2,this.2⟩
section
variable {t : List aM} {s : Bs} {last : Bool}
theorem PX (h : ¬ (aj s).2 = 0) : il t s last = ⟨jy,[],0,(aj s).2⟩:=if_pos h
theorem PY (h : (aj s).2 = 0) (h2 : (aj s).1.abs = false) : il t s last = ⟨jy,[],0,3⟩:=by unfold il;rw [if_neg (by simpa using h),if_pos h2]
theorem PZ (h : (aj s).2 = 0) (h2 : (aj s).1.abs = true) (h3 : ¬ (gT t (aj s).1.parts last).e = 0) : il t s last = ⟨jy,[],0,(gT t (aj s).1.parts last).e⟩:=by unfold il;rw [if_neg (by simpa using h),if_neg (by rw [h2];decide),if_pos h3]
theorem HT (h : (aj s).2 = 0) (h2 : (aj s).1.abs = true) (h3 : (gT t (aj s).1.parts last).e = 0) : il t s last = ⟨(gT t (aj s).1.parts last).x,(aj s).1.stream,(gT t (aj s).1.parts last).st,0⟩:=by unfold il;rw [if_neg (by simpa using h),if_neg (by rw [h2];decide),if_neg (by simpa using h3)]
theorem Oh (V : Vt t) (h : (aj s).2 = 0) : bn Tryz.prog 49 (.ptr 0 0 0 :: ([lj (aj s).1.parts,.bool last] : List D).map .d) [lI t 0] (.d (.tup [(gT t (aj s).1.parts last).x.enc [] 0,i (gT t (aj s).1.parts last).e])) [lI t (gT t (aj s).1.parts last).st]:=
 Uo V 2001 (by omega) 2000 (by omega) _ last 0 _ (tC h).1 (by have:=(tC h).2;omega) (by omega) (by omega) (Et V (by have:=(tC h).2;omega))
end
theorem Og {b : Bool} (e : Int) (h : b = true) : Fn 39 [.bool b,i e] (i 0):=by subst h;exact wn e
theorem SI {b : Bool} (e : Int) (h : b = false) : Fn 39 [.bool b,i e] (i e):=by subst h;exact yd e
theorem LF {s : Bs} {e : Int} (h : (aj s).2 = e) : Fn 36 [.str s] (.tup [js (aj s).1,i e]):=by subst h;exact II s
theorem ql {r r' : Rs} (h : r' = r) : D.tup [r.enc,i r.e] = .tup [r'.enc,i r'.e]:=by rw [h]
attribute [local irreducible] il gT kV aW
theorem R4 (t : List aM) (V : Vt t) (s : Bs) (last : Bool) (hp : ¬ (aj s).2 = 0) : Fn 25 [aS t,.str s,.bool last] (.tup [(il t s last).enc,i (il t s last).e]):=by
 refine ac aZ Tryz.func25 rfl (by kernel_rfl) ?_
 conv=>whnf
 repeat' (first
 | ((with_reducible refine co (by assumption) ?_);conv=>whnf)
 | ((with_reducible refine ak ?_);(first | refine aa (af (xs:=[_]) (II s) _) ?_ | refine aa (af (xs:=[_,_]) (Ip (aj s).1.abs 3) _) ?_ | refine aa (ah (LC (a:=(aj s).2) (b:=if (aj s).1.abs = true then 0 else 3) hp) rfl (aK rfl bM)) ?_);conv=>whnf)
 | ((with_reducible refine ag ?_);first | (exact aP (aY (aK (be (aK rfl (aK rfl (aK rfl (aK rfl (aK rfl (aK rfl bM))))))) (aK rfl bM))) (ql (PX hp));done))
  | fail
  )
theorem R5 (t : List aM) (V : Vt t) (s : Bs) (last : Bool) (hp : (aj s).2 = 0) (ha : (aj s).1.abs = false) : Fn 25 [aS t,.str s,.bool last] (.tup [(il t s last).enc,i (il t s last).e]):=by
 refine ac aZ Tryz.func25 rfl (by kernel_rfl) ?_
 conv=>whnf
 repeat' (first
 | ((with_reducible refine ak ?_);(first | refine aa (af (xs:=[_]) (LF hp) _) ?_ | refine aa (af (xs:=[_,_]) (SI (b:=(aj s).1.abs) 3 ha) _) ?_ | refine aa (ah (F3 (b:=3)) rfl (aK rfl bM)) ?_);conv=>whnf)
 | ((with_reducible refine ag ?_);first | (exact aP (aY (aK (be (aK rfl (aK rfl (aK rfl (aK rfl (aK rfl (aK rfl bM))))))) (aK rfl bM))) (ql (PY hp ha));done))
  | fail
  )
theorem R6 (t : List aM) (V : Vt t) (s : Bs) (last : Bool) (hp : (aj s).2 = 0) (ha : (aj s).1.abs = true) (he : ¬ (gT t (aj s).1.parts last).e = 0) : Fn 25 [aS t,.str s,.bool last] (.tup [(il t s last).enc,i (il t s last).e]):=by
 refine ac aZ Tryz.func25 rfl (by kernel_rfl) ?_
 conv=>whnf
 repeat' (first
 | ((with_reducible refine co (by assumption) ?_);conv=>whnf)
 | ((with_reducible refine ak ?_);(first | refine aa (af (xs:=[_]) (LF hp) _) ?_ | refine aa (af (xs:=[_,_]) (Og (b:=(aj s).1.abs) 3 ha) _) ?_ | refine aa (ah (F3 (b:=0)) rfl (aK rfl bM)) ?_ | refine aa (eJ (Oh (t:=t) (last:=last) V hp) (fun _=>rfl) (l':=[_]) (oc:=⟨[.agg [.d (aS t),.d (i 0)]],2,0⟩) rfl rfl ⟨rfl,rfl,.inr ⟨⟨be (aK rfl (aK rfl bM)),fun j hj=>absurd hj (List.not_mem_nil)⟩,trivial⟩⟩ (d5 _ [_,_]) (fun j hj=>absurd hj (List.not_mem_nil))) ?_);conv=>whnf)
 | ((with_reducible refine ag ?_);first | (exact aP (aY (aK (be (aK rfl (aK rfl (aK rfl (aK rfl (aK rfl (aK rfl bM))))))) (aK rfl bM))) (ql (PZ hp ha he));done))
  | fail
  )
theorem R7 (t : List aM) (V : Vt t) (s : Bs) (last : Bool) (hp : (aj s).2 = 0) (ha : (aj s).1.abs = true) (he : (gT t (aj s).1.parts last).e = 0) : Fn 25 [aS t,.str s,.bool last] (.tup [(il t s last).enc,i (il t s last).e]):=by
 refine ac aZ Tryz.func25 rfl (by kernel_rfl) ?_
 conv=>whnf
 repeat' (first
 | ((with_reducible refine cY (by first | assumption ) ?_);conv=>whnf)
 | ((with_reducible refine ak ?_);(first | refine aa (af (xs:=[_]) (LF hp) _) ?_ | refine aa (af (xs:=[_,_]) (Og (b:=(aj s).1.abs) 3 ha) _) ?_ | refine aa (ah (F3 (b:=0)) rfl (aK rfl bM)) ?_ | refine aa (eJ (Oh (t:=t) (last:=last) V hp) (fun _=>rfl) (l':=[_]) (oc:=⟨[.agg [.d (aS t),.d (i 0)]],2,0⟩) rfl rfl ⟨rfl,rfl,.inr ⟨⟨be (aK rfl (aK rfl bM)),fun j hj=>absurd hj (List.not_mem_nil)⟩,trivial⟩⟩ (d5 _ [_,_]) (fun j hj=>absurd hj (List.not_mem_nil))) ?_);conv=>whnf)
 | (refine ⟨[],[(5,7)],(by decide +kernel),?_⟩;conv=>whnf)
 | ((with_reducible refine ag ?_);first | (exact aP (aY (aK (be (aK rfl (aK rfl (aK rfl (aK rfl (aK rfl (aK rfl bM))))))) (aK rfl bM))) (ql (HT hp ha he));done))
 | (refine ⟨rfl,?_⟩;conv=>whnf)
  | fail
  )
theorem Uy (t : List aM) (V : Vt t) (s : Bs) (last : Bool)  : Fn 25 [aS t,.str s,.bool last] (.tup [(il t s last).enc,i (il t s last).e]):=by
 by_cases hp : (aj s).2 = 0
 ·cases ha : (aj s).1.abs with
  | false=>exact R5 t V s last hp ha
  | true=>
   by_cases he : (gT t (aj s).1.parts last).e = 0
   ·exact R7 t V s last hp ha he
   ·exact R6 t V s last hp ha he
 ·exact R4 t V s last hp
theorem TH {t : List aM} {s : Bs} {last : Bool} (h : ¬ (aW t).2 = 0) : dP t s last = ⟨jy,[],0,(aW t).2⟩:=if_pos h
theorem HU {t : List aM} {s : Bs} {last : Bool} (h : (aW t).2 = 0) : dP t s last = il t s last:=if_neg (by simpa using h)
attribute [local irreducible] dP
theorem U8 (t : List aM) (B : Tb t) (s : Bs) (last : Bool) (hc : ¬ (aW t).2 = 0) : Fn 8 [aS t,.str s,.bool last] (.tup [(dP t s last).enc,i (dP t s last).e]):=by
 refine ac aZ Tryz.func8 rfl (by kernel_rfl) ?_
 conv=>whnf
 repeat' (first
 | ((with_reducible refine co (by assumption) ?_);conv=>whnf)
 | ((with_reducible refine ak ?_);(first | refine aa (af (xs:=[_]) (TW t B) _) ?_);conv=>whnf)
 | ((with_reducible refine ag ?_);first | (exact aP (aY (aK (be (aK rfl (aK rfl (aK rfl (aK rfl (aK rfl (aK rfl bM))))))) (aK rfl bM))) (ql (TH hc));done))
  | fail
  )
theorem U9 (t : List aM) (B : Tb t) (s : Bs) (last : Bool) (hc : (aW t).2 = 0) : Fn 8 [aS t,.str s,.bool last] (.tup [(dP t s last).enc,i (dP t s last).e]):=by
 refine ac aZ Tryz.func8 rfl (by kernel_rfl) ?_
 conv=>whnf
 repeat' (first
 | ((with_reducible refine ak ?_);(first | refine aa (af (xs:=[_]) (N7 B hc) _) ?_ | refine aa (af (xs:=[_,_,_]) (Uy t ⟨B,hc⟩ s last) _) ?_);conv=>whnf)
 | ((with_reducible refine ag ?_);first | (exact aP (aY (aK rfl (aK rfl bM))) (ql (HU hc));done) )
  | fail
  )
theorem c8 (t : List aM) (B : Tb t) (s : Bs) (last : Bool)  : Fn 8 [aS t,.str s,.bool last] (.tup [(dP t s last).enc,i (dP t s last).e]):=by
 by_cases hc : (aW t).2 = 0
 ·exact U9 t B s last hc
 ·exact U8 t B s last hc
def Vo (t : List aM) (s : Bs) : Int × Int:=if (dP t s true).e ≠ 0 then (0,(dP t s true).e) else if (dP t s true).x.node = -1 then (0,6) else ((dP t s true).st,0)
attribute [local irreducible] Vo
end
section
set_option maxRecDepth 10000
attribute [local irreducible] bn
set_option maxHeartbeats 16000000
open Paths
attribute [local irreducible] am cut normal bp aF text aj glue bi ar
def Uh (o : Fo) : Fd:=if o.e = 0 then o.x else jy
attribute [local irreducible] fS q0 fJ kV bX qV bz di aw ba mP gK
attribute [local irreducible] Uh
end
section
set_option maxRecDepth 10000
attribute [local irreducible] bn
set_option maxHeartbeats 2000000
open Paths
attribute [local irreducible] am cut normal bp aF text aj glue bi ar
attribute [local irreducible] il dP gT kV aW Uh
end
section
open Go Dw Paths
def li : List aM -> Nat -> List (Nat × bm)
 | [],_=>[]
 | x :: l,k=>x.ents.map (fun e=>(k,e)) ++ li l (k + 1)
theorem s9 {a : Nat} {e : bm} : ∀ (t : List aM) (k : Nat),(a,e) ∈ li t k ↔ ∃ x,k <= a /\ t[a - k]? = some x /\ e ∈ x.ents
 | [],k=>by simp [li]
 | x :: l,k=>by
  simp only [li,List.mem_append,List.mem_map,Prod.mk.injEq,s9 l (k + 1)]
  constructor
  ·rintro (⟨e', he, rfl, rfl⟩ | ⟨y, h1, h2, h3⟩)
   ·exact ⟨x,Nat.le_refl _,by simp,he⟩
   ·refine ⟨y,by omega,?_,h3⟩
    rw [show a - k = (a - (k + 1)) + 1 by omega];exact h2
  ·rintro ⟨y,h1,h2,h3⟩
   by_cases h : a = k
   ·subst h
    simp at h2
    subst h2
    exact .inl ⟨e,h3,rfl,rfl⟩
   ·right
    refine ⟨y,by omega,?_,h3⟩
    rw [show a - k = (a - (k + 1)) + 1 by omega] at h2;exact h2
theorem nu (n : Int) : ∀ l : List bm,eO l n = l.countP (fun e=>decide (e.node = n))
 | []=>rfl
 | e :: l=>by
  simp only [eO,List.countP_cons,nu n l,lc]
  by_cases h : e.node = n<;>simp [h]<;>omega
theorem lS (n : Int) : ∀ (t : List aM) (k : Nat),aX t n = (li t k).countP (fun p=>decide (p.2.node = n))
 | [],_=>rfl
 | x :: t,k=>by
  simp only [aX,li,List.countP_append,List.countP_map,lS n t (k + 1),nu]
  rfl
theorem si {α : Type} {p : α -> Bool} : ∀ {l : List α} {x y : α},l.countP p <= 1 -> x ∈ l -> y ∈ l -> p x = true -> p y = true -> x = y
 | [],x,_,_,h,_,_,_=>by cases h
 | z :: l,x,y,hc,hx,hy,px,py=>by
  rw [List.countP_cons] at hc
  have pos : ∀ w,w ∈ l -> p w = true -> 1 <= l.countP p:=fun w hw pw=>List.countP_pos_iff.2 ⟨w,hw,pw⟩
  rcases List.mem_cons.1 hx with rfl | hx'
  ·rcases List.mem_cons.1 hy with rfl | hy'
   ·rfl
   ·have:=pos y hy' py
    rw [if_pos px] at hc;omega
  ·rcases List.mem_cons.1 hy with rfl | hy'
   ·have:=pos x hx' px
    rw [if_pos py] at hc;omega
   ·exact si (by omega) hx' hy' px py
theorem Gg {t : List aM} (h : (aW t).2 = 0) : ∀ j,j < t.length -> fD t (fm t 0) j = 0:=by
 have h3 : (bq (ed t) t.length 0).2 = 0:=by
  unfold aW at h
  split at h
  ·cases h
  split at h
  ·cases h
  split at h
  ·assumption
  ·exact h
 have h4 : (bq (fD t (fm t 0)) t.length 0).2 = 0:=by
  unfold aW at h
  split at h
  ·cases h
  split at h
  ·cases h
  first | exact h | (rw [if_pos h3] at h;exact h)
 intro j hj
 exact gr t.length 0 rfl h4 j (Nat.zero_le _) hj
section
variable {t : List aM} (V : Vt t)
include V
theorem Vt.ec {j : Nat} (h0 : 1 <= j) (h : j < t.length) : ¬ aX t j = 0 /\ (¬ t[j].kind = 1 -> aX t j <= 1) /\ fP (fm t 0) j:=by
 have e:=Gg V.ok j h
 rw [mm h0 h] at e
 by_cases e1 : aX t j = 0
 ·rw [if_pos e1] at e;cases e
 ·rw [if_neg e1] at e
  by_cases e2 : 1 < aX t j /\ t[j].kind ≠ 1
  ·rw [if_pos e2] at e;cases e
  ·rw [if_neg e2] at e
   refine ⟨e1,fun hk=>?_,?_⟩
   ·apply Classical.byContradiction
    intro hc
    exact e2 ⟨by omega,hk⟩
   ·by_cases e3 : (fm t 0)[j]? = some true
    ·exact e3
    ·rw [if_neg e3] at e;cases e
theorem Vt.rch {n : Int} (h : gK t n) : eo t 0 n.toNat:=by
 by_cases h0 : n.toNat = 0
 ·rw [h0];exact .refl
 ·exact (xp V.good V.len.1 _).1 (V.ec (by omega) h.2).2.2
theorem Vt.pos {a : Nat} {e : bm} (h : (a,e) ∈ li t 0) : gK t (a : Int) /\ e ∈ (aw t a).ents /\ gK t e.node /\ 1 <= e.node /\ (aw t a).kind = 0:=by
 obtain ⟨x,_,h2,h3⟩:=(s9 t 0).1 h
 have ha : gK t (a : Int):=⟨by omega,by have:=(List.getElem?_eq_some_iff.1 h2).1;simpa using this⟩
 have hx : aw t a = x:=by have:=ha.get;simp only [Int.toNat_natCast] at this;rw [Nat.sub_zero] at h2;rw [h2] at this;exact (Option.some.inj this).symm
 subst hx
 have hg:=V.good _ ha.mem e h3
 refine ⟨ha,h3,V.ent ha h3,hg.1,?_⟩
 apply Classical.byContradiction
 intro hk
 rw [V.noents ha hk] at h3
 cases h3
omit V in
theorem Vt.pos_of {a : Int} (ha : gK t a) {e : bm} (he : e ∈ (aw t a).ents) : (a.toNat,e) ∈ li t 0:=
 (s9 t 0).2 ⟨aw t a,Nat.zero_le _,ha.get,he⟩
theorem Vt.one {n : Int} (hn : gK t n) (h1 : 1 <= n) (hk : ¬ (aw t n).kind = 1) {a b : Int} (ha : gK t a) (hb : gK t b) {e f : bm} (he : e ∈ (aw t a).ents) (hf : f ∈ (aw t b).ents) (e1 : e.node = n) (f1 : f.node = n) : a = b /\ e = f:=by
 have hx:=hn.get
 rw [List.getElem?_eq_getElem hn.2] at hx
 have hc:=(V.ec (j:=n.toNat) (by omega) hn.2).2.1 (by rw [Option.some.inj hx];exact hk)
 have hN : ((n.toNat : Nat) : Int) = n:=Int.toNat_of_nonneg hn.1
 rw [hN,lS n t 0] at hc
 have:=si hc (Vt.pos_of ha he) (Vt.pos_of hb hf) (decide_eq_true e1) (decide_eq_true f1)
 injection this with h2 h3
 have h4:=ha.1
 have h5:=hb.1
 exact ⟨by omega,h3⟩
end
inductive nr (t : List aM) : Nat -> Int -> Bs -> Prop
 | root : nr t 0 0 []
 | step {k : Nat} {a : Int} {s : Bs} {e : bm} : nr t k a s -> gK t a -> e ∈ (aw t a).ents -> nr t (k + 1) e.node (s ++ [47] ++ e.name)
section
variable {t : List aM} (V : Vt t)
include V
theorem nr.okI {k : Nat} {n : Int} {s : Bs} (h : nr t k n s) : gK t n:=by
 cases h with
 | root=>exact ⟨by omega,V.len.1⟩
 | step _ ha he=>exact V.ent ha he
theorem Vt.ent1 {a : Int} (ha : gK t a) {e : bm} (he : e ∈ (aw t a).ents) : 1 <= e.node:=(V.good _ ha.mem e he).1
theorem Vt.dir {a : Int} (ha : gK t a) {e : bm} (he : e ∈ (aw t a).ents) : (aw t a).kind = 0:=by
 apply Classical.byContradiction
 intro hk
 rw [V.noents ha hk] at he
 cases he
theorem nr.uniq : ∀ {k : Nat} {n : Int} {s : Bs},nr t k n s -> ∀ {k' : Nat} {s' : Bs},nr t k' n s' -> ¬ (aw t n).kind = 1 -> k = k' /\ s = s':=by
 intro k n s h
 induction h with
 | root=>
  intro k' s' h' hk
  generalize hn : (0 : Int) = n at h'
  cases h' with
  | root=>exact ⟨rfl,rfl⟩
  | step _ ha he=>have:=V.ent1 ha he;omega
 | @step k a s e hw ha he ih=>
  intro k' s' h' hk
  generalize hn : e.node = n at h'
  cases h' with
  | root=>have:=V.ent1 ha he;omega
  | @step k2 b s2 f hw2 hb hf=>
   have h1:=V.ent1 ha he
   obtain ⟨h3,h4⟩:=V.one (V.ent ha he) h1 hk ha hb he hf rfl hn.symm
   subst h3;subst h4
   obtain ⟨h5,h6⟩:=ih hw2 (by rw [V.dir ha he];decide)
   exact ⟨by rw [h5],by rw [h6]⟩
theorem Vt.way {n : Int} (h : gK t n) : ∃ k s,nr t k n s:=by
 have h1:=V.rch h
 have hN : ((n.toNat : Nat) : Int) = n:=Int.toNat_of_nonneg h.1
 rw [<- hN]
 generalize n.toNat = m at h1
 clear hN
 induction h1 with
 | refl=>exact ⟨0,[],.root⟩
 | @step b x e _ hx he ih=>
  obtain ⟨k,s,hw⟩:=ih
  have hb:=hw.okI V
  have hxx : aw t (b : Int) = x:=by have:=hb.get;simp only [Int.toNat_natCast] at this;rw [hx] at this;exact (Option.some.inj this).symm
  subst hxx
  have:=hw.step hb he
  have h1:=V.ent1 hb he
  rw [show ((e.node.toNat : Nat) : Int) = e.node by omega]
  exact ⟨_,_,this⟩
end
theorem HB : ∀ (n : Nat) (l : List Nat),l.Nodup -> (∀ x ∈ l,x < n) -> l.length <= n
 | 0,[],_,_=>Nat.le_refl _
 | 0,x :: l,_,h=>absurd (h x (by simp)) (by omega)
 | n + 1,l,hd,h=>by
  have h1:=HB n (l.erase n) (hd.erase n) fun x hx=>by
   have h2:=(hd.mem_erase_iff).1 hx
   have:=h x h2.2
   omega
  have h2:=List.length_erase (a:=n) (l:=l)
  split at h2<;>omega
section
variable {t : List aM} (V : Vt t)
include V
theorem nr.chain {k : Nat} {n : Int} {s : Bs} (h : nr t k n s) : ∃ L : List Nat, L.length = k /\ L.Nodup /\ ∀ x ∈ L, x < t.length /\ ∃ j s', j < k /\ nr t j (x : Int) s' /\ (aw t (x : Int)).kind = 0 := by
 induction h with
 | root=>exact ⟨[],rfl,List.nodup_nil,fun x hx=>by cases hx⟩
 | @step k a s e hw ha he ih=>
  obtain ⟨L,h1,h2,h3⟩:=ih
  have hN : ((a.toNat : Nat) : Int) = a:=Int.toNat_of_nonneg ha.1
  have hk:=V.dir ha he
  refine ⟨a.toNat :: L,by simp [h1],List.nodup_cons.2 ⟨fun hm=>?_,h2⟩,fun x hx=>?_⟩
  ·obtain ⟨_, j, s', hj, hw2, _⟩ := h3 _ hm
   rw [hN] at hw2
   have:=(hw.uniq V hw2 (by rw [hk];decide)).1
   omega
  ·rcases List.mem_cons.1 hx with rfl | hx
   ·exact ⟨ha.2,k,s,by omega,by rw [hN];exact hw,by rw [hN];exact hk⟩
   ·obtain ⟨q1, j, s', hj, q2⟩ := h3 x hx
    exact ⟨q1, j, s', by omega, q2⟩
theorem nr.le {k : Nat} {n : Int} {s : Bs} (h : nr t k n s) : k <= t.length:=by
 obtain ⟨L,h1,h2,h3⟩:=h.chain V
 rw [<- h1]
 exact HB _ _ h2 fun x hx=>(h3 x hx).1
theorem nr.name {k : Nat} {n : Int} {s : Bs} (h : nr t k n s) : s.length <= 33 * k:=by
 induction h with
 | root=>exact Nat.zero_le _
 | @step k a s e hw ha he ih=>
  have:=(lL (V.names ha e he)).2.2.2
  simp only [List.length_append,List.length_cons,List.length_nil]
  omega
end
end
section
open Go Dw Paths
def dC (t : List aM) (w : cR) : List cR:=(aw t w.1).ents.map (ee w)
theorem Jo {t : List aM} {w : cR} (h : gK t w.1) : ED t w = some (dC t w):=by
 unfold ED
 rw [if_pos h.1,h.get];rfl
theorem we {t : List aM} : ∀ (n : Nat) (q r : List cR),pF t n q = some r -> r = (q ++ r).flatMap (dC t)
 | n,[],r,h=>by
  have:=wg h
  subst this;rfl
 | n,w :: q,r,h=>by
  obtain ⟨m, nd, r', rfl, h0, hd, hb, rfl⟩ := pG h
  have ih:=we m _ _ hb
  have hk : nd.ents.map (ee w) = dC t w:=by
   unfold dC aw
   rw [hd];rfl
  rw [hk] at ih ⊢
  show dC t w ++ r' = (w :: (q ++ (dC t w ++ r'))).flatMap (dC t)
  rw [List.flatMap_cons,<- List.append_assoc,<- ih]
def xM (t : List aM) (q : List cR) : Prop:=∀ w ∈ q,∃ k,nr t k w.1 w.2
section
variable {t : List aM} (V : Vt t)
include V
theorem G5 {w : cR} (h : ∃ k,nr t k w.1 w.2) : xM t (dC t w):=by
 intro v hv
 obtain ⟨e,he,rfl⟩:=List.mem_map.1 hv
 obtain ⟨k,hw⟩:=h
 exact ⟨k + 1,hw.step (hw.okI V) he⟩
theorem og : ∀ (n : Nat) (q r : List cR),pF t n q = some r -> xM t q -> xM t r
 | n,[],r,h,_=>by
  have:=wg h
  subst this;intro w hw;cases hw
 | n,w :: q,r,h,hq=>by
  obtain ⟨m, nd, r', rfl, h0, hd, hb, rfl⟩ := pG h
  have hk : nd.ents.map (ee w) = dC t w:=by
   unfold dC aw
   rw [hd];rfl
  rw [hk] at hb ⊢
  have h1:=G5 V (hq w (by simp))
  have ih:=og m _ _ hb fun v hv=>by
   rcases List.mem_append.1 hv with hv | hv
   ·exact hq v (by simp [hv])
   ·exact h1 v hv
  intro v hv
  rcases List.mem_append.1 hv with hv | hv
  ·exact h1 v hv
  ·exact ih v hv
def Qy (t : List aM) (p : cR × Nat) : Nat:=2000000 ^ (t.length - p.2)
omit V in
theorem DN (t : List aM) (p : cR × Nat) : 1 <= Qy t p:=Nat.pow_pos (by decide)
theorem FY : ∀ (m : Nat) (ps : List (cR × Nat)),(∀ p ∈ ps,nr t p.2 p.1.1 p.1.2) -> (ps.map (Qy t)).sum <= m -> ∃ N r,pF t N (ps.map (·.1)) = some r
 | m,[],_,_=>⟨0,[],rfl⟩
 | 0,p :: ps,_,h=>by
  have:=DN t p
  simp only [List.map_cons,List.sum_cons] at h;omega
 | m + 1,p :: ps,hw,h=>by
  obtain ⟨w,k⟩:=p
  have hp : nr t k w.1 w.2:=hw (w,k) (by simp)
  have hi:=hp.okI V
  let ks : List (cR × Nat):=(dC t w).map fun v=>(v,k + 1)
  have hks : ∀ v ∈ ks,nr t v.2 v.1.1 v.1.2:=by
   intro v hv
   obtain ⟨u,hu,rfl⟩:=List.mem_map.1 hv
   obtain ⟨e,he,rfl⟩:=List.mem_map.1 hu
   exact hp.step hi he
  have hsum : (ks.map (Qy t)).sum < Qy t (w,k):=by
   have e1 : ks.map (Qy t) = List.replicate (aw t w.1).ents.length (2000000 ^ (t.length - (k + 1))):=by
    rw [List.eq_replicate_iff]
    refine ⟨by simp [ks,dC],fun b hb=>?_⟩
    simp only [ks,List.map_map,List.mem_map] at hb
    obtain ⟨u,_,rfl⟩:=hb
    rfl
   rw [e1,List.sum_replicate_nat]
   by_cases h0 : (aw t w.1).ents.length = 0
   ·rw [h0,Nat.zero_mul];exact DN t _
   ·have hk1 : k + 1 <= t.length:=by
     cases hz : (aw t w.1).ents with
     | nil=>rw [hz] at h0;exact absurd rfl h0
     | cons e l=>exact (hp.step hi (e:=e) (by rw [hz];simp)).le V
    have hb:=V.b.el _ hi.mem
    show _ < 2000000 ^ (t.length - k)
    rw [show t.length - k = (t.length - (k + 1)) + 1 by omega,Nat.pow_succ,Nat.mul_comm]
    exact Nat.mul_lt_mul_of_pos_left hb (Nat.pow_pos (by decide))
  obtain ⟨N,r,hr⟩:=FY m (ps ++ ks) (fun v hv=>by
   rcases List.mem_append.1 hv with hv | hv
   ·exact hw v (by simp [hv])
   ·exact hks v hv) (by
   rw [List.map_append,List.sum_append_nat]
   simp only [List.map_cons,List.sum_cons] at h
   omega)
  refine ⟨N + 1,dC t w ++ r,?_⟩
  have e2 : (ps ++ ks).map (·.1) = ps.map (·.1) ++ dC t w:=by
   rw [List.map_append]
   simp only [ks,List.map_map]
   congr 1
   exact (List.map_congr_left (g:=id) fun x _=>rfl).trans (List.map_id _)
  rw [e2] at hr
  show (match ED t w with
   | none=>none
   | some ks=>match pF t N ((ps.map fun (x : cR × Nat)=>x.1) ++ ks) with
    | none=>none
    | some r=>some (ks ++ r)) = _
  rw [Jo hi]
  simp only [hr]
theorem Vt.ways : ∃ N ys,pF t N [(0,[])] = some ys:=FY V _ [(((0 : Int),([] : Bs)),(0 : Nat))] (fun p hp=>by rw [List.mem_singleton] at hp;subst hp;exact .root) (Nat.le_refl _)
omit V in
theorem nv {n : Int} : ∀ {t : List aM} {x : aM},x ∈ t -> eO x.ents n <= aX t n
 | y :: t,x,h=>by
  rcases List.mem_cons.1 h with rfl | h
  ·simp only [aX];omega
  ·have:=nv (n:=n) h
   simp only [aX];omega
omit V in
theorem DF {α : Type} [BEq α] [LawfulBEq α] {f : α -> Nat} {u : α} : ∀ l : List α,(∀ v ∈ l,f v = if v == u then 1 else 0) -> (l.map f).sum = l.count u
 | [],_=>rfl
 | v :: l,h=>by
  rw [List.map_cons,List.sum_cons,List.count_cons,h v (by simp),DF l fun x hx=>h x (by simp [hx])]
  omega
theorem Ij {N : Nat} {ys : List cR} (hy : pF t N [(0,[])] = some ys) {k : Nat} {n : Int} {s : Bs} (h : nr t k n s) (hk : ¬ (aw t n).kind = 1) : ((0,[]) :: ys : List cR).count (n,s) = 1:=by
 have hfix:=we _ _ _ hy
 have hall : xM t ((0,[]) :: ys):=fun w hw=>by
  rcases List.mem_cons.1 hw with rfl | hw
  ·exact ⟨0,.root⟩
  ·exact og V _ _ _ hy (fun v hv=>by rw [List.mem_singleton] at hv;subst hv;exact ⟨0,.root⟩) w hw
 have hno : ∀ (s : Bs),ys.count ((0 : Int),s) = 0:=by
  intro s
  rw [List.count_eq_zero]
  intro hm
  rw [hfix] at hm
  obtain ⟨v,hv,hm⟩:=List.mem_flatMap.1 hm
  obtain ⟨e,he,hem⟩:=List.mem_map.1 hm
  obtain ⟨kv,hvw⟩:=hall v hv
  have:=V.ent1 (hvw.okI V) he
  have h2:=congrArg Prod.fst hem
  have h3 : e.node = 0:=h2
  omega
 revert hk
 induction h with
 | root=>
  intro _
  rw [List.count_cons,hno];simp
 | @step k a s e hw ha he ih=>
  intro hk
  have hd:=V.dir ha he
  have h1:=V.ent1 ha he
  have hu:=ih (by rw [hd];decide)
  have hne : ((0,[]) : cR) ≠ (e.node,s ++ [47] ++ e.name):=fun hc=>by
   have:=congrArg Prod.fst hc
   have : (0 : Int) = e.node:=this
   omega
  rw [List.count_cons,if_neg (by simp),Nat.add_zero]
  have e1 : ys.count (e.node,s ++ [47] ++ e.name) = (((0,[]) :: ys : List cR).flatMap (dC t)).count (e.node,s ++ [47] ++ e.name):=congrArg (List.count _) hfix
  rw [e1,List.count_flatMap,<- hu]
  refine DF _ fun v hv=>?_
  obtain ⟨kv,hvw⟩:=hall v hv
  have hvi:=hvw.okI V
  show (dC t v).count _ = _
  by_cases hvu : v = (a,s)
  ·subst hvu
   rw [if_pos (by simp)]
   have hge : 1 <= (dC t (a,s)).count (e.node,s ++ [47] ++ e.name):=List.one_le_count_iff.2 (List.mem_map.2 ⟨e,he,rfl⟩)
   have hle : (dC t (a,s)).count (e.node,s ++ [47] ++ e.name) <= 1:=by
    have h2 : (dC t (a,s)).count (e.node,s ++ [47] ++ e.name) <= eO (aw t a).ents e.node:=by
     rw [nu]
     unfold dC List.count
     rw [List.countP_map]
     refine List.countP_mono_left fun x _ hx=>?_
     have hx2 : ee (a,s) x = (e.node,s ++ [47] ++ e.name):=by simpa using hx
     have:=congrArg Prod.fst hx2
     exact decide_eq_true this
    have h3:=nv (n:=e.node) ha.mem
    have hn:=V.ent ha he
    have hx:=hn.get
    rw [List.getElem?_eq_getElem hn.2] at hx
    have hc:=(V.ec (j:=e.node.toNat) (by omega) hn.2).2.1 (by rw [Option.some.inj hx];exact hk)
    rw [Int.toNat_of_nonneg hn.1] at hc
    omega
   omega
  ·rw [if_neg (by simp only [beq_iff_eq];exact hvu)]
   rw [List.count_eq_zero]
   intro hm
   obtain ⟨f,hf,hfe⟩:=List.mem_map.1 hm
   have hfn : f.node = e.node:=congrArg Prod.fst hfe
   obtain ⟨h3,h4⟩:=V.one (V.ent ha he) h1 hk ha hvi he hf rfl hfn
   subst h3
   have:=(hw.uniq V hvw (by rw [hd];decide)).2
   exact hvu (Prod.ext rfl this.symm)
end
end
section
open Go Dw Paths
open Classical in
noncomputable def pw (t : List aM) (a : Int) : Bs:=if h : ∃ s,∃ k,nr t k a s then h.choose else []
noncomputable def M3 (t : List aM) (n : Int) : List Bs:=((li t 0).filter fun p=>decide (p.2.node = n)).map fun p=>pw t p.1 ++ [47] ++ p.2.name
def sQ : List Bs -> Bs -> List Bs
 | [],s=>[s]
 | x :: l,s=>if s < x then s :: x :: l else x :: sQ l s
def Ez (l : List Bs) : List Bs:=l.foldl sQ []
noncomputable def ef (t : List aM) (n : Int) : List Bs:=if n = 0 then [[47]] else Ez (M3 t n)
section
variable {t : List aM} (V : Vt t)
include V
theorem K3 {k : Nat} {a : Int} {s : Bs} (h : nr t k a s) (hk : ¬ (aw t a).kind = 1) : pw t a = s:=by
 unfold pw
 have hex : ∃ s,∃ k,nr t k a s:=⟨s,k,h⟩
 rw [dif_pos hex]
 obtain ⟨k', h'⟩ := hex.choose_spec
 exact (h'.uniq V h hk).2
theorem HH {a : Int} (ha : gK t a) (hk : ¬ (aw t a).kind = 1) : ∃ k,nr t k a (pw t a):=by
 obtain ⟨k,s,h⟩:=V.way ha
 rw [K3 V h hk];exact ⟨k,h⟩
omit V in
theorem sL {α β : Type} {f g : α -> List β} : ∀ {l : List α},(∀ x ∈ l,f x = g x) -> l.flatMap f = l.flatMap g
 | [],_=>rfl
 | x :: l,h=>by rw [List.flatMap_cons,List.flatMap_cons,h x (by simp),sL fun y hy=>h y (by simp [hy])]
def EA (t : List aM) (w : cR) : Bool:=decide ((aw t w.1).kind = 0)
noncomputable def Gv (t : List aM) : List cR:=((List.range t.length).map fun (a : Nat)=>((a : Int),pw t (a : Int))).filter (EA t)
omit V in
theorem EO (f : Int -> Bs) : ∀ l : List Nat,l.Nodup -> (l.map fun (a : Nat)=>((a : Int),f (a : Int))).Nodup:=by
 intro l h
 refine List.pairwise_map.2 (h.imp fun {x y} hne e=>hne ?_)
 have:=congrArg Prod.fst e
 have : (x : Int) = y:=this
 omega
theorem Ee {N : Nat} {ys : List cR} (hy : pF t N [(0,[])] = some ys) : (((0,[]) :: ys : List cR).filter (EA t)).Perm (Gv t):=by
 have hall : xM t ((0,[]) :: ys):=fun w hw=>by
  rcases List.mem_cons.1 hw with rfl | hw
  ·exact ⟨0,.root⟩
  ·exact og V _ _ _ hy (fun v hv=>by rw [List.mem_singleton] at hv;subst hv;exact ⟨0,.root⟩) w hw
 rw [List.perm_iff_count]
 intro w
 have hd2 : (Gv t).Nodup:=(EO (pw t) _ List.nodup_range).filter _
 by_cases hz : EA t w = true
 ·have hk : ¬ (aw t w.1).kind = 1:=by
   have:=of_decide_eq_true hz
   rw [this];decide
  rw [List.count_filter hz]
  by_cases hw : ∃ k,nr t k w.1 w.2
  ·obtain ⟨k,hk2⟩:=hw
   rw [Ij V hy (n:=w.1) (s:=w.2) hk2 hk,hd2.count,if_pos]
   refine List.mem_filter.2 ⟨List.mem_map.2 ⟨w.1.toNat,?_,?_⟩,hz⟩
   ·exact List.mem_range.2 (hk2.okI V).2
   ·have h1 : ((w.1.toNat : Nat) : Int) = w.1:=Int.toNat_of_nonneg (hk2.okI V).1
    rw [h1,K3 V hk2 hk]
  ·rw [List.count_eq_zero.2 fun hm=>hw (hall w hm),List.count_eq_zero.2 fun hm=>?_]
   obtain ⟨hm,_⟩:=List.mem_filter.1 hm
   obtain ⟨a,ha,rfl⟩:=List.mem_map.1 hm
   have hai : gK t (a : Int):=⟨by omega,by simpa using List.mem_range.1 ha⟩
   exact hw (HH V hai hk)
 ·have h1 : List.count w (Gv t) = 0:=List.count_eq_zero.2 fun hm=>hz (List.mem_filter.1 hm).2
  rw [h1]
  exact List.count_eq_zero.2 fun hm=>hz (List.mem_filter.1 hm).2
theorem Er (l : List cR) (hl : xM t l) : l.flatMap (dC t) = (l.filter (EA t)).flatMap (dC t):=by
 induction l with
 | nil=>rfl
 | cons w l ih=>
  have ih:=ih fun v hv=>hl v (by simp [hv])
  rw [List.flatMap_cons,ih]
  by_cases hz : EA t w = true
  ·rw [List.filter_cons_of_pos hz,List.flatMap_cons]
  ·rw [List.filter_cons_of_neg hz]
   obtain ⟨k,hw⟩:=hl w (by simp)
   have : (aw t w.1).ents = []:=V.noents (hw.okI V) fun h=>hz (decide_eq_true h)
   unfold dC
   rw [this];rfl
omit V in
theorem yP (f : Nat -> Bs) (g : Nat -> Bool) : ∀ (l : List aM) (k : Nat),((List.range' k l.length).flatMap fun (a : Nat)=>(((l[a - k]?).getD ⟨0,[],[]⟩).ents.map fun e=>(e.node,f a ++ [47] ++ e.name))) = (li l k).map fun p=>(p.2.node,f p.1 ++ [47] ++ p.2.name)
 | [],k=>rfl
 | x :: l,k=>by
  simp only [List.length_cons,List.range'_succ,List.flatMap_cons,li,List.map_append,List.map_map]
  rw [<- yP f g l (k + 1)]
  congr 1
  ·simp
  ·refine sL fun a ha=>?_
   have:=(List.mem_range'_1.1 ha).1
   rw [show a - k = (a - (k + 1)) + 1 by omega];rfl
theorem qp {N : Nat} {ys : List cR} (hy : pF t N [(0,[])] = some ys) : ys.Perm ((li t 0).map fun p=>(p.2.node,pw t p.1 ++ [47] ++ p.2.name)):=by
 have hall : xM t ((0,[]) :: ys):=fun w hw=>by
  rcases List.mem_cons.1 hw with rfl | hw
  ·exact ⟨0,.root⟩
  ·exact og V _ _ _ hy (fun v hv=>by rw [List.mem_singleton] at hv;subst hv;exact ⟨0,.root⟩) w hw
 have hfix:=we _ _ _ hy
 have e1 : ((0,[]) :: ys : List cR).flatMap (dC t) = ys:=hfix.symm
 rw [Er V _ hall] at e1
 have h2:=(Ee V hy).flatMap_right (dC t)
 rw [e1] at h2
 refine h2.trans ?_
 have hall2 : xM t ((List.range t.length).map fun (a : Nat)=>((a : Int),pw t (a : Int))) -> True:=fun _=>trivial
 have e3 : (Gv t).flatMap (dC t) = ((List.range t.length).map fun (a : Nat)=>((a : Int),pw t (a : Int))).flatMap (dC t):=by
  unfold Gv
  generalize hL : ((List.range t.length).map fun (a : Nat)=>((a : Int),pw t (a : Int))) = L
  have hok : ∀ w ∈ L,gK t w.1:=by
   intro w hw
   subst hL
   obtain ⟨a,ha,rfl⟩:=List.mem_map.1 hw
   exact ⟨by show (0 : Int) <= (a : Int);omega,by simpa using List.mem_range.1 ha⟩
  clear hL
  induction L with
  | nil=>rfl
  | cons w l ih=>
   have ih:=ih fun v hv=>hok v (by simp [hv])
   rw [List.flatMap_cons,<- ih]
   by_cases hz : EA t w = true
   ·rw [List.filter_cons_of_pos hz,List.flatMap_cons]
   ·rw [List.filter_cons_of_neg hz]
    have : (aw t w.1).ents = []:=V.noents (hok w (by simp)) fun h=>hz (decide_eq_true h)
    unfold dC
    rw [this];rfl
 rw [e3,List.flatMap_map]
 have e4:=yP (fun a=>pw t (a : Int)) (fun _=>true) t 0
 rw [<- e4,<- List.range_eq_range']
 refine List.Perm.of_eq (sL fun a _=>?_)
 show (aw t (a : Int)).ents.map _ = _
 unfold aw
 rw [Int.toNat_natCast,Nat.sub_zero]
 rfl
theorem H8 {N : Nat} {ys : List cR} (hy : pF t N [(0,[])] = some ys) {n : Int} (h0 : ¬ n = 0) : (vV n (lr ys)).Perm (M3 t n):=by
 unfold vV lr M3
 rw [List.filter_cons_of_neg (by simpa using fun e : (0 : Int) = n=>h0 e.symm)]
 refine ((((qp V hy).filter _).map _)).trans (List.Perm.of_eq ?_)
 rw [List.filter_map,List.map_map]
 rfl
end
theorem p8 : ∀ (l : List Bs) (s : Bs),(sQ l s).Perm (s :: l)
 | [],s=>.refl _
 | x :: l,s=>by
  unfold sQ
  split
  ·exact .refl _
  ·exact ((p8 l s).cons x).trans (.swap s x l)
theorem oM : ∀ (l out : List Bs),(l.foldl sQ out).Perm (out ++ l)
 | [],out=>by simp
 | s :: l,out=>by
  rw [List.foldl_cons]
  refine (oM l _).trans ?_
  refine ((p8 out s).append_right l).trans ?_
  exact List.perm_middle.symm
theorem p9 (l : List Bs) : (Ez l).Perm l:=by
 have:=oM l []
 rwa [List.nil_append] at this
def Iu (l : List Bs) : Prop:=l.Pairwise fun a b=>a <= b
theorem za : ∀ (l : List Bs) (s : Bs),Iu l -> Iu (sQ l s)
 | [],s,_=>by unfold sQ Iu;simp
 | x :: l,s,h=>by
  unfold sQ
  obtain ⟨h1,h2⟩:=List.pairwise_cons.1 h
  split
  ·rename_i hs
   refine List.pairwise_cons.2 ⟨fun y hy=>?_,h⟩
   have hsx : s <= x:=List.le_of_lt hs
   rcases List.mem_cons.1 hy with rfl | hy
   ·exact hsx
   ·exact List.le_trans hsx (h1 y hy)
  ·rename_i hs
   refine List.pairwise_cons.2 ⟨fun y hy=>?_,za l s h2⟩
   rcases List.mem_cons.1 ((p8 l s).mem_iff.1 hy) with rfl | hy
   ·exact List.not_lt.1 hs
   ·exact h1 y hy
theorem G2 (l : List Bs) : Iu (Ez l):=by
 unfold Ez
 have : ∀ (l out : List Bs),Iu out -> Iu (l.foldl sQ out):=by
  intro l
  induction l with
  | nil=>exact fun _ h=>h
  | cons s l ih=>exact fun out h=>ih _ (za out s h)
 exact this l [] List.Pairwise.nil
theorem Ft (l : List Bs) : Iu (iN l):=by
 have:=List.pairwise_mergeSort (le:=fun x y : Bs=>decide (x <= y)) (fun a b c h1 h2=>decide_eq_true (List.le_trans (of_decide_eq_true h1) (of_decide_eq_true h2))) (fun a b=>by
  rcases List.le_total a b with h | h
  ·simp [h]
  ·simp [h]) l
 exact this.imp fun h=>of_decide_eq_true h
theorem H4 {a b : List Bs} (ha : Iu a) (hb : Iu b) (h : a.Perm b) : a = b:=
 h.eq_of_pairwise (fun _ _ _ _ h1 h2=>List.le_antisymm h1 h2) ha hb
theorem BW {t : List aM} (V : Vt t) {N : Nat} {ys : List cR} (hy : pF t N [(0,[])] = some ys) (n : Int) : iN (vV n (lr ys)) = ef t n:=by
 unfold ef
 by_cases h0 : n = 0
 ·rw [if_pos h0]
  subst h0
  have : vV 0 (lr ys) = [[47]]:=by
   unfold vV lr
   rw [List.filter_cons_of_pos (by simp)]
   have : ys.filter (fun w=>decide (w.1 = 0)) = []:=by
    rw [List.filter_eq_nil_iff]
    intro w hw hc
    have hp:=(qp V hy).mem_iff.1 hw
    obtain ⟨⟨a,e⟩,hm,rfl⟩:=List.mem_map.1 hp
    have h1:=(V.pos hm).2.2.2.1
    have h2 : e.node = 0:=of_decide_eq_true hc
    omega
   rw [this];rfl
  rw [this,vP]
 ·rw [if_neg h0]
  exact H4 (Ft _) (G2 _) (((List.mergeSort_perm _ _).trans (H8 V hy h0)).trans (p9 _).symm)
end
section
open Go Dw Paths
def Us (_ : List aM) (a : Int) (p : Bs) : Bs:=if a = 0 then [47] else p
section
variable {t : List aM} (V : Vt t)
include V
theorem JH {n : Int} {p : Bs} (h : p ∈ M3 t n) : ∃ a e,(a,e) ∈ li t 0 /\ e.node = n /\ p = pw t (a : Int) ++ [47] ++ e.name /\ ∃ k,nr t (k + 1) n p:=by
 obtain ⟨⟨a,e⟩,hm,rfl⟩:=List.mem_map.1 h
 obtain ⟨h1,h2⟩:=List.mem_filter.1 hm
 have h3 : e.node = n:=of_decide_eq_true h2
 obtain ⟨ha,he,hn,_,hk⟩:=V.pos h1
 obtain ⟨k,hw⟩:=HH V ha (by rw [hk];decide)
 exact ⟨a,e,h1,h3,rfl,k,by have:=hw.step ha he;rwa [h3] at this⟩
theorem E4 {n : Int} {p : Bs} (h0 : ¬ n = 0) (h : p ∈ ef t n) : ∃ k,nr t (k + 1) n p:=by
 unfold ef at h
 rw [if_neg h0] at h
 obtain ⟨_,_,_,_,_,k,hw⟩:=JH V ((p9 _).mem_iff.1 h)
 exact ⟨k,hw⟩
end
theorem yC {len : Int} {l : List bm} : ∀ (n k : Nat),n = l.length - k -> dc len l n k = 0 -> ∀ j (h : j < l.length),k <= j -> iB len (l.take j) l[j] = 0
 | 0,k,hn,_,j,h,hk=>by omega
 | n + 1,k,hn,he,j,h,hk=>by
  have hkl : k < l.length:=by omega
  rw [fC hkl hn] at he
  by_cases e : iB len (l.take k) l[k] = 0
  ·rw [if_neg (by simpa using e)] at he
   by_cases hj : j = k
   ·subst hj;exact e
   ·exact yC (l.length - (k + 1)) (k + 1) rfl he j h (by omega)
  ·rw [if_pos e] at he;exact absurd he e
theorem Vt.dist {t : List aM} (V : Vt t) {n : Int} (h : gK t n) {i j : Nat} (hi : i < j) (hj : j < (aw t n).ents.length) : ¬ bi (aw t n).ents[i].name = bi (aw t n).ents[j].name:=by
 have hn:=V.nod h
 unfold dv at hn
 split at hn
 ·cases hn
 split at hn
 ·cases hn
 split at hn
 ·cases hn
 split at hn
 ·rename_i h4;exact absurd hn h4
 ·rename_i h4
  have:=yC _ 0 rfl (Classical.not_not.1 h4) j hj (Nat.zero_le _)
  unfold iB at this
  split at this
  ·rename_i h5;exact absurd this h5
  split at this
  ·cases this
  ·rename_i h6
   intro hc
   exact h6 (List.any_eq_true.2 ⟨(aw t n).ents[i],List.mem_take_iff_getElem.2 ⟨i,by omega,rfl⟩,decide_eq_true hc⟩)
theorem vh {s : Bs} : ∀ (l : List bm) (k : Nat),(∃ e ∈ l,bi e.name = bi s) -> ∃ j,∃ h : j < l.length,iH l s k = ((k + j : Nat) : Int) /\ bi l[j].name = bi s
 | [],k,⟨e,he,_⟩=>by cases he
 | x :: l,k,⟨e,he,hf⟩=>by
  have e2 : iH (x :: l) s k = if bi x.name = bi s then (k : Int) else iH l s (k + 1):=rfl
  rw [e2]
  by_cases hx : bi x.name = bi s
  ·exact ⟨0,by simp,by rw [if_pos hx];rfl,hx⟩
  ·rw [if_neg hx]
   have he2 : e ∈ l:=by
    rcases List.mem_cons.1 he with rfl | h
    ·exact absurd hf hx
    ·exact h
   obtain ⟨j,h1,h2,h3⟩:=vh l (k + 1) ⟨e,he2,hf⟩
   exact ⟨j + 1,by simpa using h1,by rw [h2];congr 1;omega,h3⟩
theorem qf {t : List aM} (V : Vt t) {n : Int} (h : gK t n) {e : bm} (he : e ∈ (aw t n).ents) : ¬ bX (aw t n).ents e.name < 0 /\ qV (aw t n).ents e.name = e:=by
 obtain ⟨j,hj,hl,hf⟩:=vh (s:=e.name) (aw t n).ents 0 ⟨e,he,rfl⟩
 obtain ⟨m,hm,hme⟩:=List.getElem_of_mem he
 have hjm : j = m:=by
  rcases Nat.lt_trichotomy j m with h1 | h1 | h1
  ·exact absurd (by rw [hme];exact hf) (V.dist h h1 hm)
  ·exact h1
  ·exact absurd (by rw [hme];exact hf.symm) (V.dist h h1 hj)
 subst hjm
 have hlk : bX (aw t n).ents e.name = ((j : Nat) : Int):=by
  unfold bX;rw [hl,Nat.zero_add]
 refine ⟨by rw [hlk];omega,?_⟩
 unfold qV
 rw [hlk,Int.toNat_natCast,List.getElem?_eq_getElem hj,hme];rfl
def nf (l : List Bs) : Bs:=(l.map fun x=>47 :: x).flatten
theorem sV (l : List Bs) (x : Bs) : nf (l ++ [x]) = nf l ++ [47] ++ x:=by simp [nf]
theorem sU : ∀ {l : List Bs},l ≠ [] -> nf l = 47 :: glue 47 l
 | [x],_=>by simp [nf,glue]
 | x :: y :: l,_=>by
  have ih:=sU (l:=y :: l) (by simp)
  rw [Ew x (y :: l) (by simp)]
  have : nf (x :: y :: l) = (47 :: x) ++ nf (y :: l):=rfl
  rw [this,ih];rfl
theorem GR {t : List aM} (V : Vt t) {m : Nat} {tr : List Int} {r : List Bs} {last : Bool} {st : Int} {e : bm} (hT : mP t tr) (he : e ∈ (aw t (ba tr)).ents) (hr : r.length + 1 <= 64) (hk : (aw t e.node).kind = 0) : kV t (m + 1) tr (e.name :: r) last st = kV t m (tr ++ [e.node]) r last st:=by
 obtain ⟨h1,h2⟩:=qf V hT.here he
 have hn:=V.names hT.here e he
 have hd:=j5 hn
 have d1 : ¬ e.name = [46]:=fun hc=>by rw [hc] at hd;exact absurd hd (by decide)
 have d2 : ¬ e.name = [46,46]:=fun hc=>by rw [hc] at hd;exact absurd hd (by decide)
 have h3 : bz t tr e.name = e:=h2
 rw [uW]
 unfold yQ
 rw [if_neg (by omega),if_neg d1,if_neg d2,if_neg h1,h3,if_pos hk]
theorem GQ {t : List aM} (V : Vt t) {m : Nat} {tr : List Int} {st : Int} {e : bm} (hT : mP t tr) (he : e ∈ (aw t (ba tr)).ents) : ∃ o,kV t (m + 2) tr [e.name] false st = some o /\ o.e = 0 /\ o.st = st /\ o.x.node = e.node:=by
 obtain ⟨h1,h2⟩:=qf V hT.here he
 have hn:=V.names hT.here e he
 have hd:=j5 hn
 have d1 : ¬ e.name = [46]:=fun hc=>by rw [hc] at hd;exact absurd hd (by decide)
 have d2 : ¬ e.name = [46,46]:=fun hc=>by rw [hc] at hd;exact absurd hd (by decide)
 have h3 : bz t tr e.name = e:=h2
 rw [uW]
 unfold yQ
 rw [if_neg (by simp),if_neg d1,if_neg d2,if_neg h1,h3]
 by_cases k0 : (aw t e.node).kind = 0
 ·rw [if_pos k0]
  refine ⟨_,KN t m _ false st,rfl,rfl,qE _ _⟩
 ·rw [if_neg k0]
  by_cases k1 : (aw t e.node).kind = 1
  ·rw [if_pos k1];exact ⟨⟨⟨e.node,ba tr,e.name,tr⟩,0,st⟩,rfl,rfl,rfl,rfl⟩
  ·rw [if_neg k1,if_pos ⟨rfl,rfl⟩];exact ⟨_,rfl,rfl,rfl,rfl⟩
theorem Kk {t : List aM} (V : Vt t) {k : Nat} {n : Int} {s : Bs} (h : nr t k n s) : ∃ l : List Bs,l.length = k /\ s = nf l /\ (∀ x ∈ l,am x = 0) /\
  ((aw t n).kind = 0 -> ∃ tr,mP t tr /\ ba tr = n /\ ∀ m r last st,l.length + r.length <= 64 -> kV t (m + k) [0] (l ++ r) last st = kV t m tr r last st) /\
  (k ≠ 0 -> l.length <= 64 -> ∀ m st,∃ o,kV t (m + k + 1) [0] l false st = some o /\ o.e = 0 /\ o.st = st /\ o.x.node = n):=by
 induction h with
 | root=>exact ⟨[],rfl,rfl,(fun x hx=>by cases hx),fun _=>⟨[0],V.root,rfl,fun m r last st _=>rfl⟩,fun hc=>absurd rfl hc⟩
 | @step k a s e hw ha he ih=>
  obtain ⟨l,h1,h2,h3,h4,_⟩:=ih
  obtain ⟨tr,t1,t2,t3⟩:=h4 (V.dir ha he)
  have he' : e ∈ (aw t (ba tr)).ents:=by rw [t2];exact he
  refine ⟨l ++ [e.name],by simp [h1],by rw [sV,<- h2],fun x hx=>?_,fun hk=>⟨tr ++ [e.node],t1.snoc (V.ent ha he),qE _ _,fun m r last st hl=>?_⟩,fun _ hl m st=>?_⟩
  ·rcases List.mem_append.1 hx with hx | hx
   ·exact h3 x hx
   ·rw [List.mem_singleton] at hx;subst hx;exact V.names ha e he
  ·simp only [List.length_append,List.length_cons,List.length_nil] at hl
   rw [List.append_assoc,show m + (k + 1) = (m + 1) + k by omega,t3 (m + 1) ([e.name] ++ r) last st (by simp only [List.length_append,List.length_cons,List.length_nil];omega)]
   show kV t (m + 1) tr (e.name :: r) last st = _
   exact GR V t1 he' (by omega) hk
  ·simp only [List.length_append,List.length_cons,List.length_nil] at hl
   rw [show m + (k + 1) + 1 = (m + 2) + k by omega,t3 (m + 2) [e.name] false st (by simp;omega)]
   exact GQ V t1 he'
def Nf (t : List aM) (d n : Int) : Bool:=((fm t d.toNat)[n.toNat]?).getD false
theorem eo.trans {t : List aM} {a b c : Nat} (h : eo t a b) (h2 : eo t b c) : eo t a c:=by
 induction h2 with
 | refl=>exact h
 | step _ hx he ih=>exact .step ih hx he
theorem eo.head {t : List aM} {a b : Nat} (h : eo t a b) : a = b \/ ∃ x e,t[a]? = some x /\ e ∈ x.ents /\ eo t e.node.toNat b:=by
 induction h with
 | refl=>exact .inl rfl
 | @step b x e _ hx he ih=>
  right
  rcases ih with rfl | ⟨y,f,h1,h2,h3⟩
  ·exact ⟨x,e,hx,he,.refl⟩
  ·exact ⟨y,f,h1,h2,.step h3 hx he⟩
end
section
open Go Dw Paths
def Ur (t : List aM) : Prop:=∀ a,gK t a -> ¬ (aw t a).kind = 2 /\ ¬ (aw t a).kind = 3
inductive Ks (t : List aM) : List Int -> List Bs -> Prop
 | root : Ks t [0] []
 | step {tr : List Int} {out : List Bs} {p : Bs} : Ks t tr out -> mP t tr -> (¬ p = [46] /\ ¬ p = [46,46]) -> ¬ bX (aw t (ba tr)).ents p < 0 -> (aw t (bz t tr p).node).kind = 0 -> Ks t (tr ++ [(bz t tr p).node]) (out ++ [p])
theorem Ks.len {t : List aM} {tr : List Int} {out : List Bs} (h : Ks t tr out) : tr.length = out.length + 1:=by
 induction h with
 | root=>rfl
 | step _ _ _ _ _ ih=>simp [ih]
theorem Ks.up {t : List aM} {tr : List Int} {out : List Bs} (h : Ks t tr out) (h1 : 1 < tr.length) : Ks t tr.dropLast out.dropLast /\ out ≠ []:=by
 cases h with
 | root=>simp at h1
 | step h _ _ _ _=>simp only [List.dropLast_concat];exact ⟨h,by simp⟩
theorem Fx {out : List Bs} {p : Bs} (h : ¬ p = [46] /\ ¬ p = [46,46]) : bb true out p = out ++ [p]:=by unfold bb;rw [if_neg h.1,if_pos h.2]
end
section
open Go Dw Paths
theorem P0 {t : List aM} (V : Vt t) {s : Bs} {last : Bool} (h : (dP t s last).e = 0) : (aj s).2 = 0 /\ (aj s).1.abs = true /\ (gT t (aj s).1.parts last).e = 0 /\ dP t s last = ⟨(gT t (aj s).1.parts last).x,(aj s).1.stream,(gT t (aj s).1.parts last).st,0⟩:=by
 rw [HU V.ok] at h ⊢
 by_cases hp : (aj s).2 = 0
 ·cases ha : (aj s).1.abs with
  | false=>rw [PY hp ha] at h;exact absurd (show (3 : Int) = 0 from h) (by decide)
  | true=>
   by_cases he : (gT t (aj s).1.parts last).e = 0
   ·exact ⟨hp,rfl,he,HT hp ha he⟩
   ·rw [PZ hp ha he] at h;exact absurd h he
 ·rw [PX hp] at h;exact absurd h hp
theorem zN {t : List aM} (V : Vt t) : (aw t 0).kind = 0:=by
 have:=V.nod (n:=0) ⟨by omega,V.len.1⟩
 unfold dv at this
 split at this
 ·cases this
 split at this
 ·cases this
 ·rename_i h2
  apply Classical.byContradiction
  intro hc
  exact h2 ⟨rfl,hc⟩
section
variable {t : List aM} (V : Vt t) (hN : Ur t) {s : Bs} (he : (dP t s true).e = 0) (hn : gK t (dP t s true).x.node)
include V hN he hn
end
end
section
set_option maxRecDepth 10000
attribute [local irreducible] bn
set_option maxHeartbeats 2000000
open Paths
attribute [local irreducible] am cut normal bp aF text aj glue bi ar
section
variable {l : List Bs} {s : Bs} {k : Nat} {out : List Bs} (hk : k < l.length)
include hk
end
end
section
set_option maxRecDepth 10000
attribute [local irreducible] bn
set_option maxHeartbeats 2000000
open Paths
attribute [local irreducible] am cut normal bp aF text aj glue bi ar
noncomputable def TG (t : List aM) (n : Int) (l : List (Nat × bm)) : List Bs:=(l.filter fun p=>decide (p.2.node = n)).map fun p=>pw t p.1 ++ [47] ++ p.2.name
def TD (t : List aM) (a b : Nat) : List (Nat × bm):=match t[a]? with
 | some x=>(x.ents.drop b).map (fun e=>(a,e)) ++ li (t.drop (a + 1)) (a + 1)
 | none=>[]
def QN (t : List aM) (n : Int) (l : List (Nat × bm)) (out : List Bs) : Prop:=Ez (M3 t n) = (TG t n l).foldl sQ out
theorem zH : ∀ (t : List aM) (k : Nat),(∀ x ∈ t,x.ents.length <= 1000) -> (li t k).length <= 1000 * t.length
 | [],_,_=>Nat.le_refl _
 | x :: t,k,h=>by
  have:=zH t (k + 1) fun y hy=>h y (by simp [hy])
  have:=h x (by simp)
  simp only [li,List.length_append,List.length_map,List.length_cons]
  omega
section
variable {t : List aM} (V : Vt t) {a b : Nat} (ha : a < t.length) (hb : b < t[a].ents.length)
include V ha hb
end
attribute [local irreducible] Us sQ Ez li TD QN ef pw
section
variable {t : List aM} (V : Vt t) {a n : Int} (ha : gK t a) (hn : gK t n) {b : Nat} (hb : b < (aw t a).ents.length)
include V ha
include hb
include hn
end
attribute [local irreducible] Nf gK
end
section
set_option maxRecDepth 10000
attribute [local irreducible] bn
set_option maxHeartbeats 2000000
open Paths
attribute [local irreducible] am cut normal bp aF text aj glue bi ar
theorem HD {t : List aM} (V : Vt t) (hf : ∀ x ∈ t,x.ents.length <= 1000) : (li t 0).length <= 40000:=by
 have:=zH t 0 hf
 have:=V.len.2
 omega
theorem Sv {t : List aM} (V : Vt t) (hf : ∀ x ∈ t,x.ents.length <= 1000) (n : Int) : Fn 31 [aS t,i n] (lj (ef t n)):=by
 obtain ⟨N,ys,hy⟩:=V.ways
 have hl : ys.length < 100000:=by
  have h1:=(qp V hy).length_eq
  have h2:=HD V hf
  rw [List.length_map] at h1
  omega
 have:=UD t n N ys hy hl fun w hw=>by
  obtain ⟨k,h⟩:=og V _ _ _ hy (fun v hv=>by rw [List.mem_singleton] at hv;subst hv;exact ⟨0,.root⟩) w hw
  have h1:=h.name V
  have h2:=h.le V
  have h3:=V.len.2
  omega
 rwa [BW V hy n] at this
noncomputable def TS (t : List aM) (a : Nat) : Bool:=(decide ((aw t (a : Int)).kind = 2) || decide ((aw t (a : Int)).kind = 3)) && (!decide ((il t (pw t (a : Int)) true).e = 0) || decide ((il t (pw t (a : Int)) true).x.node = -1))
noncomputable def Ut (t : List aM) (k : Nat) : List Int:=((List.range k).filter fun a=>TS t a).map fun (a : Nat)=>((a : Nat) : Int)
section
variable {t : List aM} {k : Nat}
end
section
variable {t : List aM} (V : Vt t) (hf : ∀ x ∈ t,x.ents.length <= 1000) {k : Nat} (hk : k < t.length) (hd : (aw t (k : Int)).kind = 2 \/ (aw t (k : Int)).kind = 3)
include V hf hk hd
end
attribute [local irreducible] aW ef Ut TS pw il aw Nf
theorem Q1 (t : List aM) (B : Tb t) (n : Int) (hf : ∀ x ∈ t,x.ents.length <= 1000) (hc : (aW t).2 = 0) (hw : ar n 0 ((t.length : Int) - 1) = true) : Fn 13 [aS t,i n] (.tup [lj (ef t n),i 0]):=by
 refine ac aZ Tryz.func13 rfl (by kernel_rfl) ?_
 conv=>whnf
 repeat' (first
 | ((with_reducible refine ak ?_);(first | refine aa (af (xs:=[_]) (N7 B hc) _) ?_ | refine aa (ah (Sq B hw) rfl (aK rfl (aK rfl bM))) ?_ | refine aa (ah (F3 (b:=0)) rfl (aK rfl bM)) ?_ | refine aa (af (xs:=[_,_]) (Sv ⟨B,hc⟩ hf n) _) ?_);conv=>whnf)
 | ((with_reducible refine ag ?_);first | (exact aP (aY (aK rfl (aK rfl bM))) rfl;done) )
  | fail
  )
end
end Go.Proofs.YtogifnjnpljnfaaGreatDoor
