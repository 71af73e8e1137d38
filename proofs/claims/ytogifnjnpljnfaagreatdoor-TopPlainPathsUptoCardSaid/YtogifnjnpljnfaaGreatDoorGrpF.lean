/-
  Own lemmas, no conditions: Qa, Qb, Qc, Qd, Qe, Qf, Qg, Qh, Qi, Qj, Qk, Ql, Qm, Qn, Qo, Qp, Qq, Qr.
-/
import Derived.Test.YtogifnjnpljnfaaGreatDoorGrpG
set_option linter.unusedVariables false
set_option linter.unusedSimpArgs false
namespace Go.Proofs.YtogifnjnpljnfaaGreatDoor
open Go Dw
section
structure dd where
 kind : Int
 flags : Int
 mask : Int
 who : Int
def dd.enc (x : dd) : D:=.agg [i x.kind,i x.flags,i x.mask,i x.who]
structure jr where
 owner : Int
 group : Int
 prot : Bool
 has : Bool
 es : List dd
 au : List dd
def jr.cs (x : jr) : List D:=[i x.owner,i x.group,.bool x.prot,.bool x.has,.fs (x.es.map dd.enc),.fs (x.au.map dd.enc)]
def jr.enc (x : jr) : D:=.agg [i x.owner,i x.group,.bool x.prot,.bool x.has,.fs (x.es.map dd.enc),.fs (x.au.map dd.enc)]
structure kh where
 name : Bs
 data : Bs
def kh.enc (x : kh) : D:=.agg [.str x.name,.str x.data]
structure cu where
 kind : Int
 ents : List bm
 target : Bs
 data : Bs
 sts : List kh
 d : jr
 made : Int
 chg : Int
def cu.enc (x : cu) : D:=.agg [i x.kind,.fs (x.ents.map bm.enc),.str x.target,.str x.data,.fs (x.sts.map kh.enc),i x.d.owner,i x.d.group,.bool x.d.prot,.bool x.d.has,.fs (x.d.es.map dd.enc),.fs (x.d.au.map dd.enc),i x.made,i x.chg]
structure mb where
 who : Int
 lim : Int
def mb.enc (x : mb) : D:=.agg [i x.who,i x.lim]
structure dn where
 nodes : List cu
 lims : List mb
 tick : Int
def dn.enc (x : dn) : D:=.agg [.fs (x.nodes.map cu.enc),.fs (x.lims.map mb.enc),i x.tick]
def qb (n : Int) : Bool:=ar n 10 999
def dA (n : Int) : Bool:=ar n 1 5 || qb n
def b6 (n : Int) : Bool:=ar n 0 1000000
def kA (n : Int) : Bool:=qb n || decide (n = 4) || decide (n = 5)
def hX (o g : Int) : Int:=if kA o && kA g then 0 else 2
def n9 (a : dd) : Int:=if ar a.kind 0 2 then (if ar a.flags 0 31 && (ar a.mask 1 511 && dA a.who) then 0 else 2) else 15
def oa (n : Nat) (l : List dd) (k : Nat) : Int:=match l[k]? with
 | some a=>if n9 a = 0 then (if decide (a.kind = 2) = decide (n <= k) then 0 else 15) else n9 a
 | none=>0
def fB (d : jr) : Int × Int:=
 if hX d.owner d.group = 0 then (if 16 < d.es.length \/ 16 < d.au.length then (0,8) else if 0 < d.es.length /\ d.has = false then (0,3) else bq (oa d.es.length (d.es ++ d.au)) (d.es ++ d.au).length 0)
 else (0,hX d.owner d.group)
def gZ : List kh -> Nat
 | []=>0
 | x :: l=>x.data.length + gZ l
theorem mM {l : List kh} {k : Nat} (h : k < l.length) : gZ (l.take (k + 1)) = gZ (l.take k) + l[k].data.length:=by
 have key : ∀ (a : List kh) (b : kh),gZ (a ++ [b]) = gZ a + b.data.length:=by
  intro a b
  induction a with
  | nil=>simp [gZ]
  | cons x a ih=>simp only [List.cons_append,gZ,ih];omega
 rw [List.take_succ_eq_append_getElem h,key]
theorem Aq {l : List kh} {k : Nat} (h : l.length <= k) : gZ (l.take k) = gZ l:=by rw [List.take_of_length_le h]
def dt (x : cu) : Nat:=x.data.length + gZ x.sts
def eb : List cu -> Nat
 | []=>0
 | x :: l=>dt x + eb l
theorem pD {l : List cu} {k : Nat} (h : k < l.length) : eb (l.take (k + 1)) = eb (l.take k) + dt l[k]:=by
 have key : ∀ (a : List cu) (b : cu),eb (a ++ [b]) = eb a + dt b:=by
  intro a b
  induction a with
  | nil=>simp [eb]
  | cons x a ih=>simp only [List.cons_append,eb,ih];omega
 rw [List.take_succ_eq_append_getElem h,key]
def aN (s : List cu) : List aM:=s.map fun x=>⟨x.kind,x.ents,x.target⟩
end
section
set_option maxRecDepth 10000
attribute [local irreducible] bn
set_option maxHeartbeats 1000000
attribute [local irreducible] ar
theorem Nt (n : Int) : Fn 144 [i n] (.bool (qb n)):=by
 refine ac aZ Tryz.func144 rfl (by kernel_rfl) ?_
 conv=>whnf
 repeat' (first
 | ((with_reducible refine ak ?_);(first | refine aa (af (xs:=[_,_,_]) (Cu _ _ _) _) ?_);conv=>whnf)
 | ((with_reducible refine ag ?_);first | (exact aD rfl;done) )
  | fail
  )
theorem Ua (n : Int) : Fn 77 [i n] (.bool (dA n)):=by
 refine ac aZ Tryz.func77 rfl (by kernel_rfl) ?_
 conv=>whnf
 repeat' (first
 | ((with_reducible refine ao (fun h=>?_) (fun h=>?_))<;>conv=>whnf)
 | ((with_reducible refine ak ?_);(first | refine aa (af (xs:=[_,_,_]) (Cu _ _ _) _) ?_ | refine aa (af (xs:=[_]) (Nt _) _) ?_);conv=>whnf)
 | ((with_reducible refine ag ?_);first | (exact aD (congrArg D.bool (by simp_all [dA,kA]));done))
  | fail
  )
theorem Ub (n : Int) : Fn 78 [i n] (.bool (b6 n)):=by
 refine ac aZ Tryz.func78 rfl (by kernel_rfl) ?_
 conv=>whnf
 repeat' (first
 | ((with_reducible refine ak ?_);(first | refine aa (af (xs:=[_,_,_]) (Cu _ _ _) _) ?_);conv=>whnf)
 | ((with_reducible refine ag ?_);first | (exact aD rfl;done) )
  | fail
  )
theorem So (n : Int) : Fn 296 [i n] (.bool (kA n)):=by
 refine ac aZ Tryz.func296 rfl (by kernel_rfl) ?_
 conv=>whnf
 repeat' (first
 | ((with_reducible refine aB (fun h=>?_) (fun h=>?_))<;>(try simp only [List.length_map] at h)<;>conv=>whnf)
 | ((with_reducible refine ao (fun h=>?_) (fun h=>?_))<;>conv=>whnf)
 | ((with_reducible refine ak ?_);(first | refine aa (af (xs:=[_]) (Nt _) _) ?_);conv=>whnf)
 | ((with_reducible refine ag ?_);first | (exact aD (congrArg D.bool (by simp_all [dA,kA]));done))
  | fail
  )
theorem R8 (o g : Int) : Fn 263 [i o,i g] (i (hX o g)):=by
 refine ac aZ Tryz.func263 rfl (by kernel_rfl) ?_
 conv=>whnf
 repeat' (first
 | ((with_reducible refine dj (fun h=>?_) (fun h=>?_))<;>conv=>whnf)
 | ((with_reducible refine ak ?_);(first | refine aa (af (xs:=[_]) (So _) _) ?_);conv=>whnf)
 | ((with_reducible refine ag ?_);first | (exact aD (congrArg i (by simp_all [hX]));done))
  | fail
  )
theorem Oa (a : dd) : Fn 264 [a.enc] (i (n9 a)):=by
 refine ac aZ Tryz.func264 rfl (by kernel_rfl) ?_
 conv=>whnf
 repeat' (first
 | ((with_reducible refine dj (fun h=>?_) (fun h=>?_))<;>conv=>whnf)
 | ((with_reducible refine ak ?_);(first | refine aa (af (xs:=[_,_,_]) (Cu _ _ _) _) ?_ | refine aa (af (xs:=[_]) (Ua _) _) ?_);conv=>whnf)
 | ((with_reducible refine ag ?_);first | (exact aD (congrArg i (by simp_all [n9]));done))
  | fail
  )
theorem Q5 (x : cu) (hs : ∀ k,x.data.length + gZ (x.sts.take k) < 2000000) (hl : x.sts.length < 2000000) : Fn 143 [x.enc] (i (dt x : Nat)):=by
 refine ac aZ Tryz.func143 rfl (by kernel_rfl) ?_
 conv=>whnf
 repeat' (first
 | ((with_reducible refine aB (fun h=>?_) (fun h=>?_))<;>(try simp only [List.length_map] at h)<;>conv=>whnf)
 | ((with_reducible refine aO ?_);first | (refine bh (fun (k : Nat)=>x.sts.length - k) (fun (k : Nat)=>k <= x.sts.length) (fun (k : Nat)=>[(1,.ptr 0 0 0),(3,.d (i ((x.data.length + gZ (x.sts.take k) : Nat) : Int))),(4,.d (i k))]) (fun (k : Nat)=>[⟨[.d x.enc],13,0⟩]) (0) (by exact Nat.zero_le _) ?_ (fun k C hI hC=>?_);(exact ⟨[.old 0],rfl,rfl,⟨⟨rfl,rfl,rfl⟩,(congrArg (D.int .i64) (by simp [gZ])),(by first | exact congrArg (D.int .i64) (by omega) ),trivial⟩,⟨⟨rfl,rfl,.inl ⟨[_],rfl,rfl⟩⟩,trivial⟩⟩);all_goals (conv=>whnf)))
 | ((with_reducible show C _ _);first | (refine hC (k + 1) _ _ ?_ (by omega) ?_;clear hC;rotate_left;(exact ⟨[.old 0],rfl,rfl,⟨⟨rfl,rfl,rfl⟩,(congrArg (D.int .i64) (by have:=mM (l:=x.sts) (k:=k) (by omega);omega)),(by first | exact congrArg (D.int .i64) (by omega) ),trivial⟩,⟨⟨rfl,rfl,.inl ⟨[_],rfl,rfl⟩⟩,trivial⟩⟩);(exact (by omega))))
 | (refine bf (by omega) ?_;conv=>whnf)
 | (refine ax (by omega) ?_;conv=>whnf)
 | (refine ax (by have h1:=hs k;have h2:=hs (k + 1);have h3:=mM (l:=x.sts) (k:=k) (by omega);omega) ?_;conv=>whnf)
 | ((with_reducible refine ag ?_);first | (refine aD (congrArg i ?_);unfold dt;rw [Aq (by omega)];done))
  | fail
  )
attribute [local irreducible] dt
theorem U1 (s : dn) (hn : s.nodes.length <= 20) (hb : ∀ x ∈ s.nodes,∀ k,x.data.length + gZ (x.sts.take k) < 2000000) (hl : ∀ x ∈ s.nodes,x.sts.length < 2000000) (hs : ∀ k,eb (s.nodes.take k) < 50000000) : Fn 76 [s.enc] (i (eb s.nodes : Nat)):=by
 refine ac aZ Tryz.func76 rfl (by kernel_rfl) ?_
 conv=>whnf
 repeat' (first
 | ((with_reducible refine aB (fun h=>?_) (fun h=>?_))<;>(try simp only [List.length_map] at h)<;>conv=>whnf)
 | ((with_reducible refine ak ?_);(first | refine aa (af (xs:=[_]) (Q5 (s.nodes[k]'(by omega)) (hb _ (List.getElem_mem _)) (hl _ (List.getElem_mem _))) _) ?_);conv=>whnf)
 | ((with_reducible refine aO ?_);first | (refine bh (fun (k : Nat)=>s.nodes.length - k) (fun (k : Nat)=>k <= s.nodes.length) (fun (k : Nat)=>[(1,.ptr 0 0 0),(3,.d (i ((eb (s.nodes.take k) : Nat) : Int))),(4,.d (i k))]) (fun (k : Nat)=>[⟨[.d s.enc],3,0⟩]) (0) (by exact Nat.zero_le _) ?_ (fun k C hI hC=>?_);(exact ⟨[.old 0],rfl,rfl,⟨⟨rfl,rfl,rfl⟩,(by first | exact rfl),(by first | exact congrArg (D.int .i64) (by omega) ),trivial⟩,⟨⟨rfl,rfl,.inl ⟨[_],rfl,rfl⟩⟩,trivial⟩⟩);all_goals (conv=>whnf)))
 | ((with_reducible show C _ _);first | (refine hC (k + 1) _ _ ?_ (by omega) ?_;clear hC;rotate_left;(exact ⟨[.old 0],rfl,rfl,⟨⟨rfl,rfl,rfl⟩,(congrArg (D.int .i64) (by have:=pD (l:=s.nodes) (k:=k) (by omega);omega)),(by first | exact congrArg (D.int .i64) (by omega) ),trivial⟩,⟨⟨rfl,rfl,.inl ⟨[_],rfl,rfl⟩⟩,trivial⟩⟩);(exact (by omega))))
 | (refine bf (by omega) ?_;conv=>whnf)
 | (refine ax (by omega) ?_;conv=>whnf)
 | (refine ax (by have h1:=hs k;have h2:=hs (k + 1);have h3:=pD (l:=s.nodes) (k:=k) (by omega);omega) ?_;conv=>whnf)
 | ((with_reducible refine ag ?_);first | (refine aD (congrArg i ?_);rw [List.take_of_length_le (by omega)];done))
  | fail
  )
end
section
set_option maxRecDepth 10000
attribute [local irreducible] bn
set_option maxHeartbeats 1000000
theorem wd {es au : List dd} {k : Nat} (h : k < es.length) : oa es.length (es ++ au) k = if n9 es[k] = 0 then (if decide (es[k].kind = 2) = false then 0 else 15) else n9 es[k]:=by
 unfold oa
 rw [List.getElem?_append_left h,List.getElem?_eq_getElem h]
 simp only [decide_eq_false (show ¬ es.length <= k by omega)]
theorem wc {es au : List dd} {k : Nat} (h : es.length <= k) (h2 : k - es.length < au.length) : oa es.length (es ++ au) k = if n9 au[k - es.length] = 0 then (if decide (au[k - es.length].kind = 2) = true then 0 else 15) else n9 au[k - es.length]:=by
 unfold oa
 rw [List.getElem?_append_right h,List.getElem?_eq_getElem h2]
 simp only [decide_eq_true h]
attribute [local irreducible] ar n9 hX oa bq
theorem KL {d : jr} (h : ¬ hX d.owner d.group = 0) : fB d = (0,hX d.owner d.group):=by unfold fB;rw [if_neg h]
theorem KK {d : jr} (h : hX d.owner d.group = 0) (h2 : 16 < d.es.length \/ 16 < d.au.length) : fB d = (0,8):=by unfold fB;rw [if_pos h,if_pos h2]
theorem KJ {d : jr} (h : hX d.owner d.group = 0) (h2 : ¬ (16 < d.es.length \/ 16 < d.au.length)) (h3 : 0 < d.es.length /\ d.has = false) : fB d = (0,3):=by unfold fB;rw [if_pos h,if_neg h2,if_pos h3]
theorem uO {d : jr} (h : hX d.owner d.group = 0) (h2 : ¬ (16 < d.es.length \/ 16 < d.au.length)) (h3 : ¬ (0 < d.es.length /\ d.has = false)) : fB d = bq (oa d.es.length (d.es ++ d.au)) (d.es ++ d.au).length 0:=by unfold fB;rw [if_pos h,if_neg h2,if_neg h3]
theorem eS {p : Int × Int} {a b : Int} (h : p = (a,b)) : D.tup [i p.1,i p.2] = .tup [i a,i b]:=by rw [h]
theorem kd {p q : Bool} (h : (p == q) = true) : p = q:=by simpa using h
theorem Uk {p q : Bool} (h : (p == q) = false) : ¬ p = q:=by simpa using h
attribute [local irreducible] fB
theorem RS (d : jr) : Fn 222 [d.enc] (.tup [i (fB d).1,i (fB d).2]):=by
 refine ac aZ Tryz.func222 rfl (by kernel_rfl) ?_
 conv=>whnf
 repeat' (first
 | ((with_reducible refine bP ?_ ?_);(focus ((try simp only [List.length_map,List.length_cons,List.length_nil,List.length_append]);omega));conv=>whnf)
 | ((with_reducible refine aB (fun h=>?_) (fun h=>?_))<;>(try simp only [List.length_map] at h)<;>conv=>whnf)
 | ((with_reducible refine bu (fun h=>?_) (fun h=>?_))<;>(try simp only [List.length_map] at h)<;>conv=>whnf)
 | ((with_reducible refine dj (fun h=>?_) (fun h=>?_))<;>conv=>whnf)
 | ((with_reducible refine ak ?_);(first | refine aa (af (xs:=[_,_]) (R8 _ _) _) ?_ | refine aa (af (xs:=[_]) (Oa (d.es[k]'(by omega))) _) ?_ | refine aa (af (xs:=[_]) (Oa (d.au[k - d.es.length]'(by omega))) _) ?_);conv=>whnf)
 | ((with_reducible refine aO ?_);first | (refine bh (fun (k : Nat)=>(d.es ++ d.au).length - k) (fun (k : Nat)=>k <= d.es.length + d.au.length /\ bq (oa d.es.length (d.es ++ d.au)) (d.es ++ d.au).length 0 = bq (oa d.es.length (d.es ++ d.au)) (d.es ++ d.au).length k) (fun (k : Nat)=>[(1,.ptr 0 0 0),(5,.d (i k))]) (fun (k : Nat)=>[⟨[.d d.enc],6,0⟩]) (0) (by exact ⟨Nat.zero_le _,rfl⟩) ?_ (fun k C hI hC=>?_);(exact ⟨[.old 0],rfl,rfl,⟨⟨rfl,rfl,rfl⟩,(by first | exact congrArg (D.int .i64) (by omega) ),trivial⟩,⟨⟨rfl,rfl,.inl ⟨[_],rfl,rfl⟩⟩,trivial⟩⟩);all_goals (conv=>whnf)))
 | ((with_reducible show C _ _);first | (refine hC (k + 1) _ _ ?_ (by (rw [List.length_append];omega)) ?_;clear hC;rotate_left;(exact ⟨[.old 0],rfl,rfl,⟨⟨rfl,rfl,rfl⟩,(by first | exact congrArg (D.int .i64) (by omega) ),trivial⟩,⟨⟨rfl,rfl,.inl ⟨[_],rfl,rfl⟩⟩,trivial⟩⟩);(first | exact ⟨by omega,hI.2.trans (eQ (by rw [List.length_append];omega) (by rw [wd (es:=d.es) (au:=d.au) (k:=k) (by omega),if_pos (by assumption),if_pos ((kd (by assumption)).trans (decide_eq_false (by rw [List.length_map];omega)))]))⟩ | exact ⟨by omega,hI.2.trans (eQ (by rw [List.length_append];omega) (by rw [wc (es:=d.es) (au:=d.au) (k:=k) (by omega) (by omega),if_pos (by assumption),if_pos ((kd (by assumption)).trans (decide_eq_true (by rw [List.length_map];omega)))]))⟩)))
 | (refine bf (by omega) ?_;conv=>whnf)
 | (refine ax (by omega) ?_;conv=>whnf)
 | (refine zd (f:=dd.enc) (l:=d.au) (k - d.es.length) (by rw [List.length_map];omega) (by omega) ?_;conv=>whnf)
 | (refine ax (by first | (simp only [List.length_map];omega)) ?_;conv=>whnf)
 | ((with_reducible refine ag ?_);first | ((rw [eS (KL (by assumption))];exact aP (aY (aK rfl (aK rfl bM))) rfl);done) | ((rw [eS (KK (by assumption) (by omega))];exact aP (aY (aK rfl (aK rfl bM))) rfl);done) | ((rw [eS (KJ (by assumption) (by omega) ⟨by omega,by assumption⟩)];exact aP (aY (aK rfl (aK rfl bM))) rfl);done) | ((rw [eS ((uO (by assumption) (by omega) (fun c=>by first | (have:=c.1;omega) | (rw [show d.has = true by assumption] at c;cases c.2))).trans (hI.2.trans (br (by rw [List.length_append];omega))))];exact aP (aY (aK rfl (aK rfl bM))) rfl);done) | (((have e9:=wd (es:=d.es) (au:=d.au) (k:=k) (by omega));rw [if_neg (by assumption)] at e9;rw [eS ((uO (by assumption) (by omega) (fun c=>by first | (have:=c.1;omega) | (rw [show d.has = true by assumption] at c;cases c.2))).trans (hI.2.trans (dU (by rw [List.length_append];omega) (by rw [e9];assumption)))),e9];exact aP (aY (aK rfl (aK rfl bM))) rfl);done) | (((have e9:=wd (es:=d.es) (au:=d.au) (k:=k) (by omega));rw [if_pos (by assumption),if_neg (fun c=>Uk (by assumption) (c.trans (decide_eq_false (by rw [List.length_map];omega)).symm))] at e9;rw [eS ((uO (by assumption) (by omega) (fun c=>by first | (have:=c.1;omega) | (rw [show d.has = true by assumption] at c;cases c.2))).trans (hI.2.trans (dU (by rw [List.length_append];omega) (by rw [e9];decide)))),e9];exact aP (aY (aK rfl (aK rfl bM))) rfl);done) | (((have e9:=wc (es:=d.es) (au:=d.au) (k:=k) (by omega) (by omega));rw [if_neg (by assumption)] at e9;rw [eS ((uO (by assumption) (by omega) (fun c=>by first | (have:=c.1;omega) | (rw [show d.has = true by assumption] at c;cases c.2))).trans (hI.2.trans (dU (by rw [List.length_append];omega) (by rw [e9];assumption)))),e9];exact aP (aY (aK rfl (aK rfl bM))) rfl);done) | (((have e9:=wc (es:=d.es) (au:=d.au) (k:=k) (by omega) (by omega));rw [if_pos (by assumption),if_neg (fun c=>Uk (by assumption) (c.trans (decide_eq_true (by rw [List.length_map];omega)).symm))] at e9;rw [eS ((uO (by assumption) (by omega) (fun c=>by first | (have:=c.1;omega) | (rw [show d.has = true by assumption] at c;cases c.2))).trans (hI.2.trans (dU (by rw [List.length_append];omega) (by rw [e9];decide)))),e9];exact aP (aY (aK rfl (aK rfl bM))) rfl);done))
  | fail
  )
theorem Q4 (d : jr) : Fn 142 [d.enc] (i (fB d).2):=by
 refine ac aZ Tryz.func142 rfl (by kernel_rfl) ?_
 conv=>whnf
 repeat' (first
 | ((with_reducible refine ak ?_);(first | refine aa (af (xs:=[_]) (RS d) _) ?_);conv=>whnf)
 | ((with_reducible refine ag ?_);first | (exact aD rfl;done))
  | fail
  )
end
section
set_option maxRecDepth 10000
attribute [local irreducible] bn
set_option maxHeartbeats 1000000
abbrev Dl (x : cu) : aM:=⟨x.kind,x.ents,x.target⟩
theorem ke {s : List cu} {k : Nat} (h : k < s.length) : (aN s)[k]? = some (Dl s[k]):=by
 unfold aN
 rw [List.getElem?_map,List.getElem?_eq_getElem h];rfl
theorem dN (s : List cu) : (aN s).length = s.length:=by unfold aN;exact List.length_map _
def QJ (t : List aM) (H : ae) (k : Nat) (cv : AV) : Prop:=(k = 0 /\ cv = .nilS) \/ ∃ (r : Nat) (Es : List AV),cv = .sl r 0 k 3 none /\ H[r]? = some ⟨Es,3,0⟩ /\ Es.length = k /\ (∀ j x,j < k -> t[j]? = some x -> DW H r Es[j]? x) /\ r ≠ 0
theorem yq {t : List aM} {x : aM} {H H' : ae} {k r id r' : Nat} {Es Fs : List AV} (h : ∀ j x,j < k -> t[j]? = some x -> DW H r Es[j]? x) (hx : t[k]? = some x) (hr : H'[r']? = some ⟨Fs,3,0⟩) (hl : Fs.length = k + 1) (hE : ∀ j,j < k -> Fs[j]? = Es[j]?) (he : Fs[k]? = some (M2 x id)) (hid : H'[id]? = some ⟨(x.ents.map bm.enc).map .d,2,0⟩) (hne : id ≠ r') (hm : H.length <= r') (hf : ∀ q,q ≠ r -> q < H.length -> H'[q]? = H[q]?) (h0 : r' ≠ 0) : QJ t H' (k + 1) (.sl r' 0 (k + 1) 3 none):=by
 refine .inr ⟨r', Fs, rfl, hr, hl, fun j y hj hy => ?_, h0⟩
 by_cases e : j < k
 ·obtain ⟨q,h1,h2,h3⟩:=h j y e hy
  have hq : q < H.length:=(List.getElem?_eq_some_iff.1 h2).1
  exact ⟨q,by rw [hE j e];exact h1,by rw [hf q h3 hq];exact h2,by omega⟩
 ·have hj : j = k:=by omega
  rw [hj] at hy ⊢
  have : y = x:=Option.some.inj (hy.symm.trans hx)
  rw [this]
  exact ⟨id,he,hid,hne⟩
theorem Gs {t : List aM} {H : ae} {k : Nat} {cv : AV} (h : QJ t H k cv) (hk : k = t.length) : bl 8 H cv = some (aS t):=by
 refine CC ?_ hk
 rcases h with h | ⟨r,Es,h1,h2,h3,h4,_⟩
 ·exact .inl h
 ·exact .inr ⟨r,Es,h1,h2,h3,h4⟩
attribute [local irreducible] eR DW aN
theorem T9 (s : dn) (hl : s.nodes.length < 2000000) (hbe : ∀ x ∈ s.nodes,x.ents.length < 2000000) : Fn 74 [s.enc] (aS (aN s.nodes)):=by
 refine ac aZ Tryz.func74 rfl (by kernel_rfl) ?_
 conv=>whnf
 repeat' (first
 | ((with_reducible refine aJ ?_ ?_);(focus ((try simp only [List.length_map,List.length_cons,List.length_nil,List.length_append]);omega));conv=>whnf)
 | ((with_reducible refine aB (fun h=>?_) (fun h=>?_))<;>(try simp only [List.length_map] at h)<;>conv=>whnf)
 | (refine ⟨[],[(2,14),(6,14),(16,14),(20,14)],(by decide +kernel),?_⟩;conv=>whnf)
 | ((with_reducible refine aO ?_);first | (apply Bw (fun (k : Nat) (cv : AV) (H : ae)=>s.nodes.length - k) (fun (k : Nat) (cv : AV) (H : ae)=>k <= s.nodes.length /\ H[0]? = some ⟨[.d s.enc],3,0⟩ /\ QJ (aN s.nodes) H k cv) (fun (k : Nat) (cv : AV) (H : ae)=>[(1,.ptr 0 0 0),(3,cv),(4,.d (i k))]) (0) (.nilS);rotate_left;(focus (exact .inl ⟨rfl,⟨(by first | rfl ),(by first | rfl ),(by first | rfl ),trivial⟩⟩));rotate_left;(focus (exact ⟨Nat.zero_le _,rfl,.inl ⟨rfl,rfl⟩⟩));intro k cv H C hI hC;obtain ⟨hk,hb0,hI2⟩:=hI;have hl0:=lM hb0;rcases hI2 with ⟨hk0,rfl⟩ | ⟨r,Es,rfl,hr,hE,hN,hr0⟩;rotate_left;have hlr:=lM hr;rotate_left;all_goals (conv=>whnf)))
 | ((with_reducible show C _ _);first | (refine hC (k + 1) (.sl n 0 (k + 1) 3 none) _ _ ?_ (by omega) ?_;clear hC;rotate_left;(exact ⟨(by first | rfl ),(by subst hk0;rfl),(by first | rfl ),trivial⟩);(refine ⟨by omega,(by (repeat (first | assumption | refine bN (by assumption) (by omega) ?_ ))),yq (x:=(Dl (s.nodes[k]'(by omega)))) (Fs:=?_) (id:=?_) (H:=[]) (r:=0) (Es:=[]) (by intro j x hj;omega) (ke (by omega : k < s.nodes.length)) ?_ ?_ ?_ ?_ ?_ ?_ ?_ ?_ ?_⟩;rotate_left 2;(focus assumption);(focus (simp only [List.length_cons,List.length_nil];omega));(focus (intro j hj;omega));(focus (refine Gr (x:=(Dl (s.nodes[k]'(by omega)))) hk0 ?_;simp only [List.length_map]));(focus (repeat (first | assumption | refine bN (by assumption) (by omega) ?_ )));(focus omega);(focus exact Nat.zero_le _);(focus (intro q hq hlt;simp only [List.length_nil] at hlt;omega));(focus omega))) | (refine hC (k + 1) (.sl n 0 (k + 1) 3 none) _ _ ?_ (by omega) ?_;clear hC;rotate_left;(exact ⟨(by first | rfl ),(by first | rfl ),(by first | rfl ),trivial⟩);(refine ⟨by omega,(by (repeat (first | assumption | refine bN (by assumption) (by omega) ?_ | refine b7 (by assumption) (by omega) ?_))),yq (x:=(Dl (s.nodes[k]'(by omega)))) (Fs:=?_) (id:=?_) hN (ke (by omega : k < s.nodes.length)) ?_ ?_ ?_ ?_ ?_ ?_ ?_ ?_ ?_⟩;rotate_left 2;(focus assumption);(focus (simp only [List.length_append,List.length_cons,List.length_nil];omega));(focus (intro j hj;exact AT hE hj));(focus (refine KI (x:=(Dl (s.nodes[k]'(by omega)))) hE ?_;simp only [List.length_map]));(focus (repeat (first | assumption | refine bN (by assumption) (by omega) ?_ | refine b7 (by assumption) (by omega) ?_)));(focus omega);(focus omega);(focus (intro q hq hlt;(repeat (first | rfl | refine bN (by assumption) (by omega) ?_ | refine b7 (by assumption) (by omega) ?_))));(focus omega))))
 | (refine ⟨(by intro y hy;obtain ⟨x,_,rfl⟩:=List.mem_map.1 hy;first | exact ⟨rfl,rfl⟩),?_⟩;conv=>whnf)
 | (refine bf (by omega) ?_;conv=>whnf)
 | (refine ax (by omega) ?_;conv=>whnf)
 | (refine KY ?_;conv=>whnf)
 | (refine L9 (fun n H hn hl hf ho=>?_);conv=>whnf)
 | (refine Mz (by omega) (fun H hl hf ho=>?_);conv=>whnf)
 | (refine Mm (x:=?_) ?_ ?_;rotate_left;(focus ((repeat (first | assumption | refine bN (by assumption) (by omega) ?_ ));done));conv=>whnf)
 | (refine ⟨Nat.le_refl _,?_⟩;conv=>whnf)
 | (refine ⟨⟨(by simp only [List.length_map,List.length_append];omega),cm (by have:=hbe _ (List.getElem_mem (by omega : k < s.nodes.length));simp only [List.length_map,List.length_cons,List.length_nil,List.length_append];omega) rfl⟩,?_⟩;conv=>whnf)
 | (refine ⟨cm (by have:=hbe _ (List.getElem_mem (by omega : k < s.nodes.length));simp only [List.length_map,List.length_cons,List.length_nil,List.length_append];omega) rfl,?_⟩;conv=>whnf)
 | (refine ⟨congrArg (Option.map AO.vis) (Eq.symm (by (repeat (first | rfl | refine bN (by assumption) (by omega) ?_ )))),?_⟩;conv=>whnf)
 | ((with_reducible refine ag ?_);first | (exact aP (Gs (by first | exact .inl ⟨hk0,rfl⟩ | exact .inr ⟨r,Es,rfl,hr,hE,hN,hr0⟩) (by rw [dN];omega)) rfl;done))
  | fail
  )
end
section
set_option maxRecDepth 10000
attribute [local irreducible] bn
set_option maxHeartbeats 1000000
open Paths
theorem Px {l : List cu} {n : Nat} {x : cu} (h : l[n]? = some x) {K : D -> Prop} (hk : K x.enc) : 0 <= (n : Int) /\ cX (l.map cu.enc) ((n : Int).toNat) K:=by
 obtain ⟨h1,h2⟩:=List.getElem?_eq_some_iff.1 h
 subst h2
 exact bf h1 hk
def iJ (l : List Bs) (k : Nat) : Int:=if k = 0 then 0 else match l[k - 1]?,l[k]? with
 | some a,some b=>if Op.bytesLess (bi a) (bi b) = true then 0 else 9
 | _,_=>0
theorem oS {α : Type} {g : α -> Bs} {l : List α} {k : Nat} (h0 : 0 < k) (h : k < l.length) : iJ (l.map g) k = if Op.bytesLess (bi (g (l[k - 1]'(by omega)))) (bi (g l[k])) = true then 0 else 9:=by
 unfold iJ
 rw [if_neg (by omega),List.getElem?_map,List.getElem?_map,List.getElem?_eq_getElem h,List.getElem?_eq_getElem (by omega : k - 1 < l.length)]
 rfl
theorem Ht {l : List Bs} : iJ l 0 = 0:=rfl
def nL (l : List Bs) : Int:=(bq (iJ l) l.length 1).2
def uC (l : List kh) (k : Nat) : Int:=match l[k]? with
 | some x=>if am x.name = 0 then iJ (l.map kh.name) k else am x.name
 | none=>0
theorem mL {l : List kh} {k : Nat} (h : k < l.length) : uC l k = if am l[k].name = 0 then iJ (l.map kh.name) k else am l[k].name:=by
 unfold uC
 rw [List.getElem?_eq_getElem h]
def big (s : Bs) : Bool:=decide ((4096 : Int) < s.length)
def uk (x : cu) : Bool:=big x.data || x.sts.any (fun y=>big y.data)
def qU (x : cu) (k : Nat) : Bool:=big x.data || (x.sts.take k).any (fun y=>big y.data)
theorem Lk {x : cu} : qU x 0 = decide ((4096 : Int) < x.data.length):=by unfold qU;simp [big]
theorem Lm {x : cu} {k : Nat} (h : qU x k = true) : qU x (k + 1) = true:=by
 unfold qU at *
 rw [Bool.or_eq_true] at *
 rcases h with h | h
 ·exact .inl h
 ·right
  rw [List.any_eq_true] at *
  obtain ⟨y,hy,h⟩:=h
  exact ⟨y,List.take_subset_take_left _ (by omega) hy,h⟩
theorem Ll {x : cu} {k : Nat} (hk : k < x.sts.length) (h : qU x k = false) : qU x (k + 1) = decide ((4096 : Int) < x.sts[k].data.length):=by
 unfold qU at *
 rw [Bool.or_eq_false_iff] at h
 rw [h.1,List.take_succ_eq_append_getElem hk,List.any_append,h.2]
 simp [big]
theorem wi {x : cu} {k : Nat} (h : x.sts.length <= k) : qU x k = uk x:=by unfold qU uk;rw [List.take_of_length_le h]
def te (x : cu) : Int:=if uk x = true then 8 else if ¬ (fB x.d).2 = 0 then (fB x.d).2 else if b6 x.made = true /\ b6 x.chg = true then 0 else 2
def BH (x : cu) : Int:=if ¬ (bq (uC x.sts) x.sts.length 0).2 = 0 then (bq (uC x.sts) x.sts.length 0).2 else te x
def EN (x : cu) : Int:=if 4 < x.sts.length then 8 else BH x
def EM (x : cu) : Int:=if ¬ x.kind = 1 /\ (¬ x.data = [] \/ 0 < x.sts.length) then 3 else EN x
def EL (t : List cu) (n : Nat) (x : cu) : Int:=if x.kind = 1 /\ 4 < aX (aN t) n then 16 else EM x
def qh (t : List cu) (n : Nat) (x : cu) : Int:=if x.kind = 3 then 15 else if ¬ nL (x.ents.map bm.name) = 0 then 9 else EL t n x
section
variable {t : List cu} {n : Nat} {x : cu}
theorem Mi (h : x.kind = 3) : qh t n x = 15:=if_pos h
theorem Mj (h : ¬ x.kind = 3) (h2 : ¬ nL (x.ents.map bm.name) = 0) : qh t n x = 9:=by unfold qh;rw [if_neg h,if_pos h2]
theorem kE (h : ¬ x.kind = 3) (h2 : nL (x.ents.map bm.name) = 0) : qh t n x = EL t n x:=by unfold qh;rw [if_neg h,if_neg (fun c=>c h2)]
theorem Mb (h : x.kind = 1) (h2 : 4 < aX (aN t) n) : EL t n x = 16:=if_pos ⟨h,h2⟩
theorem lT (h : ¬ (x.kind = 1 /\ 4 < aX (aN t) n)) : EL t n x = EM x:=if_neg h
theorem Mc (h : ¬ x.kind = 1) (h2 : ¬ x.data = [] \/ 0 < x.sts.length) : EM x = 3:=if_pos ⟨h,h2⟩
theorem nF (h : ¬ (¬ x.kind = 1 /\ (¬ x.data = [] \/ 0 < x.sts.length))) : EM x = EN x:=if_neg h
theorem Md (h : 4 < x.sts.length) : EN x = 8:=if_pos h
theorem qg (h : ¬ 4 < x.sts.length) : EN x = BH x:=if_neg h
theorem Hj {e : Int} (h : (bq (uC x.sts) x.sts.length 0).2 = e) (he : ¬ e = 0) : BH x = e:=by unfold BH;rw [h,if_pos he]
theorem xf (h : (bq (uC x.sts) x.sts.length 0).2 = 0) : BH x = te x:=if_neg (fun c=>c h)
theorem Mg (h : uk x = true) : te x = 8:=if_pos h
theorem Mh (h : uk x = false) (h2 : ¬ (fB x.d).2 = 0) : te x = (fB x.d).2:=by unfold te;rw [if_neg (by rw [h];decide),if_pos h2]
theorem Mf (h : uk x = false) (h2 : (fB x.d).2 = 0) (h3 : ¬ (b6 x.made = true /\ b6 x.chg = true)) : te x = 2:=by unfold te;rw [if_neg (by rw [h];decide),if_neg (fun c=>c h2),if_neg h3]
theorem Me (h : uk x = false) (h2 : (fB x.d).2 = 0) (h3 : b6 x.made = true) (h4 : b6 x.chg = true) : te x = 0:=by unfold te;rw [if_neg (by rw [h];decide),if_neg (fun c=>c h2),if_pos ⟨h3,h4⟩]
end
attribute [local irreducible] ar fB bq iJ uC am bi aX aN b6 big Op.bytesLess qU uk te BH EN EM EL qh nL
theorem U0 (s : dn) (n : Nat) (x : cu) (hx : s.nodes[n]? = some x) (hn : s.nodes.length <= 20) (hbe : ∀ x ∈ s.nodes,x.ents.length < 2000000) (hte : ∀ x ∈ aN s.nodes,x.ents.length < 2000000) (hl : x.ents.length < 2000000) (hls : x.sts.length < 2000000) (hnm : ∀ y ∈ x.ents,y.name.length < 2000000) (hsn : ∀ y ∈ x.sts,y.name.length < 2000000) : Fn 75 [s.enc,i n] (i (qh s.nodes n x)):=by
 refine ac aZ Tryz.func75 rfl (by kernel_rfl) ?_
 conv=>whnf
 repeat' (first
 | ((with_reducible refine cY (by first | assumption ) ?_);conv=>whnf)
 | ((with_reducible refine co (by assumption) ?_);conv=>whnf)
 | ((with_reducible refine aJ ?_ ?_);(focus ((try simp only [List.length_map,List.length_cons,List.length_nil,List.length_append]);omega));conv=>whnf)
 | ((with_reducible refine aB (fun h=>?_) (fun h=>?_))<;>(try simp only [List.length_map] at h)<;>conv=>whnf)
 | ((with_reducible refine bu (fun h=>?_) (fun h=>?_))<;>(try simp only [List.length_map] at h)<;>conv=>whnf)
 | ((with_reducible refine dj (fun h=>?_) (fun h=>?_))<;>conv=>whnf)
 | ((with_reducible refine ao (fun h=>?_) (fun h=>?_))<;>conv=>whnf)
 | ((with_reducible refine ak ?_);(first | refine aa (af (xs:=[_]) (Lv _ (hnm _ (List.getElem_mem (by omega)))) _) ?_ | refine aa (af (xs:=[_]) (Lv _ (hsn _ (List.getElem_mem (by omega)))) _) ?_ | refine aa (af (xs:=[_]) (T9 s (by omega) hbe) _) ?_ | refine aa (af (xs:=[_,_]) (Q2 (aN s.nodes) n (by rw [dN];omega) hte) _) ?_ | refine aa (af (xs:=[_]) (KD _ (hsn _ (List.getElem_mem (by omega)))) _) ?_ | refine aa (ah (Q4 x.d) rfl (aK (be (aK rfl (aK rfl (aK rfl (aK rfl (aK rfl (aK rfl bM))))))) bM)) ?_ | refine aa (af (xs:=[_]) (Ub _) _) ?_);conv=>whnf)
 | (refine ⟨[],[(9,7),(13,7)],(by decide +kernel),?_⟩;conv=>whnf)
 | (refine ⟨[],[(12,10),(16,10)],(by decide +kernel),?_⟩;conv=>whnf)
 | ((with_reducible refine aO ?_);first | (refine bh (fun (k : Nat)=>x.sts.length - k) (fun (k : Nat)=>k <= x.sts.length) (fun (k : Nat)=>[(5,.ptr 1 0 0),(9,.d (.bool (qU x k))),(10,.d (i k))]) (fun (k : Nat)=>[⟨[.d s.enc],3,0⟩,⟨[.d x.enc],13,0⟩]) (0) (by exact Nat.zero_le _) ?_ (fun k C3 hI3 hC3=>?_);(exact ⟨[.old 0,.old 1],rfl,rfl,⟨⟨rfl,rfl,rfl⟩,(by exact congrArg D.bool Lk.symm),(by first | exact congrArg (D.int .i64) (by omega) ),trivial⟩,⟨⟨rfl,rfl,.inl ⟨[_],rfl,rfl⟩⟩,⟨rfl,rfl,.inl ⟨[_],rfl,rfl⟩⟩,trivial⟩⟩);all_goals (conv=>whnf)) | (refine bh (fun (k : Nat)=>x.sts.length - k) (fun (k : Nat)=>k <= x.sts.length /\ bq (uC x.sts) x.sts.length 0 = bq (uC x.sts) x.sts.length k) (fun (k : Nat)=>[(5,.ptr 1 0 0),(7,.d (i k))]) (fun (k : Nat)=>[⟨[.d s.enc],3,0⟩,⟨[.d x.enc],13,0⟩]) (0) (by exact ⟨Nat.zero_le _,rfl⟩) ?_ (fun k C2 hI2 hC2=>?_);(exact ⟨[.old 0,.old 1],rfl,rfl,⟨⟨rfl,rfl,rfl⟩,(by first | exact congrArg (D.int .i64) (by omega) ),trivial⟩,⟨⟨rfl,rfl,.inl ⟨[_],rfl,rfl⟩⟩,⟨rfl,rfl,.inl ⟨[_],rfl,rfl⟩⟩,trivial⟩⟩);all_goals (conv=>whnf)) | (refine bh (fun (k : Nat)=>x.ents.length + 1 - k) (fun (k : Nat)=>1 <= k /\ (k <= x.ents.length \/ k = 1) /\ bq (iJ (x.ents.map bm.name)) (x.ents.map bm.name).length 1 = bq (iJ (x.ents.map bm.name)) (x.ents.map bm.name).length k) (fun (k : Nat)=>[(1,.d (i n)),(2,.ptr 0 0 0),(5,.ptr 1 0 0),(6,.d (i k))]) (fun (k : Nat)=>[⟨[.d s.enc],3,0⟩,⟨[.d x.enc],13,0⟩]) (1) (by exact ⟨Nat.le_refl _,.inr rfl,rfl⟩) ?_ (fun k C hI hC=>?_);(exact ⟨[.old 0,.old 1],rfl,rfl,⟨rfl,⟨rfl,rfl,rfl⟩,⟨rfl,rfl,rfl⟩,(by first | exact congrArg (D.int .i64) (by omega) ),trivial⟩,⟨⟨rfl,rfl,.inl ⟨[_],rfl,rfl⟩⟩,⟨rfl,rfl,.inl ⟨[_],rfl,rfl⟩⟩,trivial⟩⟩);all_goals (conv=>whnf)))
 | ((with_reducible show C _ _);first | (refine hC (k + 1) _ _ ?_ (by omega) ?_;clear hC;rotate_left;(exact ⟨[.old 0,.old 1],rfl,rfl,⟨rfl,⟨rfl,rfl,rfl⟩,⟨rfl,rfl,rfl⟩,(by first | exact congrArg (D.int .i64) (by omega) ),trivial⟩,⟨⟨rfl,rfl,.inl ⟨[_],rfl,rfl⟩⟩,⟨rfl,rfl,.inl ⟨[_],rfl,rfl⟩⟩,trivial⟩⟩);(exact ⟨by omega,.inl (by omega),hI.2.2.trans (eQ (by rw [List.length_map];omega) (by rw [oS (l:=x.ents) (by omega) (by omega),if_pos (by assumption)]))⟩)))
 | ((with_reducible show C2 _ _);first | (refine hC2 (k + 1) _ _ ?_ (by omega) ?_;clear hC2;rotate_left;(exact ⟨[.old 0,.old 1],rfl,rfl,⟨⟨rfl,rfl,rfl⟩,(by first | exact congrArg (D.int .i64) (by omega) ),trivial⟩,⟨⟨rfl,rfl,.inl ⟨[_],rfl,rfl⟩⟩,⟨rfl,rfl,.inl ⟨[_],rfl,rfl⟩⟩,trivial⟩⟩);(first | exact ⟨by omega,hI2.2.trans (eQ (by omega) (by rw [mL (by omega),if_pos (by assumption),oS (l:=x.sts) (by omega) (by omega),if_pos (by assumption)]))⟩ | exact ⟨by omega,hI2.2.trans (eQ (by omega) (by rw [mL (by omega),if_pos (by assumption),show k = 0 by omega];exact Ht))⟩)))
 | ((with_reducible show C3 _ _);first | (refine hC3 (k + 1) _ _ ?_ (by omega) ?_;clear hC3;rotate_left;(exact ⟨[.old 0,.old 1],rfl,rfl,⟨⟨rfl,rfl,rfl⟩,(by first | exact congrArg D.bool (Lm (by assumption)).symm | exact congrArg D.bool (Ll (by omega) (by assumption)).symm),(by first | exact congrArg (D.int .i64) (by omega) ),trivial⟩,⟨⟨rfl,rfl,.inl ⟨[_],rfl,rfl⟩⟩,⟨rfl,rfl,.inl ⟨[_],rfl,rfl⟩⟩,trivial⟩⟩);(exact (by omega))))
 | (refine bf (by omega) ?_;conv=>whnf)
 | (refine ax (by omega) ?_;conv=>whnf)
 | (refine Px hx ?_;conv=>whnf)
 | (refine zd (f:=bm.enc) (l:=x.ents) (k - 1) (by omega) (by omega) ?_;conv=>whnf)
 | (refine zd (f:=kh.enc) (l:=x.sts) (k - 1) (by omega) (by omega) ?_;conv=>whnf)
 | ((with_reducible refine ag ?_);first | (refine aD (congrArg i (Eq.symm ?_));rw [Mi (by assumption)];done) | (((have e9:=oS (g:=bm.name) (l:=x.ents) (k:=k) (by omega) (by omega));rw [if_neg (by rw [show Op.bytesLess _ _ = false by assumption];decide)] at e9;(have e8 : nL (x.ents.map bm.name) = 9:=(by unfold nL;rw [hI.2.2,dU (by rw [List.length_map];omega) (by rw [e9];decide),e9]));refine aD (congrArg i (Eq.symm ?_));rw [Mj (by assumption) (by rw [e8];decide)]);done) | (refine aD (congrArg i (Eq.symm ?_));rw [kE (by assumption) (by unfold nL;rw [hI.2.2,br (by rw [List.length_map];omega)]),Mb (by assumption) (by omega)];done) | (refine aD (congrArg i (Eq.symm ?_));rw [kE (by assumption) (by unfold nL;rw [hI.2.2,br (by rw [List.length_map];omega)]),lT (fun c=>by first | exact absurd c.1 (by assumption) | (have:=c.2;omega)),Mc (by assumption) (by first | exact .inl (of_decide_eq_false (by assumption)) | exact .inr (by omega))];done) | (refine aD (congrArg i (Eq.symm ?_));rw [kE (by assumption) (by unfold nL;rw [hI.2.2,br (by rw [List.length_map];omega)]),lT (fun c=>by first | exact absurd c.1 (by assumption) | (have:=c.2;omega)),nF (fun c=>by first | exact c.1 (by assumption) | (rcases c.2 with q | q;exact q (of_decide_eq_true (by assumption));omega)),Md (by omega)];done) | (((have e9:=mL (l:=x.sts) (k:=k) (by omega));rw [if_neg (by assumption)] at e9;(have e8:=hI2.2.trans (dU (by omega) (by rw [e9];assumption)));refine aD (congrArg i (Eq.symm ?_));rw [kE (by assumption) (by unfold nL;rw [hI.2.2,br (by rw [List.length_map];omega)]),lT (fun c=>by first | exact absurd c.1 (by assumption) | (have:=c.2;omega)),nF (fun c=>by first | exact c.1 (by assumption) | (rcases c.2 with q | q;exact q (of_decide_eq_true (by assumption));omega)),qg (by omega),Hj (by rw [e8,e9]) (by assumption)]);done) | (((have e9:=mL (l:=x.sts) (k:=k) (by omega));rw [if_pos (show am _ = 0 by assumption),oS (g:=kh.name) (l:=x.sts) (by omega) (by omega),if_neg (by rw [show Op.bytesLess _ _ = false by assumption];decide)] at e9;(have e8:=hI2.2.trans (dU (by omega) (by rw [e9];decide)));refine aD (congrArg i (Eq.symm ?_));rw [kE (by assumption) (by unfold nL;rw [hI.2.2,br (by rw [List.length_map];omega)]),lT (fun c=>by first | exact absurd c.1 (by assumption) | (have:=c.2;omega)),nF (fun c=>by first | exact c.1 (by assumption) | (rcases c.2 with q | q;exact q (of_decide_eq_true (by assumption));omega)),qg (by omega),Hj (e:=9) (by rw [e8,e9]) (by decide)]);done) | (refine aD (congrArg i (Eq.symm ?_));rw [kE (by assumption) (by unfold nL;rw [hI.2.2,br (by rw [List.length_map];omega)]),lT (fun c=>by first | exact absurd c.1 (by assumption) | (have:=c.2;omega)),nF (fun c=>by first | exact c.1 (by assumption) | (rcases c.2 with q | q;exact q (of_decide_eq_true (by assumption));omega)),qg (by omega),xf (by rw [hI2.2,br (by omega)]),Mg (by rw [<- wi (by omega : x.sts.length <= k)];assumption)];done) | (refine aD (congrArg i (Eq.symm ?_));rw [kE (by assumption) (by unfold nL;rw [hI.2.2,br (by rw [List.length_map];omega)]),lT (fun c=>by first | exact absurd c.1 (by assumption) | (have:=c.2;omega)),nF (fun c=>by first | exact c.1 (by assumption) | (rcases c.2 with q | q;exact q (of_decide_eq_true (by assumption));omega)),qg (by omega),xf (by rw [hI2.2,br (by omega)]),Mh (by rw [<- wi (by omega : x.sts.length <= k)];assumption) (by assumption)];done) | (refine aD (congrArg i (Eq.symm ?_));rw [kE (by assumption) (by unfold nL;rw [hI.2.2,br (by rw [List.length_map];omega)]),lT (fun c=>by first | exact absurd c.1 (by assumption) | (have:=c.2;omega)),nF (fun c=>by first | exact c.1 (by assumption) | (rcases c.2 with q | q;exact q (of_decide_eq_true (by assumption));omega)),qg (by omega),xf (by rw [hI2.2,br (by omega)]),Mf (by rw [<- wi (by omega : x.sts.length <= k)];assumption) (by assumption) (fun c=>by first | (have:=c.1;simp_all;done) | (have:=c.2;simp_all;done))];done) | (refine aD (congrArg i (Eq.symm ?_));rw [kE (by assumption) (by unfold nL;rw [hI.2.2,br (by rw [List.length_map];omega)]),lT (fun c=>by first | exact absurd c.1 (by assumption) | (have:=c.2;omega)),nF (fun c=>by first | exact c.1 (by assumption) | (rcases c.2 with q | q;exact q (of_decide_eq_true (by assumption));omega)),qg (by omega),xf (by rw [hI2.2,br (by omega)]),Me (by rw [<- wi (by omega : x.sts.length <= k)];assumption) (by assumption) (by assumption) (by assumption)];done))
 | (refine ⟨rfl,?_⟩;conv=>whnf)
  | fail
  )
end
section
set_option maxRecDepth 10000
attribute [local irreducible] bn
set_option maxHeartbeats 1000000
open Paths
structure Sb (s : dn) : Prop where
 el : ∀ x ∈ s.nodes,x.ents.length < 2000000
 nl : ∀ x ∈ s.nodes,∀ y ∈ x.ents,y.name.length < 2000000
 sl : ∀ x ∈ s.nodes,x.sts.length < 2000000
 sn : ∀ x ∈ s.nodes,∀ y ∈ x.sts,y.name.length < 2000000
 sd : ∀ x ∈ s.nodes,∀ k,x.data.length + gZ (x.sts.take k) < 2000000
 al : ∀ k,eb (s.nodes.take k) < 50000000
 ll : s.lims.length < 2000000
theorem Sb.tr {s : dn} (B : Sb s) : ∀ x ∈ aN s.nodes,x.ents.length < 2000000 /\ ∀ y ∈ x.ents,y.name.length < 2000000:=by
 intro x hx
 unfold aN at hx
 obtain ⟨y,hy,rfl⟩:=List.mem_map.1 hx
 exact ⟨B.el y hy,B.nl y hy⟩
def xg (t : List cu) (k : Nat) : Int:=match t[k]? with
 | some x=>qh t k x
 | none=>0
theorem rx {t : List cu} {k : Nat} (h : k < t.length) : xg t k = qh t k t[k]:=by unfold xg;rw [List.getElem?_eq_getElem h]
def lf (l : List mb) (k : Nat) : Int:=match l[k]? with
 | some x=>if dA x.who = true /\ ar x.lim 0 8192 = true then (if k = 0 then 0 else match l[k - 1]? with
  | some y=>if x.who <= y.who then 9 else 0
  | none=>0) else 2
 | none=>0
theorem Bt {l : List mb} {k : Nat} (h : k < l.length) (h2 : ¬ (dA l[k].who = true /\ ar l[k].lim 0 8192 = true)) : lf l k = 2:=by
 unfold lf
 rw [List.getElem?_eq_getElem h]
 exact if_neg h2
theorem L5 {l : List mb} {k : Nat} (h : k < l.length) (h2 : dA l[k].who = true) (h3 : ar l[k].lim 0 8192 = true) (h4 : k = 0) : lf l k = 0:=by
 unfold lf
 rw [List.getElem?_eq_getElem h]
 simp only [if_pos (And.intro h2 h3),if_pos h4]
theorem Bu {l : List mb} {k : Nat} (h : k < l.length) (h2 : dA l[k].who = true) (h3 : ar l[k].lim 0 8192 = true) (h4 : 0 < k) : lf l k = if l[k].who <= (l[k - 1]'(by omega)).who then 9 else 0:=by
 unfold lf
 rw [List.getElem?_eq_getElem h,List.getElem?_eq_getElem (by omega : k - 1 < l.length)]
 simp only [if_pos (And.intro h2 h3),if_neg (show ¬ k = 0 by omega)]
def uo (s : dn) : Int × Int:=if (bq (lf s.lims) s.lims.length 0).2 = 0 then (if b6 s.tick = true then (0,0) else (0,2)) else (0,(bq (lf s.lims) s.lims.length 0).2)
def Ea (s : dn) : Int × Int:=if 8192 < eb s.nodes \/ 10 < s.lims.length then (0,8) else uo s
def yk (s : dn) : Int × Int:=if (bq (xg s.nodes) s.nodes.length 0).2 = 0 then Ea s else bq (xg s.nodes) s.nodes.length 0
def ju (s : dn) : Int × Int:=if 20 < s.nodes.length then (0,8) else if (aW (aN s.nodes)).2 = 0 then yk s else aW (aN s.nodes)
section
variable {s : dn}
theorem Gf (h : 20 < s.nodes.length) : ju s = (0,8):=if_pos h
theorem LN (h : ¬ 20 < s.nodes.length) (h2 : ¬ (aW (aN s.nodes)).2 = 0) : ju s = ((aW (aN s.nodes)).1,(aW (aN s.nodes)).2):=by unfold ju;rw [if_neg h,if_neg h2]
theorem pK (h : ¬ 20 < s.nodes.length) (h2 : (aW (aN s.nodes)).2 = 0) : ju s = yk s:=by unfold ju;rw [if_neg h,if_pos h2]
theorem LI {p : Int × Int} (h : bq (xg s.nodes) s.nodes.length 0 = p) (h2 : ¬ p.2 = 0) : yk s = p:=by unfold yk;rw [h,if_neg h2]
theorem sc (h : bq (xg s.nodes) s.nodes.length 0 = (0,0)) : yk s = Ea s:=by unfold yk;rw [h];rfl
theorem LJ (h : 8192 < eb s.nodes \/ 10 < s.lims.length) : Ea s = (0,8):=if_pos h
theorem wx (h : ¬ (8192 < eb s.nodes \/ 10 < s.lims.length)) : Ea s = uo s:=if_neg h
theorem Ge {e : Int} (h : (bq (lf s.lims) s.lims.length 0).2 = e) (h2 : ¬ e = 0) : uo s = (0,e):=by unfold uo;rw [h,if_neg h2]
theorem LM (h : (bq (lf s.lims) s.lims.length 0).2 = 0) (h2 : b6 s.tick = false) : uo s = (0,2):=by unfold uo;rw [if_pos h,if_neg (by rw [h2];decide)]
theorem LK (h : (bq (lf s.lims) s.lims.length 0).2 = 0) (h2 : b6 s.tick = true) : uo s = (0,0):=by unfold uo;rw [if_pos h,if_pos h2]
end
attribute [local irreducible] ar bq aN b6 dA xg lf eb aW ju yk Ea uo qh
theorem UJ (s : dn) (B : Sb s) : Fn 43 [s.enc] (.tup [i (ju s).1,i (ju s).2]):=by
 have hbe:=B.el;have hbt:=B.tr
 refine ac aZ Tryz.func43 rfl (by kernel_rfl) ?_
 conv=>whnf
 repeat' (first
 | ((with_reducible refine aB (fun h=>?_) (fun h=>?_))<;>(try simp only [List.length_map] at h)<;>conv=>whnf)
 | ((with_reducible refine bu (fun h=>?_) (fun h=>?_))<;>(try simp only [List.length_map] at h)<;>conv=>whnf)
 | ((with_reducible refine dj (fun h=>?_) (fun h=>?_))<;>conv=>whnf)
 | ((with_reducible refine ak ?_);(first | refine aa (af (xs:=[_]) (T9 s (by omega) hbe) _) ?_ | refine aa (af (xs:=[_]) (UZ (aN s.nodes) hbt) _) ?_ | refine aa (af (xs:=[_,_]) (U0 s k (s.nodes[k]'(by omega)) (List.getElem?_eq_getElem _) (by omega) hbe (fun y hy=>(hbt y hy).1) (hbe _ (List.getElem_mem _)) (B.sl _ (List.getElem_mem _)) (B.nl _ (List.getElem_mem _)) (B.sn _ (List.getElem_mem _))) _) ?_ | refine aa (af (xs:=[_]) (U1 s (by omega) B.sd B.sl B.al) _) ?_ | refine aa (af (xs:=[_]) (Ua _) _) ?_ | refine aa (af (xs:=[_,_,_]) (Cu _ _ _) _) ?_ | refine aa (af (xs:=[_]) (Ub _) _) ?_);conv=>whnf)
 | (refine ⟨[],[],(by decide +kernel),?_⟩;conv=>whnf)
 | ((with_reducible refine aO ?_);first | (refine bh (fun (k : Nat)=>s.lims.length - k) (fun (k : Nat)=>k <= s.lims.length /\ bq (lf s.lims) s.lims.length 0 = bq (lf s.lims) s.lims.length k) (fun (k : Nat)=>[(1,.ptr 0 0 0),(8,.d (i k))]) (fun (k : Nat)=>[⟨[.d s.enc],3,0⟩]) (0) (by exact ⟨Nat.zero_le _,rfl⟩) ?_ (fun k C2 hI2 hC2=>?_);(exact ⟨[.old 0],rfl,rfl,⟨⟨rfl,rfl,rfl⟩,(by first | exact congrArg (D.int .i64) (by omega) ),trivial⟩,⟨⟨rfl,rfl,.inl ⟨[_],rfl,rfl⟩⟩,trivial⟩⟩);all_goals (conv=>whnf)) | (refine bh (fun (k : Nat)=>s.nodes.length - k) (fun (k : Nat)=>k <= s.nodes.length /\ bq (xg s.nodes) s.nodes.length 0 = bq (xg s.nodes) s.nodes.length k) (fun (k : Nat)=>[(1,.ptr 0 0 0),(6,.d (i k))]) (fun (k : Nat)=>[⟨[.d s.enc],3,0⟩]) (0) (by exact ⟨Nat.zero_le _,rfl⟩) ?_ (fun k C hI hC=>?_);(exact ⟨[.old 0],rfl,rfl,⟨⟨rfl,rfl,rfl⟩,(by first | exact congrArg (D.int .i64) (by omega) ),trivial⟩,⟨⟨rfl,rfl,.inl ⟨[_],rfl,rfl⟩⟩,trivial⟩⟩);all_goals (conv=>whnf)))
 | ((with_reducible show C _ _);first | (refine hC (k + 1) _ _ ?_ (by omega) ?_;clear hC;rotate_left;(exact ⟨[.old 0],rfl,rfl,⟨⟨rfl,rfl,rfl⟩,(by first | exact congrArg (D.int .i64) (by omega) ),trivial⟩,⟨⟨rfl,rfl,.inl ⟨[_],rfl,rfl⟩⟩,trivial⟩⟩);(exact ⟨by omega,hI.2.trans (eQ (by omega) (by rw [rx (by omega)];assumption))⟩)))
 | ((with_reducible show C2 _ _);first | (refine hC2 (k + 1) _ _ ?_ (by omega) ?_;clear hC2;rotate_left;(exact ⟨[.old 0],rfl,rfl,⟨⟨rfl,rfl,rfl⟩,(by first | exact congrArg (D.int .i64) (by omega) ),trivial⟩,⟨⟨rfl,rfl,.inl ⟨[_],rfl,rfl⟩⟩,trivial⟩⟩);(first | exact ⟨by omega,hI2.2.trans (eQ (by omega) (L5 (by omega) (by assumption) (by assumption) (by omega)))⟩ | exact ⟨by omega,hI2.2.trans (eQ (by omega) (by rw [Bu (by omega) (by assumption) (by assumption) (by omega),if_neg (by omega)]))⟩)))
 | (refine bf (by omega) ?_;conv=>whnf)
 | (refine ax (by omega) ?_;conv=>whnf)
 | (refine zd (f:=mb.enc) (l:=s.lims) (k - 1) (by omega) (by omega) ?_;conv=>whnf)
 | ((with_reducible refine ag ?_);first | ((rw [eS (Gf (by omega))];exact aP (aY (aK rfl (aK rfl bM))) rfl);done) | ((rw [eS (LN (by omega) (by assumption))];exact aP (aY (aK rfl (aK rfl bM))) rfl);done) | ((rw [eS ((pK (by omega) (by assumption)).trans (LI (p:=((k : Int),qh s.nodes k (s.nodes[k]'(by omega)))) (hI.2.trans ((dU (by omega) (by rw [rx (by omega)];assumption)).trans (by rw [rx (by omega)]))) (by assumption)))];exact aP (aY (aK rfl (aK rfl bM))) rfl);done) | ((rw [eS ((pK (by omega) (by assumption)).trans ((sc (hI.2.trans (br (by omega)))).trans (LJ (by omega))))];exact aP (aY (aK rfl (aK rfl bM))) rfl);done) | ((rw [eS ((pK (by omega) (by assumption)).trans ((sc (hI.2.trans (br (by omega)))).trans ((wx (by omega)).trans (Ge (e:=2) (by rw [hI2.2,dU (by omega) (by rw [Bt (by omega) (fun c=>by first | (have:=c.1;simp_all;done) | (have:=c.2;simp_all;done))];decide),Bt (by omega) (fun c=>by first | (have:=c.1;simp_all;done) | (have:=c.2;simp_all;done))]) (by decide)))))];exact aP (aY (aK rfl (aK rfl bM))) rfl);done) | ((rw [eS ((pK (by omega) (by assumption)).trans ((sc (hI.2.trans (br (by omega)))).trans ((wx (by omega)).trans (Ge (e:=9) (by have e9:=Bu (l:=s.lims) (k:=k) (by omega) (by assumption) (by assumption) (by omega);rw [if_pos (by omega)] at e9;rw [hI2.2,dU (by omega) (by rw [e9];decide),e9]) (by decide)))))];exact aP (aY (aK rfl (aK rfl bM))) rfl);done) | ((rw [eS ((pK (by omega) (by assumption)).trans ((sc (hI.2.trans (br (by omega)))).trans ((wx (by omega)).trans (LM (by rw [hI2.2,br (by omega)]) (by assumption)))))];exact aP (aY (aK rfl (aK rfl bM))) rfl);done) | ((rw [eS ((pK (by omega) (by assumption)).trans ((sc (hI.2.trans (br (by omega)))).trans ((wx (by omega)).trans (LK (by rw [hI2.2,br (by omega)]) (by assumption)))))];exact aP (aY (aK rfl (aK rfl bM))) rfl);done))
  | fail
  )
theorem Ux (s : dn) (B : Sb s) : Fn 20 [s.enc] (i (ju s).2):=by
 refine ac aZ Tryz.func20 rfl (by kernel_rfl) ?_
 conv=>whnf
 repeat' (first
 | ((with_reducible refine ak ?_);(first | refine aa (af (xs:=[_]) (UJ s B) _) ?_);conv=>whnf)
 | ((with_reducible refine ag ?_);first | (exact aD rfl;done))
  | fail
  )
def dx (s : dn) : Bool:=decide ((ju s).2 = 0) && s.nodes.all (fun x=>decide (x.data.length <= 400))
end
section
set_option maxRecDepth 10000
attribute [local irreducible] bn
set_option maxHeartbeats 1000000
theorem xA {s : dn} (h : ¬ (ju s).2 = 0) : dx s = false:=by unfold dx;rw [decide_eq_false h];rfl
theorem JT {s : dn} (h : 20 < s.nodes.length) : dx s = false:=xA (by rw [Gf h];decide)
theorem DB {s : dn} {k : Nat} (hk : k < s.nodes.length) (h : ¬ s.nodes[k].data.length <= 400) : dx s = false:=by
 unfold dx
 rw [Bool.and_eq_false_iff]
 right
 rw [List.all_eq_false]
 exact ⟨_,List.getElem_mem hk,by simpa using h⟩
theorem JV {s : dn} (h : (ju s).2 = 0) {k : Nat} (hk : s.nodes.length <= k) (h2 : ∀ j (hj : j < s.nodes.length),j < k -> s.nodes[j].data.length <= 400) : dx s = true:=by
 unfold dx
 rw [decide_eq_true h,Bool.true_and,List.all_eq_true]
 intro x hx
 obtain ⟨j,hj,rfl⟩:=List.mem_iff_getElem.1 hx
 exact decide_eq_true (h2 j hj (by omega))
attribute [local irreducible] ju dx
theorem c5 (s : dn) (B : Sb s) : Fn 5 [s.enc] (.bool (dx s)):=by
 refine ac aZ Tryz.func5 rfl (by kernel_rfl) ?_
 conv=>whnf
 repeat' (first
 | ((with_reducible refine aB (fun h=>?_) (fun h=>?_))<;>(try simp only [List.length_map] at h)<;>conv=>whnf)
 | ((with_reducible refine bu (fun h=>?_) (fun h=>?_))<;>(try simp only [List.length_map] at h)<;>conv=>whnf)
 | ((with_reducible refine ak ?_);(first | refine aa (af (xs:=[_]) (Ux s B) _) ?_);conv=>whnf)
 | ((with_reducible refine aO ?_);first | (refine bh (fun (k : Nat)=>s.nodes.length - k) (fun (k : Nat)=>k <= s.nodes.length /\ ∀ j (hj : j < s.nodes.length),j < k -> s.nodes[j].data.length <= 400) (fun (k : Nat)=>[(1,.ptr 0 0 0),(3,.d (i k))]) (fun (k : Nat)=>[⟨[.d s.enc],3,0⟩]) (0) (by exact ⟨Nat.zero_le _,fun j hj h=>absurd h (Nat.not_lt_zero _)⟩) ?_ (fun k C hI hC=>?_);(exact ⟨[.old 0],rfl,rfl,⟨⟨rfl,rfl,rfl⟩,(by first | exact congrArg (D.int .i64) (by omega) ),trivial⟩,⟨⟨rfl,rfl,.inl ⟨[_],rfl,rfl⟩⟩,trivial⟩⟩);all_goals (conv=>whnf)))
 | ((with_reducible show C _ _);first | (refine hC (k + 1) _ _ ?_ (by omega) ?_;clear hC;rotate_left;(exact ⟨[.old 0],rfl,rfl,⟨⟨rfl,rfl,rfl⟩,(by first | exact congrArg (D.int .i64) (by omega) ),trivial⟩,⟨⟨rfl,rfl,.inl ⟨[_],rfl,rfl⟩⟩,trivial⟩⟩);(exact ⟨by omega,fun j hj h=>if e : j < k then hI.2 j hj e else by (have : j = k:=by omega);subst this;omega⟩)))
 | (refine bf (by omega) ?_;conv=>whnf)
 | (refine ax (by omega) ?_;conv=>whnf)
 | ((with_reducible refine ag ?_);first | (exact aD (congrArg D.bool (JT (by omega)).symm);done) | (exact aD (congrArg D.bool (xA (by assumption)).symm);done) | (exact aD (congrArg D.bool (DB (k:=k) (by omega) (by omega)).symm);done) | (exact aD (congrArg D.bool (JV (by assumption) (k:=k) (by omega) hI.2).symm);done))
  | fail
  )
end
section
set_option maxRecDepth 10000
attribute [local irreducible] bn
theorem To (l : List D) (hl : l.length < 2000000) (hk : ∀ y ∈ l,y.cells.length = 2 /\ y.memOk = true) : bn Tryz.prog 46 [.d (.fs l)] [] (.d (.fs l)) []:=by
 cases l with
 | nil=>
  refine pj fun a c=>?_
  cases a<;>(refine ac aZ Tryz.func46 rfl (by kernel_rfl) ?_;conv=>whnf)
  ·exact aP rfl rfl
  ·refine ⟨by decide,?_⟩;conv=>whnf
   exact aP rfl rfl
 | cons x l=>
  refine ac aZ Tryz.func46 rfl (by kernel_rfl) ?_
  conv=>whnf
  refine ⟨hk,?_⟩;conv=>whnf
  refine ⟨cm (by simp only [List.length_map];omega) rfl,?_⟩;conv=>whnf
  exact aP (gI rfl (by decide)) rfl
theorem SO (l : List bm) (hl : l.length < 2000000) : Fn 46 [.fs (l.map bm.enc)] (.fs (l.map bm.enc)):=
 To _ (by rw [List.length_map];exact hl) (fun y hy=>by obtain ⟨x,_,rfl⟩:=List.mem_map.1 hy;exact ⟨rfl,rfl⟩)
theorem Tr (l : List D) (hl : l.length < 2000000) (hk : ∀ y ∈ l,y.cells.length = 2 /\ y.memOk = true) : bn Tryz.prog 86 [.d (.fs l)] [] (.d (.fs l)) []:=by
 cases l with
 | nil=>
  refine pj fun a c=>?_
  cases a<;>(refine ac aZ Tryz.func86 rfl (by kernel_rfl) ?_;conv=>whnf)
  ·exact aP rfl rfl
  ·refine ⟨by decide,?_⟩;conv=>whnf
   exact aP rfl rfl
 | cons x l=>
  refine ac aZ Tryz.func86 rfl (by kernel_rfl) ?_
  conv=>whnf
  refine ⟨hk,?_⟩;conv=>whnf
  refine ⟨cm (by simp only [List.length_map];omega) rfl,?_⟩;conv=>whnf
  exact aP (gI rfl (by decide)) rfl
theorem Uf (l : List kh) (hl : l.length < 2000000) : Fn 86 [.fs (l.map kh.enc)] (.fs (l.map kh.enc)):=
 Tr _ (by rw [List.length_map];exact hl) (fun y hy=>by obtain ⟨x,_,rfl⟩:=List.mem_map.1 hy;exact ⟨rfl,rfl⟩)
theorem Tq (l : List D) (hl : l.length < 2000000) (hk : ∀ y ∈ l,y.cells.length = 2 /\ y.memOk = true) : bn Tryz.prog 85 [.d (.fs l)] [] (.d (.fs l)) []:=by
 cases l with
 | nil=>
  refine pj fun a c=>?_
  cases a<;>(refine ac aZ Tryz.func85 rfl (by kernel_rfl) ?_;conv=>whnf)
  ·exact aP rfl rfl
  ·refine ⟨by decide,?_⟩;conv=>whnf
   exact aP rfl rfl
 | cons x l=>
  refine ac aZ Tryz.func85 rfl (by kernel_rfl) ?_
  conv=>whnf
  refine ⟨hk,?_⟩;conv=>whnf
  refine ⟨cm (by simp only [List.length_map];omega) rfl,?_⟩;conv=>whnf
  exact aP (gI rfl (by decide)) rfl
theorem Ue (l : List mb) (hl : l.length < 2000000) : Fn 85 [.fs (l.map mb.enc)] (.fs (l.map mb.enc)):=
 Tq _ (by rw [List.length_map];exact hl) (fun y hy=>by obtain ⟨x,_,rfl⟩:=List.mem_map.1 hy;exact ⟨rfl,rfl⟩)
theorem OK (l : List D) (hl : l.length < 2000000) (hk : ∀ y ∈ l,y.cells.length = 4 /\ y.memOk = true) : bn Tryz.prog 154 [.d (.fs l)] [] (.d (.fs l)) []:=by
 cases l with
 | nil=>
  refine pj fun a c=>?_
  cases a<;>(refine ac aZ Tryz.func154 rfl (by kernel_rfl) ?_;conv=>whnf)
  ·exact aP rfl rfl
  ·refine ⟨by decide,?_⟩;conv=>whnf
   exact aP rfl rfl
 | cons x l=>
  refine ac aZ Tryz.func154 rfl (by kernel_rfl) ?_
  conv=>whnf
  refine ⟨hk,?_⟩;conv=>whnf
  refine ⟨cm (by simp only [List.length_map];omega) rfl,?_⟩;conv=>whnf
  exact aP (gI rfl (by decide)) rfl
theorem Nx (l : List dd) (hl : l.length < 2000000) : Fn 154 [.fs (l.map dd.enc)] (.fs (l.map dd.enc)):=
 OK _ (by rw [List.length_map];exact hl) (fun y hy=>by obtain ⟨x,_,rfl⟩:=List.mem_map.1 hy;exact ⟨rfl,rfl⟩)
end
section
set_option maxRecDepth 10000
attribute [local irreducible] bn
set_option maxHeartbeats 1000000
open Paths
theorem FC {s : List cu} {k : Nat} (h : k < s.length) : (aN s).take k ++ [Dl s[k]] = (aN s).take (k + 1):=by
 have hk : k < (aN s).length:=by rw [dN];exact h
 have e : (aN s)[k] = Dl s[k]:=by
  have:=ke h
  rw [List.getElem?_eq_getElem hk] at this
  exact Option.some.inj this
 rw [List.take_succ_eq_append_getElem hk,e]
attribute [local irreducible] bi am aN
theorem Uc (n lo hi : Int) : Fn 84 [i n,i lo,i hi] (.bool (ar n lo hi)):=by
 refine ac aZ Tryz.func84 rfl (by kernel_rfl) ?_
 conv=>whnf
 repeat' (first
 | ((with_reducible refine aB (fun h=>?_) (fun h=>?_))<;>(try simp only [List.length_map] at h)<;>conv=>whnf)
 | ((with_reducible refine ag ?_);first | (exact aD (congrArg D.bool (by simp [h,ar]));done) )
  | fail
  )
theorem QE (b : Bool) (e : Int) : Fn 52 [.bool b,i e] (i (if b then 0 else e)):=by
 refine ac aZ Tryz.func52 rfl (by kernel_rfl) ?_
 conv=>whnf
 repeat' (first
 | ((with_reducible refine ao (fun h=>?_) (fun h=>?_))<;>conv=>whnf)
 | ((with_reducible refine ag ?_);first | (exact aD (by simp_all);done))
  | fail
  )
theorem QD (l : List Int) (hl : l.length < 2000000) : Fn 50 [.fs (l.map i)] (i (aI l)):=by
 refine ac aZ Tryz.func50 rfl (by kernel_rfl) ?_
 conv=>whnf
 repeat' (first
 | ((with_reducible refine aB (fun h=>?_) (fun h=>?_))<;>(try simp only [List.length_map] at h)<;>conv=>whnf)
 | ((with_reducible refine bu (fun h=>?_) (fun h=>?_))<;>(try simp only [List.length_map] at h)<;>conv=>whnf)
 | ((with_reducible refine aO ?_);first | (refine bh (fun (k : Nat)=>l.length - k) (fun (k : Nat)=>k <= l.length /\ aI l = aI (l.drop k)) (fun (k : Nat)=>[(5,.d (.fs (l.map i))),(6,.d (i l.length)),(7,.d (i k))]) (fun (k : Nat)=>[]) (0) (by exact ⟨Nat.zero_le _,rfl⟩) ?_ (fun k C hI hC=>?_);(exact ⟨[],rfl,rfl,⟨rfl,(by first | exact congrArg (D.int .i64) (by simp only [List.length_map]) ),(by first | exact congrArg (D.int .i64) (by omega) ),trivial⟩,trivial⟩);all_goals (conv=>whnf)))
 | ((with_reducible show C _ _);first | (refine hC (k + 1) _ _ ?_ (by omega) ?_;clear hC;rotate_left;(exact ⟨[],rfl,rfl,⟨rfl,rfl,(by first | exact congrArg (D.int .i64) (by omega) ),trivial⟩,trivial⟩);(exact ⟨by omega,by rw [hI.2,List.drop_eq_getElem_cons (by omega),ce,if_pos (by assumption)]⟩)))
 | (refine bf (by omega) ?_;conv=>whnf)
 | (refine ax (by omega) ?_;conv=>whnf)
 | ((with_reducible refine ag ?_);first | (refine aD (congrArg i ?_);rw [hI.2,List.drop_eq_nil_of_le (by omega)];rfl;done) | (refine aD (congrArg i ?_);rw [hI.2,List.drop_eq_getElem_cons (by omega),ce,if_neg (by assumption)];done))
  | fail
  )
attribute [local irreducible] ar
theorem QS (n : Int) : Fn 104 [i n] (.bool (dA n)):=by
 refine ac aZ Tryz.func104 rfl (by kernel_rfl) ?_
 conv=>whnf
 repeat' (first
 | ((with_reducible refine ao (fun h=>?_) (fun h=>?_))<;>conv=>whnf)
 | ((with_reducible refine ak ?_);(first | refine aa (af (xs:=[_,_,_]) (Uc _ _ _) _) ?_);conv=>whnf)
 | ((with_reducible refine ag ?_);first | (exact aD (congrArg D.bool (by simp_all [dA,qb]));done))
  | fail
  )
theorem Nv (s : Bs) (hs : s.length < 2000000) (h0 : am s = 0) : Fn 147 [.str s] (.str (bi s)):=by
 refine ac aZ Tryz.func147 rfl (by kernel_rfl) ?_
 conv=>whnf
 repeat' (first
 | ((with_reducible refine ak ?_);(first | refine aa (af (xs:=[_]) (F1 s hs h0) _) ?_);conv=>whnf)
 | ((with_reducible refine ag ?_);first | (exact aD rfl;done))
  | fail
  )
theorem RH (x : cu) (hs : ∀ k,x.data.length + gZ (x.sts.take k) < 2000000) (hl : x.sts.length < 2000000) : Fn 193 [x.enc] (i (dt x : Nat)):=by
 refine ac aZ Tryz.func193 rfl (by kernel_rfl) ?_
 conv=>whnf
 repeat' (first
 | ((with_reducible refine aB (fun h=>?_) (fun h=>?_))<;>(try simp only [List.length_map] at h)<;>conv=>whnf)
 | ((with_reducible refine aO ?_);first | (refine bh (fun (k : Nat)=>x.sts.length - k) (fun (k : Nat)=>k <= x.sts.length) (fun (k : Nat)=>[(3,.d (i ((x.data.length + gZ (x.sts.take k) : Nat) : Int))),(10,.d (.fs (x.sts.map kh.enc))),(11,.d (i x.sts.length)),(12,.d (i k))]) (fun (k : Nat)=>[]) (0) (by exact Nat.zero_le _) ?_ (fun k C hI hC=>?_);(exact ⟨[],rfl,rfl,⟨(congrArg (D.int .i64) (by simp [gZ])),rfl,(by first | exact congrArg (D.int .i64) (by simp only [List.length_map]) ),(by first | exact congrArg (D.int .i64) (by omega) ),trivial⟩,trivial⟩);all_goals (conv=>whnf)))
 | ((with_reducible show C _ _);first | (refine hC (k + 1) _ _ ?_ (by omega) ?_;clear hC;rotate_left;(exact ⟨[],rfl,rfl,⟨(congrArg (D.int .i64) (by have:=mM (l:=x.sts) (k:=k) (by omega);omega)),rfl,rfl,(by first | exact congrArg (D.int .i64) (by omega) ),trivial⟩,trivial⟩);(exact (by omega))))
 | (refine bf (by omega) ?_;conv=>whnf)
 | (refine ax (by omega) ?_;conv=>whnf)
 | (refine ax (by have h1:=hs k;have h2:=hs (k + 1);have h3:=mM (l:=x.sts) (k:=k) (by omega);omega) ?_;conv=>whnf)
 | ((with_reducible refine ag ?_);first | (refine aD (congrArg i ?_);unfold dt;rw [Aq (by omega)];done))
  | fail
  )
theorem RQ (s : dn) (hl : s.nodes.length < 2000000) (hbe : ∀ x ∈ s.nodes,x.ents.length < 2000000) : Fn 22 [.fp s.enc 0] (aS (aN s.nodes)):=by
 refine ac aZ Tryz.func22 rfl (by kernel_rfl) ?_
 conv=>whnf
 repeat' (first
 | ((with_reducible refine aJ ?_ ?_);(focus ((try simp only [List.length_map,List.length_cons,List.length_nil,List.length_append]);omega));conv=>whnf)
 | ((with_reducible refine aB (fun h=>?_) (fun h=>?_))<;>(try simp only [List.length_map] at h)<;>conv=>whnf)
 | ((with_reducible refine ak ?_);(first | refine aa (af (xs:=[_]) (SO _ (hbe _ (List.getElem_mem (by omega : k < s.nodes.length)))) _) ?_);conv=>whnf)
 | (refine ⟨[],[(2,5),(7,5)],(by decide +kernel),?_⟩;conv=>whnf)
 | ((with_reducible refine aO ?_);first | (refine ni (fun (k : Nat) (out : List aM)=>s.nodes.length - k) (fun (k : Nat) (out : List aM)=>k <= s.nodes.length /\ out.length = k /\ out = (aN s.nodes).take k) (fun (k : Nat) (out : List aM)=>[(3,.sl 0 0 out.length 3 none),(10,.d (.fs (s.nodes.map cu.enc))),(11,.d (i s.nodes.length)),(12,.d (i k))]) (fun (k : Nat) (out : List aM)=>[⟨(out.map aM.enc).map .d,3,0⟩]) (0) ([]) (by exact ⟨Nat.zero_le _,rfl,rfl⟩) ?_ (fun k out C hI hC=>?_);(exact ⟨[.void 3],rfl,rfl,⟨⟨rfl,rfl,rfl,rfl⟩,rfl,(by first | exact congrArg (D.int .i64) (by simp only [List.length_map]) ),(by first | exact congrArg (D.int .i64) (by omega) ),trivial⟩,⟨⟨rfl,rfl,(by decide),rfl⟩,trivial⟩⟩);all_goals (conv=>whnf)))
 | ((with_reducible show C _ _);first | (refine hC (k + 1) (out ++ [Dl (s.nodes[k]'(by omega))]) _ _ ?_ (by omega) ?_;clear hC;rotate_left;(exact ⟨[.old 3],rfl,rfl,⟨⟨rfl,rfl,(by simp),rfl,rfl⟩,rfl,rfl,(by first | exact congrArg (D.int .i64) (by omega) ),trivial⟩,⟨⟨rfl,rfl,.inr (fg (em _ _) ⟨rfl,rfl,rfl,rfl,trivial⟩)⟩,trivial⟩⟩);(exact ⟨by omega,by rw [List.length_append,List.length_singleton,hI.2.1],(congrArg (fun l=>l ++ [Dl (s.nodes[k]'(by omega))]) hI.2.2).trans (FC (by omega))⟩)))
 | (refine ⟨⟨(by first | (simp;done)),cm (by simp only [List.length_map,List.length_cons,List.length_nil,List.length_append];omega) rfl⟩,?_⟩;conv=>whnf)
 | (refine bf (by omega) ?_;conv=>whnf)
 | (refine ax (by omega) ?_;conv=>whnf)
 | (refine ⟨(by simp),?_⟩;conv=>whnf)
 | ((with_reducible refine ag ?_);first | ((have e : out = aN s.nodes:=(by rw [hI.2.2];exact List.take_of_length_le (by rw [dN];omega)));subst e;exact aP (ca rfl (by decide)) rfl;done))
  | fail
  )
end
section
set_option maxRecDepth 10000
attribute [local irreducible] bn
set_option maxHeartbeats 1000000
open Paths
theorem tb {s : List cu} {n : Int} {k : Nat} (h : k < s.length) : aX ((aN s).take (k + 1)) n = aX ((aN s).take k) n + eO s[k].ents n:=by
 have hk : k < (aN s).length:=by rw [dN];exact h
 have e : (aN s)[k] = Dl s[k]:=by
  have:=ke h
  rw [List.getElem?_eq_getElem hk] at this
  exact Option.some.inj this
 rw [kD _ _ hk,e]
theorem Lo {p : Prop} [Decidable p] (h : p) : lc (decide p) = 1:=by rw [decide_eq_true h];rfl
theorem Ln {p : Prop} [Decidable p] (h : ¬ p) : lc (decide p) = 0:=by rw [decide_eq_false h];rfl
theorem ta {n : Int} : ∀ (t : List aM) (k : Nat),(∀ x ∈ t,x.ents.length < 2000000) -> aX (t.take k) n <= 2000000 * k
 | [],k,_=>by simp [aX]
 | x :: t,0,_=>by simp [aX]
 | x :: t,k + 1,h=>by
  have h1:=ta (n:=n) t k (fun y hy=>h y (by simp [hy]))
  have h2:=ou (n:=n) x.ents
  have h3:=h x (by simp)
  simp only [List.take_succ_cons,aX]
  omega
theorem Ju {k : Nat} (h : ¬ (k : Int) = 0) : jc (k : Int) 1 = (k : Int):=by unfold jc;split<;>omega
attribute [local irreducible] bi am aN aX eO lc iJ Op.bytesLess
theorem Hi {n : Int} : aX [] n = 0:=by unfold aX;rfl
theorem LO {n : Int} : eO [] n = 0:=by unfold eO;rfl
theorem Q0 (s : dn) (B : Sb s) (n : Int) (hl : s.nodes.length <= 20) : Fn 138 [.fp s.enc 0,i n] (i (aX (aN s.nodes) n : Nat)):=by
 have hbe:=B.el
 refine ac aZ Tryz.func138 rfl (by kernel_rfl) ?_
 conv=>whnf
 repeat' (first
 | ((with_reducible refine aB (fun h=>?_) (fun h=>?_))<;>(try simp only [List.length_map] at h)<;>conv=>whnf)
 | ((with_reducible refine aO ?_);first | (refine bh (fun (m : Nat)=>(s.nodes[k]'(by omega)).ents.length - m) (fun (m : Nat)=>m <= (s.nodes[k]'(by omega)).ents.length) (fun (m : Nat)=>[(1,.d (i n)),(5,.d (i ((aX ((aN s.nodes).take k) n + eO ((s.nodes[k]'(by omega)).ents.take m) n : Nat) : Int))),(14,.d (.fs (s.nodes.map cu.enc))),(15,.d (i s.nodes.length)),(16,.d (i k)),(21,.d (.fs ((s.nodes[k]'(by omega)).ents.map bm.enc))),(22,.d (i (s.nodes[k]'(by omega)).ents.length)),(23,.d (i m))]) (fun (m : Nat)=>[]) (0) (by exact Nat.zero_le _) ?_ (fun m C2 hI2 hC2=>?_);(exact ⟨[],rfl,rfl,⟨rfl,(congrArg (D.int .i64) (by simp [LO])),rfl,rfl,rfl,rfl,(by first | exact congrArg (D.int .i64) (by simp only [List.length_map]) ),(by first | exact congrArg (D.int .i64) (by omega) ),trivial⟩,trivial⟩);all_goals (conv=>whnf)) | (refine bh (fun (k : Nat)=>s.nodes.length - k) (fun (k : Nat)=>k <= s.nodes.length) (fun (k : Nat)=>[(1,.d (i n)),(5,.d (i (aX ((aN s.nodes).take k) n : Nat))),(14,.d (.fs (s.nodes.map cu.enc))),(15,.d (i s.nodes.length)),(16,.d (i k))]) (fun (k : Nat)=>[]) (0) (by exact Nat.zero_le _) ?_ (fun k C hI hC=>?_);(exact ⟨[],rfl,rfl,⟨rfl,(congrArg (D.int .i64) (by simp [Hi])),rfl,(by first | exact congrArg (D.int .i64) (by simp only [List.length_map]) ),(by first | exact congrArg (D.int .i64) (by omega) ),trivial⟩,trivial⟩);all_goals (conv=>whnf)))
 | ((with_reducible show C _ _);first | (refine hC (k + 1) _ _ ?_ (by omega) ?_;clear hC;rotate_left;(exact ⟨[],rfl,rfl,⟨rfl,(congrArg (D.int .i64) (by have h7:=tb (s:=s.nodes) (n:=n) (k:=k) (by omega);have h8 : m = (s.nodes[k]'(by omega)).ents.length:=(by omega);rw [h8,List.take_length];omega)),rfl,rfl,(by first | exact congrArg (D.int .i64) (by omega) ),trivial⟩,trivial⟩);(exact (by omega))))
 | ((with_reducible show C2 _ _);first | (refine hC2 (m + 1) _ _ ?_ (by omega) ?_;clear hC2;rotate_left;(exact ⟨[],rfl,rfl,⟨rfl,(congrArg (D.int .i64) (by have h9:=mh (n:=n) (s.nodes[k]'(by omega)).ents m (by omega);first | (rw [Lo (by assumption)] at h9;omega) | (rw [Ln (by assumption)] at h9;omega))),rfl,rfl,rfl,rfl,rfl,(by first | exact congrArg (D.int .i64) (by omega) ),trivial⟩,trivial⟩);(exact (by omega))))
 | (refine bf (by omega) ?_;conv=>whnf)
 | (refine ax (by omega) ?_;conv=>whnf)
 | (refine ax (by have h5:=ta (n:=n) (aN s.nodes) k (fun x hx=>(B.tr x hx).1);have h6:=ta (n:=n) (aN s.nodes) (k + 1) (fun x hx=>(B.tr x hx).1);have h7:=tb (s:=s.nodes) (n:=n) (k:=k) (by omega);have h8:=ou (n:=n) ((s.nodes[k]'(by omega)).ents.take m);rw [List.length_take] at h8;have h9:=hbe _ (List.getElem_mem (by omega : k < s.nodes.length));omega) ?_;conv=>whnf)
 | ((with_reducible refine ag ?_);first | (refine aD (congrArg i ?_);rw [List.take_of_length_le (by rw [dN];omega)];done))
  | fail
  )
end
section
set_option maxRecDepth 10000
attribute [local irreducible] bn
set_option maxHeartbeats 1000000
open Paths
theorem Bn {α : Type} {f : α -> D} {l : List α} {k : Nat} {K : D -> Prop} (h0 : ¬ (k : Int) = 0) (h : k < l.length) (hk : K (f (l[k - 1]'(by omega)))) : 0 <= jc (k : Int) 1 - 1 /\ cX (l.map f) (jc (k : Int) 1 - 1).toNat K:=by
 rw [Ju h0]
 exact zd (k - 1) (by omega) (by omega) hk
theorem Hu {α : Type} {g : α -> Bs} {l : List α} {k : Nat} (h0 : 0 < k) (h : k < l.length) (ho : iJ (l.map g) k = 0) : Op.bytesLess (bi (g (l[k - 1]'(by omega)))) (bi (g l[k])) = true:=by
 rw [oS h0 h] at ho
 by_cases c : Op.bytesLess (bi (g (l[k - 1]'(by omega)))) (bi (g l[k])) = true
 ·exact c
 ·rw [if_neg c] at ho;cases ho
theorem rZ (e : Int) : Fn 52 [.bool true,i e] (i 0):=QE true e
theorem D8 {p : Prop} [Decidable p] (h : p) (e : Int) : Fn 52 [.bool (decide p),i e] (i 0):=by
 rw [decide_eq_true h];exact QE true e
theorem Oi {b : Bool} (h : b = true) (e : Int) : Fn 52 [.bool b,i e] (i 0):=by subst h;exact QE true e
attribute [local irreducible] bi am iJ Op.bytesLess ar
theorem Q6 (x : cu) (hb : ∀ y ∈ x.ents,y.name.length < 2000000) (hn : ∀ y ∈ x.ents,am y.name = 0) (ho : ∀ k,k < x.ents.length -> iJ (x.ents.map bm.name) k = 0) (k : Nat) (hk : k < x.ents.length) (hl : x.ents.length < 2000000) : Fn 146 [i k,x.ents[k].enc,.fp x.enc 0] (i 0):=by
 refine ac aZ Tryz.func146 rfl (by kernel_rfl) ?_
 conv=>whnf
 repeat' (first
 | ((with_reducible refine aB (fun h=>?_) (fun h=>?_))<;>(try simp only [List.length_map] at h)<;>conv=>whnf)
 | ((with_reducible refine ak ?_);(first | refine aa (af (xs:=[_]) (Nv _ (hb _ (List.getElem_mem (by omega))) (hn _ (List.getElem_mem (by omega)))) _) ?_ | refine aa (af (xs:=[_,_]) (rZ _) _) ?_ | refine aa (af (xs:=[_,_]) (Oi (Hu (g:=bm.name) (by omega) hk (ho k hk)) _) _) ?_);conv=>whnf)
 | (refine ⟨[],[(13,11)],(by decide +kernel),?_⟩;conv=>whnf)
 | (refine ax (by have h9:=Ju (k:=k) (by assumption);omega) ?_;conv=>whnf)
 | (refine Bn (f:=bm.enc) (l:=x.ents) (by assumption) hk ?_;conv=>whnf)
 | ((with_reducible refine ag ?_);first | (exact aD rfl;done))
 | (refine ⟨rfl,?_⟩;conv=>whnf)
  | fail
  )
theorem Nu (x : cu) (hb : ∀ y ∈ x.ents,y.name.length < 2000000) (hn : ∀ y ∈ x.ents,am y.name = 0) (ho : ∀ k,k < x.ents.length -> iJ (x.ents.map bm.name) k = 0) (hl : x.ents.length < 2000000) : Fn 145 [.fs (x.ents.map bm.enc),.fn 146 [] [.fp x.enc 0]] (.tup [i 0,i 0]):=by
 refine ac aZ Tryz.func145 rfl (by kernel_rfl) ?_
 conv=>whnf
 repeat' (first
 | ((with_reducible refine aB (fun h=>?_) (fun h=>?_))<;>(try simp only [List.length_map] at h)<;>conv=>whnf)
 | ((with_reducible refine ak ?_);(first | refine aa (af (xs:=[_,_,_]) (Q6 x hb hn ho k (by omega) hl) _) ?_);conv=>whnf)
 | ((with_reducible refine aO ?_);first | (refine bh (fun (k : Nat)=>x.ents.length - k) (fun (k : Nat)=>k <= x.ents.length) (fun (k : Nat)=>[(1,.d (.fn 146 [] [.fp x.enc 0])),(9,.d (.fs (x.ents.map bm.enc))),(10,.d (i x.ents.length)),(11,.d (i k))]) (fun (k : Nat)=>[]) (0) (by exact Nat.zero_le _) ?_ (fun k C hI hC=>?_);(exact ⟨[],rfl,rfl,⟨rfl,rfl,(by first | exact congrArg (D.int .i64) (by simp only [List.length_map]) ),(by first | exact congrArg (D.int .i64) (by omega) ),trivial⟩,trivial⟩);all_goals (conv=>whnf)))
 | ((with_reducible show C _ _);first | (refine hC (k + 1) _ _ ?_ (by omega) ?_;clear hC;rotate_left;(exact ⟨[],rfl,rfl,⟨rfl,rfl,rfl,(by first | exact congrArg (D.int .i64) (by omega) ),trivial⟩,trivial⟩);(exact (by omega))))
 | (refine bf (by omega) ?_;conv=>whnf)
 | (refine ax (by omega) ?_;conv=>whnf)
 | ((with_reducible refine ag ?_);first | (exact aP (aY (aK rfl (aK rfl bM))) rfl;done))
  | fail
  )
end
section
set_option maxRecDepth 10000
attribute [local irreducible] bn
set_option maxHeartbeats 4000000
attribute [local irreducible] kW jc
def zA : AV:=.agg [.d (i 0),.d (i 0),.d (i 0),.d (i 0)]
theorem N3 (n : Nat) (hn : n < 1000) (h0 : 0 < n) : bn Tryz.prog 227 [.nilS,.d (i n)] [] (.sl 0 0 0 4 none) [⟨List.replicate n zA,4,0⟩]:=by
 refine cd aZ Tryz.func227 rfl (by kernel_rfl) [] (by rfl) [] ?_
 conv=>whnf
 repeat' (first
 | ((with_reducible refine bP ?_ ?_);(focus ((try simp only [List.length_map,List.length_cons,List.length_nil,List.length_append]);omega));conv=>whnf)
 | (refine ax (by omega) ?_;conv=>whnf)
 | (refine jH 0 0 rfl rfl ⟨Nat.le_refl _,Nat.zero_le _⟩ ?_;conv=>whnf)
 | (refine ⟨⟨rfl,rfl,rfl⟩,?_⟩;conv=>whnf)
 | (refine ⟨⟨by omega,by omega,(by rw [show (E (E 42).elem).bytes = 32 from rfl];omega)⟩,?_⟩;conv=>whnf)
 | (refine ⟨(by rw [List.length_replicate,show (E (E 42).elem).bytes = 32 from rfl];omega),?_⟩;conv=>whnf)
 | ((with_reducible refine ag ?_);first | (rw [show ((n : Int) - (0 - 0)).toNat = n by omega];exact pQ rfl rfl;done))
  | fail
  )
theorem N4 : bn Tryz.prog 227 [.nilS,.d (i 0)] [] .nilS []:=by
 refine cd aZ Tryz.func227 rfl (by kernel_rfl) [] (by rfl) [] ?_
 conv=>whnf
 repeat' (first
 | (refine ax (by omega) ?_;conv=>whnf)
 | ((with_reducible refine ag ?_);first | (refine bR (.inl ⟨[],rfl,rfl,⟨trivial,trivial⟩,trivial⟩);done))
  | fail
  )
def fy (LL : List (List dd)) (k : Nat) : List dd:=(LL.take k).flatten
theorem pM {LL : List (List dd)} {k : Nat} (h : k < LL.length) : fy LL (k + 1) = fy LL k ++ LL[k]:=by
 unfold fy;rw [List.take_succ_eq_append_getElem h,List.flatten_append];simp
theorem oz {LL : List (List dd)} {k : Nat} (h : ¬ k < LL.length) : fy LL k = LL.flatten:=by unfold fy;rw [List.take_of_length_le (by omega)]
theorem oA {LL : List (List dd)} {k : Nat} (h : k < LL.length) : (fy LL k).length + LL[k].length <= LL.flatten.length:=by
 have h1 : LL.flatten = fy LL (k + 1) ++ (LL.drop (k + 1)).flatten:=by unfold fy;rw [<- List.flatten_append,List.take_append_drop]
 rw [h1,pM h,List.length_append,List.length_append];omega
theorem oB {LL : List (List dd)} {k : Nat} (h : k < LL.length) : (fy LL (k + 1)).length = (fy LL k).length + LL[k].length:=by rw [pM h,List.length_append]
def cA (A : List dd) (m : Nat) : AO:=⟨(A.map dd.enc).map .d ++ List.replicate m zA,4,0⟩
theorem N1 {LL : List (List dd)} {k : Nat} (hk : ¬ (k : Int) < LL.length) (hf : LL.flatten.length < 1000) (h0 : 0 < LL.flatten.length) : bn Tryz.prog 227 [.nilS,.d (i (fy LL k).length)] [] (.sl 0 0 0 4 none) [cA [] LL.flatten.length]:=by
 rw [oz (by omega)]
 exact N3 _ hf h0
theorem N2 {LL : List (List dd)} {k : Nat} (hk : ¬ (k : Int) < LL.length) (h0 : LL.flatten.length = 0) : bn Tryz.prog 227 [.nilS,.d (i (fy LL k).length)] [] .nilS []:=by
 rw [oz (by omega),h0]
 exact N4
theorem xG (μ : List Mu) : ∀ (A : List D) (m : Nat),io μ (A.map .d ++ List.replicate m zA) (A.map .d ++ List.replicate m zA)
 | [],0=>trivial
 | [],m + 1=>⟨⟨rfl,rfl,rfl,rfl,trivial⟩,xG μ [] m⟩
 | x :: A,m=>⟨rfl,xG μ A m⟩
theorem JF (A B : List dd) (n : Nat) (h : A.length + B.length <= n) : eI ((A.map dd.enc).map .d ++ List.replicate (n - A.length) zA) A.length ((B.map dd.enc).map .d) = ((A ++ B).map dd.enc).map .d ++ List.replicate (n - (A ++ B).length) zA:=by
 unfold eI
 have h1 : ((A.map dd.enc).map AV.d).length = A.length:=by simp
 have h2 : ((A.map dd.enc).map AV.d ++ List.replicate (n - A.length) zA).take A.length = (A.map dd.enc).map AV.d:=by
  rw [<- h1,List.take_left]
 have h3 : ((A.map dd.enc).map AV.d ++ List.replicate (n - A.length) zA).drop (A.length + ((B.map dd.enc).map AV.d).length) = List.replicate (n - (A ++ B).length) zA:=by
  have : A.length + ((B.map dd.enc).map AV.d).length = ((A.map dd.enc).map AV.d).length + B.length:=by simp
  have e : (n - A.length) - B.length = n - (A ++ B).length:=by rw [List.length_append];omega
  rw [this,List.drop_append,List.drop_eq_nil_of_le (by omega),List.nil_append,Nat.add_sub_cancel_left,List.drop_replicate,e]
 rw [h2,h3];simp
theorem F8 (A : List dd) (m : Nat) : (cA A m).elems.length = A.length + m:=by unfold cA;simp
theorem OD (A : List dd) : cA A 0 = ⟨(A.map dd.enc).map .d,4,0⟩:=by unfold cA;simp
theorem vX (μ : List Mu) {LL : List (List dd)} {k : Nat} (h : k < LL.length) : io μ (eI (cA (fy LL k) (LL.flatten.length - (fy LL k).length)).elems (0 + (fy LL k).length) ((LL[k].map dd.enc).map .d)) (cA (fy LL (k + 1)) (LL.flatten.length - (fy LL (k + 1)).length)).elems:=by
 have:=oA h
 rw [Nat.zero_add]
 show io μ (eI ((fy LL k).map dd.enc |>.map .d |> fun x=>x ++ List.replicate (LL.flatten.length - (fy LL k).length) zA) _ _) _
 rw [pM h]
 have e:=JF (fy LL k) LL[k] LL.flatten.length (by omega)
 show io μ (eI (((fy LL k).map dd.enc).map .d ++ List.replicate (LL.flatten.length - (fy LL k).length) zA) _ _) _
 rw [e]
 exact xG μ _ _
theorem NO (LL : List (List dd)) (hL : LL.length < 1000) (hf : LL.flatten.length < 1000) (h0 : 0 < LL.flatten.length) : Fn 172 [.fs (LL.map (fun l=>.fs (l.map dd.enc)))] (.fs (LL.flatten.map dd.enc)):=by
 refine ac aZ Tryz.func172 rfl (by kernel_rfl) ?_
 conv=>whnf
 repeat' (first
 | ((with_reducible refine aB (fun h=>?_) (fun h=>?_))<;>(try simp only [List.length_map] at h)<;>conv=>whnf)
 | ((with_reducible refine ak ?_);(first | refine aa (N1 (LL:=LL) (by assumption) hf h0) ?_ );conv=>whnf)
 | ((with_reducible refine aO ?_);first | (refine bh (fun (k : Nat)=>LL.length - k) (fun (k : Nat)=>k <= LL.length) (fun (k : Nat)=>[(6,.sl 0 0 (fy LL k).length 4 none),(25,.d (.fs (LL.map (fun l=>.fs (l.map dd.enc))))),(26,.d (i LL.length)),(27,.d (i k))]) (fun (k : Nat)=>[cA (fy LL k) (LL.flatten.length - (fy LL k).length)]) (0) (by exact Nat.zero_le _) ?_ (fun k Cb hIb hCb=>?_);(exact ⟨[.old 0],rfl,rfl,⟨(by first | exact ⟨rfl,rfl,rfl,rfl,rfl⟩ ),rfl,(by first | exact congrArg (D.int .i64) (by simp only [List.length_map]) ),(by first | exact congrArg (D.int .i64) (by omega) ),trivial⟩,⟨⟨rfl,rfl,.inr (xG _ [] _)⟩,trivial⟩⟩);all_goals (conv=>whnf)) | (refine bh (fun (k : Nat)=>LL.length - k) (fun (k : Nat)=>k <= LL.length) (fun (k : Nat)=>[(0,.d (.fs (LL.map (fun l=>.fs (l.map dd.enc))))),(3,.d (i (fy LL k).length)),(9,.d (.fs (LL.map (fun l=>.fs (l.map dd.enc))))),(10,.d (i LL.length)),(11,.d (i k))]) (fun (k : Nat)=>[]) (0) (by exact Nat.zero_le _) ?_ (fun k C hI hC=>?_);(exact ⟨[],rfl,rfl,⟨rfl,(by first | exact rfl),rfl,(by first | exact congrArg (D.int .i64) (by simp only [List.length_map]) ),(by first | exact congrArg (D.int .i64) (by omega) ),trivial⟩,trivial⟩);all_goals (conv=>whnf)))
 | ((with_reducible show C _ _);first | (refine hC (k + 1) _ _ ?_ (by omega) ?_;clear hC;rotate_left;(exact ⟨[],rfl,rfl,⟨rfl,(by refine congrArg (D.int .i64) ?_;rw [oB (by omega),List.length_map];omega),rfl,rfl,(by first | exact congrArg (D.int .i64) (by omega) ),trivial⟩,trivial⟩);(exact (by omega : k + 1 <= LL.length))))
 | ((with_reducible show Cb _ _);first | (refine hCb (k + 1) _ _ ?_ (by omega) ?_;clear hCb;rotate_left;(exact ⟨[.old 0],rfl,rfl,⟨⟨rfl,rfl,(by rw [oB (by omega)];simp),rfl,rfl⟩,rfl,rfl,(by first | exact congrArg (D.int .i64) (by omega) ),trivial⟩,⟨⟨rfl,rfl,.inr (vX _ (by omega))⟩,trivial⟩⟩);(exact (by omega : k + 1 <= LL.length))))
 | (refine ⟨(by intro y hy;obtain ⟨x,_,rfl⟩:=List.mem_map.1 hy;first | exact ⟨rfl,rfl⟩),?_⟩;conv=>whnf)
 | (refine bf (by omega) ?_;conv=>whnf)
 | (refine ax (by omega) ?_;conv=>whnf)
 | (refine ax (by have hc:=oA (LL:=LL) (k:=k) (by omega);simp only [List.length_map];omega) ?_;conv=>whnf)
 | (exfalso;have hc:=oA (LL:=LL) (k:=k) (by omega);rw [F8] at h;omega)
 | ((with_reducible refine ag ?_);first | (rw [oz (by omega),Nat.sub_self,OD];exact aP (ca rfl Nat.two_pos) rfl;done))
  | fail
  )
theorem NP (LL : List (List dd)) (hL : LL.length < 1000) (hf : LL.flatten.length < 1000) (h0 : LL.flatten.length = 0) : Fn 172 [.fs (LL.map (fun l=>.fs (l.map dd.enc)))] (.fs (LL.flatten.map dd.enc)):=by
 refine ac aZ Tryz.func172 rfl (by kernel_rfl) ?_
 conv=>whnf
 repeat' (first
 | ((with_reducible refine aB (fun h=>?_) (fun h=>?_))<;>(try simp only [List.length_map] at h)<;>conv=>whnf)
 | ((with_reducible refine ak ?_);(first | refine aa (N2 (LL:=LL) (by assumption) h0) ?_);conv=>whnf)
 | ((with_reducible refine aO ?_);first | (refine bh (fun (k : Nat)=>LL.length - k) (fun (k : Nat)=>k <= LL.length) (fun (k : Nat)=>[(6,.sl 0 0 (fy LL k).length 4 none),(25,.d (.fs (LL.map (fun l=>.fs (l.map dd.enc))))),(26,.d (i LL.length)),(27,.d (i k))]) (fun (k : Nat)=>[cA (fy LL k) (LL.flatten.length - (fy LL k).length)]) (0) (by exact Nat.zero_le _) ?_ (fun k Cb hIb hCb=>?_);(exact ⟨[.void 4],rfl,rfl,⟨⟨rfl,rfl,rfl,rfl⟩,rfl,(by first | exact congrArg (D.int .i64) (by simp only [List.length_map]) ),(by first | exact congrArg (D.int .i64) (by omega) ),trivial⟩,⟨⟨(by rw [h0];rfl),rfl,Nat.zero_lt_succ _,rfl⟩,trivial⟩⟩);all_goals (conv=>whnf)) | (refine bh (fun (k : Nat)=>LL.length - k) (fun (k : Nat)=>k <= LL.length) (fun (k : Nat)=>[(0,.d (.fs (LL.map (fun l=>.fs (l.map dd.enc))))),(3,.d (i (fy LL k).length)),(9,.d (.fs (LL.map (fun l=>.fs (l.map dd.enc))))),(10,.d (i LL.length)),(11,.d (i k))]) (fun (k : Nat)=>[]) (0) (by exact Nat.zero_le _) ?_ (fun k C hI hC=>?_);(exact ⟨[],rfl,rfl,⟨rfl,(by first | exact rfl),rfl,(by first | exact congrArg (D.int .i64) (by simp only [List.length_map]) ),(by first | exact congrArg (D.int .i64) (by omega) ),trivial⟩,trivial⟩);all_goals (conv=>whnf)))
 | ((with_reducible show C _ _);first | (refine hC (k + 1) _ _ ?_ (by omega) ?_;clear hC;rotate_left;(exact ⟨[],rfl,rfl,⟨rfl,(by refine congrArg (D.int .i64) ?_;rw [oB (by omega),List.length_map];omega),rfl,rfl,(by first | exact congrArg (D.int .i64) (by omega) ),trivial⟩,trivial⟩);(exact (by omega : k + 1 <= LL.length))))
 | ((with_reducible show Cb _ _);first | (refine hCb (k + 1) _ _ ?_ (by omega) ?_;clear hCb;rotate_left;(exact ⟨[.old 0],rfl,rfl,⟨⟨rfl,rfl,(by rw [oB (by omega)];simp),rfl,rfl⟩,rfl,rfl,(by first | exact congrArg (D.int .i64) (by omega) ),trivial⟩,⟨⟨rfl,rfl,.inr (vX _ (by omega))⟩,trivial⟩⟩);(exact (by omega : k + 1 <= LL.length))))
 | (refine ⟨(by intro y hy;obtain ⟨x,_,rfl⟩:=List.mem_map.1 hy;first | exact ⟨rfl,rfl⟩),?_⟩;conv=>whnf)
 | (refine bf (by omega) ?_;conv=>whnf)
 | (refine ax (by omega) ?_;conv=>whnf)
 | (refine ax (by have hc:=oA (LL:=LL) (k:=k) (by omega);simp only [List.length_map];omega) ?_;conv=>whnf)
 | (exfalso;have hc:=oA (LL:=LL) (k:=k) (by omega);rw [F8] at h;omega)
 | ((with_reducible refine ag ?_);first | (rw [oz (by omega),Nat.sub_self,OD];exact aP (ca rfl Nat.two_pos) rfl;done))
  | fail
  )
theorem RA (LL : List (List dd)) (hL : LL.length < 1000) (hf : LL.flatten.length < 1000) : Fn 172 [.fs (LL.map (fun l=>.fs (l.map dd.enc)))] (.fs (LL.flatten.map dd.enc)):=by
 rcases Nat.eq_zero_or_pos LL.flatten.length with h0 | h0
 ·exact NP LL hL hf h0
 ·exact NO LL hL hf h0
end
section
set_option maxRecDepth 10000
attribute [local irreducible] bn
set_option maxHeartbeats 1000000
open Paths
def yX (n : Int) : Bool:=dA n && (!(decide (n = 2) || decide (n = 3)) && !decide (n = 1))
theorem yY (n : Int) : yX n = kA n:=by
 unfold yX kA dA qb ar
 rw [Bool.eq_iff_iff]
 simp only [Bool.and_eq_true, Bool.or_eq_true, Bool.not_eq_true', decide_eq_true_eq, decide_eq_false_iff_not, Bool.or_eq_false_iff]
 omega
theorem NN (es au : List dd) (h1 : es.length <= 16) (h2 : au.length <= 16) : Fn 172 [.fs [.fs (es.map dd.enc),.fs (au.map dd.enc)]] (.fs ((es ++ au).map dd.enc)):=by
 have:=RA [es,au] (by simp) (by simp;omega)
 simpa using this
structure It (d : jr) : Prop where
 p : hX d.owner d.group = 0
 e : d.es.length <= 16
 a : d.au.length <= 16
 f : d.has = true \/ d.es.length = 0
 k : ∀ k,k < (d.es ++ d.au).length -> oa d.es.length (d.es ++ d.au) k = 0
theorem IX {d : jr} (h : (fB d).2 = 0) : It d:=by
 by_cases h1 : hX d.owner d.group = 0
 ·by_cases h2 : 16 < d.es.length \/ 16 < d.au.length
  ·rw [KK h1 h2] at h;cases h
  ·by_cases h3 : 0 < d.es.length /\ d.has = false
   ·rw [KJ h1 h2 h3] at h;cases h
   ·rw [uO h1 h2 h3] at h
    refine ⟨h1,by omega,by omega,?_,fun k hk=>gr _ 0 rfl h k (Nat.zero_le _) hk⟩
    cases hh : d.has with
    | true=>exact .inl rfl
    | false=>exact .inr (Nat.eq_zero_of_not_pos (fun c=>h3 ⟨c,hh⟩))
 ·rw [KL h1] at h;exact absurd h h1
theorem FS {es au : List dd} {k : Nat} {a : dd} (ha : (es ++ au)[k]? = some a) (h : oa es.length (es ++ au) k = 0) : n9 a = 0 /\ decide (a.kind = 2) = decide (es.length <= k):=by
 unfold oa at h
 rw [ha] at h
 simp only at h
 split at h
 ·split at h
  ·exact ⟨by assumption,by assumption⟩
  ·cases h
 ·exact absurd h (by assumption)
attribute [local irreducible] kA yX dA n9 hX oa
theorem N5 (n lo hi : Int) : Fn 228 [i n,i lo,i hi] (.bool (ar n lo hi)):=by
 refine ac aZ Tryz.func228 rfl (by kernel_rfl) ?_
 conv=>whnf
 repeat' (first
 | ((with_reducible refine aB (fun h=>?_) (fun h=>?_))<;>(try simp only [List.length_map] at h)<;>conv=>whnf)
 | ((with_reducible refine ag ?_);first | (exact aD (congrArg D.bool (by simp [h,ar]));done) )
  | fail
  )
theorem IG (b : Bool) (e : Int) : Fn 170 [.bool b,i e] (i (if b then 0 else e)):=by
 refine ac aZ Tryz.func170 rfl (by kernel_rfl) ?_
 conv=>whnf
 repeat' (first
 | ((with_reducible refine ao (fun h=>?_) (fun h=>?_))<;>conv=>whnf)
 | ((with_reducible refine ag ?_);first | (exact aD (by simp_all);done))
  | fail
  )
theorem Lx (l : List Int) (hl : l.length < 2000000) : Fn 168 [.fs (l.map i)] (i (aI l)):=by
 refine ac aZ Tryz.func168 rfl (by kernel_rfl) ?_
 conv=>whnf
 repeat' (first
 | ((with_reducible refine aB (fun h=>?_) (fun h=>?_))<;>(try simp only [List.length_map] at h)<;>conv=>whnf)
 | ((with_reducible refine bu (fun h=>?_) (fun h=>?_))<;>(try simp only [List.length_map] at h)<;>conv=>whnf)
 | ((with_reducible refine aO ?_);first | (refine bh (fun (k : Nat)=>l.length - k) (fun (k : Nat)=>k <= l.length /\ aI l = aI (l.drop k)) (fun (k : Nat)=>[(5,.d (.fs (l.map i))),(6,.d (i l.length)),(7,.d (i k))]) (fun (k : Nat)=>[]) (0) (by exact ⟨Nat.zero_le _,rfl⟩) ?_ (fun k C hI hC=>?_);(exact ⟨[],rfl,rfl,⟨rfl,(by first | exact congrArg (D.int .i64) (by simp only [List.length_map]) ),(by first | exact congrArg (D.int .i64) (by omega) ),trivial⟩,trivial⟩);all_goals (conv=>whnf)))
 | ((with_reducible show C _ _);first | (refine hC (k + 1) _ _ ?_ (by omega) ?_;clear hC;rotate_left;(exact ⟨[],rfl,rfl,⟨rfl,rfl,(by first | exact congrArg (D.int .i64) (by omega) ),trivial⟩,trivial⟩);(exact ⟨by omega,by rw [hI.2,List.drop_eq_getElem_cons (by omega),ce,if_pos (by assumption)]⟩)))
 | (refine bf (by omega) ?_;conv=>whnf)
 | (refine ax (by omega) ?_;conv=>whnf)
 | ((with_reducible refine ag ?_);first | (refine aD (congrArg i ?_);rw [hI.2,List.drop_eq_nil_of_le (by omega)];rfl;done) | (refine aD (congrArg i ?_);rw [hI.2,List.drop_eq_getElem_cons (by omega),ce,if_neg (by assumption)];done))
  | fail
  )
attribute [local irreducible] ar
theorem N6 (n : Int) : Fn 229 [i n] (.bool (dA n)):=by
 refine ac aZ Tryz.func229 rfl (by kernel_rfl) ?_
 conv=>whnf
 repeat' (first
 | ((with_reducible refine ao (fun h=>?_) (fun h=>?_))<;>conv=>whnf)
 | ((with_reducible refine ak ?_);(first | refine aa (af (xs:=[_,_,_]) (N5 _ _ _) _) ?_);conv=>whnf)
 | ((with_reducible refine ag ?_);first | (exact aD (congrArg D.bool (by unfold dA qb;simp_all));done))
  | fail
  )
theorem Se (n : Int) : Fn 267 [i n] (.bool (decide (n = 2) || decide (n = 3))):=by
 refine ac aZ Tryz.func267 rfl (by kernel_rfl) ?_
 conv=>whnf
 repeat' (first
 | ((with_reducible refine aB (fun h=>?_) (fun h=>?_))<;>(try simp only [List.length_map] at h)<;>conv=>whnf)
 | ((with_reducible refine ag ?_);first | (exact aD (congrArg D.bool (by simp_all));done) )
  | fail
  )
theorem RT (n : Int) : Fn 226 [i n] (.bool (kA n)):=by
 refine ac aZ Tryz.func226 rfl (by kernel_rfl) ?_
 conv=>whnf
 repeat' (first
 | ((with_reducible refine dj (fun h=>?_) (fun h=>?_))<;>conv=>whnf)
 | ((with_reducible refine ao (fun h=>?_) (fun h=>?_))<;>conv=>whnf)
 | ((with_reducible refine ak ?_);(first | refine aa (af (xs:=[_]) (N6 _) _) ?_ | refine aa (af (xs:=[_]) (Se _) _) ?_);conv=>whnf)
 | ((with_reducible refine ag ?_);first | ((rw [<- yY];exact aD (congrArg D.bool (by unfold yX;rw [show dA n = true by assumption,show (decide (n = 2) || decide (n = 3)) = true by assumption];rfl)));done) | ((rw [<- yY];exact aD (congrArg D.bool (by unfold yX;simp_all)));done))
  | fail
  )
theorem Rx (o g : Int) : Fn 169 [i o,i g] (i (hX o g)):=by
 refine ac aZ Tryz.func169 rfl (by kernel_rfl) ?_
 conv=>whnf
 repeat' (first
 | ((with_reducible refine ao (fun h=>?_) (fun h=>?_))<;>conv=>whnf)
 | ((with_reducible refine ak ?_);(first | refine aa (af (xs:=[_]) (RT _) _) ?_ | refine aa (af (xs:=[_,_]) (IG _ _) _) ?_);conv=>whnf)
 | ((with_reducible refine ag ?_);first | (exact aD (congrArg i (by unfold hX;simp_all));done))
  | fail
  )
theorem RD (a : dd) : Fn 174 [a.enc] (i (n9 a)):=by
 refine ac aZ Tryz.func174 rfl (by kernel_rfl) ?_
 conv=>whnf
 repeat' (first
 | ((with_reducible refine ao (fun h=>?_) (fun h=>?_))<;>conv=>whnf)
 | ((with_reducible refine ak ?_);(first | refine aa (af (xs:=[_,_,_]) (N5 _ _ _) _) ?_ | refine aa (af (xs:=[_]) (N6 _) _) ?_ | refine aa (af (xs:=[_,_]) (IG _ _) _) ?_ | refine aa (ah (Lx [_,_] (by simp)) rfl rfl) ?_ );conv=>whnf)
 | ((with_reducible refine ag ?_);first | (exact aD (congrArg i (by unfold n9;simp_all [aI]));done))
  | fail
  )
theorem Ky {b : Bool} (h : b = true) (e : Int) : Fn 170 [.bool b,i e] (i 0):=by subst h;exact IG true e
theorem Kz {p : Prop} [Decidable p] (h : p) (e : Int) : Fn 170 [.bool (decide p),i e] (i 0):=by rw [decide_eq_true h];exact IG true e
theorem NQ {a : dd} (h : n9 a = 0) : Fn 174 [a.enc] (i 0):=by have:=RD a;rwa [h] at this
theorem NM {o g : Int} (h : hX o g = 0) : Fn 169 [i o,i g] (i 0):=by have:=Rx o g;rwa [h] at this
theorem Ly : Fn 168 [.fs [i 0,i 0]] (i 0):=Lx [0,0] (by simp)
theorem Lz : Fn 168 [.fs [i 0,i 0,i 0]] (i 0):=Lx [0,0,0] (by simp)
theorem It.z {d : jr} (K : It d) (h : d.has = false) : ((d.es.map dd.enc).length : Int) = 0:=by
 rw [List.length_map]
 rcases K.f with c | c
 ·rw [h] at c;cases c
 ·omega
theorem It.gm {d : jr} (K : It d) : jc ((d.es.map dd.enc).length : Int) ((d.au.map dd.enc).length : Int) <= 16:=by
 have h1:=K.e
 have h2:=K.a
 unfold jc
 simp only [List.length_map]
 split<;>omega
theorem cb {f : Nat} {xs : List D} {r : D} {args : List AV} {H : ae} (hf : bn Tryz.prog f (xs.map .d) [] (.d r) []) (hv : vl (bl 8 H) args = some xs) (hre : args.flatMap (bC 8 H) = []) : bn Tryz.prog f args H (.d r) H:=by
 have:=aA hf hv
 rw [hre] at this;exact this
theorem Lg {p q : Bool} (h : p = q) : (p == q) = true:=by subst h;exact beq_self_eq_true p
theorem RB (d : jr) (k : Nat) (a : dd) (ha : (d.es ++ d.au)[k]? = some a) (h : oa d.es.length (d.es ++ d.au) k = 0) : Fn 173 [i k,a.enc,.fp d.enc 0] (i 0):=by
 refine ac aZ Tryz.func173 rfl (by kernel_rfl) ?_
 conv=>whnf
 repeat' (first
 | ((with_reducible refine ak ?_);(first | refine aa (af (xs:=[_]) (NQ (FS ha h).1) _) ?_ | refine aa (af (xs:=[_,_]) (Ky (Lg ((FS ha h).2.trans (decide_eq_decide.2 (by rw [List.length_map];omega)))) _) _) ?_ | refine aa (ah Ly rfl rfl) ?_);conv=>whnf)
 | (refine ⟨[],[(3,1),(7,1)],(by decide +kernel),?_⟩;conv=>whnf)
 | ((with_reducible refine ag ?_);first | (exact aD rfl;done))
 | (refine ⟨rfl,?_⟩;conv=>whnf)
  | fail
  )
theorem Rz (d : jr) (K : It d) : Fn 171 [.fs ((d.es ++ d.au).map dd.enc),.fn 173 [] [.fp d.enc 0]] (.tup [i 0,i 0]):=by
 have hl : (d.es ++ d.au).length <= 32:=(by have h1:=K.e;have h2:=K.a;rw [List.length_append];omega)
 refine ac aZ Tryz.func171 rfl (by kernel_rfl) ?_
 conv=>whnf
 repeat' (first
 | ((with_reducible refine aB (fun h=>?_) (fun h=>?_))<;>(try simp only [List.length_map] at h)<;>conv=>whnf)
 | ((with_reducible refine ak ?_);(first | refine aa (af (xs:=[_,_,_]) (RB d k ((d.es ++ d.au)[k]'(by omega)) (List.getElem?_eq_getElem _) (K.k k (by omega))) _) ?_);conv=>whnf)
 | ((with_reducible refine aO ?_);first | (refine bh (fun (k : Nat)=>(d.es ++ d.au).length - k) (fun (k : Nat)=>k <= (d.es ++ d.au).length) (fun (k : Nat)=>[(1,.d (.fn 173 [] [.fp d.enc 0])),(9,.d (.fs ((d.es ++ d.au).map dd.enc))),(10,.d (i (d.es ++ d.au).length)),(11,.d (i k))]) (fun (k : Nat)=>[]) (0) (by exact Nat.zero_le _) ?_ (fun k C hI hC=>?_);(exact ⟨[],rfl,rfl,⟨rfl,rfl,(by first | exact congrArg (D.int .i64) (by simp only [List.length_map]) ),(by first | exact congrArg (D.int .i64) (by omega) ),trivial⟩,trivial⟩);all_goals (conv=>whnf)))
 | ((with_reducible show C _ _);first | (refine hC (k + 1) _ _ ?_ (by omega) ?_;clear hC;rotate_left;(exact ⟨[],rfl,rfl,⟨rfl,rfl,rfl,(by first | exact congrArg (D.int .i64) (by omega) ),trivial⟩,trivial⟩);(exact (by omega))))
 | (refine bf (by omega) ?_;conv=>whnf)
 | (refine ax (by omega) ?_;conv=>whnf)
 | ((with_reducible refine ag ?_);first | (exact aP (aY (aK rfl (aK rfl bM))) rfl;done))
  | fail
  )
theorem Lt (d : jr) (K : It d) : Fn 102 [d.enc] (.tup [i 0,i 0]):=by
 refine ac aZ Tryz.func102 rfl (by kernel_rfl) ?_
 conv=>whnf
 repeat' (first
 | ((with_reducible refine ao (fun h=>?_) (fun h=>?_))<;>conv=>whnf)
 | ((with_reducible refine ak ?_);(first | refine aa (af (xs:=[_,_]) (NM K.p) _) ?_ | refine aa (af (xs:=[_,_]) (Kz K.gm _) _) ?_ | refine aa (af (xs:=[_,_]) (Kz (K.z (by assumption)) _) _) ?_ | refine aa (af (xs:=[_,_]) (Ky rfl _) _) ?_ | refine aa (ah Lz rfl rfl) ?_ | refine aa (aA (NN d.es d.au K.e K.a) (aK rfl bM)) ?_ | refine aa (ah (Rz d K) rfl (aK rfl (aK rfl bM))) ?_);conv=>whnf)
 | (refine ⟨[],[(6,4),(9,4),(15,4),(15,13)],(by decide +kernel),?_⟩;conv=>whnf)
 | ((with_reducible refine ag ?_);first | (exact aP (aY (aK rfl (aK rfl bM))) rfl;done) )
 | (refine ⟨rfl,?_⟩;conv=>whnf)
  | fail
  )
end
section
set_option maxRecDepth 10000
attribute [local irreducible] bn
set_option maxHeartbeats 1000000
open Paths
attribute [local irreducible] am cut normal bp aF text aj glue bi ar
structure MZ (t : List cu) (n : Nat) (x : cu) : Prop where
 kind : ¬ x.kind = 3
 ord : ∀ k,k < x.ents.length -> iJ (x.ents.map bm.name) k = 0
 nm : x.kind = 1 -> aX (aN t) n <= 4
 fil : x.kind = 1 \/ (x.data = [] /\ x.sts.length = 0)
 sl : x.sts.length <= 4
 sn : ∀ k (h : k < x.sts.length),am x.sts[k].name = 0
 so : ∀ k,k < x.sts.length -> iJ (x.sts.map kh.name) k = 0
 bg : x.data.length <= 4096
 bs : ∀ y ∈ x.sts,y.data.length <= 4096
 de : (fB x.d).2 = 0
 mt : b6 x.made = true
 ct : b6 x.chg = true
theorem Ku {s : Bs} (h : big s = false) : s.length <= 4096:=by
 unfold big at h
 have:=of_decide_eq_false h
 omega
theorem Ml {t : List cu} {n : Nat} {x : cu} (h : qh t n x = 0) : MZ t n x:=by
 unfold qh at h
 split at h
 ·exact absurd h (by decide)
 rename_i h1
 split at h
 ·exact absurd h (by decide)
 rename_i h2
 unfold EL at h
 split at h
 ·exact absurd h (by decide)
 rename_i h3
 unfold EM at h
 split at h
 ·exact absurd h (by decide)
 rename_i h4
 unfold EN at h
 split at h
 ·exact absurd h (by decide)
 rename_i h5
 unfold BH at h
 split at h
 ·rename_i c;exact absurd h c
 rename_i h6
 unfold te at h
 split at h
 ·exact absurd h (by decide)
 rename_i h7
 split at h
 ·rename_i c;exact absurd h c
 rename_i h8
 split at h
 ·rename_i h9
  have h7' : uk x = false:=by simpa using h7
  unfold uk at h7'
  rw [Bool.or_eq_false_iff,List.any_eq_false] at h7'
  have hs : ∀ k (hk : k < x.sts.length),uC x.sts k = 0:=fun k hk=>gr x.sts.length 0 rfl (Classical.not_not.1 h6) k (Nat.zero_le _) hk
  have hn : ∀ k (hk : k < x.sts.length),am x.sts[k].name = 0:=fun k hk=>by
   have:=hs k hk
   rw [mL hk] at this
   split at this
   ·assumption
   ·assumption
  refine ⟨h1,fun k hk=>?_,fun c=>?_,?_,by omega,hn,fun k hk=>?_,Ku h7'.1,fun y hy=>Ku (by simpa using h7'.2 y hy),Classical.not_not.1 h8,h9.1,h9.2⟩
  ·rcases Nat.eq_zero_or_pos k with rfl | h0
   ·exact Ht
   ·exact gr _ 1 rfl (Classical.not_not.1 h2) k h0 (by rw [List.length_map];exact hk)
  ·have:=fun c2=>h3 ⟨c,c2⟩
   omega
  ·by_cases c : x.kind = 1
   ·exact .inl c
   ·refine .inr ⟨?_,?_⟩
    ·by_cases c2 : x.data = []
     ·exact c2
     ·exact absurd ⟨c,.inl c2⟩ h4
    ·by_cases c2 : 0 < x.sts.length
     ·exact absurd ⟨c,.inr c2⟩ h4
     ·omega
  ·have:=hs k hk
   rw [mL hk,if_pos (hn k hk)] at this
   exact this
 ·exact absurd h (by decide)
structure lb (s : dn) : Prop where
 n20 : s.nodes.length <= 20
 ck : (aW (aN s.nodes)).2 = 0
 nd : ∀ k (h : k < s.nodes.length),MZ s.nodes k s.nodes[k]
 all : eb s.nodes <= 8192
 l10 : s.lims.length <= 10
 lm : ∀ k,k < s.lims.length -> lf s.lims k = 0
 tk : b6 s.tick = true
theorem K5 {s : dn} (h : (ju s).2 = 0) : lb s:=by
 unfold ju at h
 split at h
 ·exact absurd h (by decide)
 rename_i h1
 split at h
 rotate_left
 ·rename_i c;exact absurd h c
 rename_i h2
 unfold yk at h
 split at h
 rotate_left
 ·rename_i c;exact absurd h c
 rename_i h3
 unfold Ea at h
 split at h
 ·exact absurd h (by decide)
 rename_i h4
 unfold uo at h
 split at h
 rotate_left
 ·rename_i c;exact absurd h c
 rename_i h5
 split at h
 rotate_left
 ·exact absurd h (by decide)
 rename_i h6
 refine ⟨by omega,h2,fun k hk=>?_,by omega,by omega,fun k hk=>gr _ 0 rfl h5 k (Nat.zero_le _) hk,h6⟩
 have:=gr _ 0 rfl h3 k (Nat.zero_le _) hk
 rw [rx hk] at this
 exact Ml this
theorem lb.nn {s : dn} (V : lb s) {x : cu} (hx : x ∈ s.nodes) : ∀ e ∈ x.ents,am e.name = 0:=by
 obtain ⟨k,hk,rfl⟩:=List.getElem_of_mem hx
 exact fun e he=>Gi V.ck (ke hk) e he
theorem ua {n : Int} (h : b6 n = true) : ar n 0 1000000 = true:=h
theorem rY : Fn 50 [.fs [i 0,i 0]] (i 0):=QD [0,0] (by simp)
theorem KA : Fn 50 [.fs [i 0,i 0,i 0,i 0]] (i 0):=QD [0,0,0,0] (by simp)
theorem KB : Fn 50 [.fs [i 0,i 0,i 0,i 0,i 0]] (i 0):=QD [0,0,0,0,0] (by simp)
theorem F2 : Fn 50 [.fs [i 0,i 0,i 0]] (i 0):=QD [0,0,0] (by simp)
theorem Nr (s : Bs) (hs : s.length < 2000000) (h0 : am s = 0) : Fn 132 [.str s] (i 0):=by have:=D6 s hs;rwa [h0] at this
def lO : AO:=⟨[.d (.bool false)],1,0⟩
attribute [local irreducible] iJ Op.bytesLess aN aX b6 fB
theorem Q8 (t : List cu) (n : Nat) (x : cu) (N : MZ t n x) (hsb : ∀ y ∈ x.sts,y.name.length < 2000000) (k : Nat) (hk : k < x.sts.length) : bn Tryz.prog 149 [.d (i k),.d x.sts[k].enc,.ptr 0 0 0,.d (.fp x.enc 0)] [lO] (.d (i 0)) [lO]:=by
 have hbk:=N.bs _ (List.getElem_mem hk);have hsl:=N.sl
 refine cd aZ Tryz.func149 rfl (by kernel_rfl) [0] (by rfl) [] ?_
 conv=>whnf
 repeat' (first
 | ((with_reducible refine aB (fun h=>?_) (fun h=>?_))<;>(try simp only [List.length_map] at h)<;>conv=>whnf)
 | ((with_reducible refine ak ?_);(first | refine aa (af (xs:=[_]) (Nr _ (hsb _ (List.getElem_mem (by omega))) (N.sn k hk)) _) ?_ | refine aa (af (xs:=[_]) (Nv _ (hsb _ (List.getElem_mem (by omega))) (N.sn _ (by omega))) _) ?_ | refine aa (af (xs:=[_,_]) (rZ _) _) ?_ | refine aa (af (xs:=[_,_]) (Oi (Hu (g:=kh.name) (by omega) hk (N.so k hk)) _) _) ?_ | refine aa (ah rY rfl rfl) ?_);conv=>whnf)
 | (refine ⟨[],[(16,14)],(by decide +kernel),?_⟩;conv=>whnf)
 | (refine ax (by have h9:=Ju (k:=k) (by assumption);omega) ?_;conv=>whnf)
 | (refine Bn (f:=kh.enc) (l:=x.sts) (by assumption) hk ?_;conv=>whnf)
 | ((with_reducible refine ag ?_);first | ((rw [show decide ((4096 : Int) < (x.sts[k].data.length : Int)) = false from decide_eq_false (by omega)]);refine bR (.inl ⟨[.old 0],rfl,rfl,⟨rfl,trivial⟩,⟨⟨rfl,rfl,.inl ⟨[_],rfl,rfl⟩⟩,trivial⟩⟩);done))
 | (refine ⟨rfl,?_⟩;conv=>whnf)
  | fail
  )
theorem tY {H : ae} {a : Nat} {o : AO} (h : H[a]? = some o) : H.set a o = H:=by
 obtain ⟨hl,he⟩:=List.getElem?_eq_some_iff.1 h
 rw [<- he];exact List.set_getElem_self hl
theorem KU : AV.flats lO.elems = true /\ lO.st ≠ 1:=⟨rfl,Nat.zero_ne_one⟩
theorem KW (τ : Nat -> Nat) : gF τ lO = lO:=rfl
theorem Lw (t : List cu) (n : Nat) (x : cu) (N : MZ t n x) (hsb : ∀ y ∈ x.sts,y.name.length < 2000000) (k : Nat) (hk : k < x.sts.length) {H : ae} (h1 : H[0]? = some lO) : bn Tryz.prog 149 [.d (i k),.d x.sts[k].enc,.ptr 0 0 0,.d (.fp x.enc 0)] H (.d (i 0)) H:=by
 refine gg (σ:=[0]) (F:=[]) (fl:=true) (Q8 t n x N hsb k hk) (by decide) (fun _ h=>by cases h) ⟨⟨rfl,fun _ h=>by cases h⟩,⟨rfl,fun _ h=>by cases h⟩,⟨rfl,rfl,rfl⟩,⟨rfl,fun _ h=>by cases h⟩,trivial⟩ ⟨(aE _ _).2 ⟨_,h1,rfl,rfl,.inl ⟨[_],rfl,rfl⟩⟩,trivial⟩ (fun _=>⟨rfl,fun o ho=>?_⟩) rfl ?_
 ·simp only [List.mem_cons,List.not_mem_nil,or_false] at ho
  subst ho;exact KU
 ·simp only [kI,List.map_cons,List.map_nil,KW,cg,List.length_cons,List.length_nil,List.drop_succ_cons,List.drop_zero,List.append_nil,if_true]
  exact tY h1
theorem Q7 (t : List cu) (n : Nat) (x : cu) (N : MZ t n x) (hsb : ∀ y ∈ x.sts,y.name.length < 2000000) : bn Tryz.prog 148 [.d (.fs (x.sts.map kh.enc)),.fn 149 [] [.ptr 0 0 0,.d (.fp x.enc 0)]] [lO] (.d (.tup [i 0,i 0])) [lO]:=by
 have hsl:=N.sl
 refine cd aZ Tryz.func148 rfl (by kernel_rfl) [0] (by rfl) [] ?_
 conv=>whnf
 repeat' (first
 | ((with_reducible refine aB (fun h=>?_) (fun h=>?_))<;>(try simp only [List.length_map] at h)<;>conv=>whnf)
 | ((with_reducible refine aO ?_);first | (refine bh (fun (k : Nat)=>x.sts.length - k) (fun (k : Nat)=>k <= x.sts.length) (fun (k : Nat)=>[(1,.fn 149 [] [.ptr 0 0 0,.d (.fp x.enc 0)]),(9,.d (.fs (x.sts.map kh.enc))),(10,.d (i x.sts.length)),(11,.d (i k))]) (fun (k : Nat)=>[lO]) (0) (by exact Nat.zero_le _) ?_ (fun k C hI hC=>?_);(exact ⟨[.old 0],rfl,rfl,⟨⟨rfl,trivial,⟨⟨rfl,rfl,rfl⟩,rfl,trivial⟩⟩,rfl,(by first | exact congrArg (D.int .i64) (by simp only [List.length_map]) ),(by first | exact congrArg (D.int .i64) (by omega) ),trivial⟩,⟨⟨rfl,rfl,.inl ⟨[_],rfl,rfl⟩⟩,trivial⟩⟩);all_goals (conv=>whnf)))
 | ((with_reducible show C _ _);first | (refine hC (k + 1) _ _ ?_ (by omega) ?_;clear hC;rotate_left;(exact ⟨[.old 0],rfl,rfl,⟨⟨rfl,trivial,⟨⟨rfl,rfl,rfl⟩,rfl,trivial⟩⟩,rfl,rfl,(by first | exact congrArg (D.int .i64) (by omega) ),trivial⟩,⟨⟨rfl,rfl,.inl ⟨[_],rfl,rfl⟩⟩,trivial⟩⟩);(exact (by omega))))
 | (refine bf (by omega) ?_;conv=>whnf)
 | (refine ax (by omega) ?_;conv=>whnf)
 | (have hk : k < x.sts.length:=(by omega);refine ak ?_;refine aa (Lw t n x N hsb k hk rfl) ?_;conv=>whnf)
 | ((with_reducible refine ag ?_);first | (refine bR (.inl ⟨[.old 0],rfl,rfl,⟨⟨rfl,rfl,rfl,trivial⟩,trivial⟩,⟨⟨rfl,rfl,.inl ⟨[_],rfl,rfl⟩⟩,trivial⟩⟩);done))
  | fail
  )
theorem F0 (t : List cu) (n : Nat) (x : cu) (N : MZ t n x) (hsb : ∀ y ∈ x.sts,y.name.length < 2000000) {H : ae} {a b : Nat} (h1 : H[a]? = some lO) (h2 : bl 8 H (.ptr b 0 0) = some (.fp x.enc 0)) (h3 : bC 8 H (.ptr b 0 0) = [b]) (hab : a ≠ b) : bn Tryz.prog 148 [.d (.fs (x.sts.map kh.enc)),.fn 149 [] [.ptr a 0 0,.ptr b 0 0]] H (.d (.tup [i 0,i 0])) H:=by
 refine gg (σ:=[a]) (F:=[b]) (fl:=true) (Q7 t n x N hsb) (by simp) (fun z hz=>by simp only [List.mem_singleton] at hz ⊢;subst hz;exact fun c=>hab c.symm) ⟨⟨rfl,fun _ h=>by cases h⟩,⟨rfl,trivial,⟨rfl,rfl,rfl⟩,⟨h2,fun z hz=>by rw [h3] at hz;exact hz⟩,trivial⟩,trivial⟩ ⟨(aE _ _).2 ⟨_,h1,rfl,rfl,.inl ⟨[_],rfl,rfl⟩⟩,trivial⟩ (fun _=>⟨rfl,fun o ho=>?_⟩) rfl ?_
 ·simp only [List.mem_cons,List.not_mem_nil,or_false] at ho
  subst ho;exact KU
 ·simp only [kI,List.map_cons,List.map_nil,KW,cg,List.length_cons,List.length_nil,List.drop_succ_cons,List.drop_zero,List.append_nil,if_true]
  exact tY h1
theorem Kv {n : Nat} (h : n <= 4096) : some (AO.mk [.d (.bool (decide ((4096 : Int) < n)))] 1 0) = some lO:=by rw [decide_eq_false (by omega)];rfl
theorem IK {p : Prop} [Decidable p] (h : ¬ p) (e : Int) : Fn 52 [.bool (!decide p),i e] (i 0):=by
 rw [decide_eq_false h];exact QE true e
theorem wq {n lo hi : Int} (h : ar n lo hi = true) : Fn 84 [i n,i lo,i hi] (.bool true):=by have:=Uc n lo hi;rwa [h] at this
theorem S1 (s : dn) (B : Sb s) (V : lb s) (n : Nat) (hn : n < s.nodes.length) (hd : s.nodes[n].kind = 1) : Fn 81 [.fp s.enc 0,i n] (i 0):=by
 have N:=V.nd n hn
 have hx : s.nodes[n] ∈ s.nodes:=List.getElem_mem hn
 have hmt:=ua N.mt
 have hct:=ua N.ct
 have hnk:=N.kind
 have hbg:=N.bg
 have hsl : ((s.nodes[n].sts.map kh.enc).length : Int) <= 4:=(by have:=N.sl;rw [List.length_map];omega)
 have hnm : (aX (aN s.nodes) n : Int) <= 4:=(by have:=N.nm hd;omega)
 refine ac aZ Tryz.func81 rfl (by kernel_rfl) ?_
 conv=>whnf
 repeat' (first
 | ((with_reducible refine bP (by assumption) ?_);conv=>whnf)
 | ((with_reducible refine cY (by first | assumption ) ?_);conv=>whnf)
 | ((with_reducible refine ak ?_);(first | refine aa (ah (Nu s.nodes[n] (B.nl _ hx) (V.nn hx) N.ord (B.el _ hx)) rfl (aK rfl (aK rfl bM))) ?_ | refine aa (af (xs:=[_,_]) (rZ _) _) ?_ | refine aa (af (xs:=[_,_]) (D8 (by assumption) _) _) ?_ | refine aa (af (xs:=[_,_]) (IK hnk _) _) ?_ | refine aa (af (xs:=[_,_]) (IK (by omega) _) _) ?_ | refine aa (af (xs:=[_,_]) (Q0 s B n V.n20) _) ?_ | refine aa (ah KB rfl rfl) ?_ | refine aa (ah KA rfl rfl) ?_ | refine aa (F0 s.nodes n s.nodes[n] N (B.sn _ hx) (Kv hbg) rfl rfl (by decide)) ?_ | refine aa (ah (Lt s.nodes[n].d (IX N.de)) rfl rfl) ?_ | refine aa (af (xs:=[_,_,_]) (wq hmt) _) ?_ | refine aa (af (xs:=[_,_,_]) (wq hct) _) ?_);conv=>whnf)
 | (refine ⟨[],[(6,3)],(by decide +kernel),?_⟩;conv=>whnf)
 | (refine ⟨[],[(28,3),(28,10),(28,13),(28,26)],(by decide +kernel),?_⟩;conv=>whnf)
 | (refine bf (by omega) ?_;conv=>whnf)
 | ((with_reducible refine ag ?_);first | (exact aD rfl;done))
 | (refine ⟨rfl,?_⟩;conv=>whnf)
  | fail
  )
theorem S2 (s : dn) (B : Sb s) (V : lb s) (n : Nat) (hn : n < s.nodes.length) (hd : ¬ s.nodes[n].kind = 1) : Fn 81 [.fp s.enc 0,i n] (i 0):=by
 have N:=V.nd n hn
 have hx : s.nodes[n] ∈ s.nodes:=List.getElem_mem hn
 have hmt:=ua N.mt
 have hct:=ua N.ct
 have hnk:=N.kind
 have hbg:=N.bg
 have hsl : ((s.nodes[n].sts.map kh.enc).length : Int) <= 4:=(by have:=N.sl;rw [List.length_map];omega)
 have hf:=N.fil.resolve_left hd
 have hf1 : s.nodes[n].data = (ByteArray.mk #[]).data.toList:=hf.1
 have hf2 : ((s.nodes[n].sts.map kh.enc).length : Int) = 0:=(by have:=hf.2;rw [List.length_map];omega)
 refine ac aZ Tryz.func81 rfl (by kernel_rfl) ?_
 conv=>whnf
 repeat' (first
 | ((with_reducible refine aJ (by assumption) ?_);conv=>whnf)
 | ((with_reducible refine co (by assumption) ?_);conv=>whnf)
 | ((with_reducible refine ao (fun h=>?_) (fun h=>?_))<;>conv=>whnf)
 | ((with_reducible refine ak ?_);(first | refine aa (ah (Nu s.nodes[n] (B.nl _ hx) (V.nn hx) N.ord (B.el _ hx)) rfl (aK rfl (aK rfl bM))) ?_ | refine aa (af (xs:=[_,_]) (rZ _) _) ?_ | refine aa (af (xs:=[_,_]) (D8 (by assumption) _) _) ?_ | refine aa (af (xs:=[_,_]) (IK hnk _) _) ?_ | refine aa (af (xs:=[_,_]) (IK (by omega) _) _) ?_ | refine aa (ah KB rfl rfl) ?_ | refine aa (ah KA rfl rfl) ?_ | refine aa (F0 s.nodes n s.nodes[n] N (B.sn _ hx) (Kv hbg) rfl rfl (by decide)) ?_ | refine aa (ah (Lt s.nodes[n].d (IX N.de)) rfl rfl) ?_ | refine aa (af (xs:=[_,_,_]) (wq hmt) _) ?_ | refine aa (af (xs:=[_,_,_]) (wq hct) _) ?_);conv=>whnf)
 | (refine ⟨[],[(6,3)],(by decide +kernel),?_⟩;conv=>whnf)
 | (refine ⟨[],[(28,3),(28,10),(28,13),(28,26)],(by decide +kernel),?_⟩;conv=>whnf)
 | (refine bf (by omega) ?_;conv=>whnf)
 | (focus (exact absurd h (by rw [hf1];decide)))
 | ((with_reducible refine ag ?_);first | (exact aD rfl;done))
 | (refine ⟨rfl,?_⟩;conv=>whnf)
  | fail
  )
theorem U4 (s : dn) (B : Sb s) (V : lb s) (n : Nat) (hn : n < s.nodes.length) : Fn 81 [.fp s.enc 0,i n] (i 0):=by
 by_cases h : s.nodes[n].kind = 1
 ·exact S1 s B V n hn h
 ·exact S2 s B V n hn h
end
section
set_option maxRecDepth 10000
attribute [local irreducible] bn
set_option maxHeartbeats 1000000
open Paths
def iQ (p : cu -> Bool) : List cu -> Nat
 | []=>0
 | x :: l=>(if p x = true then dt x else 0) + iQ p l
theorem Fz {p : cu -> Bool} {l : List cu} {k : Nat} (h : k < l.length) : iQ p (l.take (k + 1)) = iQ p (l.take k) + (if p l[k] = true then dt l[k] else 0):=by
 have key : ∀ (a : List cu) (b : cu),iQ p (a ++ [b]) = iQ p a + (if p b = true then dt b else 0):=by
  intro a b
  induction a with
  | nil=>simp [iQ]
  | cons x a ih=>simp only [List.cons_append,iQ,ih];omega
 rw [List.take_succ_eq_append_getElem h,key]
theorem MM {p : cu -> Bool} {l : List cu} {k : Nat} (h : k < l.length) (hp : p l[k] = true) : iQ p (l.take (k + 1)) = iQ p (l.take k) + dt l[k]:=by rw [Fz h,if_pos hp]
theorem DD {p : cu -> Bool} : ∀ (l : List cu),iQ p l <= eb l
 | []=>Nat.le_refl _
 | x :: l=>by
  have:=DD (p:=p) l
  simp only [iQ,eb]
  split<;>omega
theorem Ap : ∀ (l : List cu),iQ (fun _=>true) l = eb l
 | []=>rfl
 | x :: l=>by simp only [iQ,eb,Ap l,if_true]
theorem Bv {l : List mb} {k : Nat} (h : k < l.length) (h2 : lf l k = 0) : dA l[k].who = true /\ ar l[k].lim 0 8192 = true /\ (0 < k -> (l[k - 1]'(by omega)).who < l[k].who):=by
 by_cases c : dA l[k].who = true /\ ar l[k].lim 0 8192 = true
 ·refine ⟨c.1,c.2,fun h0=>?_⟩
  rw [Bu h c.1 c.2 h0] at h2
  split at h2
  ·exact absurd h2 (by decide)
  ·omega
 ·rw [Bt h c] at h2;exact absurd h2 (by decide)
theorem Nj {n : Int} (h : dA n = true) : Fn 104 [i n] (.bool true):=by have:=QS n;rwa [h] at this
attribute [local irreducible] iJ Op.bytesLess aN aX b6 fB dt eb iQ dA
theorem U3 (s : dn) (B : Sb s) (V : lb s) (k : Nat) (hk : k < s.nodes.length) : Fn 80 [i k,s.nodes[k].enc,.fp (.fp s.enc 0) 0] (i 0):=by
 refine ac aZ Tryz.func80 rfl (by kernel_rfl) ?_
 conv=>whnf
 repeat' (first
 | ((with_reducible refine ak ?_);(first | refine aa (af (xs:=[_,_]) (U4 s B V k hk) _) ?_);conv=>whnf)
 | ((with_reducible refine ag ?_);first | (exact aD rfl;done))
  | fail
  )
theorem U2 (s : dn) (B : Sb s) (V : lb s) : Fn 79 [.fs (s.nodes.map cu.enc),.fn 80 [] [.fp (.fp s.enc 0) 0]] (.tup [i 0,i 0]):=by
 have hn20:=V.n20
 refine ac aZ Tryz.func79 rfl (by kernel_rfl) ?_
 conv=>whnf
 repeat' (first
 | ((with_reducible refine aB (fun h=>?_) (fun h=>?_))<;>(try simp only [List.length_map] at h)<;>conv=>whnf)
 | ((with_reducible refine ak ?_);(first | refine aa (af (xs:=[_,_,_]) (U3 s B V k (by omega)) _) ?_);conv=>whnf)
 | ((with_reducible refine aO ?_);first | (refine bh (fun (k : Nat)=>s.nodes.length - k) (fun (k : Nat)=>k <= s.nodes.length) (fun (k : Nat)=>[(1,.d (.fn 80 [] [.fp (.fp s.enc 0) 0])),(9,.d (.fs (s.nodes.map cu.enc))),(10,.d (i s.nodes.length)),(11,.d (i k))]) (fun (k : Nat)=>[]) (0) (by exact Nat.zero_le _) ?_ (fun k C hI hC=>?_);(exact ⟨[],rfl,rfl,⟨rfl,rfl,(by first | exact congrArg (D.int .i64) (by simp only [List.length_map]) ),(by first | exact congrArg (D.int .i64) (by omega) ),trivial⟩,trivial⟩);all_goals (conv=>whnf)))
 | ((with_reducible show C _ _);first | (refine hC (k + 1) _ _ ?_ (by omega) ?_;clear hC;rotate_left;(exact ⟨[],rfl,rfl,⟨rfl,rfl,rfl,(by first | exact congrArg (D.int .i64) (by omega) ),trivial⟩,trivial⟩);(exact (by omega))))
 | (refine bf (by omega) ?_;conv=>whnf)
 | (refine ax (by omega) ?_;conv=>whnf)
 | ((with_reducible refine ag ?_);first | (exact aP (aY (aK rfl (aK rfl bM))) rfl;done))
  | fail
  )
theorem Rk (x : cu) : Fn 151 [x.enc] (.bool true):=by
 refine ac aZ Tryz.func151 rfl (by kernel_rfl) ?_
 conv=>whnf
 repeat' (first
 | ((with_reducible refine ag ?_);first | (exact aD rfl;done))
  | fail
  )
theorem Nw (s : dn) (B : Sb s) (hl : s.nodes.length <= 20) : Fn 150 [.fp s.enc 0,.fn 151 [] []] (i (iQ (fun _=>true) s.nodes : Nat)):=by
 refine ac aZ Tryz.func150 rfl (by kernel_rfl) ?_
 conv=>whnf
 repeat' (first
 | ((with_reducible refine aB (fun h=>?_) (fun h=>?_))<;>(try simp only [List.length_map] at h)<;>conv=>whnf)
 | ((with_reducible refine ak ?_);(first | refine aa (af (xs:=[_]) (RH _ (B.sd _ (List.getElem_mem (by omega))) (B.sl _ (List.getElem_mem (by omega)))) _) ?_ | refine aa (af (xs:=[_]) (Rk _) _) ?_);conv=>whnf)
 | ((with_reducible refine aO ?_);first | (refine bh (fun (k : Nat)=>s.nodes.length - k) (fun (k : Nat)=>k <= s.nodes.length) (fun (k : Nat)=>[(1,.d (.fn 151 [] [])),(5,.d (i (iQ (fun _=>true) (s.nodes.take k) : Nat))),(12,.d (.fs (s.nodes.map cu.enc))),(13,.d (i s.nodes.length)),(14,.d (i k))]) (fun (k : Nat)=>[]) (0) (by exact Nat.zero_le _) ?_ (fun k C hI hC=>?_);(exact ⟨[],rfl,rfl,⟨rfl,(congrArg (D.int .i64) (by rw [List.take_zero];unfold iQ;rfl)),rfl,(by first | exact congrArg (D.int .i64) (by simp only [List.length_map]) ),(by first | exact congrArg (D.int .i64) (by omega) ),trivial⟩,trivial⟩);all_goals (conv=>whnf)))
 | ((with_reducible show C _ _);first | (refine hC (k + 1) _ _ ?_ (by omega) ?_;clear hC;rotate_left;(exact ⟨[],rfl,rfl,⟨rfl,(by first | exact (congrArg (D.int .i64) (by have:=MM (p:=(fun _=>true)) (l:=s.nodes) (k:=k) (by omega) rfl;omega))),rfl,rfl,(by first | exact congrArg (D.int .i64) (by omega) ),trivial⟩,trivial⟩);(exact (by omega))))
 | (refine bf (by omega) ?_;conv=>whnf)
 | (refine ax (by omega) ?_;conv=>whnf)
 | (refine ax (by have h1:=B.al k;have h2:=DD (p:=(fun _=>true)) (s.nodes.take k);have h3:=B.al (k + 1);have h4:=pD (l:=s.nodes) (k:=k) (by omega);omega) ?_;conv=>whnf)
 | ((with_reducible refine ag ?_);first | (refine aD (congrArg i ?_);rw [List.take_of_length_le (by omega)];done))
  | fail
  )
theorem U5 (s : dn) (B : Sb s) (V : lb s) : Fn 82 [.fp s.enc 0] (i (eb s.nodes : Nat)):=by
 refine ac aZ Tryz.func82 rfl (by kernel_rfl) ?_
 conv=>whnf
 repeat' (first
 | ((with_reducible refine ak ?_);(first | refine aa (af (xs:=[_,_]) (Nw s B V.n20) _) ?_);conv=>whnf)
 | ((with_reducible refine ag ?_);first | (refine aD (congrArg i ?_);rw [Ap];done))
  | fail
  )
theorem Rm (l : List mb) (k : Nat) (hk : k < l.length) (hl : l.length <= 10) (h1 : dA l[k].who = true) (h2 : ar l[k].lim 0 8192 = true) (h3 : 0 < k -> (l[k - 1]'(by omega)).who < l[k].who) : Fn 153 [i k,l[k].enc,.fp (.fs (l.map mb.enc)) 0] (i 0):=by
 refine ac aZ Tryz.func153 rfl (by kernel_rfl) ?_
 conv=>whnf
 repeat' (first
 | ((with_reducible refine aB (fun h=>?_) (fun h=>?_))<;>(try simp only [List.length_map] at h)<;>conv=>whnf)
 | ((with_reducible refine ak ?_);(first | refine aa (af (xs:=[_]) (Nj h1) _) ?_ | refine aa (af (xs:=[_,_,_]) (wq h2) _) ?_ | refine aa (af (xs:=[_,_]) (rZ _) _) ?_ | refine aa (af (xs:=[_,_]) (D8 (h3 (by omega)) _) _) ?_ | refine aa (ah rY rfl rfl) ?_);conv=>whnf)
 | (refine ⟨[],[],(by decide +kernel),?_⟩;conv=>whnf)
 | (refine ax (by have h9:=Ju (k:=k) (by assumption);omega) ?_;conv=>whnf)
 | (refine Bn (f:=mb.enc) (l:=l) (by assumption) hk ?_;conv=>whnf)
 | ((with_reducible refine ag ?_);first | (exact aD rfl;done))
  | fail
  )
theorem Rl (l : List mb) (hl : l.length <= 10) (hL : ∀ k,k < l.length -> lf l k = 0) : Fn 152 [.fs (l.map mb.enc),.fn 153 [] [.fp (.fs (l.map mb.enc)) 0]] (.tup [i 0,i 0]):=by
 refine ac aZ Tryz.func152 rfl (by kernel_rfl) ?_
 conv=>whnf
 repeat' (first
 | ((with_reducible refine aB (fun h=>?_) (fun h=>?_))<;>(try simp only [List.length_map] at h)<;>conv=>whnf)
 | ((with_reducible refine ak ?_);(first | refine aa (af (xs:=[_,_,_]) (Rm l k (by omega) hl (Bv _ (hL k (by omega))).1 (Bv _ (hL k (by omega))).2.1 (Bv _ (hL k (by omega))).2.2) _) ?_);conv=>whnf)
 | ((with_reducible refine aO ?_);first | (refine bh (fun (k : Nat)=>l.length - k) (fun (k : Nat)=>k <= l.length) (fun (k : Nat)=>[(1,.d (.fn 153 [] [.fp (.fs (l.map mb.enc)) 0])),(9,.d (.fs (l.map mb.enc))),(10,.d (i l.length)),(11,.d (i k))]) (fun (k : Nat)=>[]) (0) (by exact Nat.zero_le _) ?_ (fun k C hI hC=>?_);(exact ⟨[],rfl,rfl,⟨rfl,rfl,(by first | exact congrArg (D.int .i64) (by simp only [List.length_map]) ),(by first | exact congrArg (D.int .i64) (by omega) ),trivial⟩,trivial⟩);all_goals (conv=>whnf)))
 | ((with_reducible show C _ _);first | (refine hC (k + 1) _ _ ?_ (by omega) ?_;clear hC;rotate_left;(exact ⟨[],rfl,rfl,⟨rfl,rfl,rfl,(by first | exact congrArg (D.int .i64) (by omega) ),trivial⟩,trivial⟩);(exact (by omega))))
 | (refine bf (by omega) ?_;conv=>whnf)
 | (refine ax (by omega) ?_;conv=>whnf)
 | ((with_reducible refine ag ?_);first | (exact aP (aY (aK rfl (aK rfl bM))) rfl;done))
  | fail
  )
theorem U6 (l : List mb) (hl : l.length <= 10) (hL : ∀ k,k < l.length -> lf l k = 0) : Fn 83 [.fs (l.map mb.enc)] (i 0):=by
 refine ac aZ Tryz.func83 rfl (by kernel_rfl) ?_
 conv=>whnf
 repeat' (first
 | ((with_reducible refine aJ ?_ ?_);(focus ((try simp only [List.length_map,List.length_cons,List.length_nil,List.length_append]);omega));conv=>whnf)
 | ((with_reducible refine ak ?_);(first | refine aa (ah (Rl l hl hL) rfl (aK rfl (aK rfl bM))) ?_);conv=>whnf)
 | ((with_reducible refine ag ?_);first | (exact aD rfl;done))
  | fail
  )
theorem SP (s : dn) (B : Sb s) (V : lb s) : Fn 48 [aS (aN s.nodes)] (.tup [i (aW (aN s.nodes)).1,i 0]):=by
 have:=T6 (aN s.nodes) ⟨by rw [dN];have:=V.n20;omega,fun x hx=>(B.tr x hx).1,fun x hx=>(B.tr x hx).2⟩
 rwa [V.ck] at this
attribute [local irreducible] aW
theorem TZ (s : dn) (B : Sb s) (V : lb s) : Fn 44 [s.enc] (.tup [i 0,i 0]):=by
 have htk:=ua V.tk
 have hal : ((eb s.nodes : Nat) : Int) <= 8192:=(by have:=V.all;omega)
 have h20 : ¬ (20 : Int) < (s.nodes.map cu.enc).length:=(by have:=V.n20;rw [List.length_map];omega)
 refine ac aZ Tryz.func44 rfl (by kernel_rfl) ?_
 conv=>whnf
 repeat' (first
 | ((with_reducible refine aJ (by assumption) ?_);conv=>whnf)
 | ((with_reducible refine ak ?_);(first | refine aa (aA (RQ s (by have:=V.n20;omega) B.el) rfl) ?_ | refine aa (af (xs:=[_]) (SP s B V) _) ?_ | refine aa (ah (U2 s B V) rfl (aK rfl (aK rfl bM))) ?_ | refine aa (ah (U5 s B V) rfl (aK rfl bM)) ?_ | refine aa (af (xs:=[_,_]) (rZ _) _) ?_ | refine aa (af (xs:=[_,_]) (D8 hal _) _) ?_ | refine aa (af (xs:=[_]) (U6 s.lims V.l10 V.lm) _) ?_ | refine aa (af (xs:=[_,_,_]) (wq htk) _) ?_ | refine aa (ah F2 rfl rfl) ?_);conv=>whnf)
 | (refine ⟨[],[(5,1),(8,1),(5,3),(8,3),(8,6)],(by decide +kernel),?_⟩;conv=>whnf)
 | ((with_reducible refine ag ?_);first | (exact aP (aY (aK rfl (aK rfl bM))) rfl;done) )
 | (refine ⟨rfl,?_⟩;conv=>whnf)
  | fail
  )
end
section
set_option maxRecDepth 10000
attribute [local irreducible] bn
set_option maxHeartbeats 1000000
open Paths
theorem vU {α : Type} {s out : List α} {k : Nat} (h : k < s.length) (ho : out = s.take k) : out ++ [s[k]] = s.take (k + 1):=by
 subst ho;exact (List.take_succ_eq_append_getElem h).symm
attribute [local irreducible] iJ Op.bytesLess aN aX b6 fB dt eb iQ dA aW ju
theorem Ug (d : jr) (he : d.es.length < 2000000) (ha : d.au.length < 2000000) : Fn 87 [d.enc] d.enc:=by
 refine ac aZ Tryz.func87 rfl (by kernel_rfl) ?_
 conv=>whnf
 repeat' (first
 | ((with_reducible refine ak ?_);(first | refine aa (aA (Nx d.es he) rfl) ?_ | refine aa (aA (Nx d.au ha) rfl) ?_);conv=>whnf)
 | (refine ⟨[],[(4,2)],(by decide +kernel),?_⟩;conv=>whnf)
 | ((with_reducible refine ag ?_);first | (exact aP (be (aK rfl (aK rfl (aK rfl (aK rfl (aK rfl (aK rfl bM))))))) rfl;done) )
 | (refine ⟨rfl,?_⟩;conv=>whnf)
  | fail
  )
theorem UK (s : dn) (B : Sb s) (V : lb s) : Fn 45 [s.enc] (.fp s.enc 0):=by
 have hn20:=V.n20
 refine ac aZ Tryz.func45 rfl (by kernel_rfl) ?_
 conv=>whnf
 repeat' (first
 | ((with_reducible refine aJ ?_ ?_);(focus ((try simp only [List.length_map,List.length_cons,List.length_nil,List.length_append]);omega));conv=>whnf)
 | ((with_reducible refine aB (fun h=>?_) (fun h=>?_))<;>(try simp only [List.length_map] at h)<;>conv=>whnf)
 | ((with_reducible refine ak ?_);(first | refine aa (aA (Ue s.lims (by have:=V.l10;omega)) rfl) ?_ | refine aa (aA (SO _ (B.el _ (List.getElem_mem (by omega : k < s.nodes.length)))) rfl) ?_ | refine aa (aA (Uf _ (B.sl _ (List.getElem_mem (by omega : k < s.nodes.length)))) rfl) ?_ | refine aa (aA (Ug (s.nodes[k]'(by omega)).d (by have:=(IX (V.nd k (by omega)).de).e;omega) (by have:=(IX (V.nd k (by omega)).de).a;omega)) rfl) ?_);conv=>whnf)
 | (refine ⟨[],[(4,2)],(by decide +kernel),?_⟩;conv=>whnf)
 | (refine ⟨[],[(5,7)],(by decide +kernel),?_⟩;conv=>whnf)
 | ((with_reducible refine aO ?_);first | (refine ni (fun (k : Nat) (out : List cu)=>s.nodes.length - k) (fun (k : Nat) (out : List cu)=>k <= s.nodes.length /\ out.length = k /\ out = s.nodes.take k) (fun (k : Nat) (out : List cu)=>[(3,.ptr 1 0 0),(15,.d (.fs (s.nodes.map cu.enc))),(16,.d (i s.nodes.length)),(17,.d (i k))]) (fun (k : Nat) (out : List cu)=>[⟨[.d s.enc],3,0⟩,⟨[.agg [.sl 2 0 out.length 13 none,.d (.fs (s.lims.map mb.enc)),.d (i s.tick)]],3,0⟩,⟨(out.map cu.enc).map .d,13,0⟩]) (0) ([]) (by exact ⟨Nat.zero_le _,rfl,rfl⟩) ?_ (fun k out C hI hC=>?_);(exact ⟨[.old 0,.old 1,.void 13],rfl,rfl,⟨⟨rfl,rfl,rfl⟩,rfl,(by first | exact congrArg (D.int .i64) (by simp only [List.length_map]) ),(by first | exact congrArg (D.int .i64) (by omega) ),trivial⟩,⟨⟨rfl,rfl,.inl ⟨[_],rfl,rfl⟩⟩,⟨rfl,rfl,.inr ⟨⟨⟨rfl,rfl,rfl,rfl⟩,rfl,rfl,trivial⟩,trivial⟩⟩,⟨rfl,rfl,(by decide),rfl⟩,trivial⟩⟩);all_goals (conv=>whnf)))
 | ((with_reducible show C _ _);first | (refine hC (k + 1) (out ++ [(s.nodes[k]'(by omega))]) _ _ ?_ (by omega) ?_;clear hC;rotate_left;(exact ⟨[.old 0,.old 1,.old 5],rfl,rfl,⟨⟨rfl,rfl,rfl⟩,rfl,rfl,(by first | exact congrArg (D.int .i64) (by omega) ),trivial⟩,⟨⟨rfl,rfl,.inl ⟨[_],rfl,rfl⟩⟩,⟨rfl,rfl,.inr ⟨⟨⟨rfl,rfl,(by simp),rfl,rfl⟩,rfl,rfl,trivial⟩,trivial⟩⟩,⟨rfl,rfl,.inr (fg (em _ _) ⟨rfl,rfl,rfl,rfl,rfl,rfl,rfl,rfl,rfl,rfl,rfl,rfl,rfl,rfl,trivial⟩)⟩,trivial⟩⟩);(exact ⟨by omega,by rw [List.length_append,List.length_singleton,hI.2.1],vU (by omega) hI.2.2⟩)))
 | (refine ⟨⟨(by first | (simp;done)),cm (by simp only [List.length_map,List.length_cons,List.length_nil,List.length_append];omega) rfl⟩,?_⟩;conv=>whnf)
 | (refine bf (by omega) ?_;conv=>whnf)
 | (refine ax (by omega) ?_;conv=>whnf)
 | (refine ⟨Nat.le_refl _,?_⟩;conv=>whnf)
 | (refine ⟨rfl,?_⟩;conv=>whnf)
 | ((with_reducible refine ag ?_);first | ((have e : out = s.nodes:=(by rw [hI.2.2];exact List.take_of_length_le (by omega)));subst e;exact aP (ma rfl Nat.two_pos rfl (be (aK (ca rfl Nat.two_pos) (aK rfl (aK rfl bM))))) rfl;done))
  | fail
  )
theorem TU (s : dn) (B : Sb s) (V : lb s) : Fn 21 [s.enc] (.tup [.fp s.enc 0,i 0]):=by
 refine ac aZ Tryz.func21 rfl (by kernel_rfl) ?_
 conv=>whnf
 repeat' (first
 | ((with_reducible refine ak ?_);(first | refine aa (af (xs:=[_]) (TZ s B V) _) ?_ | refine aa (aA (UK s B V) rfl) ?_);conv=>whnf)
 | ((with_reducible refine ag ?_);first | (exact aP (aY (aK rfl (aK rfl bM))) rfl;done))
  | fail
  )
end
section
set_option maxRecDepth 10000
attribute [local irreducible] bn
set_option maxHeartbeats 1000000
open Paths
attribute [local irreducible] aN fB eb iQ dA aW ju
theorem T4 (l : List dd) (hl : l.length < 2000000) : Fn 47 [.fs (l.map dd.enc)] (.fs (l.map dd.enc)):=by
 refine ac aZ Tryz.func47 rfl (by kernel_rfl) ?_
 conv=>whnf
 repeat' (first
 | (refine ⟨(by intro y hy;obtain ⟨x,_,rfl⟩:=List.mem_map.1 hy;first | exact ⟨rfl,rfl⟩),?_⟩;conv=>whnf)
 | (refine ⟨cm (by first | (simp only [List.length_map];omega)) rfl,?_⟩;conv=>whnf)
 | ((with_reducible refine ag ?_);first | (exact aP (gI rfl Nat.two_pos) rfl;done) )
  | fail
  )
theorem TV (d : jr) (he : d.es.length < 2000000) (ha : d.au.length < 2000000) : Fn 23 [d.enc] d.enc:=by
 refine ac aZ Tryz.func23 rfl (by kernel_rfl) ?_
 conv=>whnf
 repeat' (first
 | ((with_reducible refine ak ?_);(first | refine aa (aA (T4 d.es he) rfl) ?_ | refine aa (aA (T4 d.au ha) rfl) ?_);conv=>whnf)
 | (refine ⟨[],[(4,2)],(by decide +kernel),?_⟩;conv=>whnf)
 | ((with_reducible refine ag ?_);first | (exact aP (be (aK rfl (aK rfl (aK rfl (aK rfl (aK rfl (aK rfl bM))))))) rfl;done) )
 | (refine ⟨rfl,?_⟩;conv=>whnf)
  | fail
  )
def Ul (x : cu) (q p : Nat) : AV:=.agg [.d (i x.kind),.sl q 0 ((x.ents.map bm.enc).map AV.d).length 2 none,.d (.str x.target),.d (.str x.data),.sl p 0 ((x.sts.map kh.enc).map AV.d).length 2 none,.d (i x.d.owner),.d (i x.d.group),.d (.bool x.d.prot),.d (.bool x.d.has),.d (.fs (x.d.es.map dd.enc)),.d (.fs (x.d.au.map dd.enc)),.d (i x.made),.d (i x.chg)]
def QL (H : ae) (r : Nat) (e : Option AV) (x : cu) : Prop:=∃ q p,e = some (Ul x q p) /\ H[q]? = some ⟨(x.ents.map bm.enc).map .d,2,0⟩ /\ H[p]? = some ⟨(x.sts.map kh.enc).map .d,2,0⟩ /\ (q ≠ r /\ p ≠ r) /\ 3 < q /\ 3 < p
def M8 (s : List cu) (H : ae) (k : Nat) (cv : AV) : Prop:=(k = 0 /\ cv = .nilS) \/ ∃ (r : Nat) (Es : List AV),cv = .sl r 0 k 13 none /\ H[r]? = some ⟨Es,13,0⟩ /\ Es.length = k /\ (∀ j x,j < k -> s[j]? = some x -> QL H r Es[j]? x) /\ 3 < r
theorem yr {s : List cu} {x : cu} {H H' : ae} {k r q p r' : Nat} {Es Fs : List AV} (h : ∀ j x,j < k -> s[j]? = some x -> QL H r Es[j]? x) (hx : s[k]? = some x) (hr : H'[r']? = some ⟨Fs,13,0⟩) (hl : Fs.length = k + 1) (hE : ∀ j,j < k -> Fs[j]? = Es[j]?) (he : Fs[k]? = some (Ul x q p)) (hq : H'[q]? = some ⟨(x.ents.map bm.enc).map .d,2,0⟩) (hp : H'[p]? = some ⟨(x.sts.map kh.enc).map .d,2,0⟩) (hne : q ≠ r' /\ p ≠ r' /\ 3 < q /\ 3 < p) (hm : H.length <= r') (hf : ∀ q,q ≠ r -> 3 < q -> q < H.length -> H'[q]? = H[q]?) (h0 : 3 < r') : M8 s H' (k + 1) (.sl r' 0 (k + 1) 13 none):=by
 refine .inr ⟨r', Fs, rfl, hr, hl, fun j y hj hy => ?_, h0⟩
 by_cases e : j < k
 ·obtain ⟨q1,p1,h1,h2,h3,h4,h5,h6⟩:=h j y e hy
  have hq : q1 < H.length:=(List.getElem?_eq_some_iff.1 h2).1
  have hp : p1 < H.length:=(List.getElem?_eq_some_iff.1 h3).1
  exact ⟨q1,p1,by rw [hE j e];exact h1,by rw [hf q1 h4.1 h5 hq];exact h2,by rw [hf p1 h4.2 h6 hp];exact h3,⟨by omega,by omega⟩,h5,h6⟩
 ·have hj : j = k:=by omega
  rw [hj] at hy ⊢
  have : y = x:=Option.some.inj (hy.symm.trans hx)
  rw [this]
  exact ⟨q,p,he,hq,hp,⟨hne.1,hne.2.1⟩,hne.2.2.1,hne.2.2.2⟩
theorem Ed {s : List cu} {H H' : ae} {k : Nat} {cv : AV} (h : M8 s H k cv) (hf : ∀ q,3 < q -> q < H.length -> H'[q]? = H[q]?) : M8 s H' k cv:=by
 rcases h with h | ⟨r,Es,h1,h2,h3,h4,h5⟩
 ·exact .inl h
 ·refine .inr ⟨r,Es,h1,(hf r h5 (List.getElem?_eq_some_iff.1 h2).1).trans h2,h3,fun j x hj hx=>?_,h5⟩
  obtain ⟨q,p,g1,g2,g3,g4,g5,g6⟩:=h4 j x hj hx
  exact ⟨q,p,g1,(hf q g5 (List.getElem?_eq_some_iff.1 g2).1).trans g2,(hf p g6 (List.getElem?_eq_some_iff.1 g3).1).trans g3,g4,g5,g6⟩
theorem Gt {s : List cu} {H : ae} {k : Nat} {cv : AV} (h : M8 s H k cv) (hk : k = s.length) : bl 7 H cv = some (.fs (s.map cu.enc)):=by
 subst hk
 rcases h with ⟨h0,rfl⟩ | ⟨r,Es,rfl,hr,hl,hN,_⟩
 ·have : s = []:=List.length_eq_zero_iff.1 h0
  subst this;rfl
 ·have hv : vl (bl 6 H) Es = some (s.map cu.enc):=by
   refine B1 (by rw [hl,List.length_map]) fun j a x ha hx=>?_
   rw [List.getElem?_map] at hx
   cases ht : s[j]? with
   | none=>rw [ht] at hx;simp at hx
   | some y=>
    rw [ht] at hx
    simp only [Option.map_some,Option.some.injEq] at hx
    subst hx
    obtain ⟨q,p,h1,h2,h3,_⟩:=hN j y (List.getElem?_eq_some_iff.1 ht).1 ht
    rw [ha] at h1
    cases h1
    exact be (aK rfl (aK (gI h2 Nat.two_pos) (aK rfl (aK rfl (aK (gI h3 Nat.two_pos) (aK rfl (aK rfl (aK rfl (aK rfl (aK rfl (aK rfl (aK rfl (aK rfl bM)))))))))))))
  show (match H[r]? with
   | some o=>if o.st < 2 then (if 0 + s.length <= o.elems.length then (vl (bl 6 H) ((o.elems.drop 0).take s.length)).map D.fs else none) else none
   | none=>none) = _
  simp only [hr]
  rw [if_pos (by decide),if_pos (by omega),List.drop_zero,List.take_of_length_le (by omega),hv];rfl
theorem Nc {l : List AV} {a : AV} {k : Nat} (h : l.length = k) : (l ++ [a])[k]? = some a:=by subst h;simp
theorem Lc {a : AV} {k : Nat} (h : k = 0) : [a][k]? = some a:=by subst h;rfl
attribute [local irreducible] eR QL
theorem c7 (s : dn) (B : Sb s) (V : lb s) : Fn 7 [s.enc] s.enc:=by
 have hn20:=V.n20;have hl10:=V.l10
 refine ac aZ Tryz.func7 rfl (by kernel_rfl) ?_
 conv=>whnf
 repeat' (first
 | ((with_reducible refine aJ ?_ ?_);(focus ((try simp only [List.length_map,List.length_cons,List.length_nil,List.length_append]);omega));conv=>whnf)
 | ((with_reducible refine aB (fun h=>?_) (fun h=>?_))<;>(try simp only [List.length_map] at h)<;>conv=>whnf)
 | ((with_reducible refine ak ?_);(first | refine aa (cb (TV (s.nodes[k]'(by omega)).d (by have:=(IX (V.nd k (by omega)).de).e;omega) (by have:=(IX (V.nd k (by omega)).de).a;omega)) rfl rfl) ?_);conv=>whnf)
 | (refine ⟨[],[(7,3),(5,3)],(by decide +kernel),?_⟩;conv=>whnf)
 | ((with_reducible refine aO ?_);first | (apply Bw (fun (k : Nat) (cv : AV) (H : ae)=>s.nodes.length - k) (fun (k : Nat) (cv : AV) (H : ae)=>k <= s.nodes.length /\ H[0]? = some ⟨[.d s.enc],3,0⟩ /\ H[1]? = some ⟨[(E 25).zero],3,0⟩ /\ H[2]? = some ⟨[.agg [cv,.sl 3 0 ((s.lims.map mb.enc).map AV.d).length 2 none,.d (i s.tick)]],3,0⟩ /\ H[3]? = some ⟨(s.lims.map mb.enc).map .d,2,0⟩ /\ M8 s.nodes H k cv) (fun (k : Nat) (cv : AV) (H : ae)=>[(1,.ptr 0 0 0),(2,.ptr 1 0 0),(3,.ptr 2 0 0),(4,.d (i k))]) (0) (.nilS);rotate_left;(focus (exact .inl ⟨rfl,⟨(by first | rfl ),(by first | rfl ),(by first | rfl ),(by first | rfl ),trivial⟩⟩));rotate_left;(focus (exact ⟨Nat.zero_le _,rfl,rfl,rfl,rfl,.inl ⟨rfl,rfl⟩⟩));intro k cv H C hI hC;obtain ⟨hk,hb0,hb1,hb2,hb3,hI2⟩:=hI;have hl0:=lM hb3;have hI3:=hI2;rcases hI2 with ⟨hk0,rfl⟩ | ⟨r,Es,rfl,hr,hE,hN,hr0⟩;rotate_left;have hlr:=lM hr;rotate_left;all_goals (conv=>whnf)))
 | ((with_reducible show C _ _);first | (refine hC (k + 1) (.sl n 0 (k + 1) 13 none) _ _ ?_ (by omega) ?_;clear hC;rotate_left;(exact ⟨(by first | rfl ),(by first | rfl ),(by first | rfl ),(by first | rfl ),trivial⟩);(refine ⟨by omega,(by (repeat (first | assumption | refine bN (by assumption) (by omega) ?_ | refine b7 (by assumption) (by omega) ?_))),(by (repeat (first | assumption | refine bN (by assumption) (by omega) ?_ | refine b7 (by assumption) (by omega) ?_))),(by subst hk0;exact ho),(by (repeat (first | assumption | refine bN (by assumption) (by omega) ?_ | refine b7 (by assumption) (by omega) ?_))),yr (x:=(s.nodes[k]'(by omega))) (Fs:=?_) (q:=?_) (p:=?_) (H:=[]) (r:=0) (Es:=[]) (by intro j x hj;omega) (List.getElem?_eq_getElem (by omega : k < s.nodes.length)) ?_ ?_ ?_ ?_ ?_ ?_ ?_ ?_ ?_ ?_⟩;rotate_left 3;(focus (repeat (first | assumption | refine b7 (by assumption) (by omega) ?_)));(focus (simp only [List.length_cons,List.length_nil];omega));(focus (intro j hj;omega));(focus (exact Lc hk0));(focus (repeat (first | assumption | refine bN (by assumption) (by omega) ?_ | refine b7 (by assumption) (by omega) ?_)));(focus (repeat (first | assumption | refine bN (by assumption) (by omega) ?_ | refine b7 (by assumption) (by omega) ?_)));(focus omega);(focus exact Nat.zero_le _);(focus (intro q hq h3q hlt;simp only [List.length_nil] at hlt;omega));(focus omega))) | (refine hC (k + 1) (.sl n 0 (k + 1) 13 none) _ _ ?_ (by omega) ?_;clear hC;rotate_left;(exact ⟨(by first | rfl ),(by first | rfl ),(by first | rfl ),(by first | rfl ),trivial⟩);(refine ⟨by omega,(by (repeat (first | assumption | refine bN (by assumption) (by omega) ?_ | refine b7 (by assumption) (by omega) ?_))),(by (repeat (first | assumption | refine bN (by assumption) (by omega) ?_ | refine b7 (by assumption) (by omega) ?_))),(by assumption),(by (repeat (first | assumption | refine bN (by assumption) (by omega) ?_ | refine b7 (by assumption) (by omega) ?_))),yr (x:=(s.nodes[k]'(by omega))) (Fs:=?_) (q:=?_) (p:=?_) hN (List.getElem?_eq_getElem (by omega : k < s.nodes.length)) ?_ ?_ ?_ ?_ ?_ ?_ ?_ ?_ ?_ ?_⟩;rotate_left 3;(focus (repeat (first | assumption | refine b7 (by assumption) (by omega) ?_)));(focus (simp only [List.length_append,List.length_cons,List.length_nil];omega));(focus (intro j hj;exact AT hE hj));(focus (exact Nc hE));(focus (repeat (first | assumption | refine bN (by assumption) (by omega) ?_ | refine b7 (by assumption) (by omega) ?_)));(focus (repeat (first | assumption | refine bN (by assumption) (by omega) ?_ | refine b7 (by assumption) (by omega) ?_)));(focus omega);(focus omega);(focus (intro q hq h3q hlt;(repeat (first | rfl | refine bN (by assumption) (by omega) ?_ | refine b7 (by assumption) (by omega) ?_))));(focus omega))))
 | (refine ⟨(by intro y hy;obtain ⟨x,_,rfl⟩:=List.mem_map.1 hy;first | exact ⟨rfl,rfl⟩),?_⟩;conv=>whnf)
 | (refine ⟨cm (by first | (simp only [List.length_map];omega)) rfl,?_⟩;conv=>whnf)
 | (refine bf (by omega) ?_;conv=>whnf)
 | (refine ax (by omega) ?_;conv=>whnf)
 | (refine KY ?_;conv=>whnf)
 | (refine PG ?_;conv=>whnf)
 | (refine PH ?_;conv=>whnf)
 | (refine PI ?_;conv=>whnf)
 | (refine L9 (fun n H hn hl hf ho=>?_);conv=>whnf)
 | (refine Mz (by omega) (fun H hl hf ho=>?_);conv=>whnf)
 | (refine Mm (x:=?_) ?_ ?_;rotate_left;(focus ((repeat (first | assumption | refine bN (by assumption) (by omega) ?_ | refine b7 (by assumption) (by omega) ?_));done));conv=>whnf)
 | (refine ⟨Nat.le_refl _,?_⟩;conv=>whnf)
 | (refine ⟨⟨(by simp only [List.length_map,List.length_append];omega),cm (by have:=B.el _ (List.getElem_mem (by omega : k < s.nodes.length));have:=B.sl _ (List.getElem_mem (by omega : k < s.nodes.length));simp only [List.length_map,List.length_cons,List.length_nil,List.length_append];omega) rfl⟩,?_⟩;conv=>whnf)
 | (refine ⟨cm (by have:=B.el _ (List.getElem_mem (by omega : k < s.nodes.length));have:=B.sl _ (List.getElem_mem (by omega : k < s.nodes.length));simp only [List.length_map,List.length_cons,List.length_nil,List.length_append];omega) rfl,?_⟩;conv=>whnf)
 | (refine ⟨congrArg (Option.map AO.vis) (Eq.symm (by (repeat (first | rfl )))),?_⟩;conv=>whnf)
 | ((with_reducible refine ag ?_);first | (exact aP (be (aK (Gt (Ed hI3 (fun q hq hlt=>hf q (by omega))) (by omega)) (aK (gI ((hf 3 (by omega)).trans hb3) Nat.two_pos) (aK rfl bM)))) rfl;done))
 | (refine ⟨rfl,?_⟩;conv=>whnf)
  | fail
  )
end
section
set_option maxRecDepth 10000
attribute [local irreducible] bn
set_option maxHeartbeats 1000000
open Paths
def Ts : jr:=⟨4,4,false,false,[],[]⟩
def Ma : cu:=⟨0,[],[],[],[],Ts,0,0⟩
def BY : dn:=⟨[Ma],[],0⟩
theorem TL : lb BY:=K5 (by decide +kernel)
theorem Vn : Sb BY where
 el:=by decide
 nl:=by decide
 sl:=by decide
 sn:=by decide
 sd:=by
  intro x hx k
  simp only [BY,List.mem_singleton] at hx
  subst hx
  simp [Ma,gZ]
 al:=by
  intro k
  have h1 : ∀ l : List cu,(∀ x ∈ l,dt x = 0) -> eb l = 0:=by
   intro l
   induction l with
   | nil=>intro _;rfl
   | cons x l ih=>
    intro h
    simp only [eb]
    rw [h x (by simp),ih (fun y hy=>h y (by simp [hy]))]
  have h2 : dt Ma = 0:=rfl
  rw [h1 _ (fun x hx=>by
   have:=List.mem_of_mem_take hx
   simp only [BY,List.mem_singleton] at this
   subst this;exact h2)]
  decide
 ll:=by decide
end
end Go.Proofs.YtogifnjnpljnfaaGreatDoor
