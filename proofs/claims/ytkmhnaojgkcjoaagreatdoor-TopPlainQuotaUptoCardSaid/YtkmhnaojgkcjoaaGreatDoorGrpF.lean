/-
  Own lemmas, no conditions: Qa, Qb, Qc, Qd, Qe, Qf, Qg, Qh, Qi, Qj, Qk, Ql, Qm, Qn, Qo, Qp, Qq, Qs, Qr, Qt, Qv, Sc, Sh, Ld.
-/
import Derived.Test.YtkmhnaojgkcjoaaGreatDoorGrpE
import Derived.Test.YtkmhnaojgkcjoaaGreatDoorRows
import Derived.Test.YtkmhnaojgkcjoaaGreatDoorTie
import Derived.Test.YtkmhnaojgkcjoaaGreatDoorCards
import Derived.ProofKit
import Derived.LaidMore
set_option linter.unusedVariables false
set_option linter.unusedSimpArgs false
namespace Go.Proofs.YtkmhnaojgkcjoaaGreatDoor
open Go Dw
structure Ace where
 kind : Int
 flags : Int
 mask : Int
 who : Int
def Ace.enc (x : Ace) : D:=.agg [i x.kind,i x.flags,i x.mask,i x.who]
structure Dsc where
 owner : Int
 group : Int
 prot : Bool
 has : Bool
 es : List Ace
 au : List Ace
def Dsc.cs (x : Dsc) : List D:=[i x.owner,i x.group,.bool x.prot,.bool x.has,.fs (x.es.map Ace.enc),.fs (x.au.map Ace.enc)]
def Dsc.enc (x : Dsc) : D:=.agg [i x.owner,i x.group,.bool x.prot,.bool x.has,.fs (x.es.map Ace.enc),.fs (x.au.map Ace.enc)]
structure Stm where
 name : Bs
 data : Bs
def Stm.enc (x : Stm) : D:=.agg [.str x.name,.str x.data]
structure PNd where
 kind : Int
 ents : List Ent
 target : Bs
 data : Bs
 sts : List Stm
 d : Dsc
 made : Int
 chg : Int
def PNd.enc (x : PNd) : D:=.agg [i x.kind,.fs (x.ents.map Ent.enc),.str x.target,.str x.data,.fs (x.sts.map Stm.enc),i x.d.owner,i x.d.group,.bool x.d.prot,.bool x.d.has,.fs (x.d.es.map Ace.enc),.fs (x.d.au.map Ace.enc),i x.made,i x.chg]
structure Lmt where
 who : Int
 lim : Int
def Lmt.enc (x : Lmt) : D:=.agg [i x.who,i x.lim]
structure Stt where
 nodes : List PNd
 lims : List Lmt
 tick : Int
def Stt.enc (x : Stt) : D:=.agg [.fs (x.nodes.map PNd.enc),.fs (x.lims.map Lmt.enc),i x.tick]
def isUser (n : Int) : Bool:=within n 10 999
def isWho (n : Int) : Bool:=within n 1 5 || isUser n
def isTick (n : Int) : Bool:=within n 0 1000000
def isHold (n : Int) : Bool:=isUser n || decide (n = 4) || decide (n = 5)
def pairE (o g : Int) : Int:=if isHold o && isHold g then 0 else 2
def aceE (a : Ace) : Int:=if within a.kind 0 2 then (if within a.flags 0 31 && (within a.mask 1 511 && isWho a.who) then 0 else 2) else 15
def aceK (n : Nat) (l : List Ace) (k : Nat) : Int:=match l[k]? with
 | some a=>if aceE a = 0 then (if decide (a.kind = 2) = decide (n ≤ k) then 0 else 15) else aceE a
 | none=>0
def dscE (d : Dsc) : Int × Int:=
 if pairE d.owner d.group = 0 then (if 16 < d.es.length ∨ 16 < d.au.length then (0,8) else if 0 < d.es.length ∧ d.has = false then (0,3) else frst (aceK d.es.length (d.es ++ d.au)) (d.es ++ d.au).length 0)
 else (0,pairE d.owner d.group)
def sumS : List Stm → Nat
 | []=>0
 | x :: l=>x.data.length + sumS l
theorem sumS_take {l : List Stm} {k : Nat} (h : k < l.length) : sumS (l.take (k + 1)) = sumS (l.take k) + l[k].data.length:=by
 have key : ∀ (a : List Stm) (b : Stm),sumS (a ++ [b]) = sumS a + b.data.length:=by
  intro a b
  induction a with
  | nil=>simp [sumS]
  | cons x a ih=>simp only [List.cons_append,sumS,ih];omega
 rw [List.take_succ_eq_append_getElem h,key]
theorem sumS_all {l : List Stm} {k : Nat} (h : l.length ≤ k) : sumS (l.take k) = sumS l:=by rw [List.take_of_length_le h]
def bytesN (x : PNd) : Nat:=x.data.length + sumS x.sts
def allN : List PNd → Nat
 | []=>0
 | x :: l=>bytesN x + allN l
theorem allN_take {l : List PNd} {k : Nat} (h : k < l.length) : allN (l.take (k + 1)) = allN (l.take k) + bytesN l[k]:=by
 have key : ∀ (a : List PNd) (b : PNd),allN (a ++ [b]) = allN a + bytesN b:=by
  intro a b
  induction a with
  | nil=>simp [allN]
  | cons x a ih=>simp only [List.cons_append,allN,ih];omega
 rw [List.take_succ_eq_append_getElem h,key]
def treeN (s : List PNd) : List Nod:=s.map fun x=>⟨x.kind,x.ents,x.target⟩
end Go.Proofs.YtkmhnaojgkcjoaaGreatDoor
namespace Go.Proofs.YtkmhnaojgkcjoaaGreatDoor
open Go Dw
set_option maxRecDepth 10000
attribute [local irreducible] Run
set_option maxHeartbeats 1000000
attribute [local irreducible] within
theorem c6 (n : Int) : Fn 6 [i n] (.bool (isUser n)):=by
 refine run_walkF eok Tryz.func6 rfl (by kernel_rfl) ?_
 conv=>whnf
 repeat' (first
 | ((with_reducible refine call_go ?_);(first | refine call_step (run_data (xs:=[_,_,_]) (c17 _ _ _) _) ?_);conv=>whnf)
 | ((with_reducible refine endx_go ?_);first | (exact endx rfl;done) )
  | fail
  )
theorem c62 (n : Int) : Fn 62 [i n] (.bool (isWho n)):=by
 refine run_walkF eok Tryz.func62 rfl (by kernel_rfl) ?_
 conv=>whnf
 repeat' (first
 | ((with_reducible refine onBool_split (fun h=>?_) (fun h=>?_))<;>conv=>whnf)
 | ((with_reducible refine call_go ?_);(first | refine call_step (run_data (xs:=[_,_,_]) (c17 _ _ _) _) ?_ | refine call_step (run_data (xs:=[_]) (c6 _) _) ?_);conv=>whnf)
 | ((with_reducible refine endx_go ?_);first | (exact endx (congrArg D.bool (by simp_all [isWho,isHold]));done))
  | fail
  )
theorem c63 (n : Int) : Fn 63 [i n] (.bool (isTick n)):=by
 refine run_walkF eok Tryz.func63 rfl (by kernel_rfl) ?_
 conv=>whnf
 repeat' (first
 | ((with_reducible refine call_go ?_);(first | refine call_step (run_data (xs:=[_,_,_]) (c17 _ _ _) _) ?_);conv=>whnf)
 | ((with_reducible refine endx_go ?_);first | (exact endx rfl;done) )
  | fail
  )
theorem c210 (n : Int) : Fn 210 [i n] (.bool (isHold n)):=by
 refine run_walkF eok Tryz.func210 rfl (by kernel_rfl) ?_
 conv=>whnf
 repeat' (first
 | ((with_reducible refine on_dec (fun h=>?_) (fun h=>?_))<;>(try simp only [List.length_map] at h)<;>conv=>whnf)
 | ((with_reducible refine onBool_split (fun h=>?_) (fun h=>?_))<;>conv=>whnf)
 | ((with_reducible refine call_go ?_);(first | refine call_step (run_data (xs:=[_]) (c6 _) _) ?_);conv=>whnf)
 | ((with_reducible refine endx_go ?_);first | (exact endx (congrArg D.bool (by simp_all [isWho,isHold]));done))
  | fail
  )
theorem c186 (o g : Int) : Fn 186 [i o,i g] (i (pairE o g)):=by
 refine run_walkF eok Tryz.func186 rfl (by kernel_rfl) ?_
 conv=>whnf
 repeat' (first
 | ((with_reducible refine on_not (fun h=>?_) (fun h=>?_))<;>conv=>whnf)
 | ((with_reducible refine call_go ?_);(first | refine call_step (run_data (xs:=[_]) (c210 _) _) ?_);conv=>whnf)
 | ((with_reducible refine endx_go ?_);first | (exact endx (congrArg i (by simp_all [pairE]));done))
  | fail
  )
theorem c187 (a : Ace) : Fn 187 [a.enc] (i (aceE a)):=by
 refine run_walkF eok Tryz.func187 rfl (by kernel_rfl) ?_
 conv=>whnf
 repeat' (first
 | ((with_reducible refine on_not (fun h=>?_) (fun h=>?_))<;>conv=>whnf)
 | ((with_reducible refine call_go ?_);(first | refine call_step (run_data (xs:=[_,_,_]) (c17 _ _ _) _) ?_ | refine call_step (run_data (xs:=[_]) (c62 _) _) ?_);conv=>whnf)
 | ((with_reducible refine endx_go ?_);first | (exact endx (congrArg i (by simp_all [aceE]));done))
  | fail
  )
theorem c7 (x : PNd) (hs : ∀ k,x.data.length + sumS (x.sts.take k) < 2000000) (hl : x.sts.length < 2000000) : Fn 7 [x.enc] (i (bytesN x : Nat)):=by
 refine run_walkF eok Tryz.func7 rfl (by kernel_rfl) ?_
 conv=>whnf
 repeat' (first
 | ((with_reducible refine on_dec (fun h=>?_) (fun h=>?_))<;>(try simp only [List.length_map] at h)<;>conv=>whnf)
 | ((with_reducible refine loop_go ?_);first | (refine loop1 (fun (k : Nat)=>x.sts.length - k) (fun (k : Nat)=>k ≤ x.sts.length) (fun (k : Nat)=>[(1,.ptr 0 0 0),(3,.d (i ((x.data.length + sumS (x.sts.take k) : Nat) : Int))),(4,.d (i k))]) (fun (k : Nat)=>[⟨[.d x.enc],13,0⟩]) (0) (by exact Nat.zero_le _) ?_ (fun k C hI hC=>?_);(exact ⟨[.old 0],rfl,rfl,⟨⟨rfl,rfl,rfl⟩,(congrArg (D.int .i64) (by simp [sumS])),(by first | exact congrArg (D.int .i64) (by omega) ),trivial⟩,⟨⟨rfl,rfl,.inl ⟨[_],rfl,rfl⟩⟩,trivial⟩⟩);all_goals (conv=>whnf)))
 | ((with_reducible show C _ _);first | (refine hC (k + 1) _ _ ?_ (by omega) ?_;clear hC;rotate_left;(exact ⟨[.old 0],rfl,rfl,⟨⟨rfl,rfl,rfl⟩,(congrArg (D.int .i64) (by have:=sumS_take (l:=x.sts) (k:=k) (by omega);omega)),(by first | exact congrArg (D.int .i64) (by omega) ),trivial⟩,⟨⟨rfl,rfl,.inl ⟨[_],rfl,rfl⟩⟩,trivial⟩⟩);(exact (by omega))))
 | (refine ix_map (by omega) ?_;conv=>whnf)
 | (refine wrap64 (by omega) ?_;conv=>whnf)
 | (refine wrap64 (by have h1:=hs k;have h2:=hs (k + 1);have h3:=sumS_take (l:=x.sts) (k:=k) (by omega);omega) ?_;conv=>whnf)
 | ((with_reducible refine endx_go ?_);first | (refine endx (congrArg i ?_);unfold bytesN;rw [sumS_all (by omega)];done))
  | fail
  )
attribute [local irreducible] bytesN
theorem c11 (s : Stt) (hn : s.nodes.length ≤ 20) (hb : ∀ x ∈ s.nodes,∀ k,x.data.length + sumS (x.sts.take k) < 2000000) (hl : ∀ x ∈ s.nodes,x.sts.length < 2000000) (hs : ∀ k,allN (s.nodes.take k) < 50000000) : Fn 11 [s.enc] (i (allN s.nodes : Nat)):=by
 refine run_walkF eok Tryz.func11 rfl (by kernel_rfl) ?_
 conv=>whnf
 repeat' (first
 | ((with_reducible refine on_dec (fun h=>?_) (fun h=>?_))<;>(try simp only [List.length_map] at h)<;>conv=>whnf)
 | ((with_reducible refine call_go ?_);(first | refine call_step (run_data (xs:=[_]) (c7 (s.nodes[k]'(by omega)) (hb _ (List.getElem_mem _)) (hl _ (List.getElem_mem _))) _) ?_);conv=>whnf)
 | ((with_reducible refine loop_go ?_);first | (refine loop1 (fun (k : Nat)=>s.nodes.length - k) (fun (k : Nat)=>k ≤ s.nodes.length) (fun (k : Nat)=>[(1,.ptr 0 0 0),(3,.d (i ((allN (s.nodes.take k) : Nat) : Int))),(4,.d (i k))]) (fun (k : Nat)=>[⟨[.d s.enc],3,0⟩]) (0) (by exact Nat.zero_le _) ?_ (fun k C hI hC=>?_);(exact ⟨[.old 0],rfl,rfl,⟨⟨rfl,rfl,rfl⟩,(by first | exact rfl),(by first | exact congrArg (D.int .i64) (by omega) ),trivial⟩,⟨⟨rfl,rfl,.inl ⟨[_],rfl,rfl⟩⟩,trivial⟩⟩);all_goals (conv=>whnf)))
 | ((with_reducible show C _ _);first | (refine hC (k + 1) _ _ ?_ (by omega) ?_;clear hC;rotate_left;(exact ⟨[.old 0],rfl,rfl,⟨⟨rfl,rfl,rfl⟩,(congrArg (D.int .i64) (by have:=allN_take (l:=s.nodes) (k:=k) (by omega);omega)),(by first | exact congrArg (D.int .i64) (by omega) ),trivial⟩,⟨⟨rfl,rfl,.inl ⟨[_],rfl,rfl⟩⟩,trivial⟩⟩);(exact (by omega))))
 | (refine ix_map (by omega) ?_;conv=>whnf)
 | (refine wrap64 (by omega) ?_;conv=>whnf)
 | (refine wrap64 (by have h1:=hs k;have h2:=hs (k + 1);have h3:=allN_take (l:=s.nodes) (k:=k) (by omega);omega) ?_;conv=>whnf)
 | ((with_reducible refine endx_go ?_);first | (refine endx (congrArg i ?_);rw [List.take_of_length_le (by omega)];done))
  | fail
  )
end Go.Proofs.YtkmhnaojgkcjoaaGreatDoor
namespace Go.Proofs.YtkmhnaojgkcjoaaGreatDoor
open Go Dw
set_option maxRecDepth 10000
attribute [local irreducible] Run
set_option maxHeartbeats 1000000
theorem aceK_lt {es au : List Ace} {k : Nat} (h : k < es.length) : aceK es.length (es ++ au) k = if aceE es[k] = 0 then (if decide (es[k].kind = 2) = false then 0 else 15) else aceE es[k]:=by
 unfold aceK
 rw [List.getElem?_append_left h,List.getElem?_eq_getElem h]
 simp only [decide_eq_false (show ¬ es.length ≤ k by omega)]
theorem aceK_ge {es au : List Ace} {k : Nat} (h : es.length ≤ k) (h2 : k - es.length < au.length) : aceK es.length (es ++ au) k = if aceE au[k - es.length] = 0 then (if decide (au[k - es.length].kind = 2) = true then 0 else 15) else aceE au[k - es.length]:=by
 unfold aceK
 rw [List.getElem?_append_right h,List.getElem?_eq_getElem h2]
 simp only [decide_eq_true h]
attribute [local irreducible] within aceE pairE aceK frst
theorem dsc_p {d : Dsc} (h : ¬ pairE d.owner d.group = 0) : dscE d = (0,pairE d.owner d.group):=by unfold dscE;rw [if_neg h]
theorem dsc_l {d : Dsc} (h : pairE d.owner d.group = 0) (h2 : 16 < d.es.length ∨ 16 < d.au.length) : dscE d = (0,8):=by unfold dscE;rw [if_pos h,if_pos h2]
theorem dsc_f {d : Dsc} (h : pairE d.owner d.group = 0) (h2 : ¬ (16 < d.es.length ∨ 16 < d.au.length)) (h3 : 0 < d.es.length ∧ d.has = false) : dscE d = (0,3):=by unfold dscE;rw [if_pos h,if_neg h2,if_pos h3]
theorem dsc_o {d : Dsc} (h : pairE d.owner d.group = 0) (h2 : ¬ (16 < d.es.length ∨ 16 < d.au.length)) (h3 : ¬ (0 < d.es.length ∧ d.has = false)) : dscE d = frst (aceK d.es.length (d.es ++ d.au)) (d.es ++ d.au).length 0:=by unfold dscE;rw [if_pos h,if_neg h2,if_neg h3]
theorem tup_of {p : Int × Int} {a b : Int} (h : p = (a,b)) : D.tup [i p.1,i p.2] = .tup [i a,i b]:=by rw [h]
theorem kd {p q : Bool} (h : (p == q) = true) : p = q:=by simpa using h
theorem kdn {p q : Bool} (h : (p == q) = false) : ¬ p = q:=by simpa using h
attribute [local irreducible] dscE
theorem c151 (d : Dsc) : Fn 151 [d.enc] (.tup [i (dscE d).1,i (dscE d).2]):=by
 refine run_walkF eok Tryz.func151 rfl (by kernel_rfl) ?_
 conv=>whnf
 repeat' (first
 | ((with_reducible refine on_dec_t ?_ ?_);(focus ((try simp only [List.length_map,List.length_cons,List.length_nil,List.length_append]);omega));conv=>whnf)
 | ((with_reducible refine on_dec (fun h=>?_) (fun h=>?_))<;>(try simp only [List.length_map] at h)<;>conv=>whnf)
 | ((with_reducible refine on_ndec (fun h=>?_) (fun h=>?_))<;>(try simp only [List.length_map] at h)<;>conv=>whnf)
 | ((with_reducible refine on_not (fun h=>?_) (fun h=>?_))<;>conv=>whnf)
 | ((with_reducible refine call_go ?_);(first | refine call_step (run_data (xs:=[_,_]) (c186 _ _) _) ?_ | refine call_step (run_data (xs:=[_]) (c187 (d.es[k]'(by omega))) _) ?_ | refine call_step (run_data (xs:=[_]) (c187 (d.au[k - d.es.length]'(by omega))) _) ?_);conv=>whnf)
 | ((with_reducible refine loop_go ?_);first | (refine loop1 (fun (k : Nat)=>(d.es ++ d.au).length - k) (fun (k : Nat)=>k ≤ d.es.length + d.au.length ∧ frst (aceK d.es.length (d.es ++ d.au)) (d.es ++ d.au).length 0 = frst (aceK d.es.length (d.es ++ d.au)) (d.es ++ d.au).length k) (fun (k : Nat)=>[(1,.ptr 0 0 0),(5,.d (i k))]) (fun (k : Nat)=>[⟨[.d d.enc],6,0⟩]) (0) (by exact ⟨Nat.zero_le _,rfl⟩) ?_ (fun k C hI hC=>?_);(exact ⟨[.old 0],rfl,rfl,⟨⟨rfl,rfl,rfl⟩,(by first | exact congrArg (D.int .i64) (by omega) ),trivial⟩,⟨⟨rfl,rfl,.inl ⟨[_],rfl,rfl⟩⟩,trivial⟩⟩);all_goals (conv=>whnf)))
 | ((with_reducible show C _ _);first | (refine hC (k + 1) _ _ ?_ (by (rw [List.length_append];omega)) ?_;clear hC;rotate_left;(exact ⟨[.old 0],rfl,rfl,⟨⟨rfl,rfl,rfl⟩,(by first | exact congrArg (D.int .i64) (by omega) ),trivial⟩,⟨⟨rfl,rfl,.inl ⟨[_],rfl,rfl⟩⟩,trivial⟩⟩);(first | exact ⟨by omega,hI.2.trans (frst_n (by rw [List.length_append];omega) (by rw [aceK_lt (es:=d.es) (au:=d.au) (k:=k) (by omega),if_pos (by assumption),if_pos ((kd (by assumption)).trans (decide_eq_false (by rw [List.length_map];omega)))]))⟩ | exact ⟨by omega,hI.2.trans (frst_n (by rw [List.length_append];omega) (by rw [aceK_ge (es:=d.es) (au:=d.au) (k:=k) (by omega) (by omega),if_pos (by assumption),if_pos ((kd (by assumption)).trans (decide_eq_true (by rw [List.length_map];omega)))]))⟩)))
 | (refine ix_map (by omega) ?_;conv=>whnf)
 | (refine wrap64 (by omega) ?_;conv=>whnf)
 | (refine ix_at (f:=Ace.enc) (l:=d.au) (k - d.es.length) (by rw [List.length_map];omega) (by omega) ?_;conv=>whnf)
 | (refine wrap64 (by first | (simp only [List.length_map];omega)) ?_;conv=>whnf)
 | ((with_reducible refine endx_go ?_);first | ((rw [tup_of (dsc_p (by assumption))];exact endxv (view_tup (vlc rfl (vlc rfl vln))) rfl);done) | ((rw [tup_of (dsc_l (by assumption) (by omega))];exact endxv (view_tup (vlc rfl (vlc rfl vln))) rfl);done) | ((rw [tup_of (dsc_f (by assumption) (by omega) ⟨by omega,by assumption⟩)];exact endxv (view_tup (vlc rfl (vlc rfl vln))) rfl);done) | ((rw [tup_of ((dsc_o (by assumption) (by omega) (fun c=>by first | (have:=c.1;omega) | (rw [show d.has = true by assumption] at c;cases c.2))).trans (hI.2.trans (frst_end (by rw [List.length_append];omega))))];exact endxv (view_tup (vlc rfl (vlc rfl vln))) rfl);done) | (((have e9:=aceK_lt (es:=d.es) (au:=d.au) (k:=k) (by omega));rw [if_neg (by assumption)] at e9;rw [tup_of ((dsc_o (by assumption) (by omega) (fun c=>by first | (have:=c.1;omega) | (rw [show d.has = true by assumption] at c;cases c.2))).trans (hI.2.trans (frst_e (by rw [List.length_append];omega) (by rw [e9];assumption)))),e9];exact endxv (view_tup (vlc rfl (vlc rfl vln))) rfl);done) | (((have e9:=aceK_lt (es:=d.es) (au:=d.au) (k:=k) (by omega));rw [if_pos (by assumption),if_neg (fun c=>kdn (by assumption) (c.trans (decide_eq_false (by rw [List.length_map];omega)).symm))] at e9;rw [tup_of ((dsc_o (by assumption) (by omega) (fun c=>by first | (have:=c.1;omega) | (rw [show d.has = true by assumption] at c;cases c.2))).trans (hI.2.trans (frst_e (by rw [List.length_append];omega) (by rw [e9];decide)))),e9];exact endxv (view_tup (vlc rfl (vlc rfl vln))) rfl);done) | (((have e9:=aceK_ge (es:=d.es) (au:=d.au) (k:=k) (by omega) (by omega));rw [if_neg (by assumption)] at e9;rw [tup_of ((dsc_o (by assumption) (by omega) (fun c=>by first | (have:=c.1;omega) | (rw [show d.has = true by assumption] at c;cases c.2))).trans (hI.2.trans (frst_e (by rw [List.length_append];omega) (by rw [e9];assumption)))),e9];exact endxv (view_tup (vlc rfl (vlc rfl vln))) rfl);done) | (((have e9:=aceK_ge (es:=d.es) (au:=d.au) (k:=k) (by omega) (by omega));rw [if_pos (by assumption),if_neg (fun c=>kdn (by assumption) (c.trans (decide_eq_true (by rw [List.length_map];omega)).symm))] at e9;rw [tup_of ((dsc_o (by assumption) (by omega) (fun c=>by first | (have:=c.1;omega) | (rw [show d.has = true by assumption] at c;cases c.2))).trans (hI.2.trans (frst_e (by rw [List.length_append];omega) (by rw [e9];decide)))),e9];exact endxv (view_tup (vlc rfl (vlc rfl vln))) rfl);done))
  | fail
  )
theorem c99 (d : Dsc) : Fn 99 [d.enc] (i (dscE d).2):=by
 refine run_walkF eok Tryz.func99 rfl (by kernel_rfl) ?_
 conv=>whnf
 repeat' (first
 | ((with_reducible refine call_go ?_);(first | refine call_step (run_data (xs:=[_]) (c151 d) _) ?_);conv=>whnf)
 | ((with_reducible refine endx_go ?_);first | (exact endx rfl;done))
  | fail
  )
end Go.Proofs.YtkmhnaojgkcjoaaGreatDoor
namespace Go.Proofs.YtkmhnaojgkcjoaaGreatDoor
open Go Dw
set_option maxRecDepth 10000
attribute [local irreducible] Run
set_option maxHeartbeats 1000000
abbrev nd1 (x : PNd) : Nod:=⟨x.kind,x.ents,x.target⟩
theorem treeN_at {s : List PNd} {k : Nat} (h : k < s.length) : (treeN s)[k]? = some (nd1 s[k]):=by
 unfold treeN
 rw [List.getElem?_map,List.getElem?_eq_getElem h];rfl
theorem treeN_len (s : List PNd) : (treeN s).length = s.length:=by unfold treeN;exact List.length_map _
def CpJ (t : List Nod) (H : Heap) (k : Nat) (cv : AV) : Prop:=(k = 0 ∧ cv = .nilS) ∨ ∃ (r : Nat) (Es : List AV),cv = .sl r 0 k 3 none ∧ H[r]? = some ⟨Es,3,0⟩ ∧ Es.length = k ∧ (∀ j x,j < k → t[j]? = some x → NdAt H r Es[j]? x) ∧ r ≠ 0
theorem cpj_snoc {t : List Nod} {x : Nod} {H H' : Heap} {k r id r' : Nat} {Es Fs : List AV} (h : ∀ j x,j < k → t[j]? = some x → NdAt H r Es[j]? x) (hx : t[k]? = some x) (hr : H'[r']? = some ⟨Fs,3,0⟩) (hl : Fs.length = k + 1) (hE : ∀ j,j < k → Fs[j]? = Es[j]?) (he : Fs[k]? = some (ndA x id)) (hid : H'[id]? = some ⟨(x.ents.map Ent.enc).map .d,2,0⟩) (hne : id ≠ r') (hm : H.length ≤ r') (hf : ∀ q,q ≠ r → q < H.length → H'[q]? = H[q]?) (h0 : r' ≠ 0) : CpJ t H' (k + 1) (.sl r' 0 (k + 1) 3 none):=by
 refine .inr ⟨r', Fs, rfl, hr, hl, fun j y hj hy => ?_, h0⟩
 by_cases e : j < k
 ·obtain ⟨q,h1,h2,h3⟩:=h j y e hy
  have hq : q < H.length:=(List.getElem?_eq_some_iff.1 h2).1
  exact ⟨q,by rw [hE j e];exact h1,by rw [hf q h3 hq];exact h2,by omega⟩
 ·have hj : j = k:=by omega
  rw [hj] at hy ⊢
  have : y = x:=Option.some.inj (hy.symm.trans hx)
  rw [this]
  exact ⟨id,he,hid,hne⟩
theorem cpj_view {t : List Nod} {H : Heap} {k : Nat} {cv : AV} (h : CpJ t H k cv) (hk : k = t.length) : view 8 H cv = some (treeD t):=by
 refine cp_view ?_ hk
 rcases h with h | ⟨r,Es,h1,h2,h3,h4,_⟩
 ·exact .inl h
 ·exact .inr ⟨r,Es,h1,h2,h3,h4⟩
attribute [local irreducible] newD NdAt treeN
theorem c60 (s : Stt) (hl : s.nodes.length < 2000000) (hbe : ∀ x ∈ s.nodes,x.ents.length < 2000000) : Fn 60 [s.enc] (treeD (treeN s.nodes)):=by
 refine run_walkF eok Tryz.func60 rfl (by kernel_rfl) ?_
 conv=>whnf
 repeat' (first
 | ((with_reducible refine on_dec_f ?_ ?_);(focus ((try simp only [List.length_map,List.length_cons,List.length_nil,List.length_append]);omega));conv=>whnf)
 | ((with_reducible refine on_dec (fun h=>?_) (fun h=>?_))<;>(try simp only [List.length_map] at h)<;>conv=>whnf)
 | (refine ⟨[],[(2,14),(6,14),(16,14),(20,14)],(by decide +kernel),?_⟩;conv=>whnf)
 | ((with_reducible refine loop_go ?_);first | (apply loopG2 (fun (k : Nat) (cv : AV) (H : Heap)=>s.nodes.length - k) (fun (k : Nat) (cv : AV) (H : Heap)=>k ≤ s.nodes.length ∧ H[0]? = some ⟨[.d s.enc],3,0⟩ ∧ CpJ (treeN s.nodes) H k cv) (fun (k : Nat) (cv : AV) (H : Heap)=>[(1,.ptr 0 0 0),(3,cv),(4,.d (i k))]) (0) (.nilS);rotate_left;(focus (exact .inl ⟨rfl,⟨(by first | rfl ),(by first | rfl ),(by first | rfl ),trivial⟩⟩));rotate_left;(focus (exact ⟨Nat.zero_le _,rfl,.inl ⟨rfl,rfl⟩⟩));intro k cv H C hI hC;obtain ⟨hk,hb0,hI2⟩:=hI;have hl0:=lt_of_at hb0;rcases hI2 with ⟨hk0,rfl⟩ | ⟨r,Es,rfl,hr,hE,hN,hr0⟩;rotate_left;have hlr:=lt_of_at hr;rotate_left;all_goals (conv=>whnf)))
 | ((with_reducible show C _ _);first | (refine hC (k + 1) (.sl n 0 (k + 1) 3 none) _ _ ?_ (by omega) ?_;clear hC;rotate_left;(exact ⟨(by first | rfl ),(by subst hk0;rfl),(by first | rfl ),trivial⟩);(refine ⟨by omega,(by (repeat (first | assumption | refine look_new (by assumption) (by omega) ?_ ))),cpj_snoc (x:=(nd1 (s.nodes[k]'(by omega)))) (Fs:=?_) (id:=?_) (H:=[]) (r:=0) (Es:=[]) (by intro j x hj;omega) (treeN_at (by omega : k < s.nodes.length)) ?_ ?_ ?_ ?_ ?_ ?_ ?_ ?_ ?_⟩;rotate_left 2;(focus assumption);(focus (simp only [List.length_cons,List.length_nil];omega));(focus (intro j hj;omega));(focus (refine cp_at0 (x:=(nd1 (s.nodes[k]'(by omega)))) hk0 ?_;simp only [List.length_map]));(focus (repeat (first | assumption | refine look_new (by assumption) (by omega) ?_ )));(focus omega);(focus exact Nat.zero_le _);(focus (intro q hq hlt;simp only [List.length_nil] at hlt;omega));(focus omega))) | (refine hC (k + 1) (.sl n 0 (k + 1) 3 none) _ _ ?_ (by omega) ?_;clear hC;rotate_left;(exact ⟨(by first | rfl ),(by first | rfl ),(by first | rfl ),trivial⟩);(refine ⟨by omega,(by (repeat (first | assumption | refine look_new (by assumption) (by omega) ?_ | refine look_set (by assumption) (by omega) ?_))),cpj_snoc (x:=(nd1 (s.nodes[k]'(by omega)))) (Fs:=?_) (id:=?_) hN (treeN_at (by omega : k < s.nodes.length)) ?_ ?_ ?_ ?_ ?_ ?_ ?_ ?_ ?_⟩;rotate_left 2;(focus assumption);(focus (simp only [List.length_append,List.length_cons,List.length_nil];omega));(focus (intro j hj;exact cp_old hE hj));(focus (refine cp_at (x:=(nd1 (s.nodes[k]'(by omega)))) hE ?_;simp only [List.length_map]));(focus (repeat (first | assumption | refine look_new (by assumption) (by omega) ?_ | refine look_set (by assumption) (by omega) ?_)));(focus omega);(focus omega);(focus (intro q hq hlt;(repeat (first | rfl | refine look_new (by assumption) (by omega) ?_ | refine look_set (by assumption) (by omega) ?_))));(focus omega))))
 | (refine ⟨(by intro y hy;obtain ⟨x,_,rfl⟩:=List.mem_map.1 hy;first | exact ⟨rfl,rfl⟩),?_⟩;conv=>whnf)
 | (refine ix_map (by omega) ?_;conv=>whnf)
 | (refine wrap64 (by omega) ?_;conv=>whnf)
 | (refine new_0 ?_;conv=>whnf)
 | (refine newG (fun n H hn hl hf ho=>?_);conv=>whnf)
 | (refine setG (by omega) (fun H hl hf ho=>?_);conv=>whnf)
 | (refine nthG (x:=?_) ?_ ?_;rotate_left;(focus ((repeat (first | assumption | refine look_new (by assumption) (by omega) ?_ ));done));conv=>whnf)
 | (refine ⟨Nat.le_refl _,?_⟩;conv=>whnf)
 | (refine ⟨⟨(by simp only [List.length_map,List.length_append];omega),cap_ok (by have:=hbe _ (List.getElem_mem (by omega : k < s.nodes.length));simp only [List.length_map,List.length_cons,List.length_nil,List.length_append];omega) rfl⟩,?_⟩;conv=>whnf)
 | (refine ⟨cap_ok (by have:=hbe _ (List.getElem_mem (by omega : k < s.nodes.length));simp only [List.length_map,List.length_cons,List.length_nil,List.length_append];omega) rfl,?_⟩;conv=>whnf)
 | (refine ⟨congrArg (Option.map AO.vis) (Eq.symm (by (repeat (first | rfl | refine look_new (by assumption) (by omega) ?_ )))),?_⟩;conv=>whnf)
 | ((with_reducible refine endx_go ?_);first | (exact endxv (cpj_view (by first | exact .inl ⟨hk0,rfl⟩ | exact .inr ⟨r,Es,rfl,hr,hE,hN,hr0⟩) (by rw [treeN_len];omega)) rfl;done))
  | fail
  )
end Go.Proofs.YtkmhnaojgkcjoaaGreatDoor
namespace Go.Proofs.YtkmhnaojgkcjoaaGreatDoor
open Go Dw
set_option maxRecDepth 10000
attribute [local irreducible] Run
set_option maxHeartbeats 1000000
open Paths
theorem ix_px {l : List PNd} {n : Nat} {x : PNd} (h : l[n]? = some x) {K : D → Prop} (hk : K x.enc) : 0 ≤ (n : Int) ∧ nthK (l.map PNd.enc) ((n : Int).toNat) K:=by
 obtain ⟨h1,h2⟩:=List.getElem?_eq_some_iff.1 h
 subst h2
 exact ix_map h1 hk
def ordK (l : List Bs) (k : Nat) : Int:=if k = 0 then 0 else match l[k - 1]?,l[k]? with
 | some a,some b=>if Op.bytesLess (fold a) (fold b) = true then 0 else 9
 | _,_=>0
theorem ordK_at {α : Type} {g : α → Bs} {l : List α} {k : Nat} (h0 : 0 < k) (h : k < l.length) : ordK (l.map g) k = if Op.bytesLess (fold (g (l[k - 1]'(by omega)))) (fold (g l[k])) = true then 0 else 9:=by
 unfold ordK
 rw [if_neg (by omega),List.getElem?_map,List.getElem?_map,List.getElem?_eq_getElem h,List.getElem?_eq_getElem (by omega : k - 1 < l.length)]
 rfl
theorem ordK_0 {l : List Bs} : ordK l 0 = 0:=rfl
def ordR (l : List Bs) : Int:=(frst (ordK l) l.length 1).2
def stmK (l : List Stm) (k : Nat) : Int:=match l[k]? with
 | some x=>if nameErr x.name = 0 then ordK (l.map Stm.name) k else nameErr x.name
 | none=>0
theorem stmK_at {l : List Stm} {k : Nat} (h : k < l.length) : stmK l k = if nameErr l[k].name = 0 then ordK (l.map Stm.name) k else nameErr l[k].name:=by
 unfold stmK
 rw [List.getElem?_eq_getElem h]
def big (s : Bs) : Bool:=decide ((4096 : Int) < s.length)
def bigR (x : PNd) : Bool:=big x.data || x.sts.any (fun y=>big y.data)
def bigT (x : PNd) (k : Nat) : Bool:=big x.data || (x.sts.take k).any (fun y=>big y.data)
theorem bigT_0 {x : PNd} : bigT x 0 = decide ((4096 : Int) < x.data.length):=by unfold bigT;simp [big]
theorem bigT_s {x : PNd} {k : Nat} (h : bigT x k = true) : bigT x (k + 1) = true:=by
 unfold bigT at *
 rw [Bool.or_eq_true] at *
 rcases h with h | h
 ·exact .inl h
 ·right
  rw [List.any_eq_true] at *
  obtain ⟨y,hy,h⟩:=h
  exact ⟨y,List.take_subset_take_left _ (by omega) hy,h⟩
theorem bigT_n {x : PNd} {k : Nat} (hk : k < x.sts.length) (h : bigT x k = false) : bigT x (k + 1) = decide ((4096 : Int) < x.sts[k].data.length):=by
 unfold bigT at *
 rw [Bool.or_eq_false_iff] at h
 rw [h.1,List.take_succ_eq_append_getElem hk,List.any_append,h.2]
 simp [big]
theorem bigT_e {x : PNd} {k : Nat} (h : x.sts.length ≤ k) : bigT x k = bigR x:=by unfold bigT bigR;rw [List.take_of_length_le h]
def nodF (x : PNd) : Int:=if bigR x = true then 8 else if ¬ (dscE x.d).2 = 0 then (dscE x.d).2 else if isTick x.made = true ∧ isTick x.chg = true then 0 else 2
def nodD (x : PNd) : Int:=if ¬ (frst (stmK x.sts) x.sts.length 0).2 = 0 then (frst (stmK x.sts) x.sts.length 0).2 else nodF x
def nodC (x : PNd) : Int:=if 4 < x.sts.length then 8 else nodD x
def nodB (x : PNd) : Int:=if ¬ x.kind = 1 ∧ (¬ x.data = [] ∨ 0 < x.sts.length) then 3 else nodC x
def nodA (t : List PNd) (n : Nat) (x : PNd) : Int:=if x.kind = 1 ∧ 4 < namesR (treeN t) n then 16 else nodB x
def nodR (t : List PNd) (n : Nat) (x : PNd) : Int:=if x.kind = 3 then 15 else if ¬ ordR (x.ents.map Ent.name) = 0 then 9 else nodA t n x
section
variable {t : List PNd} {n : Nat} {x : PNd}
theorem nodR_k (h : x.kind = 3) : nodR t n x = 15:=if_pos h
theorem nodR_o (h : ¬ x.kind = 3) (h2 : ¬ ordR (x.ents.map Ent.name) = 0) : nodR t n x = 9:=by unfold nodR;rw [if_neg h,if_pos h2]
theorem nodR_a (h : ¬ x.kind = 3) (h2 : ordR (x.ents.map Ent.name) = 0) : nodR t n x = nodA t n x:=by unfold nodR;rw [if_neg h,if_neg (fun c=>c h2)]
theorem nodA_f (h : x.kind = 1) (h2 : 4 < namesR (treeN t) n) : nodA t n x = 16:=if_pos ⟨h,h2⟩
theorem nodA_b (h : ¬ (x.kind = 1 ∧ 4 < namesR (treeN t) n)) : nodA t n x = nodB x:=if_neg h
theorem nodB_3 (h : ¬ x.kind = 1) (h2 : ¬ x.data = [] ∨ 0 < x.sts.length) : nodB x = 3:=if_pos ⟨h,h2⟩
theorem nodB_c (h : ¬ (¬ x.kind = 1 ∧ (¬ x.data = [] ∨ 0 < x.sts.length))) : nodB x = nodC x:=if_neg h
theorem nodC_8 (h : 4 < x.sts.length) : nodC x = 8:=if_pos h
theorem nodC_d (h : ¬ 4 < x.sts.length) : nodC x = nodD x:=if_neg h
theorem nodD_e {e : Int} (h : (frst (stmK x.sts) x.sts.length 0).2 = e) (he : ¬ e = 0) : nodD x = e:=by unfold nodD;rw [h,if_pos he]
theorem nodD_f (h : (frst (stmK x.sts) x.sts.length 0).2 = 0) : nodD x = nodF x:=if_neg (fun c=>c h)
theorem nodF_8 (h : bigR x = true) : nodF x = 8:=if_pos h
theorem nodF_d (h : bigR x = false) (h2 : ¬ (dscE x.d).2 = 0) : nodF x = (dscE x.d).2:=by unfold nodF;rw [if_neg (by rw [h];decide),if_pos h2]
theorem nodF_2 (h : bigR x = false) (h2 : (dscE x.d).2 = 0) (h3 : ¬ (isTick x.made = true ∧ isTick x.chg = true)) : nodF x = 2:=by unfold nodF;rw [if_neg (by rw [h];decide),if_neg (fun c=>c h2),if_neg h3]
theorem nodF_0 (h : bigR x = false) (h2 : (dscE x.d).2 = 0) (h3 : isTick x.made = true) (h4 : isTick x.chg = true) : nodF x = 0:=by unfold nodF;rw [if_neg (by rw [h];decide),if_neg (fun c=>c h2),if_pos ⟨h3,h4⟩]
end
attribute [local irreducible] within dscE frst ordK stmK nameErr fold namesR treeN isTick big Op.bytesLess bigT bigR nodF nodD nodC nodB nodA nodR ordR
theorem c61 (s : Stt) (n : Nat) (x : PNd) (hx : s.nodes[n]? = some x) (hn : s.nodes.length ≤ 20) (hbe : ∀ x ∈ s.nodes,x.ents.length < 2000000) (hte : ∀ x ∈ treeN s.nodes,x.ents.length < 2000000) (hl : x.ents.length < 2000000) (hls : x.sts.length < 2000000) (hnm : ∀ y ∈ x.ents,y.name.length < 2000000) (hsn : ∀ y ∈ x.sts,y.name.length < 2000000) : Fn 61 [s.enc,i n] (i (nodR s.nodes n x)):=by
 refine run_walkF eok Tryz.func61 rfl (by kernel_rfl) ?_
 conv=>whnf
 repeat' (first
 | ((with_reducible refine on_ndec_t (by first | assumption ) ?_);conv=>whnf)
 | ((with_reducible refine on_ndec_f (by assumption) ?_);conv=>whnf)
 | ((with_reducible refine on_dec_f ?_ ?_);(focus ((try simp only [List.length_map,List.length_cons,List.length_nil,List.length_append]);omega));conv=>whnf)
 | ((with_reducible refine on_dec (fun h=>?_) (fun h=>?_))<;>(try simp only [List.length_map] at h)<;>conv=>whnf)
 | ((with_reducible refine on_ndec (fun h=>?_) (fun h=>?_))<;>(try simp only [List.length_map] at h)<;>conv=>whnf)
 | ((with_reducible refine on_not (fun h=>?_) (fun h=>?_))<;>conv=>whnf)
 | ((with_reducible refine onBool_split (fun h=>?_) (fun h=>?_))<;>conv=>whnf)
 | ((with_reducible refine call_go ?_);(first | refine call_step (run_data (xs:=[_]) (c97 _ (hnm _ (List.getElem_mem (by omega)))) _) ?_ | refine call_step (run_data (xs:=[_]) (c97 _ (hsn _ (List.getElem_mem (by omega)))) _) ?_ | refine call_step (run_data (xs:=[_]) (c60 s (by omega) hbe) _) ?_ | refine call_step (run_data (xs:=[_,_]) (c96 (treeN s.nodes) n (by rw [treeN_len];omega) hte) _) ?_ | refine call_step (run_data (xs:=[_]) (c98 _ (hsn _ (List.getElem_mem (by omega)))) _) ?_ | refine call_step (run_view (c99 x.d) rfl (vlc (view_agg (vlc rfl (vlc rfl (vlc rfl (vlc rfl (vlc rfl (vlc rfl vln))))))) vln)) ?_ | refine call_step (run_data (xs:=[_]) (c63 _) _) ?_);conv=>whnf)
 | (refine ⟨[],[(9,7),(13,7)],(by decide +kernel),?_⟩;conv=>whnf)
 | (refine ⟨[],[(12,10),(16,10)],(by decide +kernel),?_⟩;conv=>whnf)
 | ((with_reducible refine loop_go ?_);first | (refine loop1 (fun (k : Nat)=>x.sts.length - k) (fun (k : Nat)=>k ≤ x.sts.length) (fun (k : Nat)=>[(5,.ptr 1 0 0),(9,.d (.bool (bigT x k))),(10,.d (i k))]) (fun (k : Nat)=>[⟨[.d s.enc],3,0⟩,⟨[.d x.enc],13,0⟩]) (0) (by exact Nat.zero_le _) ?_ (fun k C3 hI3 hC3=>?_);(exact ⟨[.old 0,.old 1],rfl,rfl,⟨⟨rfl,rfl,rfl⟩,(by exact congrArg D.bool bigT_0.symm),(by first | exact congrArg (D.int .i64) (by omega) ),trivial⟩,⟨⟨rfl,rfl,.inl ⟨[_],rfl,rfl⟩⟩,⟨rfl,rfl,.inl ⟨[_],rfl,rfl⟩⟩,trivial⟩⟩);all_goals (conv=>whnf)) | (refine loop1 (fun (k : Nat)=>x.sts.length - k) (fun (k : Nat)=>k ≤ x.sts.length ∧ frst (stmK x.sts) x.sts.length 0 = frst (stmK x.sts) x.sts.length k) (fun (k : Nat)=>[(5,.ptr 1 0 0),(7,.d (i k))]) (fun (k : Nat)=>[⟨[.d s.enc],3,0⟩,⟨[.d x.enc],13,0⟩]) (0) (by exact ⟨Nat.zero_le _,rfl⟩) ?_ (fun k C2 hI2 hC2=>?_);(exact ⟨[.old 0,.old 1],rfl,rfl,⟨⟨rfl,rfl,rfl⟩,(by first | exact congrArg (D.int .i64) (by omega) ),trivial⟩,⟨⟨rfl,rfl,.inl ⟨[_],rfl,rfl⟩⟩,⟨rfl,rfl,.inl ⟨[_],rfl,rfl⟩⟩,trivial⟩⟩);all_goals (conv=>whnf)) | (refine loop1 (fun (k : Nat)=>x.ents.length + 1 - k) (fun (k : Nat)=>1 ≤ k ∧ (k ≤ x.ents.length ∨ k = 1) ∧ frst (ordK (x.ents.map Ent.name)) (x.ents.map Ent.name).length 1 = frst (ordK (x.ents.map Ent.name)) (x.ents.map Ent.name).length k) (fun (k : Nat)=>[(1,.d (i n)),(2,.ptr 0 0 0),(5,.ptr 1 0 0),(6,.d (i k))]) (fun (k : Nat)=>[⟨[.d s.enc],3,0⟩,⟨[.d x.enc],13,0⟩]) (1) (by exact ⟨Nat.le_refl _,.inr rfl,rfl⟩) ?_ (fun k C hI hC=>?_);(exact ⟨[.old 0,.old 1],rfl,rfl,⟨(by first | (show (_ : D) = _;with_reducible rfl) ),⟨rfl,rfl,rfl⟩,⟨rfl,rfl,rfl⟩,(by first | exact congrArg (D.int .i64) (by omega) ),trivial⟩,⟨⟨rfl,rfl,.inl ⟨[_],rfl,rfl⟩⟩,⟨rfl,rfl,.inl ⟨[_],rfl,rfl⟩⟩,trivial⟩⟩);all_goals (conv=>whnf)))
 | ((with_reducible show C _ _);first | (refine hC (k + 1) _ _ ?_ (by omega) ?_;clear hC;rotate_left;(exact ⟨[.old 0,.old 1],rfl,rfl,⟨(by first | (show (_ : D) = _;with_reducible rfl) ),⟨rfl,rfl,rfl⟩,⟨rfl,rfl,rfl⟩,(by first | exact congrArg (D.int .i64) (by omega) ),trivial⟩,⟨⟨rfl,rfl,.inl ⟨[_],rfl,rfl⟩⟩,⟨rfl,rfl,.inl ⟨[_],rfl,rfl⟩⟩,trivial⟩⟩);(exact ⟨by omega,.inl (by omega),hI.2.2.trans (frst_n (by rw [List.length_map];omega) (by rw [ordK_at (l:=x.ents) (by omega) (by omega),if_pos (by assumption)]))⟩)))
 | ((with_reducible show C2 _ _);first | (refine hC2 (k + 1) _ _ ?_ (by omega) ?_;clear hC2;rotate_left;(exact ⟨[.old 0,.old 1],rfl,rfl,⟨⟨rfl,rfl,rfl⟩,(by first | exact congrArg (D.int .i64) (by omega) ),trivial⟩,⟨⟨rfl,rfl,.inl ⟨[_],rfl,rfl⟩⟩,⟨rfl,rfl,.inl ⟨[_],rfl,rfl⟩⟩,trivial⟩⟩);(first | exact ⟨by omega,hI2.2.trans (frst_n (by omega) (by rw [stmK_at (by omega),if_pos (by assumption),ordK_at (l:=x.sts) (by omega) (by omega),if_pos (by assumption)]))⟩ | exact ⟨by omega,hI2.2.trans (frst_n (by omega) (by rw [stmK_at (by omega),if_pos (by assumption),show k = 0 by omega];exact ordK_0))⟩)))
 | ((with_reducible show C3 _ _);first | (refine hC3 (k + 1) _ _ ?_ (by omega) ?_;clear hC3;rotate_left;(exact ⟨[.old 0,.old 1],rfl,rfl,⟨⟨rfl,rfl,rfl⟩,(by first | exact congrArg D.bool (bigT_s (by assumption)).symm | exact congrArg D.bool (bigT_n (by omega) (by assumption)).symm),(by first | exact congrArg (D.int .i64) (by omega) ),trivial⟩,⟨⟨rfl,rfl,.inl ⟨[_],rfl,rfl⟩⟩,⟨rfl,rfl,.inl ⟨[_],rfl,rfl⟩⟩,trivial⟩⟩);(exact (by omega))))
 | (refine ix_map (by omega) ?_;conv=>whnf)
 | (refine wrap64 (by omega) ?_;conv=>whnf)
 | (refine ix_px hx ?_;conv=>whnf)
 | (refine ix_at (f:=Ent.enc) (l:=x.ents) (k - 1) (by omega) (by omega) ?_;conv=>whnf)
 | (refine ix_at (f:=Stm.enc) (l:=x.sts) (k - 1) (by omega) (by omega) ?_;conv=>whnf)
 | ((with_reducible refine endx_go ?_);first | (refine endx (congrArg i (Eq.symm ?_));rw [nodR_k (by assumption)];done) | (((have e9:=ordK_at (g:=Ent.name) (l:=x.ents) (k:=k) (by omega) (by omega));rw [if_neg (by rw [show Op.bytesLess _ _ = false by assumption];decide)] at e9;(have e8 : ordR (x.ents.map Ent.name) = 9:=(by unfold ordR;rw [hI.2.2,frst_e (by rw [List.length_map];omega) (by rw [e9];decide),e9]));refine endx (congrArg i (Eq.symm ?_));rw [nodR_o (by assumption) (by rw [e8];decide)]);done) | (refine endx (congrArg i (Eq.symm ?_));rw [nodR_a (by assumption) (by unfold ordR;rw [hI.2.2,frst_end (by rw [List.length_map];omega)]),nodA_f (by assumption) (by omega)];done) | (refine endx (congrArg i (Eq.symm ?_));rw [nodR_a (by assumption) (by unfold ordR;rw [hI.2.2,frst_end (by rw [List.length_map];omega)]),nodA_b (fun c=>by first | exact absurd c.1 (by assumption) | (have:=c.2;omega)),nodB_3 (by assumption) (by first | exact .inl (of_decide_eq_false (by assumption)) | exact .inr (by omega))];done) | (refine endx (congrArg i (Eq.symm ?_));rw [nodR_a (by assumption) (by unfold ordR;rw [hI.2.2,frst_end (by rw [List.length_map];omega)]),nodA_b (fun c=>by first | exact absurd c.1 (by assumption) | (have:=c.2;omega)),nodB_c (fun c=>by first | exact c.1 (by assumption) | (rcases c.2 with q | q;exact q (of_decide_eq_true (by assumption));omega)),nodC_8 (by omega)];done) | (((have e9:=stmK_at (l:=x.sts) (k:=k) (by omega));rw [if_neg (by assumption)] at e9;(have e8:=hI2.2.trans (frst_e (by omega) (by rw [e9];assumption)));refine endx (congrArg i (Eq.symm ?_));rw [nodR_a (by assumption) (by unfold ordR;rw [hI.2.2,frst_end (by rw [List.length_map];omega)]),nodA_b (fun c=>by first | exact absurd c.1 (by assumption) | (have:=c.2;omega)),nodB_c (fun c=>by first | exact c.1 (by assumption) | (rcases c.2 with q | q;exact q (of_decide_eq_true (by assumption));omega)),nodC_d (by omega),nodD_e (by rw [e8,e9]) (by assumption)]);done) | (((have e9:=stmK_at (l:=x.sts) (k:=k) (by omega));rw [if_pos (show nameErr _ = 0 by assumption),ordK_at (g:=Stm.name) (l:=x.sts) (by omega) (by omega),if_neg (by rw [show Op.bytesLess _ _ = false by assumption];decide)] at e9;(have e8:=hI2.2.trans (frst_e (by omega) (by rw [e9];decide)));refine endx (congrArg i (Eq.symm ?_));rw [nodR_a (by assumption) (by unfold ordR;rw [hI.2.2,frst_end (by rw [List.length_map];omega)]),nodA_b (fun c=>by first | exact absurd c.1 (by assumption) | (have:=c.2;omega)),nodB_c (fun c=>by first | exact c.1 (by assumption) | (rcases c.2 with q | q;exact q (of_decide_eq_true (by assumption));omega)),nodC_d (by omega),nodD_e (e:=9) (by rw [e8,e9]) (by decide)]);done) | (refine endx (congrArg i (Eq.symm ?_));rw [nodR_a (by assumption) (by unfold ordR;rw [hI.2.2,frst_end (by rw [List.length_map];omega)]),nodA_b (fun c=>by first | exact absurd c.1 (by assumption) | (have:=c.2;omega)),nodB_c (fun c=>by first | exact c.1 (by assumption) | (rcases c.2 with q | q;exact q (of_decide_eq_true (by assumption));omega)),nodC_d (by omega),nodD_f (by rw [hI2.2,frst_end (by omega)]),nodF_8 (by rw [← bigT_e (by omega : x.sts.length ≤ k)];assumption)];done) | (refine endx (congrArg i (Eq.symm ?_));rw [nodR_a (by assumption) (by unfold ordR;rw [hI.2.2,frst_end (by rw [List.length_map];omega)]),nodA_b (fun c=>by first | exact absurd c.1 (by assumption) | (have:=c.2;omega)),nodB_c (fun c=>by first | exact c.1 (by assumption) | (rcases c.2 with q | q;exact q (of_decide_eq_true (by assumption));omega)),nodC_d (by omega),nodD_f (by rw [hI2.2,frst_end (by omega)]),nodF_d (by rw [← bigT_e (by omega : x.sts.length ≤ k)];assumption) (by assumption)];done) | (refine endx (congrArg i (Eq.symm ?_));rw [nodR_a (by assumption) (by unfold ordR;rw [hI.2.2,frst_end (by rw [List.length_map];omega)]),nodA_b (fun c=>by first | exact absurd c.1 (by assumption) | (have:=c.2;omega)),nodB_c (fun c=>by first | exact c.1 (by assumption) | (rcases c.2 with q | q;exact q (of_decide_eq_true (by assumption));omega)),nodC_d (by omega),nodD_f (by rw [hI2.2,frst_end (by omega)]),nodF_2 (by rw [← bigT_e (by omega : x.sts.length ≤ k)];assumption) (by assumption) (fun c=>by first | (have:=c.1;simp_all;done) | (have:=c.2;simp_all;done))];done) | (refine endx (congrArg i (Eq.symm ?_));rw [nodR_a (by assumption) (by unfold ordR;rw [hI.2.2,frst_end (by rw [List.length_map];omega)]),nodA_b (fun c=>by first | exact absurd c.1 (by assumption) | (have:=c.2;omega)),nodB_c (fun c=>by first | exact c.1 (by assumption) | (rcases c.2 with q | q;exact q (of_decide_eq_true (by assumption));omega)),nodC_d (by omega),nodD_f (by rw [hI2.2,frst_end (by omega)]),nodF_0 (by rw [← bigT_e (by omega : x.sts.length ≤ k)];assumption) (by assumption) (by assumption) (by assumption)];done))
 | (refine ⟨rfl,?_⟩;conv=>whnf)
  | fail
  )
end Go.Proofs.YtkmhnaojgkcjoaaGreatDoor
namespace Go.Proofs.YtkmhnaojgkcjoaaGreatDoor
open Go Dw
set_option maxRecDepth 10000
attribute [local irreducible] Run
set_option maxHeartbeats 1000000
open Paths
structure Sb (s : Stt) : Prop where
 el : ∀ x ∈ s.nodes,x.ents.length < 2000000
 nl : ∀ x ∈ s.nodes,∀ y ∈ x.ents,y.name.length < 2000000
 sl : ∀ x ∈ s.nodes,x.sts.length < 2000000
 sn : ∀ x ∈ s.nodes,∀ y ∈ x.sts,y.name.length < 2000000
 sd : ∀ x ∈ s.nodes,∀ k,x.data.length + sumS (x.sts.take k) < 2000000
 al : ∀ k,allN (s.nodes.take k) < 50000000
 ll : s.lims.length < 2000000
theorem Sb.tr {s : Stt} (B : Sb s) : ∀ x ∈ treeN s.nodes,x.ents.length < 2000000 ∧ ∀ y ∈ x.ents,y.name.length < 2000000:=by
 intro x hx
 unfold treeN at hx
 obtain ⟨y,hy,rfl⟩:=List.mem_map.1 hx
 exact ⟨B.el y hy,B.nl y hy⟩
def nodK (t : List PNd) (k : Nat) : Int:=match t[k]? with
 | some x=>nodR t k x
 | none=>0
theorem nodK_at {t : List PNd} {k : Nat} (h : k < t.length) : nodK t k = nodR t k t[k]:=by unfold nodK;rw [List.getElem?_eq_getElem h]
def limK (l : List Lmt) (k : Nat) : Int:=match l[k]? with
 | some x=>if isWho x.who = true ∧ within x.lim 0 8192 = true then (if k = 0 then 0 else match l[k - 1]? with
  | some y=>if x.who ≤ y.who then 9 else 0
  | none=>0) else 2
 | none=>0
theorem limK_2 {l : List Lmt} {k : Nat} (h : k < l.length) (h2 : ¬ (isWho l[k].who = true ∧ within l[k].lim 0 8192 = true)) : limK l k = 2:=by
 unfold limK
 rw [List.getElem?_eq_getElem h]
 exact if_neg h2
theorem limK_0 {l : List Lmt} {k : Nat} (h : k < l.length) (h2 : isWho l[k].who = true) (h3 : within l[k].lim 0 8192 = true) (h4 : k = 0) : limK l k = 0:=by
 unfold limK
 rw [List.getElem?_eq_getElem h]
 simp only [if_pos (And.intro h2 h3),if_pos h4]
theorem limK_n {l : List Lmt} {k : Nat} (h : k < l.length) (h2 : isWho l[k].who = true) (h3 : within l[k].lim 0 8192 = true) (h4 : 0 < k) : limK l k = if l[k].who ≤ (l[k - 1]'(by omega)).who then 9 else 0:=by
 unfold limK
 rw [List.getElem?_eq_getElem h,List.getElem?_eq_getElem (by omega : k - 1 < l.length)]
 simp only [if_pos (And.intro h2 h3),if_neg (show ¬ k = 0 by omega)]
def chkC (s : Stt) : Int × Int:=if (frst (limK s.lims) s.lims.length 0).2 = 0 then (if isTick s.tick = true then (0,0) else (0,2)) else (0,(frst (limK s.lims) s.lims.length 0).2)
def chkB (s : Stt) : Int × Int:=if 8192 < allN s.nodes ∨ 10 < s.lims.length then (0,8) else chkC s
def chkA (s : Stt) : Int × Int:=if (frst (nodK s.nodes) s.nodes.length 0).2 = 0 then chkB s else frst (nodK s.nodes) s.nodes.length 0
def chkS (s : Stt) : Int × Int:=if 20 < s.nodes.length then (0,8) else if (checkT (treeN s.nodes)).2 = 0 then chkA s else checkT (treeN s.nodes)
section
variable {s : Stt}
theorem chkS_8 (h : 20 < s.nodes.length) : chkS s = (0,8):=if_pos h
theorem chkS_t (h : ¬ 20 < s.nodes.length) (h2 : ¬ (checkT (treeN s.nodes)).2 = 0) : chkS s = ((checkT (treeN s.nodes)).1,(checkT (treeN s.nodes)).2):=by unfold chkS;rw [if_neg h,if_neg h2]
theorem chkS_a (h : ¬ 20 < s.nodes.length) (h2 : (checkT (treeN s.nodes)).2 = 0) : chkS s = chkA s:=by unfold chkS;rw [if_neg h,if_pos h2]
theorem chkA_e {p : Int × Int} (h : frst (nodK s.nodes) s.nodes.length 0 = p) (h2 : ¬ p.2 = 0) : chkA s = p:=by unfold chkA;rw [h,if_neg h2]
theorem chkA_b (h : frst (nodK s.nodes) s.nodes.length 0 = (0,0)) : chkA s = chkB s:=by unfold chkA;rw [h];rfl
theorem chkB_8 (h : 8192 < allN s.nodes ∨ 10 < s.lims.length) : chkB s = (0,8):=if_pos h
theorem chkB_c (h : ¬ (8192 < allN s.nodes ∨ 10 < s.lims.length)) : chkB s = chkC s:=if_neg h
theorem chkC_e {e : Int} (h : (frst (limK s.lims) s.lims.length 0).2 = e) (h2 : ¬ e = 0) : chkC s = (0,e):=by unfold chkC;rw [h,if_neg h2]
theorem chkC_2 (h : (frst (limK s.lims) s.lims.length 0).2 = 0) (h2 : isTick s.tick = false) : chkC s = (0,2):=by unfold chkC;rw [if_pos h,if_neg (by rw [h2];decide)]
theorem chkC_0 (h : (frst (limK s.lims) s.lims.length 0).2 = 0) (h2 : isTick s.tick = true) : chkC s = (0,0):=by unfold chkC;rw [if_pos h,if_pos h2]
end
attribute [local irreducible] within frst treeN isTick isWho nodK limK allN checkT chkS chkA chkB chkC nodR
theorem c37 (s : Stt) (B : Sb s) : Fn 37 [s.enc] (.tup [i (chkS s).1,i (chkS s).2]):=by
 have hbe:=B.el;have hbt:=B.tr
 refine run_walkF eok Tryz.func37 rfl (by kernel_rfl) ?_
 conv=>whnf
 repeat' (first
 | ((with_reducible refine on_dec (fun h=>?_) (fun h=>?_))<;>(try simp only [List.length_map] at h)<;>conv=>whnf)
 | ((with_reducible refine on_ndec (fun h=>?_) (fun h=>?_))<;>(try simp only [List.length_map] at h)<;>conv=>whnf)
 | ((with_reducible refine on_not (fun h=>?_) (fun h=>?_))<;>conv=>whnf)
 | ((with_reducible refine call_go ?_);(first | refine call_step (run_data (xs:=[_]) (c60 s (by omega) hbe) _) ?_ | refine call_step (run_data (xs:=[_]) (c59 (treeN s.nodes) hbt) _) ?_ | refine call_step (run_data (xs:=[_,_]) (c61 s k (s.nodes[k]'(by omega)) (List.getElem?_eq_getElem _) (by omega) hbe (fun y hy=>(hbt y hy).1) (hbe _ (List.getElem_mem _)) (B.sl _ (List.getElem_mem _)) (B.nl _ (List.getElem_mem _)) (B.sn _ (List.getElem_mem _))) _) ?_ | refine call_step (run_data (xs:=[_]) (c11 s (by omega) B.sd B.sl B.al) _) ?_ | refine call_step (run_data (xs:=[_]) (c62 _) _) ?_ | refine call_step (run_data (xs:=[_,_,_]) (c17 _ _ _) _) ?_ | refine call_step (run_data (xs:=[_]) (c63 _) _) ?_);conv=>whnf)
 | (refine ⟨[],[],(by decide +kernel),?_⟩;conv=>whnf)
 | ((with_reducible refine loop_go ?_);first | (refine loop1 (fun (k : Nat)=>s.lims.length - k) (fun (k : Nat)=>k ≤ s.lims.length ∧ frst (limK s.lims) s.lims.length 0 = frst (limK s.lims) s.lims.length k) (fun (k : Nat)=>[(1,.ptr 0 0 0),(8,.d (i k))]) (fun (k : Nat)=>[⟨[.d s.enc],3,0⟩]) (0) (by exact ⟨Nat.zero_le _,rfl⟩) ?_ (fun k C2 hI2 hC2=>?_);(exact ⟨[.old 0],rfl,rfl,⟨⟨rfl,rfl,rfl⟩,(by first | exact congrArg (D.int .i64) (by omega) ),trivial⟩,⟨⟨rfl,rfl,.inl ⟨[_],rfl,rfl⟩⟩,trivial⟩⟩);all_goals (conv=>whnf)) | (refine loop1 (fun (k : Nat)=>s.nodes.length - k) (fun (k : Nat)=>k ≤ s.nodes.length ∧ frst (nodK s.nodes) s.nodes.length 0 = frst (nodK s.nodes) s.nodes.length k) (fun (k : Nat)=>[(1,.ptr 0 0 0),(6,.d (i k))]) (fun (k : Nat)=>[⟨[.d s.enc],3,0⟩]) (0) (by exact ⟨Nat.zero_le _,rfl⟩) ?_ (fun k C hI hC=>?_);(exact ⟨[.old 0],rfl,rfl,⟨⟨rfl,rfl,rfl⟩,(by first | exact congrArg (D.int .i64) (by omega) ),trivial⟩,⟨⟨rfl,rfl,.inl ⟨[_],rfl,rfl⟩⟩,trivial⟩⟩);all_goals (conv=>whnf)))
 | ((with_reducible show C _ _);first | (refine hC (k + 1) _ _ ?_ (by omega) ?_;clear hC;rotate_left;(exact ⟨[.old 0],rfl,rfl,⟨⟨rfl,rfl,rfl⟩,(by first | exact congrArg (D.int .i64) (by omega) ),trivial⟩,⟨⟨rfl,rfl,.inl ⟨[_],rfl,rfl⟩⟩,trivial⟩⟩);(exact ⟨by omega,hI.2.trans (frst_n (by omega) (by rw [nodK_at (by omega)];assumption))⟩)))
 | ((with_reducible show C2 _ _);first | (refine hC2 (k + 1) _ _ ?_ (by omega) ?_;clear hC2;rotate_left;(exact ⟨[.old 0],rfl,rfl,⟨⟨rfl,rfl,rfl⟩,(by first | exact congrArg (D.int .i64) (by omega) ),trivial⟩,⟨⟨rfl,rfl,.inl ⟨[_],rfl,rfl⟩⟩,trivial⟩⟩);(first | exact ⟨by omega,hI2.2.trans (frst_n (by omega) (limK_0 (by omega) (by assumption) (by assumption) (by omega)))⟩ | exact ⟨by omega,hI2.2.trans (frst_n (by omega) (by rw [limK_n (by omega) (by assumption) (by assumption) (by omega),if_neg (by omega)]))⟩)))
 | (refine ix_map (by omega) ?_;conv=>whnf)
 | (refine wrap64 (by omega) ?_;conv=>whnf)
 | (refine ix_at (f:=Lmt.enc) (l:=s.lims) (k - 1) (by omega) (by omega) ?_;conv=>whnf)
 | ((with_reducible refine endx_go ?_);first | ((rw [tup_of (chkS_8 (by omega))];exact endxv (view_tup (vlc rfl (vlc rfl vln))) rfl);done) | ((rw [tup_of (chkS_t (by omega) (by assumption))];exact endxv (view_tup (vlc rfl (vlc rfl vln))) rfl);done) | ((rw [tup_of ((chkS_a (by omega) (by assumption)).trans (chkA_e (p:=((k : Int),nodR s.nodes k (s.nodes[k]'(by omega)))) (hI.2.trans ((frst_e (by omega) (by rw [nodK_at (by omega)];assumption)).trans (by rw [nodK_at (by omega)]))) (by assumption)))];exact endxv (view_tup (vlc rfl (vlc rfl vln))) rfl);done) | ((rw [tup_of ((chkS_a (by omega) (by assumption)).trans ((chkA_b (hI.2.trans (frst_end (by omega)))).trans (chkB_8 (by omega))))];exact endxv (view_tup (vlc rfl (vlc rfl vln))) rfl);done) | ((rw [tup_of ((chkS_a (by omega) (by assumption)).trans ((chkA_b (hI.2.trans (frst_end (by omega)))).trans ((chkB_c (by omega)).trans (chkC_e (e:=2) (by rw [hI2.2,frst_e (by omega) (by rw [limK_2 (by omega) (fun c=>by first | (have:=c.1;simp_all;done) | (have:=c.2;simp_all;done))];decide),limK_2 (by omega) (fun c=>by first | (have:=c.1;simp_all;done) | (have:=c.2;simp_all;done))]) (by decide)))))];exact endxv (view_tup (vlc rfl (vlc rfl vln))) rfl);done) | ((rw [tup_of ((chkS_a (by omega) (by assumption)).trans ((chkA_b (hI.2.trans (frst_end (by omega)))).trans ((chkB_c (by omega)).trans (chkC_e (e:=9) (by have e9:=limK_n (l:=s.lims) (k:=k) (by omega) (by assumption) (by assumption) (by omega);rw [if_pos (by omega)] at e9;rw [hI2.2,frst_e (by omega) (by rw [e9];decide),e9]) (by decide)))))];exact endxv (view_tup (vlc rfl (vlc rfl vln))) rfl);done) | ((rw [tup_of ((chkS_a (by omega) (by assumption)).trans ((chkA_b (hI.2.trans (frst_end (by omega)))).trans ((chkB_c (by omega)).trans (chkC_2 (by rw [hI2.2,frst_end (by omega)]) (by assumption)))))];exact endxv (view_tup (vlc rfl (vlc rfl vln))) rfl);done) | ((rw [tup_of ((chkS_a (by omega) (by assumption)).trans ((chkA_b (hI.2.trans (frst_end (by omega)))).trans ((chkB_c (by omega)).trans (chkC_0 (by rw [hI2.2,frst_end (by omega)]) (by assumption)))))];exact endxv (view_tup (vlc rfl (vlc rfl vln))) rfl);done))
  | fail
  )
theorem c16 (s : Stt) (B : Sb s) : Fn 16 [s.enc] (i (chkS s).2):=by
 refine run_walkF eok Tryz.func16 rfl (by kernel_rfl) ?_
 conv=>whnf
 repeat' (first
 | ((with_reducible refine call_go ?_);(first | refine call_step (run_data (xs:=[_]) (c37 s B) _) ?_);conv=>whnf)
 | ((with_reducible refine endx_go ?_);first | (exact endx rfl;done))
  | fail
  )
def smallB (s : Stt) : Bool:=decide ((chkS s).2 = 0) && s.nodes.all (fun x=>decide (x.data.length ≤ 400))
end Go.Proofs.YtkmhnaojgkcjoaaGreatDoor
namespace Go.Proofs.YtkmhnaojgkcjoaaGreatDoor
open Go Dw
set_option maxRecDepth 10000
attribute [local irreducible] Run
set_option maxHeartbeats 1000000
theorem small_e {s : Stt} (h : ¬ (chkS s).2 = 0) : smallB s = false:=by unfold smallB;rw [decide_eq_false h];rfl
theorem small_8 {s : Stt} (h : 20 < s.nodes.length) : smallB s = false:=small_e (by rw [chkS_8 h];decide)
theorem small_n {s : Stt} {k : Nat} (hk : k < s.nodes.length) (h : ¬ s.nodes[k].data.length ≤ 400) : smallB s = false:=by
 unfold smallB
 rw [Bool.and_eq_false_iff]
 right
 rw [List.all_eq_false]
 exact ⟨_,List.getElem_mem hk,by simpa using h⟩
theorem small_t {s : Stt} (h : (chkS s).2 = 0) {k : Nat} (hk : s.nodes.length ≤ k) (h2 : ∀ j (hj : j < s.nodes.length),j < k → s.nodes[j].data.length ≤ 400) : smallB s = true:=by
 unfold smallB
 rw [decide_eq_true h,Bool.true_and,List.all_eq_true]
 intro x hx
 obtain ⟨j,hj,rfl⟩:=List.mem_iff_getElem.1 hx
 exact decide_eq_true (h2 j hj (by omega))
attribute [local irreducible] chkS smallB
theorem c5 (s : Stt) (B : Sb s) : Fn 5 [s.enc] (.bool (smallB s)):=by
 refine run_walkF eok Tryz.func5 rfl (by kernel_rfl) ?_
 conv=>whnf
 repeat' (first
 | ((with_reducible refine on_dec (fun h=>?_) (fun h=>?_))<;>(try simp only [List.length_map] at h)<;>conv=>whnf)
 | ((with_reducible refine on_ndec (fun h=>?_) (fun h=>?_))<;>(try simp only [List.length_map] at h)<;>conv=>whnf)
 | ((with_reducible refine call_go ?_);(first | refine call_step (run_data (xs:=[_]) (c16 s B) _) ?_);conv=>whnf)
 | ((with_reducible refine loop_go ?_);first | (refine loop1 (fun (k : Nat)=>s.nodes.length - k) (fun (k : Nat)=>k ≤ s.nodes.length ∧ ∀ j (hj : j < s.nodes.length),j < k → s.nodes[j].data.length ≤ 400) (fun (k : Nat)=>[(1,.ptr 0 0 0),(3,.d (i k))]) (fun (k : Nat)=>[⟨[.d s.enc],3,0⟩]) (0) (by exact ⟨Nat.zero_le _,fun j hj h=>absurd h (Nat.not_lt_zero _)⟩) ?_ (fun k C hI hC=>?_);(exact ⟨[.old 0],rfl,rfl,⟨⟨rfl,rfl,rfl⟩,(by first | exact congrArg (D.int .i64) (by omega) ),trivial⟩,⟨⟨rfl,rfl,.inl ⟨[_],rfl,rfl⟩⟩,trivial⟩⟩);all_goals (conv=>whnf)))
 | ((with_reducible show C _ _);first | (refine hC (k + 1) _ _ ?_ (by omega) ?_;clear hC;rotate_left;(exact ⟨[.old 0],rfl,rfl,⟨⟨rfl,rfl,rfl⟩,(by first | exact congrArg (D.int .i64) (by omega) ),trivial⟩,⟨⟨rfl,rfl,.inl ⟨[_],rfl,rfl⟩⟩,trivial⟩⟩);(exact ⟨by omega,fun j hj h=>if e : j < k then hI.2 j hj e else by (have : j = k:=by omega);subst this;omega⟩)))
 | (refine ix_map (by omega) ?_;conv=>whnf)
 | (refine wrap64 (by omega) ?_;conv=>whnf)
 | ((with_reducible refine endx_go ?_);first | (exact endx (congrArg D.bool (small_8 (by omega)).symm);done) | (exact endx (congrArg D.bool (small_e (by assumption)).symm);done) | (exact endx (congrArg D.bool (small_n (k:=k) (by omega) (by omega)).symm);done) | (exact endx (congrArg D.bool (small_t (by assumption) (k:=k) (by omega) hI.2).symm);done))
  | fail
  )
end Go.Proofs.YtkmhnaojgkcjoaaGreatDoor
namespace Go.Proofs.YtkmhnaojgkcjoaaGreatDoor
open Go Dw
set_option maxRecDepth 10000
attribute [local irreducible] Run
theorem cl75 (l : List D) (hl : l.length < 2000000) (hk : ∀ y ∈ l,y.cells.length = 2 ∧ y.memOk = true) : Run Tryz.prog 75 [.d (.fs l)] [] (.d (.fs l)) []:=by
 cases l with
 | nil=>
  refine run_rawE fun a c=>?_
  cases a<;>(refine run_walkF eok Tryz.func75 rfl (by kernel_rfl) ?_;conv=>whnf)
  ·exact endxv rfl rfl
  ·refine ⟨by decide,?_⟩;conv=>whnf
   exact endxv rfl rfl
 | cons x l=>
  refine run_walkF eok Tryz.func75 rfl (by kernel_rfl) ?_
  conv=>whnf
  refine ⟨hk,?_⟩;conv=>whnf
  refine ⟨cap_ok (by simp only [List.length_map];omega) rfl,?_⟩;conv=>whnf
  exact endxv (view_new rfl (by decide)) rfl
theorem c75 (l : List Ent) (hl : l.length < 2000000) : Fn 75 [.fs (l.map Ent.enc)] (.fs (l.map Ent.enc)):=
 cl75 _ (by rw [List.length_map];exact hl) (fun y hy=>by obtain ⟨x,_,rfl⟩:=List.mem_map.1 hy;exact ⟨rfl,rfl⟩)
theorem cl76 (l : List D) (hl : l.length < 2000000) (hk : ∀ y ∈ l,y.cells.length = 2 ∧ y.memOk = true) : Run Tryz.prog 76 [.d (.fs l)] [] (.d (.fs l)) []:=by
 cases l with
 | nil=>
  refine run_rawE fun a c=>?_
  cases a<;>(refine run_walkF eok Tryz.func76 rfl (by kernel_rfl) ?_;conv=>whnf)
  ·exact endxv rfl rfl
  ·refine ⟨by decide,?_⟩;conv=>whnf
   exact endxv rfl rfl
 | cons x l=>
  refine run_walkF eok Tryz.func76 rfl (by kernel_rfl) ?_
  conv=>whnf
  refine ⟨hk,?_⟩;conv=>whnf
  refine ⟨cap_ok (by simp only [List.length_map];omega) rfl,?_⟩;conv=>whnf
  exact endxv (view_new rfl (by decide)) rfl
theorem c76 (l : List Stm) (hl : l.length < 2000000) : Fn 76 [.fs (l.map Stm.enc)] (.fs (l.map Stm.enc)):=
 cl76 _ (by rw [List.length_map];exact hl) (fun y hy=>by obtain ⟨x,_,rfl⟩:=List.mem_map.1 hy;exact ⟨rfl,rfl⟩)
theorem cl74 (l : List D) (hl : l.length < 2000000) (hk : ∀ y ∈ l,y.cells.length = 2 ∧ y.memOk = true) : Run Tryz.prog 74 [.d (.fs l)] [] (.d (.fs l)) []:=by
 cases l with
 | nil=>
  refine run_rawE fun a c=>?_
  cases a<;>(refine run_walkF eok Tryz.func74 rfl (by kernel_rfl) ?_;conv=>whnf)
  ·exact endxv rfl rfl
  ·refine ⟨by decide,?_⟩;conv=>whnf
   exact endxv rfl rfl
 | cons x l=>
  refine run_walkF eok Tryz.func74 rfl (by kernel_rfl) ?_
  conv=>whnf
  refine ⟨hk,?_⟩;conv=>whnf
  refine ⟨cap_ok (by simp only [List.length_map];omega) rfl,?_⟩;conv=>whnf
  exact endxv (view_new rfl (by decide)) rfl
theorem c74 (l : List Lmt) (hl : l.length < 2000000) : Fn 74 [.fs (l.map Lmt.enc)] (.fs (l.map Lmt.enc)):=
 cl74 _ (by rw [List.length_map];exact hl) (fun y hy=>by obtain ⟨x,_,rfl⟩:=List.mem_map.1 hy;exact ⟨rfl,rfl⟩)
theorem cl128 (l : List D) (hl : l.length < 2000000) (hk : ∀ y ∈ l,y.cells.length = 4 ∧ y.memOk = true) : Run Tryz.prog 128 [.d (.fs l)] [] (.d (.fs l)) []:=by
 cases l with
 | nil=>
  refine run_rawE fun a c=>?_
  cases a<;>(refine run_walkF eok Tryz.func128 rfl (by kernel_rfl) ?_;conv=>whnf)
  ·exact endxv rfl rfl
  ·refine ⟨by decide,?_⟩;conv=>whnf
   exact endxv rfl rfl
 | cons x l=>
  refine run_walkF eok Tryz.func128 rfl (by kernel_rfl) ?_
  conv=>whnf
  refine ⟨hk,?_⟩;conv=>whnf
  refine ⟨cap_ok (by simp only [List.length_map];omega) rfl,?_⟩;conv=>whnf
  exact endxv (view_new rfl (by decide)) rfl
theorem c128 (l : List Ace) (hl : l.length < 2000000) : Fn 128 [.fs (l.map Ace.enc)] (.fs (l.map Ace.enc)):=
 cl128 _ (by rw [List.length_map];exact hl) (fun y hy=>by obtain ⟨x,_,rfl⟩:=List.mem_map.1 hy;exact ⟨rfl,rfl⟩)
end Go.Proofs.YtkmhnaojgkcjoaaGreatDoor
namespace Go.Proofs.YtkmhnaojgkcjoaaGreatDoor
open Go Dw
set_option maxRecDepth 10000
attribute [local irreducible] Run
set_option maxHeartbeats 1000000
open Paths
theorem tree_take {s : List PNd} {k : Nat} (h : k < s.length) : (treeN s).take k ++ [nd1 s[k]] = (treeN s).take (k + 1):=by
 have hk : k < (treeN s).length:=by rw [treeN_len];exact h
 have e : (treeN s)[k] = nd1 s[k]:=by
  have:=treeN_at h
  rw [List.getElem?_eq_getElem hk] at this
  exact Option.some.inj this
 rw [List.take_succ_eq_append_getElem hk,e]
attribute [local irreducible] fold nameErr treeN
theorem c45 (n lo hi : Int) : Fn 45 [i n,i lo,i hi] (.bool (within n lo hi)):=by
 refine run_walkF eok Tryz.func45 rfl (by kernel_rfl) ?_
 conv=>whnf
 repeat' (first
 | ((with_reducible refine on_dec (fun h=>?_) (fun h=>?_))<;>(try simp only [List.length_map] at h)<;>conv=>whnf)
 | ((with_reducible refine endx_go ?_);first | (exact endx (congrArg D.bool (by simp [h,within]));done) )
  | fail
  )
theorem c27 (b : Bool) (e : Int) : Fn 27 [.bool b,i e] (i (if b then 0 else e)):=by
 refine run_walkF eok Tryz.func27 rfl (by kernel_rfl) ?_
 conv=>whnf
 repeat' (first
 | ((with_reducible refine onBool_split (fun h=>?_) (fun h=>?_))<;>conv=>whnf)
 | ((with_reducible refine endx_go ?_);first | (exact endx (by simp_all);done))
  | fail
  )
theorem c26 (l : List Int) (hl : l.length < 2000000) : Fn 26 [.fs (l.map i)] (i (firstE l)):=by
 refine run_walkF eok Tryz.func26 rfl (by kernel_rfl) ?_
 conv=>whnf
 repeat' (first
 | ((with_reducible refine on_dec (fun h=>?_) (fun h=>?_))<;>(try simp only [List.length_map] at h)<;>conv=>whnf)
 | ((with_reducible refine on_ndec (fun h=>?_) (fun h=>?_))<;>(try simp only [List.length_map] at h)<;>conv=>whnf)
 | ((with_reducible refine loop_go ?_);first | (refine loop1 (fun (k : Nat)=>l.length - k) (fun (k : Nat)=>k ≤ l.length ∧ firstE l = firstE (l.drop k)) (fun (k : Nat)=>[(5,.d (.fs (l.map i))),(6,.d (i l.length)),(7,.d (i k))]) (fun (k : Nat)=>[]) (0) (by exact ⟨Nat.zero_le _,rfl⟩) ?_ (fun k C hI hC=>?_);(exact ⟨[],rfl,rfl,⟨(by first | (show (_ : D) = _;with_reducible rfl) ),(by first | exact congrArg (D.int .i64) (by simp only [List.length_map]) ),(by first | exact congrArg (D.int .i64) (by omega) ),trivial⟩,trivial⟩);all_goals (conv=>whnf)))
 | ((with_reducible show C _ _);first | (refine hC (k + 1) _ _ ?_ (by omega) ?_;clear hC;rotate_left;(exact ⟨[],rfl,rfl,⟨(by first | (show (_ : D) = _;with_reducible rfl) ),(by first | (show (_ : D) = _;with_reducible rfl) ),(by first | exact congrArg (D.int .i64) (by omega) ),trivial⟩,trivial⟩);(exact ⟨by omega,by rw [hI.2,List.drop_eq_getElem_cons (by omega),firstE_cons,if_pos (by assumption)]⟩)))
 | (refine ix_map (by omega) ?_;conv=>whnf)
 | (refine wrap64 (by omega) ?_;conv=>whnf)
 | ((with_reducible refine endx_go ?_);first | (refine endx (congrArg i ?_);rw [hI.2,List.drop_eq_nil_of_le (by omega)];rfl;done) | (refine endx (congrArg i ?_);rw [hI.2,List.drop_eq_getElem_cons (by omega),firstE_cons,if_neg (by assumption)];done))
  | fail
  )
attribute [local irreducible] within
theorem c28 (n : Int) : Fn 28 [i n] (.bool (isWho n)):=by
 refine run_walkF eok Tryz.func28 rfl (by kernel_rfl) ?_
 conv=>whnf
 repeat' (first
 | ((with_reducible refine onBool_split (fun h=>?_) (fun h=>?_))<;>conv=>whnf)
 | ((with_reducible refine call_go ?_);(first | refine call_step (run_data (xs:=[_,_,_]) (c45 _ _ _) _) ?_);conv=>whnf)
 | ((with_reducible refine endx_go ?_);first | (exact endx (congrArg D.bool (by simp_all [isWho,isUser]));done))
  | fail
  )
theorem c120 (s : Bs) (hs : s.length < 2000000) (h0 : nameErr s = 0) : Fn 120 [.str s] (.str (fold s)):=by
 refine run_walkF eok Tryz.func120 rfl (by kernel_rfl) ?_
 conv=>whnf
 repeat' (first
 | ((with_reducible refine call_go ?_);(first | refine call_step (run_data (xs:=[_]) (c164 s hs h0) _) ?_);conv=>whnf)
 | ((with_reducible refine endx_go ?_);first | (exact endx rfl;done))
  | fail
  )
theorem c78 (x : PNd) (hs : ∀ k,x.data.length + sumS (x.sts.take k) < 2000000) (hl : x.sts.length < 2000000) : Fn 78 [x.enc] (i (bytesN x : Nat)):=by
 refine run_walkF eok Tryz.func78 rfl (by kernel_rfl) ?_
 conv=>whnf
 repeat' (first
 | ((with_reducible refine on_dec (fun h=>?_) (fun h=>?_))<;>(try simp only [List.length_map] at h)<;>conv=>whnf)
 | ((with_reducible refine loop_go ?_);first | (refine loop1 (fun (k : Nat)=>x.sts.length - k) (fun (k : Nat)=>k ≤ x.sts.length) (fun (k : Nat)=>[(3,.d (i ((x.data.length + sumS (x.sts.take k) : Nat) : Int))),(10,.d (.fs (x.sts.map Stm.enc))),(11,.d (i x.sts.length)),(12,.d (i k))]) (fun (k : Nat)=>[]) (0) (by exact Nat.zero_le _) ?_ (fun k C hI hC=>?_);(exact ⟨[],rfl,rfl,⟨(congrArg (D.int .i64) (by simp [sumS])),(by first | (show (_ : D) = _;with_reducible rfl) ),(by first | exact congrArg (D.int .i64) (by simp only [List.length_map]) ),(by first | exact congrArg (D.int .i64) (by omega) ),trivial⟩,trivial⟩);all_goals (conv=>whnf)))
 | ((with_reducible show C _ _);first | (refine hC (k + 1) _ _ ?_ (by omega) ?_;clear hC;rotate_left;(exact ⟨[],rfl,rfl,⟨(congrArg (D.int .i64) (by have:=sumS_take (l:=x.sts) (k:=k) (by omega);omega)),(by first | (show (_ : D) = _;with_reducible rfl) ),(by first | (show (_ : D) = _;with_reducible rfl) ),(by first | exact congrArg (D.int .i64) (by omega) ),trivial⟩,trivial⟩);(exact (by omega))))
 | (refine ix_map (by omega) ?_;conv=>whnf)
 | (refine wrap64 (by omega) ?_;conv=>whnf)
 | (refine wrap64 (by have h1:=hs k;have h2:=hs (k + 1);have h3:=sumS_take (l:=x.sts) (k:=k) (by omega);omega) ?_;conv=>whnf)
 | ((with_reducible refine endx_go ?_);first | (refine endx (congrArg i ?_);unfold bytesN;rw [sumS_all (by omega)];done))
  | fail
  )
theorem c68 (s : Stt) (hl : s.nodes.length < 2000000) (hbe : ∀ x ∈ s.nodes,x.ents.length < 2000000) : Fn 68 [.fp s.enc 0] (treeD (treeN s.nodes)):=by
 refine run_walkF eok Tryz.func68 rfl (by kernel_rfl) ?_
 conv=>whnf
 repeat' (first
 | ((with_reducible refine on_dec_f ?_ ?_);(focus ((try simp only [List.length_map,List.length_cons,List.length_nil,List.length_append]);omega));conv=>whnf)
 | ((with_reducible refine on_dec (fun h=>?_) (fun h=>?_))<;>(try simp only [List.length_map] at h)<;>conv=>whnf)
 | ((with_reducible refine call_go ?_);(first | refine call_step (run_data (xs:=[_]) (c75 _ (hbe _ (List.getElem_mem (by omega : k < s.nodes.length)))) _) ?_);conv=>whnf)
 | (refine ⟨[],[(2,5),(7,5)],(by decide +kernel),?_⟩;conv=>whnf)
 | ((with_reducible refine loop_go ?_);first | (refine loop2 (fun (k : Nat) (out : List Nod)=>s.nodes.length - k) (fun (k : Nat) (out : List Nod)=>k ≤ s.nodes.length ∧ out.length = k ∧ out = (treeN s.nodes).take k) (fun (k : Nat) (out : List Nod)=>[(3,.sl 0 0 out.length 3 none),(10,.d (.fs (s.nodes.map PNd.enc))),(11,.d (i s.nodes.length)),(12,.d (i k))]) (fun (k : Nat) (out : List Nod)=>[⟨(out.map Nod.enc).map .d,3,0⟩]) (0) ([]) (by exact ⟨Nat.zero_le _,rfl,rfl⟩) ?_ (fun k out C hI hC=>?_);(exact ⟨[.void 3],rfl,rfl,⟨⟨rfl,rfl,rfl,rfl⟩,(by first | (show (_ : D) = _;with_reducible rfl) ),(by first | exact congrArg (D.int .i64) (by simp only [List.length_map]) ),(by first | exact congrArg (D.int .i64) (by omega) ),trivial⟩,⟨⟨rfl,rfl,(by decide),rfl⟩,trivial⟩⟩);all_goals (conv=>whnf)))
 | ((with_reducible show C _ _);first | (refine hC (k + 1) (out ++ [nd1 (s.nodes[k]'(by omega))]) _ _ ?_ (by omega) ?_;clear hC;rotate_left;(exact ⟨[.old 3],rfl,rfl,⟨⟨rfl,rfl,(by simp),rfl,rfl⟩,(by first | (show (_ : D) = _;with_reducible rfl) ),(by first | (show (_ : D) = _;with_reducible rfl) ),(by first | exact congrArg (D.int .i64) (by omega) ),trivial⟩,⟨⟨rfl,rfl,.inr (wks_add (wksd _ _) ⟨rfl,rfl,rfl,rfl,trivial⟩)⟩,trivial⟩⟩);(exact ⟨by omega,by rw [List.length_append,List.length_singleton,hI.2.1],(congrArg (fun l=>l ++ [nd1 (s.nodes[k]'(by omega))]) hI.2.2).trans (tree_take (by omega))⟩)))
 | (refine ⟨⟨(by first | (simp;done)),cap_ok (by simp only [List.length_map,List.length_cons,List.length_nil,List.length_append];omega) rfl⟩,?_⟩;conv=>whnf)
 | (refine ix_map (by omega) ?_;conv=>whnf)
 | (refine wrap64 (by omega) ?_;conv=>whnf)
 | (refine ⟨(by simp),?_⟩;conv=>whnf)
 | ((with_reducible refine endx_go ?_);first | ((have e : out = treeN s.nodes:=(by rw [hI.2.2];exact List.take_of_length_le (by rw [treeN_len];omega)));subst e;exact endxv (view_map rfl (by decide)) rfl;done))
  | fail
  )
end Go.Proofs.YtkmhnaojgkcjoaaGreatDoor
namespace Go.Proofs.YtkmhnaojgkcjoaaGreatDoor
open Go Dw
set_option maxRecDepth 10000
attribute [local irreducible] Run
set_option maxHeartbeats 1000000
open Paths
theorem names_step {s : List PNd} {n : Int} {k : Nat} (h : k < s.length) : namesR ((treeN s).take (k + 1)) n = namesR ((treeN s).take k) n + cntE s[k].ents n:=by
 have hk : k < (treeN s).length:=by rw [treeN_len];exact h
 have e : (treeN s)[k] = nd1 s[k]:=by
  have:=treeN_at h
  rw [List.getElem?_eq_getElem hk] at this
  exact Option.some.inj this
 rw [names_take _ _ hk,e]
theorem bitN_t {p : Prop} [Decidable p] (h : p) : bitN (decide p) = 1:=by rw [decide_eq_true h];rfl
theorem bitN_f {p : Prop} [Decidable p] (h : ¬ p) : bitN (decide p) = 0:=by rw [decide_eq_false h];rfl
theorem names_bd {n : Int} : ∀ (t : List Nod) (k : Nat),(∀ x ∈ t,x.ents.length < 2000000) → namesR (t.take k) n ≤ 2000000 * k
 | [],k,_=>by simp [namesR]
 | x :: t,0,_=>by simp [namesR]
 | x :: t,k + 1,h=>by
  have h1:=names_bd (n:=n) t k (fun y hy=>h y (by simp [hy]))
  have h2:=cntE_le (n:=n) x.ents
  have h3:=h x (by simp)
  simp only [List.take_succ_cons,namesR]
  omega
theorem max1 {k : Nat} (h : ¬ (k : Int) = 0) : goMax (k : Int) 1 = (k : Int):=by unfold goMax;split<;>omega
attribute [local irreducible] fold nameErr treeN namesR cntE bitN ordK Op.bytesLess
theorem namesR_0 {n : Int} : namesR [] n = 0:=by unfold namesR;rfl
theorem cntE_0 {n : Int} : cntE [] n = 0:=by unfold cntE;rfl
theorem c91 (s : Stt) (B : Sb s) (n : Int) (hl : s.nodes.length ≤ 20) : Fn 91 [.fp s.enc 0,i n] (i (namesR (treeN s.nodes) n : Nat)):=by
 have hbe:=B.el
 refine run_walkF eok Tryz.func91 rfl (by kernel_rfl) ?_
 conv=>whnf
 repeat' (first
 | ((with_reducible refine on_dec (fun h=>?_) (fun h=>?_))<;>(try simp only [List.length_map] at h)<;>conv=>whnf)
 | ((with_reducible refine loop_go ?_);first | (refine loop1 (fun (m : Nat)=>(s.nodes[k]'(by omega)).ents.length - m) (fun (m : Nat)=>m ≤ (s.nodes[k]'(by omega)).ents.length) (fun (m : Nat)=>[(1,.d (i n)),(5,.d (i ((namesR ((treeN s.nodes).take k) n + cntE ((s.nodes[k]'(by omega)).ents.take m) n : Nat) : Int))),(14,.d (.fs (s.nodes.map PNd.enc))),(15,.d (i s.nodes.length)),(16,.d (i k)),(21,.d (.fs ((s.nodes[k]'(by omega)).ents.map Ent.enc))),(22,.d (i (s.nodes[k]'(by omega)).ents.length)),(23,.d (i m))]) (fun (m : Nat)=>[]) (0) (by exact Nat.zero_le _) ?_ (fun m C2 hI2 hC2=>?_);(exact ⟨[],rfl,rfl,⟨(by first | (show (_ : D) = _;with_reducible rfl) ),(congrArg (D.int .i64) (by simp [cntE_0])),(by first | (show (_ : D) = _;with_reducible rfl) ),(by first | (show (_ : D) = _;with_reducible rfl) ),(by first | (show (_ : D) = _;with_reducible rfl) ),(by first | (show (_ : D) = _;with_reducible rfl) ),(by first | exact congrArg (D.int .i64) (by simp only [List.length_map]) ),(by first | exact congrArg (D.int .i64) (by omega) ),trivial⟩,trivial⟩);all_goals (conv=>whnf)) | (refine loop1 (fun (k : Nat)=>s.nodes.length - k) (fun (k : Nat)=>k ≤ s.nodes.length) (fun (k : Nat)=>[(1,.d (i n)),(5,.d (i (namesR ((treeN s.nodes).take k) n : Nat))),(14,.d (.fs (s.nodes.map PNd.enc))),(15,.d (i s.nodes.length)),(16,.d (i k))]) (fun (k : Nat)=>[]) (0) (by exact Nat.zero_le _) ?_ (fun k C hI hC=>?_);(exact ⟨[],rfl,rfl,⟨(by first | (show (_ : D) = _;with_reducible rfl) ),(congrArg (D.int .i64) (by simp [namesR_0])),(by first | (show (_ : D) = _;with_reducible rfl) ),(by first | exact congrArg (D.int .i64) (by simp only [List.length_map]) ),(by first | exact congrArg (D.int .i64) (by omega) ),trivial⟩,trivial⟩);all_goals (conv=>whnf)))
 | ((with_reducible show C _ _);first | (refine hC (k + 1) _ _ ?_ (by omega) ?_;clear hC;rotate_left;(exact ⟨[],rfl,rfl,⟨(by first | (show (_ : D) = _;with_reducible rfl) ),(congrArg (D.int .i64) (by have h7:=names_step (s:=s.nodes) (n:=n) (k:=k) (by omega);have h8 : m = (s.nodes[k]'(by omega)).ents.length:=(by omega);rw [h8,List.take_length];omega)),(by first | (show (_ : D) = _;with_reducible rfl) ),(by first | (show (_ : D) = _;with_reducible rfl) ),(by first | exact congrArg (D.int .i64) (by omega) ),trivial⟩,trivial⟩);(exact (by omega))))
 | ((with_reducible show C2 _ _);first | (refine hC2 (m + 1) _ _ ?_ (by omega) ?_;clear hC2;rotate_left;(exact ⟨[],rfl,rfl,⟨(by first | (show (_ : D) = _;with_reducible rfl) ),(congrArg (D.int .i64) (by have h9:=cntE_take (n:=n) (s.nodes[k]'(by omega)).ents m (by omega);first | (rw [bitN_t (by assumption)] at h9;omega) | (rw [bitN_f (by assumption)] at h9;omega))),(by first | (show (_ : D) = _;with_reducible rfl) ),(by first | (show (_ : D) = _;with_reducible rfl) ),(by first | (show (_ : D) = _;with_reducible rfl) ),(by first | (show (_ : D) = _;with_reducible rfl) ),(by first | (show (_ : D) = _;with_reducible rfl) ),(by first | exact congrArg (D.int .i64) (by omega) ),trivial⟩,trivial⟩);(exact (by omega))))
 | (refine ix_map (by omega) ?_;conv=>whnf)
 | (refine wrap64 (by omega) ?_;conv=>whnf)
 | (refine wrap64 (by have h5:=names_bd (n:=n) (treeN s.nodes) k (fun x hx=>(B.tr x hx).1);have h6:=names_bd (n:=n) (treeN s.nodes) (k + 1) (fun x hx=>(B.tr x hx).1);have h7:=names_step (s:=s.nodes) (n:=n) (k:=k) (by omega);have h8:=cntE_le (n:=n) ((s.nodes[k]'(by omega)).ents.take m);rw [List.length_take] at h8;have h9:=hbe _ (List.getElem_mem (by omega : k < s.nodes.length));omega) ?_;conv=>whnf)
 | ((with_reducible refine endx_go ?_);first | (refine endx (congrArg i ?_);rw [List.take_of_length_le (by rw [treeN_len];omega)];done))
  | fail
  )
end Go.Proofs.YtkmhnaojgkcjoaaGreatDoor
namespace Go.Proofs.YtkmhnaojgkcjoaaGreatDoor
open Go Dw
set_option maxRecDepth 10000
attribute [local irreducible] Run
set_option maxHeartbeats 1000000
open Paths
theorem ix_max {α : Type} {f : α → D} {l : List α} {k : Nat} {K : D → Prop} (h0 : ¬ (k : Int) = 0) (h : k < l.length) (hk : K (f (l[k - 1]'(by omega)))) : 0 ≤ goMax (k : Int) 1 - 1 ∧ nthK (l.map f) (goMax (k : Int) 1 - 1).toNat K:=by
 rw [max1 h0]
 exact ix_at (k - 1) (by omega) (by omega) hk
theorem ord_lt {α : Type} {g : α → Bs} {l : List α} {k : Nat} (h0 : 0 < k) (h : k < l.length) (ho : ordK (l.map g) k = 0) : Op.bytesLess (fold (g (l[k - 1]'(by omega)))) (fold (g l[k])) = true:=by
 rw [ordK_at h0 h] at ho
 by_cases c : Op.bytesLess (fold (g (l[k - 1]'(by omega)))) (fold (g l[k])) = true
 ·exact c
 ·rw [if_neg c] at ho;cases ho
theorem c27t (e : Int) : Fn 27 [.bool true,i e] (i 0):=c27 true e
theorem c27d {p : Prop} [Decidable p] (h : p) (e : Int) : Fn 27 [.bool (decide p),i e] (i 0):=by
 rw [decide_eq_true h];exact c27 true e
theorem c27b {b : Bool} (h : b = true) (e : Int) : Fn 27 [.bool b,i e] (i 0):=by subst h;exact c27 true e
attribute [local irreducible] fold nameErr ordK Op.bytesLess within
theorem c119 (x : PNd) (hb : ∀ y ∈ x.ents,y.name.length < 2000000) (hn : ∀ y ∈ x.ents,nameErr y.name = 0) (ho : ∀ k,k < x.ents.length → ordK (x.ents.map Ent.name) k = 0) (k : Nat) (hk : k < x.ents.length) (hl : x.ents.length < 2000000) : Fn 119 [i k,x.ents[k].enc,.fp x.enc 0] (i 0):=by
 refine run_walkF eok Tryz.func119 rfl (by kernel_rfl) ?_
 conv=>whnf
 repeat' (first
 | ((with_reducible refine on_dec (fun h=>?_) (fun h=>?_))<;>(try simp only [List.length_map] at h)<;>conv=>whnf)
 | ((with_reducible refine call_go ?_);(first | refine call_step (run_data (xs:=[_]) (c120 _ (hb _ (List.getElem_mem (by omega))) (hn _ (List.getElem_mem (by omega)))) _) ?_ | refine call_step (run_data (xs:=[_,_]) (c27t _) _) ?_ | refine call_step (run_data (xs:=[_,_]) (c27b (ord_lt (g:=Ent.name) (by omega) hk (ho k hk)) _) _) ?_);conv=>whnf)
 | (refine ⟨[],[(13,11)],(by decide +kernel),?_⟩;conv=>whnf)
 | (refine wrap64 (by have h9:=max1 (k:=k) (by assumption);omega) ?_;conv=>whnf)
 | (refine ix_max (f:=Ent.enc) (l:=x.ents) (by assumption) hk ?_;conv=>whnf)
 | ((with_reducible refine endx_go ?_);first | (exact endx rfl;done))
 | (refine ⟨rfl,?_⟩;conv=>whnf)
  | fail
  )
theorem c118 (x : PNd) (hb : ∀ y ∈ x.ents,y.name.length < 2000000) (hn : ∀ y ∈ x.ents,nameErr y.name = 0) (ho : ∀ k,k < x.ents.length → ordK (x.ents.map Ent.name) k = 0) (hl : x.ents.length < 2000000) : Fn 118 [.fs (x.ents.map Ent.enc),.fn 119 [] [.fp x.enc 0]] (.tup [i 0,i 0]):=by
 refine run_walkF eok Tryz.func118 rfl (by kernel_rfl) ?_
 conv=>whnf
 repeat' (first
 | ((with_reducible refine on_dec (fun h=>?_) (fun h=>?_))<;>(try simp only [List.length_map] at h)<;>conv=>whnf)
 | ((with_reducible refine call_go ?_);(first | refine call_step (run_data (xs:=[_,_,_]) (c119 x hb hn ho k (by omega) hl) _) ?_);conv=>whnf)
 | ((with_reducible refine loop_go ?_);first | (refine loop1 (fun (k : Nat)=>x.ents.length - k) (fun (k : Nat)=>k ≤ x.ents.length) (fun (k : Nat)=>[(1,.d (.fn 119 [] [.fp x.enc 0])),(9,.d (.fs (x.ents.map Ent.enc))),(10,.d (i x.ents.length)),(11,.d (i k))]) (fun (k : Nat)=>[]) (0) (by exact Nat.zero_le _) ?_ (fun k C hI hC=>?_);(exact ⟨[],rfl,rfl,⟨(by first | (show (_ : D) = _;with_reducible rfl) ),(by first | (show (_ : D) = _;with_reducible rfl) ),(by first | exact congrArg (D.int .i64) (by simp only [List.length_map]) ),(by first | exact congrArg (D.int .i64) (by omega) ),trivial⟩,trivial⟩);all_goals (conv=>whnf)))
 | ((with_reducible show C _ _);first | (refine hC (k + 1) _ _ ?_ (by omega) ?_;clear hC;rotate_left;(exact ⟨[],rfl,rfl,⟨(by first | (show (_ : D) = _;with_reducible rfl) ),(by first | (show (_ : D) = _;with_reducible rfl) ),(by first | (show (_ : D) = _;with_reducible rfl) ),(by first | exact congrArg (D.int .i64) (by omega) ),trivial⟩,trivial⟩);(exact (by omega))))
 | (refine ix_map (by omega) ?_;conv=>whnf)
 | (refine wrap64 (by omega) ?_;conv=>whnf)
 | ((with_reducible refine endx_go ?_);first | (exact endxv (view_tup (vlc rfl (vlc rfl vln))) rfl;done))
  | fail
  )
end Go.Proofs.YtkmhnaojgkcjoaaGreatDoor
namespace Go.Proofs.YtkmhnaojgkcjoaaGreatDoor
open Go Dw
set_option maxRecDepth 10000
attribute [local irreducible] Run
set_option maxHeartbeats 4000000
attribute [local irreducible] goMin goMax
def zA : AV:=.agg [.d (i 0),.d (i 0),.d (i 0),.d (i 0)]
theorem c197p (n : Nat) (hn : n < 1000) (h0 : 0 < n) : Run Tryz.prog 197 [.nilS,.d (i n)] [] (.sl 0 0 0 4 none) [⟨List.replicate n zA,4,0⟩]:=by
 refine run_walkV eok Tryz.func197 rfl (by kernel_rfl) [] (by rfl) [] ?_
 conv=>whnf
 repeat' (first
 | ((with_reducible refine on_dec_t ?_ ?_);(focus ((try simp only [List.length_map,List.length_cons,List.length_nil,List.length_append]);omega));conv=>whnf)
 | (refine wrap64 (by omega) ?_;conv=>whnf)
 | (refine own_sl 0 0 rfl rfl ⟨Nat.le_refl _,Nat.zero_le _⟩ ?_;conv=>whnf)
 | (refine ⟨⟨rfl,rfl,rfl⟩,?_⟩;conv=>whnf)
 | (refine ⟨⟨by omega,by omega,(by rw [show (E (E 33).elem).bytes = 32 from rfl];omega)⟩,?_⟩;conv=>whnf)
 | (refine ⟨(by rw [List.length_replicate,show (E (E 33).elem).bytes = 32 from rfl];omega),?_⟩;conv=>whnf)
 | ((with_reducible refine endx_go ?_);first | (rw [show ((n : Int) - (0 - 0)).toNat = n by omega];exact endx_same rfl rfl;done))
  | fail
  )
theorem c197z : Run Tryz.prog 197 [.nilS,.d (i 0)] [] .nilS []:=by
 refine run_walkV eok Tryz.func197 rfl (by kernel_rfl) [] (by rfl) [] ?_
 conv=>whnf
 repeat' (first
 | (refine wrap64 (by omega) ?_;conv=>whnf)
 | ((with_reducible refine endx_go ?_);first | (refine endX_of (.inl ⟨[],rfl,rfl,⟨trivial,trivial⟩,trivial⟩);done))
  | fail
  )
def cutA (LL : List (List Ace)) (k : Nat) : List Ace:=(LL.take k).flatten
theorem cutA_succ {LL : List (List Ace)} {k : Nat} (h : k < LL.length) : cutA LL (k + 1) = cutA LL k ++ LL[k]:=by
 unfold cutA;rw [List.take_succ_eq_append_getElem h,List.flatten_append];simp
theorem cutA_end {LL : List (List Ace)} {k : Nat} (h : ¬ k < LL.length) : cutA LL k = LL.flatten:=by unfold cutA;rw [List.take_of_length_le (by omega)]
theorem cutA_le {LL : List (List Ace)} {k : Nat} (h : k < LL.length) : (cutA LL k).length + LL[k].length ≤ LL.flatten.length:=by
 have h1 : LL.flatten = cutA LL (k + 1) ++ (LL.drop (k + 1)).flatten:=by unfold cutA;rw [← List.flatten_append,List.take_append_drop]
 rw [h1,cutA_succ h,List.length_append,List.length_append];omega
theorem cutA_len {LL : List (List Ace)} {k : Nat} (h : k < LL.length) : (cutA LL (k + 1)).length = (cutA LL k).length + LL[k].length:=by rw [cutA_succ h,List.length_append]
def cA (A : List Ace) (m : Nat) : AO:=⟨(A.map Ace.enc).map .d ++ List.replicate m zA,4,0⟩
theorem c197k {LL : List (List Ace)} {k : Nat} (hk : ¬ (k : Int) < LL.length) (hf : LL.flatten.length < 1000) (h0 : 0 < LL.flatten.length) : Run Tryz.prog 197 [.nilS,.d (i (cutA LL k).length)] [] (.sl 0 0 0 4 none) [cA [] LL.flatten.length]:=by
 rw [cutA_end (by omega)]
 exact c197p _ hf h0
theorem c197l {LL : List (List Ace)} {k : Nat} (hk : ¬ (k : Int) < LL.length) (h0 : LL.flatten.length = 0) : Run Tryz.prog 197 [.nilS,.d (i (cutA LL k).length)] [] .nilS []:=by
 rw [cutA_end (by omega),h0]
 exact c197z
theorem wks_cA (μ : List Mu) : ∀ (A : List D) (m : Nat),wks μ (A.map .d ++ List.replicate m zA) (A.map .d ++ List.replicate m zA)
 | [],0=>trivial
 | [],m + 1=>⟨⟨rfl,rfl,rfl,rfl,trivial⟩,wks_cA μ [] m⟩
 | x :: A,m=>⟨rfl,wks_cA μ A m⟩
theorem over_cA (A B : List Ace) (n : Nat) (h : A.length + B.length ≤ n) : over ((A.map Ace.enc).map .d ++ List.replicate (n - A.length) zA) A.length ((B.map Ace.enc).map .d) = ((A ++ B).map Ace.enc).map .d ++ List.replicate (n - (A ++ B).length) zA:=by
 unfold over
 have h1 : ((A.map Ace.enc).map AV.d).length = A.length:=by simp
 have h2 : ((A.map Ace.enc).map AV.d ++ List.replicate (n - A.length) zA).take A.length = (A.map Ace.enc).map AV.d:=by
  rw [← h1,List.take_left]
 have h3 : ((A.map Ace.enc).map AV.d ++ List.replicate (n - A.length) zA).drop (A.length + ((B.map Ace.enc).map AV.d).length) = List.replicate (n - (A ++ B).length) zA:=by
  have : A.length + ((B.map Ace.enc).map AV.d).length = ((A.map Ace.enc).map AV.d).length + B.length:=by simp
  have e : (n - A.length) - B.length = n - (A ++ B).length:=by rw [List.length_append];omega
  rw [this,List.drop_append,List.drop_eq_nil_of_le (by omega),List.nil_append,Nat.add_sub_cancel_left,List.drop_replicate,e]
 rw [h2,h3];simp
theorem cA_len (A : List Ace) (m : Nat) : (cA A m).elems.length = A.length + m:=by unfold cA;simp
theorem cA_0 (A : List Ace) : cA A 0 = ⟨(A.map Ace.enc).map .d,4,0⟩:=by unfold cA;simp
theorem wks_stepA (μ : List Mu) {LL : List (List Ace)} {k : Nat} (h : k < LL.length) : wks μ (over (cA (cutA LL k) (LL.flatten.length - (cutA LL k).length)).elems (0 + (cutA LL k).length) ((LL[k].map Ace.enc).map .d)) (cA (cutA LL (k + 1)) (LL.flatten.length - (cutA LL (k + 1)).length)).elems:=by
 have:=cutA_le h
 rw [Nat.zero_add]
 show wks μ (over ((cutA LL k).map Ace.enc |>.map .d |> fun x=>x ++ List.replicate (LL.flatten.length - (cutA LL k).length) zA) _ _) _
 rw [cutA_succ h]
 have e:=over_cA (cutA LL k) LL[k] LL.flatten.length (by omega)
 show wks μ (over (((cutA LL k).map Ace.enc).map .d ++ List.replicate (LL.flatten.length - (cutA LL k).length) zA) _ _) _
 rw [e]
 exact wks_cA μ _ _
theorem c172p (LL : List (List Ace)) (hL : LL.length < 1000) (hf : LL.flatten.length < 1000) (h0 : 0 < LL.flatten.length) : Fn 172 [.fs (LL.map (fun l=>.fs (l.map Ace.enc)))] (.fs (LL.flatten.map Ace.enc)):=by
 refine run_walkF eok Tryz.func172 rfl (by kernel_rfl) ?_
 conv=>whnf
 repeat' (first
 | ((with_reducible refine on_dec (fun h=>?_) (fun h=>?_))<;>(try simp only [List.length_map] at h)<;>conv=>whnf)
 | ((with_reducible refine call_go ?_);(first | refine call_step (c197k (LL:=LL) (by assumption) hf h0) ?_ );conv=>whnf)
 | ((with_reducible refine loop_go ?_);first | (refine loop1 (fun (k : Nat)=>LL.length - k) (fun (k : Nat)=>k ≤ LL.length) (fun (k : Nat)=>[(6,.sl 0 0 (cutA LL k).length 4 none),(25,.d (.fs (LL.map (fun l=>.fs (l.map Ace.enc))))),(26,.d (i LL.length)),(27,.d (i k))]) (fun (k : Nat)=>[cA (cutA LL k) (LL.flatten.length - (cutA LL k).length)]) (0) (by exact Nat.zero_le _) ?_ (fun k Cb hIb hCb=>?_);(exact ⟨[.old 0],rfl,rfl,⟨(by first | exact ⟨rfl,rfl,rfl,rfl,rfl⟩ ),(by first | (show (_ : D) = _;with_reducible rfl) ),(by first | exact congrArg (D.int .i64) (by simp only [List.length_map]) ),(by first | exact congrArg (D.int .i64) (by omega) ),trivial⟩,⟨⟨rfl,rfl,.inr (wks_cA _ [] _)⟩,trivial⟩⟩);all_goals (conv=>whnf)) | (refine loop1 (fun (k : Nat)=>LL.length - k) (fun (k : Nat)=>k ≤ LL.length) (fun (k : Nat)=>[(0,.d (.fs (LL.map (fun l=>.fs (l.map Ace.enc))))),(3,.d (i (cutA LL k).length)),(9,.d (.fs (LL.map (fun l=>.fs (l.map Ace.enc))))),(10,.d (i LL.length)),(11,.d (i k))]) (fun (k : Nat)=>[]) (0) (by exact Nat.zero_le _) ?_ (fun k C hI hC=>?_);(exact ⟨[],rfl,rfl,⟨(by first | (show (_ : D) = _;with_reducible rfl) ),(by first | exact rfl),(by first | (show (_ : D) = _;with_reducible rfl) ),(by first | exact congrArg (D.int .i64) (by simp only [List.length_map]) ),(by first | exact congrArg (D.int .i64) (by omega) ),trivial⟩,trivial⟩);all_goals (conv=>whnf)))
 | ((with_reducible show C _ _);first | (refine hC (k + 1) _ _ ?_ (by omega) ?_;clear hC;rotate_left;(exact ⟨[],rfl,rfl,⟨(by first | (show (_ : D) = _;with_reducible rfl) ),(by refine congrArg (D.int .i64) ?_;rw [cutA_len (by omega),List.length_map];omega),(by first | (show (_ : D) = _;with_reducible rfl) ),(by first | (show (_ : D) = _;with_reducible rfl) ),(by first | exact congrArg (D.int .i64) (by omega) ),trivial⟩,trivial⟩);(exact (by omega : k + 1 ≤ LL.length))))
 | ((with_reducible show Cb _ _);first | (refine hCb (k + 1) _ _ ?_ (by omega) ?_;clear hCb;rotate_left;(exact ⟨[.old 0],rfl,rfl,⟨⟨rfl,rfl,(by rw [cutA_len (by omega)];simp),rfl,rfl⟩,(by first | (show (_ : D) = _;with_reducible rfl) ),(by first | (show (_ : D) = _;with_reducible rfl) ),(by first | exact congrArg (D.int .i64) (by omega) ),trivial⟩,⟨⟨rfl,rfl,.inr (wks_stepA _ (by omega))⟩,trivial⟩⟩);(exact (by omega : k + 1 ≤ LL.length))))
 | (refine ⟨(by intro y hy;obtain ⟨x,_,rfl⟩:=List.mem_map.1 hy;first | exact ⟨rfl,rfl⟩),?_⟩;conv=>whnf)
 | (refine ix_map (by omega) ?_;conv=>whnf)
 | (refine wrap64 (by omega) ?_;conv=>whnf)
 | (refine wrap64 (by have hc:=cutA_le (LL:=LL) (k:=k) (by omega);simp only [List.length_map];omega) ?_;conv=>whnf)
 | (exfalso;have hc:=cutA_le (LL:=LL) (k:=k) (by omega);rw [cA_len] at h;omega)
 | ((with_reducible refine endx_go ?_);first | (rw [cutA_end (by omega),Nat.sub_self,cA_0];exact endxv (view_map rfl Nat.two_pos) rfl;done))
  | fail
  )
theorem c172z (LL : List (List Ace)) (hL : LL.length < 1000) (hf : LL.flatten.length < 1000) (h0 : LL.flatten.length = 0) : Fn 172 [.fs (LL.map (fun l=>.fs (l.map Ace.enc)))] (.fs (LL.flatten.map Ace.enc)):=by
 refine run_walkF eok Tryz.func172 rfl (by kernel_rfl) ?_
 conv=>whnf
 repeat' (first
 | ((with_reducible refine on_dec (fun h=>?_) (fun h=>?_))<;>(try simp only [List.length_map] at h)<;>conv=>whnf)
 | ((with_reducible refine call_go ?_);(first | refine call_step (c197l (LL:=LL) (by assumption) h0) ?_);conv=>whnf)
 | ((with_reducible refine loop_go ?_);first | (refine loop1 (fun (k : Nat)=>LL.length - k) (fun (k : Nat)=>k ≤ LL.length) (fun (k : Nat)=>[(6,.sl 0 0 (cutA LL k).length 4 none),(25,.d (.fs (LL.map (fun l=>.fs (l.map Ace.enc))))),(26,.d (i LL.length)),(27,.d (i k))]) (fun (k : Nat)=>[cA (cutA LL k) (LL.flatten.length - (cutA LL k).length)]) (0) (by exact Nat.zero_le _) ?_ (fun k Cb hIb hCb=>?_);(exact ⟨[.void 4],rfl,rfl,⟨⟨rfl,rfl,rfl,rfl⟩,(by first | (show (_ : D) = _;with_reducible rfl) ),(by first | exact congrArg (D.int .i64) (by simp only [List.length_map]) ),(by first | exact congrArg (D.int .i64) (by omega) ),trivial⟩,⟨⟨(by rw [h0];rfl),rfl,Nat.zero_lt_succ _,rfl⟩,trivial⟩⟩);all_goals (conv=>whnf)) | (refine loop1 (fun (k : Nat)=>LL.length - k) (fun (k : Nat)=>k ≤ LL.length) (fun (k : Nat)=>[(0,.d (.fs (LL.map (fun l=>.fs (l.map Ace.enc))))),(3,.d (i (cutA LL k).length)),(9,.d (.fs (LL.map (fun l=>.fs (l.map Ace.enc))))),(10,.d (i LL.length)),(11,.d (i k))]) (fun (k : Nat)=>[]) (0) (by exact Nat.zero_le _) ?_ (fun k C hI hC=>?_);(exact ⟨[],rfl,rfl,⟨(by first | (show (_ : D) = _;with_reducible rfl) ),(by first | exact rfl),(by first | (show (_ : D) = _;with_reducible rfl) ),(by first | exact congrArg (D.int .i64) (by simp only [List.length_map]) ),(by first | exact congrArg (D.int .i64) (by omega) ),trivial⟩,trivial⟩);all_goals (conv=>whnf)))
 | ((with_reducible show C _ _);first | (refine hC (k + 1) _ _ ?_ (by omega) ?_;clear hC;rotate_left;(exact ⟨[],rfl,rfl,⟨(by first | (show (_ : D) = _;with_reducible rfl) ),(by refine congrArg (D.int .i64) ?_;rw [cutA_len (by omega),List.length_map];omega),(by first | (show (_ : D) = _;with_reducible rfl) ),(by first | (show (_ : D) = _;with_reducible rfl) ),(by first | exact congrArg (D.int .i64) (by omega) ),trivial⟩,trivial⟩);(exact (by omega : k + 1 ≤ LL.length))))
 | ((with_reducible show Cb _ _);first | (refine hCb (k + 1) _ _ ?_ (by omega) ?_;clear hCb;rotate_left;(exact ⟨[.old 0],rfl,rfl,⟨⟨rfl,rfl,(by rw [cutA_len (by omega)];simp),rfl,rfl⟩,(by first | (show (_ : D) = _;with_reducible rfl) ),(by first | (show (_ : D) = _;with_reducible rfl) ),(by first | exact congrArg (D.int .i64) (by omega) ),trivial⟩,⟨⟨rfl,rfl,.inr (wks_stepA _ (by omega))⟩,trivial⟩⟩);(exact (by omega : k + 1 ≤ LL.length))))
 | (refine ⟨(by intro y hy;obtain ⟨x,_,rfl⟩:=List.mem_map.1 hy;first | exact ⟨rfl,rfl⟩),?_⟩;conv=>whnf)
 | (refine ix_map (by omega) ?_;conv=>whnf)
 | (refine wrap64 (by omega) ?_;conv=>whnf)
 | (refine wrap64 (by have hc:=cutA_le (LL:=LL) (k:=k) (by omega);simp only [List.length_map];omega) ?_;conv=>whnf)
 | (exfalso;have hc:=cutA_le (LL:=LL) (k:=k) (by omega);rw [cA_len] at h;omega)
 | ((with_reducible refine endx_go ?_);first | (rw [cutA_end (by omega),Nat.sub_self,cA_0];exact endxv (view_map rfl Nat.two_pos) rfl;done))
  | fail
  )
theorem c172 (LL : List (List Ace)) (hL : LL.length < 1000) (hf : LL.flatten.length < 1000) : Fn 172 [.fs (LL.map (fun l=>.fs (l.map Ace.enc)))] (.fs (LL.flatten.map Ace.enc)):=by
 rcases Nat.eq_zero_or_pos LL.flatten.length with h0 | h0
 ·exact c172z LL hL hf h0
 ·exact c172p LL hL hf h0
end Go.Proofs.YtkmhnaojgkcjoaaGreatDoor
namespace Go.Proofs.YtkmhnaojgkcjoaaGreatDoor
open Go Dw
set_option maxRecDepth 10000
attribute [local irreducible] Run
set_option maxHeartbeats 1000000
open Paths
def holdI (n : Int) : Bool:=isWho n && (!(decide (n = 2) || decide (n = 3)) && !decide (n = 1))
theorem holdI_eq (n : Int) : holdI n = isHold n:=by
 unfold holdI isHold isWho isUser within
 rw [Bool.eq_iff_iff]
 simp only [Bool.and_eq_true, Bool.or_eq_true, Bool.not_eq_true', decide_eq_true_eq, decide_eq_false_iff_not, Bool.or_eq_false_iff]
 omega
theorem c172e (es au : List Ace) (h1 : es.length ≤ 16) (h2 : au.length ≤ 16) : Fn 172 [.fs [.fs (es.map Ace.enc),.fs (au.map Ace.enc)]] (.fs ((es ++ au).map Ace.enc)):=by
 have:=c172 [es,au] (by simp) (by simp;omega)
 simpa using this
structure DOk (d : Dsc) : Prop where
 p : pairE d.owner d.group = 0
 e : d.es.length ≤ 16
 a : d.au.length ≤ 16
 f : d.has = true ∨ d.es.length = 0
 k : ∀ k,k < (d.es ++ d.au).length → aceK d.es.length (d.es ++ d.au) k = 0
theorem dok {d : Dsc} (h : (dscE d).2 = 0) : DOk d:=by
 by_cases h1 : pairE d.owner d.group = 0
 ·by_cases h2 : 16 < d.es.length ∨ 16 < d.au.length
  ·rw [dsc_l h1 h2] at h;cases h
  ·by_cases h3 : 0 < d.es.length ∧ d.has = false
   ·rw [dsc_f h1 h2 h3] at h;cases h
   ·rw [dsc_o h1 h2 h3] at h
    refine ⟨h1,by omega,by omega,?_,fun k hk=>frst_ok _ 0 rfl h k (Nat.zero_le _) hk⟩
    cases hh : d.has with
    | true=>exact .inl rfl
    | false=>exact .inr (Nat.eq_zero_of_not_pos (fun c=>h3 ⟨c,hh⟩))
 ·rw [dsc_p h1] at h;exact absurd h h1
theorem ace_ok {es au : List Ace} {k : Nat} {a : Ace} (ha : (es ++ au)[k]? = some a) (h : aceK es.length (es ++ au) k = 0) : aceE a = 0 ∧ decide (a.kind = 2) = decide (es.length ≤ k):=by
 unfold aceK at h
 rw [ha] at h
 simp only at h
 split at h
 ·split at h
  ·exact ⟨by assumption,by assumption⟩
  ·cases h
 ·exact absurd h (by assumption)
theorem pair_ok {o g : Int} (h : pairE o g = 0) : isHold o = true ∧ isHold g = true:=by
 unfold pairE at h
 split at h
 ·rename_i c;rw [Bool.and_eq_true] at c;exact c
 ·cases h
attribute [local irreducible] isHold holdI isWho aceE pairE aceK
theorem c198 (n lo hi : Int) : Fn 198 [i n,i lo,i hi] (.bool (within n lo hi)):=by
 refine run_walkF eok Tryz.func198 rfl (by kernel_rfl) ?_
 conv=>whnf
 repeat' (first
 | ((with_reducible refine on_dec (fun h=>?_) (fun h=>?_))<;>(try simp only [List.length_map] at h)<;>conv=>whnf)
 | ((with_reducible refine endx_go ?_);first | (exact endx (congrArg D.bool (by simp [h,within]));done) )
  | fail
  )
theorem c170 (b : Bool) (e : Int) : Fn 170 [.bool b,i e] (i (if b then 0 else e)):=by
 refine run_walkF eok Tryz.func170 rfl (by kernel_rfl) ?_
 conv=>whnf
 repeat' (first
 | ((with_reducible refine onBool_split (fun h=>?_) (fun h=>?_))<;>conv=>whnf)
 | ((with_reducible refine endx_go ?_);first | (exact endx (by simp_all);done))
  | fail
  )
theorem c168 (l : List Int) (hl : l.length < 2000000) : Fn 168 [.fs (l.map i)] (i (firstE l)):=by
 refine run_walkF eok Tryz.func168 rfl (by kernel_rfl) ?_
 conv=>whnf
 repeat' (first
 | ((with_reducible refine on_dec (fun h=>?_) (fun h=>?_))<;>(try simp only [List.length_map] at h)<;>conv=>whnf)
 | ((with_reducible refine on_ndec (fun h=>?_) (fun h=>?_))<;>(try simp only [List.length_map] at h)<;>conv=>whnf)
 | ((with_reducible refine loop_go ?_);first | (refine loop1 (fun (k : Nat)=>l.length - k) (fun (k : Nat)=>k ≤ l.length ∧ firstE l = firstE (l.drop k)) (fun (k : Nat)=>[(5,.d (.fs (l.map i))),(6,.d (i l.length)),(7,.d (i k))]) (fun (k : Nat)=>[]) (0) (by exact ⟨Nat.zero_le _,rfl⟩) ?_ (fun k C hI hC=>?_);(exact ⟨[],rfl,rfl,⟨(by first | (show (_ : D) = _;with_reducible rfl) ),(by first | exact congrArg (D.int .i64) (by simp only [List.length_map]) ),(by first | exact congrArg (D.int .i64) (by omega) ),trivial⟩,trivial⟩);all_goals (conv=>whnf)))
 | ((with_reducible show C _ _);first | (refine hC (k + 1) _ _ ?_ (by omega) ?_;clear hC;rotate_left;(exact ⟨[],rfl,rfl,⟨(by first | (show (_ : D) = _;with_reducible rfl) ),(by first | (show (_ : D) = _;with_reducible rfl) ),(by first | exact congrArg (D.int .i64) (by omega) ),trivial⟩,trivial⟩);(exact ⟨by omega,by rw [hI.2,List.drop_eq_getElem_cons (by omega),firstE_cons,if_pos (by assumption)]⟩)))
 | (refine ix_map (by omega) ?_;conv=>whnf)
 | (refine wrap64 (by omega) ?_;conv=>whnf)
 | ((with_reducible refine endx_go ?_);first | (refine endx (congrArg i ?_);rw [hI.2,List.drop_eq_nil_of_le (by omega)];rfl;done) | (refine endx (congrArg i ?_);rw [hI.2,List.drop_eq_getElem_cons (by omega),firstE_cons,if_neg (by assumption)];done))
  | fail
  )
attribute [local irreducible] within
theorem c199 (n : Int) : Fn 199 [i n] (.bool (isWho n)):=by
 refine run_walkF eok Tryz.func199 rfl (by kernel_rfl) ?_
 conv=>whnf
 repeat' (first
 | ((with_reducible refine onBool_split (fun h=>?_) (fun h=>?_))<;>conv=>whnf)
 | ((with_reducible refine call_go ?_);(first | refine call_step (run_data (xs:=[_,_,_]) (c198 _ _ _) _) ?_);conv=>whnf)
 | ((with_reducible refine endx_go ?_);first | (exact endx (congrArg D.bool (by unfold isWho isUser;simp_all));done))
  | fail
  )
theorem c218 (n : Int) : Fn 218 [i n] (.bool (decide (n = 2) || decide (n = 3))):=by
 refine run_walkF eok Tryz.func218 rfl (by kernel_rfl) ?_
 conv=>whnf
 repeat' (first
 | ((with_reducible refine on_dec (fun h=>?_) (fun h=>?_))<;>(try simp only [List.length_map] at h)<;>conv=>whnf)
 | ((with_reducible refine endx_go ?_);first | (exact endx (congrArg D.bool (by simp_all));done) )
  | fail
  )
theorem c196 (n : Int) : Fn 196 [i n] (.bool (isHold n)):=by
 refine run_walkF eok Tryz.func196 rfl (by kernel_rfl) ?_
 conv=>whnf
 repeat' (first
 | ((with_reducible refine on_not (fun h=>?_) (fun h=>?_))<;>conv=>whnf)
 | ((with_reducible refine onBool_split (fun h=>?_) (fun h=>?_))<;>conv=>whnf)
 | ((with_reducible refine call_go ?_);(first | refine call_step (run_data (xs:=[_]) (c199 _) _) ?_ | refine call_step (run_data (xs:=[_]) (c218 _) _) ?_);conv=>whnf)
 | ((with_reducible refine endx_go ?_);first | ((rw [← holdI_eq];exact endx (congrArg D.bool (by unfold holdI;rw [show isWho n = true by assumption,show (decide (n = 2) || decide (n = 3)) = true by assumption];rfl)));done) | ((rw [← holdI_eq];exact endx (congrArg D.bool (by unfold holdI;simp_all)));done))
  | fail
  )
theorem c169 (o g : Int) : Fn 169 [i o,i g] (i (pairE o g)):=by
 refine run_walkF eok Tryz.func169 rfl (by kernel_rfl) ?_
 conv=>whnf
 repeat' (first
 | ((with_reducible refine onBool_split (fun h=>?_) (fun h=>?_))<;>conv=>whnf)
 | ((with_reducible refine call_go ?_);(first | refine call_step (run_data (xs:=[_]) (c196 _) _) ?_ | refine call_step (run_data (xs:=[_,_]) (c170 _ _) _) ?_);conv=>whnf)
 | ((with_reducible refine endx_go ?_);first | (exact endx (congrArg i (by unfold pairE;simp_all));done))
  | fail
  )
theorem c174 (a : Ace) : Fn 174 [a.enc] (i (aceE a)):=by
 refine run_walkF eok Tryz.func174 rfl (by kernel_rfl) ?_
 conv=>whnf
 repeat' (first
 | ((with_reducible refine onBool_split (fun h=>?_) (fun h=>?_))<;>conv=>whnf)
 | ((with_reducible refine call_go ?_);(first | refine call_step (run_data (xs:=[_,_,_]) (c198 _ _ _) _) ?_ | refine call_step (run_data (xs:=[_]) (c199 _) _) ?_ | refine call_step (run_data (xs:=[_,_]) (c170 _ _) _) ?_ | refine call_step (run_view (c168 [_,_] (by simp)) rfl rfl) ?_ );conv=>whnf)
 | ((with_reducible refine endx_go ?_);first | (exact endx (congrArg i (by unfold aceE;simp_all [firstE]));done))
  | fail
  )
theorem c170b {b : Bool} (h : b = true) (e : Int) : Fn 170 [.bool b,i e] (i 0):=by subst h;exact c170 true e
theorem c170d {p : Prop} [Decidable p] (h : p) (e : Int) : Fn 170 [.bool (decide p),i e] (i 0):=by rw [decide_eq_true h];exact c170 true e
theorem c174z {a : Ace} (h : aceE a = 0) : Fn 174 [a.enc] (i 0):=by have:=c174 a;rwa [h] at this
theorem c169z {o g : Int} (h : pairE o g = 0) : Fn 169 [i o,i g] (i 0):=by have:=c169 o g;rwa [h] at this
theorem c168z2 : Fn 168 [.fs [i 0,i 0]] (i 0):=c168 [0,0] (by simp)
theorem c168z3 : Fn 168 [.fs [i 0,i 0,i 0]] (i 0):=c168 [0,0,0] (by simp)
theorem DOk.z {d : Dsc} (K : DOk d) (h : d.has = false) : ((d.es.map Ace.enc).length : Int) = 0:=by
 rw [List.length_map]
 rcases K.f with c | c
 ·rw [h] at c;cases c
 ·omega
theorem DOk.gm {d : Dsc} (K : DOk d) : goMax ((d.es.map Ace.enc).length : Int) ((d.au.map Ace.enc).length : Int) ≤ 16:=by
 have h1:=K.e
 have h2:=K.a
 unfold goMax
 simp only [List.length_map]
 split<;>omega
theorem run_dataW {f : Nat} {xs : List D} {r : D} {args : List AV} {H : Heap} (hf : Run Tryz.prog f (xs.map .d) [] (.d r) []) (hv : vl (view 8 H) args = some xs) (hre : args.flatMap (reach 8 H) = []) : Run Tryz.prog f args H (.d r) H:=by
 have:=run_viewF hf hv
 rw [hre] at this;exact this
theorem beq_of {p q : Bool} (h : p = q) : (p == q) = true:=by subst h;exact beq_self_eq_true p
theorem c173 (d : Dsc) (k : Nat) (a : Ace) (ha : (d.es ++ d.au)[k]? = some a) (h : aceK d.es.length (d.es ++ d.au) k = 0) : Fn 173 [i k,a.enc,.fp d.enc 0] (i 0):=by
 refine run_walkF eok Tryz.func173 rfl (by kernel_rfl) ?_
 conv=>whnf
 repeat' (first
 | ((with_reducible refine call_go ?_);(first | refine call_step (run_data (xs:=[_]) (c174z (ace_ok ha h).1) _) ?_ | refine call_step (run_data (xs:=[_,_]) (c170b (beq_of ((ace_ok ha h).2.trans (decide_eq_decide.2 (by rw [List.length_map];omega)))) _) _) ?_ | refine call_step (run_view c168z2 rfl rfl) ?_);conv=>whnf)
 | (refine ⟨[],[(3,1),(7,1)],(by decide +kernel),?_⟩;conv=>whnf)
 | ((with_reducible refine endx_go ?_);first | (exact endx rfl;done))
 | (refine ⟨rfl,?_⟩;conv=>whnf)
  | fail
  )
theorem c171 (d : Dsc) (K : DOk d) : Fn 171 [.fs ((d.es ++ d.au).map Ace.enc),.fn 173 [] [.fp d.enc 0]] (.tup [i 0,i 0]):=by
 have hl : (d.es ++ d.au).length ≤ 32:=(by have h1:=K.e;have h2:=K.a;rw [List.length_append];omega)
 refine run_walkF eok Tryz.func171 rfl (by kernel_rfl) ?_
 conv=>whnf
 repeat' (first
 | ((with_reducible refine on_dec (fun h=>?_) (fun h=>?_))<;>(try simp only [List.length_map] at h)<;>conv=>whnf)
 | ((with_reducible refine call_go ?_);(first | refine call_step (run_data (xs:=[_,_,_]) (c173 d k ((d.es ++ d.au)[k]'(by omega)) (List.getElem?_eq_getElem _) (K.k k (by omega))) _) ?_);conv=>whnf)
 | ((with_reducible refine loop_go ?_);first | (refine loop1 (fun (k : Nat)=>(d.es ++ d.au).length - k) (fun (k : Nat)=>k ≤ (d.es ++ d.au).length) (fun (k : Nat)=>[(1,.d (.fn 173 [] [.fp d.enc 0])),(9,.d (.fs ((d.es ++ d.au).map Ace.enc))),(10,.d (i (d.es ++ d.au).length)),(11,.d (i k))]) (fun (k : Nat)=>[]) (0) (by exact Nat.zero_le _) ?_ (fun k C hI hC=>?_);(exact ⟨[],rfl,rfl,⟨(by first | (show (_ : D) = _;with_reducible rfl) ),(by first | (show (_ : D) = _;with_reducible rfl) ),(by first | exact congrArg (D.int .i64) (by simp only [List.length_map]) ),(by first | exact congrArg (D.int .i64) (by omega) ),trivial⟩,trivial⟩);all_goals (conv=>whnf)))
 | ((with_reducible show C _ _);first | (refine hC (k + 1) _ _ ?_ (by omega) ?_;clear hC;rotate_left;(exact ⟨[],rfl,rfl,⟨(by first | (show (_ : D) = _;with_reducible rfl) ),(by first | (show (_ : D) = _;with_reducible rfl) ),(by first | (show (_ : D) = _;with_reducible rfl) ),(by first | exact congrArg (D.int .i64) (by omega) ),trivial⟩,trivial⟩);(exact (by omega))))
 | (refine ix_map (by omega) ?_;conv=>whnf)
 | (refine wrap64 (by omega) ?_;conv=>whnf)
 | ((with_reducible refine endx_go ?_);first | (exact endxv (view_tup (vlc rfl (vlc rfl vln))) rfl;done))
  | fail
  )
theorem c124 (d : Dsc) (K : DOk d) : Fn 124 [d.enc] (.tup [i 0,i 0]):=by
 refine run_walkF eok Tryz.func124 rfl (by kernel_rfl) ?_
 conv=>whnf
 repeat' (first
 | ((with_reducible refine onBool_split (fun h=>?_) (fun h=>?_))<;>conv=>whnf)
 | ((with_reducible refine call_go ?_);(first | refine call_step (run_data (xs:=[_,_]) (c169z K.p) _) ?_ | refine call_step (run_data (xs:=[_,_]) (c170d K.gm _) _) ?_ | refine call_step (run_data (xs:=[_,_]) (c170d (K.z (by assumption)) _) _) ?_ | refine call_step (run_data (xs:=[_,_]) (c170b rfl _) _) ?_ | refine call_step (run_view c168z3 rfl rfl) ?_ | refine call_step (run_viewF (c172e d.es d.au K.e K.a) (vlc rfl vln)) ?_ | refine call_step (run_view (c171 d K) rfl (vlc rfl (vlc rfl vln))) ?_);conv=>whnf)
 | (refine ⟨[],[(6,4),(9,4),(15,4),(15,13)],(by decide +kernel),?_⟩;conv=>whnf)
 | ((with_reducible refine endx_go ?_);first | (exact endxv (view_tup (vlc rfl (vlc rfl vln))) rfl;done) )
 | (refine ⟨rfl,?_⟩;conv=>whnf)
  | fail
  )
end Go.Proofs.YtkmhnaojgkcjoaaGreatDoor
namespace Go.Proofs.YtkmhnaojgkcjoaaGreatDoor
open Go Dw
set_option maxRecDepth 10000
attribute [local irreducible] Run
set_option maxHeartbeats 1000000
open Paths
attribute [local irreducible] nameErr cut normal dots partErr text parse glue fold within
theorem ents_nm {len : Int} {l : List Ent} : ∀ (n k : Nat),n = l.length - k → entsE len l n k = 0 → ∀ j (h : j < l.length),k ≤ j → nameErr l[j].name = 0
 | 0,k,hn,_,j,h,hk=>by omega
 | n + 1,k,hn,he,j,h,hk=>by
  have hkl : k < l.length:=by omega
  rw [ents_at hkl hn] at he
  by_cases e : entE len (l.take k) l[k] = 0
  ·rw [if_neg (by simpa using e)] at he
   by_cases hj : j = k
   ·subst hj;exact entE_nm e
   ·exact ents_nm (l.length - (k + 1)) (k + 1) rfl he j h (by omega)
  ·rw [if_pos e] at he;exact absurd he e
theorem nod_nm {t : List Nod} {d : Int} {x : Nod} (h : nodE t d x = 0) : ∀ e ∈ x.ents,nameErr e.name = 0:=by
 unfold nodE at h
 split at h
 ·exact absurd h (by decide)
 ·split at h
  ·exact absurd h (by decide)
  ·split at h
   ·exact absurd h (by decide)
   ·split at h
    ·rename_i h1;exact absurd h h1
    ·rename_i h1
     intro e he
     obtain ⟨j,hj,rfl⟩:=List.getElem_of_mem he
     exact ents_nm _ 0 rfl (Classical.not_not.1 h1) j hj (Nat.zero_le _)
theorem chk_err {t : List Nod} (h : (checkT t).2 = 0) : 0 < t.length ∧ t.length ≤ 40 ∧ ∀ j,j < t.length → errN t j = 0:=by
 unfold checkT at h
 by_cases h1 : t.length = 0
 ·rw [if_pos h1] at h;exact absurd h (by decide)
 ·by_cases h2 : 40 < t.length
  ·rw [if_neg h1,if_pos h2] at h;exact absurd h (by decide)
  ·rw [if_neg h1,if_neg h2] at h
   by_cases h3 : (frst (errN t) t.length 0).2 = 0
   ·exact ⟨by omega,by omega,fun j hj=>frst_ok t.length 0 rfl h3 j (Nat.zero_le _) hj⟩
   ·rw [if_neg h3] at h;exact absurd h h3
theorem chk_nm {t : List Nod} (h : (checkT t).2 = 0) {d : Nat} {x : Nod} (hx : t[d]? = some x) : ∀ e ∈ x.ents,nameErr e.name = 0:=by
 obtain ⟨hd,rfl⟩:=List.getElem?_eq_some_iff.1 hx
 have:=(chk_err h).2.2 d hd
 rw [errN_at hd] at this
 exact nod_nm this
structure NOk (t : List PNd) (n : Nat) (x : PNd) : Prop where
 kind : ¬ x.kind = 3
 ord : ∀ k,k < x.ents.length → ordK (x.ents.map Ent.name) k = 0
 nm : x.kind = 1 → namesR (treeN t) n ≤ 4
 fil : x.kind = 1 ∨ (x.data = [] ∧ x.sts.length = 0)
 sl : x.sts.length ≤ 4
 sn : ∀ k (h : k < x.sts.length),nameErr x.sts[k].name = 0
 so : ∀ k,k < x.sts.length → ordK (x.sts.map Stm.name) k = 0
 bg : x.data.length ≤ 4096
 bs : ∀ y ∈ x.sts,y.data.length ≤ 4096
 de : (dscE x.d).2 = 0
 mt : isTick x.made = true
 ct : isTick x.chg = true
theorem big_f {s : Bs} (h : big s = false) : s.length ≤ 4096:=by
 unfold big at h
 have:=of_decide_eq_false h
 omega
theorem nod_ok {t : List PNd} {n : Nat} {x : PNd} (h : nodR t n x = 0) : NOk t n x:=by
 unfold nodR at h
 split at h
 ·exact absurd h (by decide)
 rename_i h1
 split at h
 ·exact absurd h (by decide)
 rename_i h2
 unfold nodA at h
 split at h
 ·exact absurd h (by decide)
 rename_i h3
 unfold nodB at h
 split at h
 ·exact absurd h (by decide)
 rename_i h4
 unfold nodC at h
 split at h
 ·exact absurd h (by decide)
 rename_i h5
 unfold nodD at h
 split at h
 ·rename_i c;exact absurd h c
 rename_i h6
 unfold nodF at h
 split at h
 ·exact absurd h (by decide)
 rename_i h7
 split at h
 ·rename_i c;exact absurd h c
 rename_i h8
 split at h
 ·rename_i h9
  have h7' : bigR x = false:=by simpa using h7
  unfold bigR at h7'
  rw [Bool.or_eq_false_iff,List.any_eq_false] at h7'
  have hs : ∀ k (hk : k < x.sts.length),stmK x.sts k = 0:=fun k hk=>frst_ok x.sts.length 0 rfl (Classical.not_not.1 h6) k (Nat.zero_le _) hk
  have hn : ∀ k (hk : k < x.sts.length),nameErr x.sts[k].name = 0:=fun k hk=>by
   have:=hs k hk
   rw [stmK_at hk] at this
   split at this
   ·assumption
   ·assumption
  refine ⟨h1,fun k hk=>?_,fun c=>?_,?_,by omega,hn,fun k hk=>?_,big_f h7'.1,fun y hy=>big_f (by simpa using h7'.2 y hy),Classical.not_not.1 h8,h9.1,h9.2⟩
  ·rcases Nat.eq_zero_or_pos k with rfl | h0
   ·exact ordK_0
   ·exact frst_ok _ 1 rfl (Classical.not_not.1 h2) k h0 (by rw [List.length_map];exact hk)
  ·have:=fun c2=>h3 ⟨c,c2⟩
   omega
  ·by_cases c : x.kind = 1
   ·exact .inl c
   ·refine .inr ⟨?_,?_⟩
    ·by_cases c2 : x.data = []
     ·exact c2
     ·exact absurd ⟨c,.inl c2⟩ h4
    ·by_cases c2 : 0 < x.sts.length
     ·exact absurd ⟨c,.inr c2⟩ h4
     ·omega
  ·have:=hs k hk
   rw [stmK_at hk,if_pos (hn k hk)] at this
   exact this
 ·exact absurd h (by decide)
structure SOk (s : Stt) : Prop where
 n20 : s.nodes.length ≤ 20
 ck : (checkT (treeN s.nodes)).2 = 0
 nd : ∀ k (h : k < s.nodes.length),NOk s.nodes k s.nodes[k]
 all : allN s.nodes ≤ 8192
 l10 : s.lims.length ≤ 10
 lm : ∀ k,k < s.lims.length → limK s.lims k = 0
 tk : isTick s.tick = true
theorem st_ok {s : Stt} (h : (chkS s).2 = 0) : SOk s:=by
 unfold chkS at h
 split at h
 ·exact absurd h (by decide)
 rename_i h1
 split at h
 rotate_left
 ·rename_i c;exact absurd h c
 rename_i h2
 unfold chkA at h
 split at h
 rotate_left
 ·rename_i c;exact absurd h c
 rename_i h3
 unfold chkB at h
 split at h
 ·exact absurd h (by decide)
 rename_i h4
 unfold chkC at h
 split at h
 rotate_left
 ·rename_i c;exact absurd h c
 rename_i h5
 split at h
 rotate_left
 ·exact absurd h (by decide)
 rename_i h6
 refine ⟨by omega,h2,fun k hk=>?_,by omega,by omega,fun k hk=>frst_ok _ 0 rfl h5 k (Nat.zero_le _) hk,h6⟩
 have:=frst_ok _ 0 rfl h3 k (Nat.zero_le _) hk
 rw [nodK_at hk] at this
 exact nod_ok this
theorem SOk.nn {s : Stt} (V : SOk s) {x : PNd} (hx : x ∈ s.nodes) : ∀ e ∈ x.ents,nameErr e.name = 0:=by
 obtain ⟨k,hk,rfl⟩:=List.getElem_of_mem hx
 exact fun e he=>chk_nm V.ck (treeN_at hk) e he
theorem tick_w {n : Int} (h : isTick n = true) : within n 0 1000000 = true:=h
theorem c26z2 : Fn 26 [.fs [i 0,i 0]] (i 0):=c26 [0,0] (by simp)
theorem c26z4 : Fn 26 [.fs [i 0,i 0,i 0,i 0]] (i 0):=c26 [0,0,0,0] (by simp)
theorem c26z5 : Fn 26 [.fs [i 0,i 0,i 0,i 0,i 0]] (i 0):=c26 [0,0,0,0,0] (by simp)
theorem c26z3 : Fn 26 [.fs [i 0,i 0,i 0]] (i 0):=c26 [0,0,0] (by simp)
theorem c123z (s : Bs) (hs : s.length < 2000000) (h0 : nameErr s = 0) : Fn 123 [.str s] (i 0):=by have:=c123 s hs;rwa [h0] at this
def lO : AO:=⟨[.d (.bool false)],1,0⟩
attribute [local irreducible] ordK Op.bytesLess treeN namesR isTick dscE
theorem c122 (t : List PNd) (n : Nat) (x : PNd) (N : NOk t n x) (hsb : ∀ y ∈ x.sts,y.name.length < 2000000) (k : Nat) (hk : k < x.sts.length) : Run Tryz.prog 122 [.d (i k),.d x.sts[k].enc,.ptr 0 0 0,.d (.fp x.enc 0)] [lO] (.d (i 0)) [lO]:=by
 have hbk:=N.bs _ (List.getElem_mem hk);have hsl:=N.sl
 refine run_walkV eok Tryz.func122 rfl (by kernel_rfl) [0] (by rfl) [] ?_
 conv=>whnf
 repeat' (first
 | ((with_reducible refine on_dec (fun h=>?_) (fun h=>?_))<;>(try simp only [List.length_map] at h)<;>conv=>whnf)
 | ((with_reducible refine call_go ?_);(first | refine call_step (run_data (xs:=[_]) (c123z _ (hsb _ (List.getElem_mem (by omega))) (N.sn k hk)) _) ?_ | refine call_step (run_data (xs:=[_]) (c120 _ (hsb _ (List.getElem_mem (by omega))) (N.sn _ (by omega))) _) ?_ | refine call_step (run_data (xs:=[_,_]) (c27t _) _) ?_ | refine call_step (run_data (xs:=[_,_]) (c27b (ord_lt (g:=Stm.name) (by omega) hk (N.so k hk)) _) _) ?_ | refine call_step (run_view c26z2 rfl rfl) ?_);conv=>whnf)
 | (refine ⟨[],[(16,14)],(by decide +kernel),?_⟩;conv=>whnf)
 | (refine wrap64 (by have h9:=max1 (k:=k) (by assumption);omega) ?_;conv=>whnf)
 | (refine ix_max (f:=Stm.enc) (l:=x.sts) (by assumption) hk ?_;conv=>whnf)
 | ((with_reducible refine endx_go ?_);first | ((rw [show decide ((4096 : Int) < (x.sts[k].data.length : Int)) = false from decide_eq_false (by omega)]);refine endX_of (.inl ⟨[.old 0],rfl,rfl,⟨rfl,trivial⟩,⟨⟨rfl,rfl,.inl ⟨[_],rfl,rfl⟩⟩,trivial⟩⟩);done))
 | (refine ⟨rfl,?_⟩;conv=>whnf)
  | fail
  )
theorem set_same {H : Heap} {a : Nat} {o : AO} (h : H[a]? = some o) : H.set a o = H:=by
 obtain ⟨hl,he⟩:=List.getElem?_eq_some_iff.1 h
 rw [← he];exact List.set_getElem_self hl
theorem lO_fl : AV.flats lO.elems = true ∧ lO.st ≠ 1:=⟨rfl,Nat.zero_ne_one⟩
theorem lO_re (τ : Nat → Nat) : renO τ lO = lO:=rfl
theorem c122at (t : List PNd) (n : Nat) (x : PNd) (N : NOk t n x) (hsb : ∀ y ∈ x.sts,y.name.length < 2000000) (k : Nat) (hk : k < x.sts.length) {H : Heap} (h1 : H[0]? = some lO) : Run Tryz.prog 122 [.d (i k),.d x.sts[k].enc,.ptr 0 0 0,.d (.fp x.enc 0)] H (.d (i 0)) H:=by
 refine run_at (σ:=[0]) (F:=[]) (fl:=true) (c122 t n x N hsb k hk) (by decide) (fun _ h=>by cases h) ⟨⟨rfl,fun _ h=>by cases h⟩,⟨rfl,fun _ h=>by cases h⟩,⟨rfl,rfl,rfl⟩,⟨rfl,fun _ h=>by cases h⟩,trivial⟩ ⟨(nthK_iff _ _).2 ⟨_,h1,rfl,rfl,.inl ⟨[_],rfl,rfl⟩⟩,trivial⟩ (fun _=>⟨rfl,fun o ho=>?_⟩) rfl ?_
 ·simp only [List.mem_cons,List.not_mem_nil,or_false] at ho
  subst ho;exact lO_fl
 ·simp only [outH,List.map_cons,List.map_nil,lO_re,setAll,List.length_cons,List.length_nil,List.drop_succ_cons,List.drop_zero,List.append_nil,if_true]
  exact set_same h1
theorem c121 (t : List PNd) (n : Nat) (x : PNd) (N : NOk t n x) (hsb : ∀ y ∈ x.sts,y.name.length < 2000000) : Run Tryz.prog 121 [.d (.fs (x.sts.map Stm.enc)),.fn 122 [] [.ptr 0 0 0,.d (.fp x.enc 0)]] [lO] (.d (.tup [i 0,i 0])) [lO]:=by
 have hsl:=N.sl
 refine run_walkV eok Tryz.func121 rfl (by kernel_rfl) [0] (by rfl) [] ?_
 conv=>whnf
 repeat' (first
 | ((with_reducible refine on_dec (fun h=>?_) (fun h=>?_))<;>(try simp only [List.length_map] at h)<;>conv=>whnf)
 | ((with_reducible refine loop_go ?_);first | (refine loop1 (fun (k : Nat)=>x.sts.length - k) (fun (k : Nat)=>k ≤ x.sts.length) (fun (k : Nat)=>[(1,.fn 122 [] [.ptr 0 0 0,.d (.fp x.enc 0)]),(9,.d (.fs (x.sts.map Stm.enc))),(10,.d (i x.sts.length)),(11,.d (i k))]) (fun (k : Nat)=>[lO]) (0) (by exact Nat.zero_le _) ?_ (fun k C hI hC=>?_);(exact ⟨[.old 0],rfl,rfl,⟨⟨rfl,trivial,⟨⟨rfl,rfl,rfl⟩,rfl,trivial⟩⟩,(by first | (show (_ : D) = _;with_reducible rfl) ),(by first | exact congrArg (D.int .i64) (by simp only [List.length_map]) ),(by first | exact congrArg (D.int .i64) (by omega) ),trivial⟩,⟨⟨rfl,rfl,.inl ⟨[_],rfl,rfl⟩⟩,trivial⟩⟩);all_goals (conv=>whnf)))
 | ((with_reducible show C _ _);first | (refine hC (k + 1) _ _ ?_ (by omega) ?_;clear hC;rotate_left;(exact ⟨[.old 0],rfl,rfl,⟨⟨rfl,trivial,⟨⟨rfl,rfl,rfl⟩,rfl,trivial⟩⟩,(by first | (show (_ : D) = _;with_reducible rfl) ),(by first | (show (_ : D) = _;with_reducible rfl) ),(by first | exact congrArg (D.int .i64) (by omega) ),trivial⟩,⟨⟨rfl,rfl,.inl ⟨[_],rfl,rfl⟩⟩,trivial⟩⟩);(exact (by omega))))
 | (refine ix_map (by omega) ?_;conv=>whnf)
 | (refine wrap64 (by omega) ?_;conv=>whnf)
 | (have hk : k < x.sts.length:=(by omega);refine call_go ?_;refine call_step (c122at t n x N hsb k hk rfl) ?_;conv=>whnf)
 | ((with_reducible refine endx_go ?_);first | (refine endX_of (.inl ⟨[.old 0],rfl,rfl,⟨⟨rfl,rfl,rfl,trivial⟩,trivial⟩,⟨⟨rfl,rfl,.inl ⟨[_],rfl,rfl⟩⟩,trivial⟩⟩);done))
  | fail
  )
theorem c121at (t : List PNd) (n : Nat) (x : PNd) (N : NOk t n x) (hsb : ∀ y ∈ x.sts,y.name.length < 2000000) {H : Heap} {a b : Nat} (h1 : H[a]? = some lO) (h2 : view 8 H (.ptr b 0 0) = some (.fp x.enc 0)) (h3 : reach 8 H (.ptr b 0 0) = [b]) (hab : a ≠ b) : Run Tryz.prog 121 [.d (.fs (x.sts.map Stm.enc)),.fn 122 [] [.ptr a 0 0,.ptr b 0 0]] H (.d (.tup [i 0,i 0])) H:=by
 refine run_at (σ:=[a]) (F:=[b]) (fl:=true) (c121 t n x N hsb) (by simp) (fun z hz=>by simp only [List.mem_singleton] at hz ⊢;subst hz;exact fun c=>hab c.symm) ⟨⟨rfl,fun _ h=>by cases h⟩,⟨rfl,trivial,⟨rfl,rfl,rfl⟩,⟨h2,fun z hz=>by rw [h3] at hz;exact hz⟩,trivial⟩,trivial⟩ ⟨(nthK_iff _ _).2 ⟨_,h1,rfl,rfl,.inl ⟨[_],rfl,rfl⟩⟩,trivial⟩ (fun _=>⟨rfl,fun o ho=>?_⟩) rfl ?_
 ·simp only [List.mem_cons,List.not_mem_nil,or_false] at ho
  subst ho;exact lO_fl
 ·simp only [outH,List.map_cons,List.map_nil,lO_re,setAll,List.length_cons,List.length_nil,List.drop_succ_cons,List.drop_zero,List.append_nil,if_true]
  exact set_same h1
theorem box_e {n : Nat} (h : n ≤ 4096) : some (AO.mk [.d (.bool (decide ((4096 : Int) < n)))] 1 0) = some lO:=by rw [decide_eq_false (by omega)];rfl
theorem c27n {p : Prop} [Decidable p] (h : ¬ p) (e : Int) : Fn 27 [.bool (!decide p),i e] (i 0):=by
 rw [decide_eq_false h];exact c27 true e
theorem c45t {n lo hi : Int} (h : within n lo hi = true) : Fn 45 [i n,i lo,i hi] (.bool true):=by have:=c45 n lo hi;rwa [h] at this
theorem c71f (s : Stt) (B : Sb s) (V : SOk s) (n : Nat) (hn : n < s.nodes.length) (hd : s.nodes[n].kind = 1) : Fn 71 [.fp s.enc 0,i n] (i 0):=by
 have N:=V.nd n hn
 have hx : s.nodes[n] ∈ s.nodes:=List.getElem_mem hn
 have hmt:=tick_w N.mt
 have hct:=tick_w N.ct
 have hnk:=N.kind
 have hbg:=N.bg
 have hsl : ((s.nodes[n].sts.map Stm.enc).length : Int) ≤ 4:=(by have:=N.sl;rw [List.length_map];omega)
 have hnm : (namesR (treeN s.nodes) n : Int) ≤ 4:=(by have:=N.nm hd;omega)
 refine run_walkF eok Tryz.func71 rfl (by kernel_rfl) ?_
 conv=>whnf
 repeat' (first
 | ((with_reducible refine on_dec_t (by assumption) ?_);conv=>whnf)
 | ((with_reducible refine on_ndec_t (by first | assumption ) ?_);conv=>whnf)
 | ((with_reducible refine call_go ?_);(first | refine call_step (run_view (c118 s.nodes[n] (B.nl _ hx) (V.nn hx) N.ord (B.el _ hx)) rfl (vlc rfl (vlc rfl vln))) ?_ | refine call_step (run_data (xs:=[_,_]) (c27t _) _) ?_ | refine call_step (run_data (xs:=[_,_]) (c27d (by assumption) _) _) ?_ | refine call_step (run_data (xs:=[_,_]) (c27n hnk _) _) ?_ | refine call_step (run_data (xs:=[_,_]) (c27n (by omega) _) _) ?_ | refine call_step (run_data (xs:=[_,_]) (c91 s B n V.n20) _) ?_ | refine call_step (run_view c26z5 rfl rfl) ?_ | refine call_step (run_view c26z4 rfl rfl) ?_ | refine call_step (c121at s.nodes n s.nodes[n] N (B.sn _ hx) (box_e hbg) rfl rfl (by decide)) ?_ | refine call_step (run_view (c124 s.nodes[n].d (dok N.de)) rfl rfl) ?_ | refine call_step (run_data (xs:=[_,_,_]) (c45t hmt) _) ?_ | refine call_step (run_data (xs:=[_,_,_]) (c45t hct) _) ?_);conv=>whnf)
 | (refine ⟨[],[(6,3)],(by decide +kernel),?_⟩;conv=>whnf)
 | (refine ⟨[],[(28,3),(28,10),(28,13),(28,26)],(by decide +kernel),?_⟩;conv=>whnf)
 | (refine ix_map (by omega) ?_;conv=>whnf)
 | ((with_reducible refine endx_go ?_);first | (exact endx rfl;done))
 | (refine ⟨rfl,?_⟩;conv=>whnf)
  | fail
  )
theorem c71n (s : Stt) (B : Sb s) (V : SOk s) (n : Nat) (hn : n < s.nodes.length) (hd : ¬ s.nodes[n].kind = 1) : Fn 71 [.fp s.enc 0,i n] (i 0):=by
 have N:=V.nd n hn
 have hx : s.nodes[n] ∈ s.nodes:=List.getElem_mem hn
 have hmt:=tick_w N.mt
 have hct:=tick_w N.ct
 have hnk:=N.kind
 have hbg:=N.bg
 have hsl : ((s.nodes[n].sts.map Stm.enc).length : Int) ≤ 4:=(by have:=N.sl;rw [List.length_map];omega)
 have hf:=N.fil.resolve_left hd
 have hf1 : s.nodes[n].data = (ByteArray.mk #[]).data.toList:=hf.1
 have hf2 : ((s.nodes[n].sts.map Stm.enc).length : Int) = 0:=(by have:=hf.2;rw [List.length_map];omega)
 refine run_walkF eok Tryz.func71 rfl (by kernel_rfl) ?_
 conv=>whnf
 repeat' (first
 | ((with_reducible refine on_dec_f (by assumption) ?_);conv=>whnf)
 | ((with_reducible refine on_ndec_f (by assumption) ?_);conv=>whnf)
 | ((with_reducible refine onBool_split (fun h=>?_) (fun h=>?_))<;>conv=>whnf)
 | ((with_reducible refine call_go ?_);(first | refine call_step (run_view (c118 s.nodes[n] (B.nl _ hx) (V.nn hx) N.ord (B.el _ hx)) rfl (vlc rfl (vlc rfl vln))) ?_ | refine call_step (run_data (xs:=[_,_]) (c27t _) _) ?_ | refine call_step (run_data (xs:=[_,_]) (c27d (by assumption) _) _) ?_ | refine call_step (run_data (xs:=[_,_]) (c27n hnk _) _) ?_ | refine call_step (run_data (xs:=[_,_]) (c27n (by omega) _) _) ?_ | refine call_step (run_view c26z5 rfl rfl) ?_ | refine call_step (run_view c26z4 rfl rfl) ?_ | refine call_step (c121at s.nodes n s.nodes[n] N (B.sn _ hx) (box_e hbg) rfl rfl (by decide)) ?_ | refine call_step (run_view (c124 s.nodes[n].d (dok N.de)) rfl rfl) ?_ | refine call_step (run_data (xs:=[_,_,_]) (c45t hmt) _) ?_ | refine call_step (run_data (xs:=[_,_,_]) (c45t hct) _) ?_);conv=>whnf)
 | (refine ⟨[],[(6,3)],(by decide +kernel),?_⟩;conv=>whnf)
 | (refine ⟨[],[(28,3),(28,10),(28,13),(28,26)],(by decide +kernel),?_⟩;conv=>whnf)
 | (refine ix_map (by omega) ?_;conv=>whnf)
 | (focus (exact absurd h (by rw [hf1];decide)))
 | ((with_reducible refine endx_go ?_);first | (exact endx rfl;done))
 | (refine ⟨rfl,?_⟩;conv=>whnf)
  | fail
  )
theorem c71 (s : Stt) (B : Sb s) (V : SOk s) (n : Nat) (hn : n < s.nodes.length) : Fn 71 [.fp s.enc 0,i n] (i 0):=by
 by_cases h : s.nodes[n].kind = 1
 ·exact c71f s B V n hn h
 ·exact c71n s B V n hn h
end Go.Proofs.YtkmhnaojgkcjoaaGreatDoor
namespace Go.Proofs.YtkmhnaojgkcjoaaGreatDoor
open Go Dw
set_option maxRecDepth 10000
attribute [local irreducible] Run
set_option maxHeartbeats 1000000
open Paths
def sumP (p : PNd → Bool) : List PNd → Nat
 | []=>0
 | x :: l=>(if p x = true then bytesN x else 0) + sumP p l
theorem sumP_take {p : PNd → Bool} {l : List PNd} {k : Nat} (h : k < l.length) : sumP p (l.take (k + 1)) = sumP p (l.take k) + (if p l[k] = true then bytesN l[k] else 0):=by
 have key : ∀ (a : List PNd) (b : PNd),sumP p (a ++ [b]) = sumP p a + (if p b = true then bytesN b else 0):=by
  intro a b
  induction a with
  | nil=>simp [sumP]
  | cons x a ih=>simp only [List.cons_append,sumP,ih];omega
 rw [List.take_succ_eq_append_getElem h,key]
theorem sumP_t {p : PNd → Bool} {l : List PNd} {k : Nat} (h : k < l.length) (hp : p l[k] = true) : sumP p (l.take (k + 1)) = sumP p (l.take k) + bytesN l[k]:=by rw [sumP_take h,if_pos hp]
theorem sumP_f {p : PNd → Bool} {l : List PNd} {k : Nat} (h : k < l.length) (hp : p l[k] = false) : sumP p (l.take (k + 1)) = sumP p (l.take k):=by rw [sumP_take h,if_neg (by rw [hp];decide)];rfl
theorem sumP_le {p : PNd → Bool} : ∀ (l : List PNd),sumP p l ≤ allN l
 | []=>Nat.le_refl _
 | x :: l=>by
  have:=sumP_le (p:=p) l
  simp only [sumP,allN]
  split<;>omega
theorem sumP_all : ∀ (l : List PNd),sumP (fun _=>true) l = allN l
 | []=>rfl
 | x :: l=>by simp only [sumP,allN,sumP_all l,if_true]
def useN (s : Stt) (who : Int) : Nat:=sumP (fun x=>decide (x.d.owner = who)) s.nodes
theorem lim_ok {l : List Lmt} {k : Nat} (h : k < l.length) (h2 : limK l k = 0) : isWho l[k].who = true ∧ within l[k].lim 0 8192 = true ∧ (0 < k → (l[k - 1]'(by omega)).who < l[k].who):=by
 by_cases c : isWho l[k].who = true ∧ within l[k].lim 0 8192 = true
 ·refine ⟨c.1,c.2,fun h0=>?_⟩
  rw [limK_n h c.1 c.2 h0] at h2
  split at h2
  ·exact absurd h2 (by decide)
  ·omega
 ·rw [limK_2 h c] at h2;exact absurd h2 (by decide)
theorem c28t {n : Int} (h : isWho n = true) : Fn 28 [i n] (.bool true):=by have:=c28 n;rwa [h] at this
attribute [local irreducible] ordK Op.bytesLess treeN namesR isTick dscE bytesN allN sumP isWho
theorem c70 (s : Stt) (B : Sb s) (V : SOk s) (k : Nat) (hk : k < s.nodes.length) : Fn 70 [i k,s.nodes[k].enc,.fp (.fp s.enc 0) 0] (i 0):=by
 refine run_walkF eok Tryz.func70 rfl (by kernel_rfl) ?_
 conv=>whnf
 repeat' (first
 | ((with_reducible refine call_go ?_);(first | refine call_step (run_data (xs:=[_,_]) (c71 s B V k hk) _) ?_);conv=>whnf)
 | ((with_reducible refine endx_go ?_);first | (exact endx rfl;done))
  | fail
  )
theorem c69 (s : Stt) (B : Sb s) (V : SOk s) : Fn 69 [.fs (s.nodes.map PNd.enc),.fn 70 [] [.fp (.fp s.enc 0) 0]] (.tup [i 0,i 0]):=by
 have hn20:=V.n20
 refine run_walkF eok Tryz.func69 rfl (by kernel_rfl) ?_
 conv=>whnf
 repeat' (first
 | ((with_reducible refine on_dec (fun h=>?_) (fun h=>?_))<;>(try simp only [List.length_map] at h)<;>conv=>whnf)
 | ((with_reducible refine call_go ?_);(first | refine call_step (run_data (xs:=[_,_,_]) (c70 s B V k (by omega)) _) ?_);conv=>whnf)
 | ((with_reducible refine loop_go ?_);first | (refine loop1 (fun (k : Nat)=>s.nodes.length - k) (fun (k : Nat)=>k ≤ s.nodes.length) (fun (k : Nat)=>[(1,.d (.fn 70 [] [.fp (.fp s.enc 0) 0])),(9,.d (.fs (s.nodes.map PNd.enc))),(10,.d (i s.nodes.length)),(11,.d (i k))]) (fun (k : Nat)=>[]) (0) (by exact Nat.zero_le _) ?_ (fun k C hI hC=>?_);(exact ⟨[],rfl,rfl,⟨(by first | (show (_ : D) = _;with_reducible rfl) ),(by first | (show (_ : D) = _;with_reducible rfl) ),(by first | exact congrArg (D.int .i64) (by simp only [List.length_map]) ),(by first | exact congrArg (D.int .i64) (by omega) ),trivial⟩,trivial⟩);all_goals (conv=>whnf)))
 | ((with_reducible show C _ _);first | (refine hC (k + 1) _ _ ?_ (by omega) ?_;clear hC;rotate_left;(exact ⟨[],rfl,rfl,⟨(by first | (show (_ : D) = _;with_reducible rfl) ),(by first | (show (_ : D) = _;with_reducible rfl) ),(by first | (show (_ : D) = _;with_reducible rfl) ),(by first | exact congrArg (D.int .i64) (by omega) ),trivial⟩,trivial⟩);(exact (by omega))))
 | (refine ix_map (by omega) ?_;conv=>whnf)
 | (refine wrap64 (by omega) ?_;conv=>whnf)
 | ((with_reducible refine endx_go ?_);first | (exact endxv (view_tup (vlc rfl (vlc rfl vln))) rfl;done))
  | fail
  )
theorem c125 (x : PNd) : Fn 125 [x.enc] (.bool true):=by
 refine run_walkF eok Tryz.func125 rfl (by kernel_rfl) ?_
 conv=>whnf
 repeat' (first
 | ((with_reducible refine endx_go ?_);first | (exact endx rfl;done))
  | fail
  )
theorem c47 (x : PNd) (who : Int) : Fn 47 [x.enc,.fp (i who) 0] (.bool (decide (x.d.owner = who))):=by
 refine run_walkF eok Tryz.func47 rfl (by kernel_rfl) ?_
 conv=>whnf
 repeat' (first
 | ((with_reducible refine endx_go ?_);first | (exact endx rfl;done))
  | fail
  )
theorem c46t (s : Stt) (B : Sb s) (hl : s.nodes.length ≤ 20) : Fn 46 [.fp s.enc 0,.fn 125 [] []] (i (sumP (fun _=>true) s.nodes : Nat)):=by
 refine run_walkF eok Tryz.func46 rfl (by kernel_rfl) ?_
 conv=>whnf
 repeat' (first
 | ((with_reducible refine on_dec (fun h=>?_) (fun h=>?_))<;>(try simp only [List.length_map] at h)<;>conv=>whnf)
 | ((with_reducible refine call_go ?_);(first | refine call_step (run_data (xs:=[_]) (c78 _ (B.sd _ (List.getElem_mem (by omega))) (B.sl _ (List.getElem_mem (by omega)))) _) ?_ | refine call_step (run_data (xs:=[_]) (c125 _) _) ?_);conv=>whnf)
 | ((with_reducible refine loop_go ?_);first | (refine loop1 (fun (k : Nat)=>s.nodes.length - k) (fun (k : Nat)=>k ≤ s.nodes.length) (fun (k : Nat)=>[(1,.d (.fn 125 [] [])),(5,.d (i (sumP (fun _=>true) (s.nodes.take k) : Nat))),(12,.d (.fs (s.nodes.map PNd.enc))),(13,.d (i s.nodes.length)),(14,.d (i k))]) (fun (k : Nat)=>[]) (0) (by exact Nat.zero_le _) ?_ (fun k C hI hC=>?_);(exact ⟨[],rfl,rfl,⟨(by first | (show (_ : D) = _;with_reducible rfl) ),(congrArg (D.int .i64) (by rw [List.take_zero];unfold sumP;rfl)),(by first | (show (_ : D) = _;with_reducible rfl) ),(by first | exact congrArg (D.int .i64) (by simp only [List.length_map]) ),(by first | exact congrArg (D.int .i64) (by omega) ),trivial⟩,trivial⟩);all_goals (conv=>whnf)))
 | ((with_reducible show C _ _);first | (refine hC (k + 1) _ _ ?_ (by omega) ?_;clear hC;rotate_left;(exact ⟨[],rfl,rfl,⟨(by first | (show (_ : D) = _;with_reducible rfl) ),(by first | exact (congrArg (D.int .i64) (by have:=sumP_t (p:=(fun _=>true)) (l:=s.nodes) (k:=k) (by omega) rfl;omega))),(by first | (show (_ : D) = _;with_reducible rfl) ),(by first | (show (_ : D) = _;with_reducible rfl) ),(by first | exact congrArg (D.int .i64) (by omega) ),trivial⟩,trivial⟩);(exact (by omega))))
 | (refine ix_map (by omega) ?_;conv=>whnf)
 | (refine wrap64 (by omega) ?_;conv=>whnf)
 | (refine wrap64 (by have h1:=B.al k;have h2:=sumP_le (p:=(fun _=>true)) (s.nodes.take k);have h3:=B.al (k + 1);have h4:=allN_take (l:=s.nodes) (k:=k) (by omega);omega) ?_;conv=>whnf)
 | ((with_reducible refine endx_go ?_);first | (refine endx (congrArg i ?_);rw [List.take_of_length_le (by omega)];done))
  | fail
  )
theorem c46u (s : Stt) (B : Sb s) (hl : s.nodes.length ≤ 20) (who : Int) : Fn 46 [.fp s.enc 0,.fn 47 [] [.fp (i who) 0]] (i (sumP (fun x=>decide (x.d.owner = who)) s.nodes : Nat)):=by
 refine run_walkF eok Tryz.func46 rfl (by kernel_rfl) ?_
 conv=>whnf
 repeat' (first
 | ((with_reducible refine on_dec (fun h=>?_) (fun h=>?_))<;>(try simp only [List.length_map] at h)<;>conv=>whnf)
 | ((with_reducible refine call_go ?_);(first | refine call_step (run_data (xs:=[_]) (c78 _ (B.sd _ (List.getElem_mem (by omega))) (B.sl _ (List.getElem_mem (by omega)))) _) ?_ | refine call_step (run_data (xs:=[_,_]) (c47 _ _) _) ?_);conv=>whnf)
 | ((with_reducible refine loop_go ?_);first | (refine loop1 (fun (k : Nat)=>s.nodes.length - k) (fun (k : Nat)=>k ≤ s.nodes.length) (fun (k : Nat)=>[(1,.d (.fn 47 [] [.fp (i who) 0])),(5,.d (i (sumP (fun x=>decide (x.d.owner = who)) (s.nodes.take k) : Nat))),(12,.d (.fs (s.nodes.map PNd.enc))),(13,.d (i s.nodes.length)),(14,.d (i k))]) (fun (k : Nat)=>[]) (0) (by exact Nat.zero_le _) ?_ (fun k C hI hC=>?_);(exact ⟨[],rfl,rfl,⟨(by first | (show (_ : D) = _;with_reducible rfl) ),(congrArg (D.int .i64) (by rw [List.take_zero];unfold sumP;rfl)),(by first | (show (_ : D) = _;with_reducible rfl) ),(by first | exact congrArg (D.int .i64) (by simp only [List.length_map]) ),(by first | exact congrArg (D.int .i64) (by omega) ),trivial⟩,trivial⟩);all_goals (conv=>whnf)))
 | ((with_reducible show C _ _);first | (refine hC (k + 1) _ _ ?_ (by omega) ?_;clear hC;rotate_left;(exact ⟨[],rfl,rfl,⟨(by first | (show (_ : D) = _;with_reducible rfl) ),(by first | exact (congrArg (D.int .i64) (by have:=sumP_t (p:=(fun x=>decide (x.d.owner = who))) (l:=s.nodes) (k:=k) (by omega) (decide_eq_true (by assumption));omega)) | exact (congrArg (D.int .i64) (by have:=sumP_f (p:=(fun x=>decide (x.d.owner = who))) (l:=s.nodes) (k:=k) (by omega) (decide_eq_false (by assumption));omega))),(by first | (show (_ : D) = _;with_reducible rfl) ),(by first | (show (_ : D) = _;with_reducible rfl) ),(by first | exact congrArg (D.int .i64) (by omega) ),trivial⟩,trivial⟩);(exact (by omega))))
 | (refine ix_map (by omega) ?_;conv=>whnf)
 | (refine wrap64 (by omega) ?_;conv=>whnf)
 | (refine wrap64 (by have h1:=B.al k;have h2:=sumP_le (p:=(fun x=>decide (x.d.owner = who))) (s.nodes.take k);have h3:=B.al (k + 1);have h4:=allN_take (l:=s.nodes) (k:=k) (by omega);omega) ?_;conv=>whnf)
 | ((with_reducible refine endx_go ?_);first | (refine endx (congrArg i ?_);rw [List.take_of_length_le (by omega)];done))
  | fail
  )
theorem c72 (s : Stt) (B : Sb s) (V : SOk s) : Fn 72 [.fp s.enc 0] (i (allN s.nodes : Nat)):=by
 refine run_walkF eok Tryz.func72 rfl (by kernel_rfl) ?_
 conv=>whnf
 repeat' (first
 | ((with_reducible refine call_go ?_);(first | refine call_step (run_data (xs:=[_,_]) (c46t s B V.n20) _) ?_);conv=>whnf)
 | ((with_reducible refine endx_go ?_);first | (refine endx (congrArg i ?_);rw [sumP_all];done))
  | fail
  )
theorem c29 (s : Stt) (B : Sb s) (V : SOk s) (who : Int) : Fn 29 [.fp s.enc 0,i who] (i (useN s who : Nat)):=by
 refine run_walkF eok Tryz.func29 rfl (by kernel_rfl) ?_
 conv=>whnf
 repeat' (first
 | ((with_reducible refine call_go ?_);(first | refine call_step (run_view (c46u s B V.n20 who) rfl (vlc rfl (vlc rfl vln))) ?_);conv=>whnf)
 | ((with_reducible refine endx_go ?_);first | (exact endx rfl;done))
  | fail
  )
theorem c127 (l : List Lmt) (k : Nat) (hk : k < l.length) (hl : l.length ≤ 10) (h1 : isWho l[k].who = true) (h2 : within l[k].lim 0 8192 = true) (h3 : 0 < k → (l[k - 1]'(by omega)).who < l[k].who) : Fn 127 [i k,l[k].enc,.fp (.fs (l.map Lmt.enc)) 0] (i 0):=by
 refine run_walkF eok Tryz.func127 rfl (by kernel_rfl) ?_
 conv=>whnf
 repeat' (first
 | ((with_reducible refine on_dec (fun h=>?_) (fun h=>?_))<;>(try simp only [List.length_map] at h)<;>conv=>whnf)
 | ((with_reducible refine call_go ?_);(first | refine call_step (run_data (xs:=[_]) (c28t h1) _) ?_ | refine call_step (run_data (xs:=[_,_,_]) (c45t h2) _) ?_ | refine call_step (run_data (xs:=[_,_]) (c27t _) _) ?_ | refine call_step (run_data (xs:=[_,_]) (c27d (h3 (by omega)) _) _) ?_ | refine call_step (run_view c26z2 rfl rfl) ?_);conv=>whnf)
 | (refine ⟨[],[],(by decide +kernel),?_⟩;conv=>whnf)
 | (refine wrap64 (by have h9:=max1 (k:=k) (by assumption);omega) ?_;conv=>whnf)
 | (refine ix_max (f:=Lmt.enc) (l:=l) (by assumption) hk ?_;conv=>whnf)
 | ((with_reducible refine endx_go ?_);first | (exact endx rfl;done))
  | fail
  )
theorem c126 (l : List Lmt) (hl : l.length ≤ 10) (hL : ∀ k,k < l.length → limK l k = 0) : Fn 126 [.fs (l.map Lmt.enc),.fn 127 [] [.fp (.fs (l.map Lmt.enc)) 0]] (.tup [i 0,i 0]):=by
 refine run_walkF eok Tryz.func126 rfl (by kernel_rfl) ?_
 conv=>whnf
 repeat' (first
 | ((with_reducible refine on_dec (fun h=>?_) (fun h=>?_))<;>(try simp only [List.length_map] at h)<;>conv=>whnf)
 | ((with_reducible refine call_go ?_);(first | refine call_step (run_data (xs:=[_,_,_]) (c127 l k (by omega) hl (lim_ok _ (hL k (by omega))).1 (lim_ok _ (hL k (by omega))).2.1 (lim_ok _ (hL k (by omega))).2.2) _) ?_);conv=>whnf)
 | ((with_reducible refine loop_go ?_);first | (refine loop1 (fun (k : Nat)=>l.length - k) (fun (k : Nat)=>k ≤ l.length) (fun (k : Nat)=>[(1,.d (.fn 127 [] [.fp (.fs (l.map Lmt.enc)) 0])),(9,.d (.fs (l.map Lmt.enc))),(10,.d (i l.length)),(11,.d (i k))]) (fun (k : Nat)=>[]) (0) (by exact Nat.zero_le _) ?_ (fun k C hI hC=>?_);(exact ⟨[],rfl,rfl,⟨(by first | (show (_ : D) = _;with_reducible rfl) ),(by first | (show (_ : D) = _;with_reducible rfl) ),(by first | exact congrArg (D.int .i64) (by simp only [List.length_map]) ),(by first | exact congrArg (D.int .i64) (by omega) ),trivial⟩,trivial⟩);all_goals (conv=>whnf)))
 | ((with_reducible show C _ _);first | (refine hC (k + 1) _ _ ?_ (by omega) ?_;clear hC;rotate_left;(exact ⟨[],rfl,rfl,⟨(by first | (show (_ : D) = _;with_reducible rfl) ),(by first | (show (_ : D) = _;with_reducible rfl) ),(by first | (show (_ : D) = _;with_reducible rfl) ),(by first | exact congrArg (D.int .i64) (by omega) ),trivial⟩,trivial⟩);(exact (by omega))))
 | (refine ix_map (by omega) ?_;conv=>whnf)
 | (refine wrap64 (by omega) ?_;conv=>whnf)
 | ((with_reducible refine endx_go ?_);first | (exact endxv (view_tup (vlc rfl (vlc rfl vln))) rfl;done))
  | fail
  )
theorem c73 (l : List Lmt) (hl : l.length ≤ 10) (hL : ∀ k,k < l.length → limK l k = 0) : Fn 73 [.fs (l.map Lmt.enc)] (i 0):=by
 refine run_walkF eok Tryz.func73 rfl (by kernel_rfl) ?_
 conv=>whnf
 repeat' (first
 | ((with_reducible refine on_dec_f ?_ ?_);(focus ((try simp only [List.length_map,List.length_cons,List.length_nil,List.length_append]);omega));conv=>whnf)
 | ((with_reducible refine call_go ?_);(first | refine call_step (run_view (c126 l hl hL) rfl (vlc rfl (vlc rfl vln))) ?_);conv=>whnf)
 | ((with_reducible refine endx_go ?_);first | (exact endx rfl;done))
  | fail
  )
theorem c67k (s : Stt) (B : Sb s) (V : SOk s) : Fn 67 [treeD (treeN s.nodes)] (.tup [i (checkT (treeN s.nodes)).1,i 0]):=by
 have:=c67 (treeN s.nodes) ⟨by rw [treeN_len];have:=V.n20;omega,fun x hx=>(B.tr x hx).1,fun x hx=>(B.tr x hx).2⟩
 rwa [V.ck] at this
attribute [local irreducible] checkT
theorem c43 (s : Stt) (B : Sb s) (V : SOk s) : Fn 43 [s.enc] (.tup [i 0,i 0]):=by
 have htk:=tick_w V.tk
 have hal : ((allN s.nodes : Nat) : Int) ≤ 8192:=(by have:=V.all;omega)
 have h20 : ¬ (20 : Int) < (s.nodes.map PNd.enc).length:=(by have:=V.n20;rw [List.length_map];omega)
 refine run_walkF eok Tryz.func43 rfl (by kernel_rfl) ?_
 conv=>whnf
 repeat' (first
 | ((with_reducible refine on_dec_f (by assumption) ?_);conv=>whnf)
 | ((with_reducible refine call_go ?_);(first | refine call_step (run_viewF (c68 s (by have:=V.n20;omega) B.el) rfl) ?_ | refine call_step (run_data (xs:=[_]) (c67k s B V) _) ?_ | refine call_step (run_view (c69 s B V) rfl (vlc rfl (vlc rfl vln))) ?_ | refine call_step (run_view (c72 s B V) rfl (vlc rfl vln)) ?_ | refine call_step (run_data (xs:=[_,_]) (c27t _) _) ?_ | refine call_step (run_data (xs:=[_,_]) (c27d hal _) _) ?_ | refine call_step (run_data (xs:=[_]) (c73 s.lims V.l10 V.lm) _) ?_ | refine call_step (run_data (xs:=[_,_,_]) (c45t htk) _) ?_ | refine call_step (run_view c26z3 rfl rfl) ?_);conv=>whnf)
 | (refine ⟨[],[(5,1),(8,1),(5,3),(8,3),(8,6)],(by decide +kernel),?_⟩;conv=>whnf)
 | ((with_reducible refine endx_go ?_);first | (exact endxv (view_tup (vlc rfl (vlc rfl vln))) rfl;done) )
 | (refine ⟨rfl,?_⟩;conv=>whnf)
  | fail
  )
end Go.Proofs.YtkmhnaojgkcjoaaGreatDoor
namespace Go.Proofs.YtkmhnaojgkcjoaaGreatDoor
open Go Dw
set_option maxRecDepth 10000
attribute [local irreducible] Run
set_option maxHeartbeats 1000000
open Paths
theorem take_snoc {α : Type} {s out : List α} {k : Nat} (h : k < s.length) (ho : out = s.take k) : out ++ [s[k]] = s.take (k + 1):=by
 subst ho;exact (List.take_succ_eq_append_getElem h).symm
attribute [local irreducible] ordK Op.bytesLess treeN namesR isTick dscE bytesN allN sumP isWho checkT chkS
theorem c77 (d : Dsc) (he : d.es.length < 2000000) (ha : d.au.length < 2000000) : Fn 77 [d.enc] d.enc:=by
 refine run_walkF eok Tryz.func77 rfl (by kernel_rfl) ?_
 conv=>whnf
 repeat' (first
 | ((with_reducible refine call_go ?_);(first | refine call_step (run_viewF (c128 d.es he) rfl) ?_ | refine call_step (run_viewF (c128 d.au ha) rfl) ?_);conv=>whnf)
 | (refine ⟨[],[(4,2)],(by decide +kernel),?_⟩;conv=>whnf)
 | ((with_reducible refine endx_go ?_);first | (exact endxv (view_agg (vlc rfl (vlc rfl (vlc rfl (vlc rfl (vlc rfl (vlc rfl vln))))))) rfl;done) )
 | (refine ⟨rfl,?_⟩;conv=>whnf)
  | fail
  )
theorem c44 (s : Stt) (B : Sb s) (V : SOk s) : Fn 44 [s.enc] (.fp s.enc 0):=by
 have hn20:=V.n20
 refine run_walkF eok Tryz.func44 rfl (by kernel_rfl) ?_
 conv=>whnf
 repeat' (first
 | ((with_reducible refine on_dec_f ?_ ?_);(focus ((try simp only [List.length_map,List.length_cons,List.length_nil,List.length_append]);omega));conv=>whnf)
 | ((with_reducible refine on_dec (fun h=>?_) (fun h=>?_))<;>(try simp only [List.length_map] at h)<;>conv=>whnf)
 | ((with_reducible refine call_go ?_);(first | refine call_step (run_viewF (c74 s.lims (by have:=V.l10;omega)) rfl) ?_ | refine call_step (run_viewF (c75 _ (B.el _ (List.getElem_mem (by omega : k < s.nodes.length)))) rfl) ?_ | refine call_step (run_viewF (c76 _ (B.sl _ (List.getElem_mem (by omega : k < s.nodes.length)))) rfl) ?_ | refine call_step (run_viewF (c77 (s.nodes[k]'(by omega)).d (by have:=(dok (V.nd k (by omega)).de).e;omega) (by have:=(dok (V.nd k (by omega)).de).a;omega)) rfl) ?_);conv=>whnf)
 | (refine ⟨[],[(4,2)],(by decide +kernel),?_⟩;conv=>whnf)
 | (refine ⟨[],[(5,7)],(by decide +kernel),?_⟩;conv=>whnf)
 | ((with_reducible refine loop_go ?_);first | (refine loop2 (fun (k : Nat) (out : List PNd)=>s.nodes.length - k) (fun (k : Nat) (out : List PNd)=>k ≤ s.nodes.length ∧ out.length = k ∧ out = s.nodes.take k) (fun (k : Nat) (out : List PNd)=>[(3,.ptr 1 0 0),(15,.d (.fs (s.nodes.map PNd.enc))),(16,.d (i s.nodes.length)),(17,.d (i k))]) (fun (k : Nat) (out : List PNd)=>[⟨[.d s.enc],3,0⟩,⟨[.agg [.sl 2 0 out.length 13 none,.d (.fs (s.lims.map Lmt.enc)),.d (i s.tick)]],3,0⟩,⟨(out.map PNd.enc).map .d,13,0⟩]) (0) ([]) (by exact ⟨Nat.zero_le _,rfl,rfl⟩) ?_ (fun k out C hI hC=>?_);(exact ⟨[.old 0,.old 1,.void 13],rfl,rfl,⟨⟨rfl,rfl,rfl⟩,(by first | (show (_ : D) = _;with_reducible rfl) ),(by first | exact congrArg (D.int .i64) (by simp only [List.length_map]) ),(by first | exact congrArg (D.int .i64) (by omega) ),trivial⟩,⟨⟨rfl,rfl,.inl ⟨[_],rfl,rfl⟩⟩,⟨rfl,rfl,.inr ⟨⟨⟨rfl,rfl,rfl,rfl⟩,rfl,rfl,trivial⟩,trivial⟩⟩,⟨rfl,rfl,(by decide),rfl⟩,trivial⟩⟩);all_goals (conv=>whnf)))
 | ((with_reducible show C _ _);first | (refine hC (k + 1) (out ++ [(s.nodes[k]'(by omega))]) _ _ ?_ (by omega) ?_;clear hC;rotate_left;(exact ⟨[.old 0,.old 1,.old 5],rfl,rfl,⟨⟨rfl,rfl,rfl⟩,(by first | (show (_ : D) = _;with_reducible rfl) ),(by first | (show (_ : D) = _;with_reducible rfl) ),(by first | exact congrArg (D.int .i64) (by omega) ),trivial⟩,⟨⟨rfl,rfl,.inl ⟨[_],rfl,rfl⟩⟩,⟨rfl,rfl,.inr ⟨⟨⟨rfl,rfl,(by simp),rfl,rfl⟩,rfl,rfl,trivial⟩,trivial⟩⟩,⟨rfl,rfl,.inr (wks_add (wksd _ _) ⟨rfl,rfl,rfl,rfl,rfl,rfl,rfl,rfl,rfl,rfl,rfl,rfl,rfl,rfl,trivial⟩)⟩,trivial⟩⟩);(exact ⟨by omega,by rw [List.length_append,List.length_singleton,hI.2.1],take_snoc (by omega) hI.2.2⟩)))
 | (refine ⟨⟨(by first | (simp;done)),cap_ok (by simp only [List.length_map,List.length_cons,List.length_nil,List.length_append];omega) rfl⟩,?_⟩;conv=>whnf)
 | (refine ix_map (by omega) ?_;conv=>whnf)
 | (refine wrap64 (by omega) ?_;conv=>whnf)
 | (refine ⟨Nat.le_refl _,?_⟩;conv=>whnf)
 | (refine ⟨rfl,?_⟩;conv=>whnf)
 | ((with_reducible refine endx_go ?_);first | ((have e : out = s.nodes:=(by rw [hI.2.2];exact List.take_of_length_le (by omega)));subst e;exact endxv (view_ptr rfl Nat.two_pos rfl (view_agg (vlc (view_map rfl Nat.two_pos) (vlc rfl (vlc rfl vln))))) rfl;done))
  | fail
  )
theorem c25 (s : Stt) (B : Sb s) (V : SOk s) : Fn 25 [s.enc] (.tup [.fp s.enc 0,i 0]):=by
 refine run_walkF eok Tryz.func25 rfl (by kernel_rfl) ?_
 conv=>whnf
 repeat' (first
 | ((with_reducible refine call_go ?_);(first | refine call_step (run_data (xs:=[_]) (c43 s B V) _) ?_ | refine call_step (run_viewF (c44 s B V) rfl) ?_);conv=>whnf)
 | ((with_reducible refine endx_go ?_);first | (exact endxv (view_tup (vlc rfl (vlc rfl vln))) rfl;done))
  | fail
  )
theorem c9 (s : Stt) (B : Sb s) (V : SOk s) (who : Int) (hw : isWho who = true) : Fn 9 [s.enc,i who] (.tup [i (useN s who : Nat),i 0]):=by
 refine run_walkF eok Tryz.func9 rfl (by kernel_rfl) ?_
 conv=>whnf
 repeat' (first
 | ((with_reducible refine call_go ?_);(first | refine call_step (run_viewF (c25 s B V) rfl) ?_ | refine call_step (run_data (xs:=[_]) (c28t hw) _) ?_ | refine call_step (run_data (xs:=[_,_]) (c27t _) _) ?_ | refine call_step (run_view c26z2 rfl rfl) ?_ | refine call_step (run_data (xs:=[_,_]) (c29 s B V who) _) ?_);conv=>whnf)
 | ((with_reducible refine endx_go ?_);first | (exact endxv (view_tup (vlc rfl (vlc rfl vln))) rfl;done))
  | fail
  )
end Go.Proofs.YtkmhnaojgkcjoaaGreatDoor
namespace Go.Proofs.YtkmhnaojgkcjoaaGreatDoor
open Go Dw
set_option maxRecDepth 10000
attribute [local irreducible] Run
set_option maxHeartbeats 1000000
open Paths
attribute [local irreducible] treeN dscE allN sumP isWho checkT chkS
theorem c48 (l : List Ace) (hl : l.length < 2000000) : Fn 48 [.fs (l.map Ace.enc)] (.fs (l.map Ace.enc)):=by
 refine run_walkF eok Tryz.func48 rfl (by kernel_rfl) ?_
 conv=>whnf
 repeat' (first
 | (refine ⟨(by intro y hy;obtain ⟨x,_,rfl⟩:=List.mem_map.1 hy;first | exact ⟨rfl,rfl⟩),?_⟩;conv=>whnf)
 | (refine ⟨cap_ok (by first | (simp only [List.length_map];omega)) rfl,?_⟩;conv=>whnf)
 | ((with_reducible refine endx_go ?_);first | (exact endxv (view_new rfl Nat.two_pos) rfl;done) )
  | fail
  )
theorem c30 (d : Dsc) (he : d.es.length < 2000000) (ha : d.au.length < 2000000) : Fn 30 [d.enc] d.enc:=by
 refine run_walkF eok Tryz.func30 rfl (by kernel_rfl) ?_
 conv=>whnf
 repeat' (first
 | ((with_reducible refine call_go ?_);(first | refine call_step (run_viewF (c48 d.es he) rfl) ?_ | refine call_step (run_viewF (c48 d.au ha) rfl) ?_);conv=>whnf)
 | (refine ⟨[],[(4,2)],(by decide +kernel),?_⟩;conv=>whnf)
 | ((with_reducible refine endx_go ?_);first | (exact endxv (view_agg (vlc rfl (vlc rfl (vlc rfl (vlc rfl (vlc rfl (vlc rfl vln))))))) rfl;done) )
 | (refine ⟨rfl,?_⟩;conv=>whnf)
  | fail
  )
def ndP (x : PNd) (q p : Nat) : AV:=.agg [.d (i x.kind),.sl q 0 ((x.ents.map Ent.enc).map AV.d).length 2 none,.d (.str x.target),.d (.str x.data),.sl p 0 ((x.sts.map Stm.enc).map AV.d).length 2 none,.d (i x.d.owner),.d (i x.d.group),.d (.bool x.d.prot),.d (.bool x.d.has),.d (.fs (x.d.es.map Ace.enc)),.d (.fs (x.d.au.map Ace.enc)),.d (i x.made),.d (i x.chg)]
def NdP (H : Heap) (r : Nat) (e : Option AV) (x : PNd) : Prop:=∃ q p,e = some (ndP x q p) ∧ H[q]? = some ⟨(x.ents.map Ent.enc).map .d,2,0⟩ ∧ H[p]? = some ⟨(x.sts.map Stm.enc).map .d,2,0⟩ ∧ (q ≠ r ∧ p ≠ r) ∧ 3 < q ∧ 3 < p
def CpK (s : List PNd) (H : Heap) (k : Nat) (cv : AV) : Prop:=(k = 0 ∧ cv = .nilS) ∨ ∃ (r : Nat) (Es : List AV),cv = .sl r 0 k 13 none ∧ H[r]? = some ⟨Es,13,0⟩ ∧ Es.length = k ∧ (∀ j x,j < k → s[j]? = some x → NdP H r Es[j]? x) ∧ 3 < r
theorem cpk_snoc {s : List PNd} {x : PNd} {H H' : Heap} {k r q p r' : Nat} {Es Fs : List AV} (h : ∀ j x,j < k → s[j]? = some x → NdP H r Es[j]? x) (hx : s[k]? = some x) (hr : H'[r']? = some ⟨Fs,13,0⟩) (hl : Fs.length = k + 1) (hE : ∀ j,j < k → Fs[j]? = Es[j]?) (he : Fs[k]? = some (ndP x q p)) (hq : H'[q]? = some ⟨(x.ents.map Ent.enc).map .d,2,0⟩) (hp : H'[p]? = some ⟨(x.sts.map Stm.enc).map .d,2,0⟩) (hne : q ≠ r' ∧ p ≠ r' ∧ 3 < q ∧ 3 < p) (hm : H.length ≤ r') (hf : ∀ q,q ≠ r → 3 < q → q < H.length → H'[q]? = H[q]?) (h0 : 3 < r') : CpK s H' (k + 1) (.sl r' 0 (k + 1) 13 none):=by
 refine .inr ⟨r', Fs, rfl, hr, hl, fun j y hj hy => ?_, h0⟩
 by_cases e : j < k
 ·obtain ⟨q1,p1,h1,h2,h3,h4,h5,h6⟩:=h j y e hy
  have hq : q1 < H.length:=(List.getElem?_eq_some_iff.1 h2).1
  have hp : p1 < H.length:=(List.getElem?_eq_some_iff.1 h3).1
  exact ⟨q1,p1,by rw [hE j e];exact h1,by rw [hf q1 h4.1 h5 hq];exact h2,by rw [hf p1 h4.2 h6 hp];exact h3,⟨by omega,by omega⟩,h5,h6⟩
 ·have hj : j = k:=by omega
  rw [hj] at hy ⊢
  have : y = x:=Option.some.inj (hy.symm.trans hx)
  rw [this]
  exact ⟨q,p,he,hq,hp,⟨hne.1,hne.2.1⟩,hne.2.2.1,hne.2.2.2⟩
theorem cpk_frame {s : List PNd} {H H' : Heap} {k : Nat} {cv : AV} (h : CpK s H k cv) (hf : ∀ q,3 < q → q < H.length → H'[q]? = H[q]?) : CpK s H' k cv:=by
 rcases h with h | ⟨r,Es,h1,h2,h3,h4,h5⟩
 ·exact .inl h
 ·refine .inr ⟨r,Es,h1,(hf r h5 (List.getElem?_eq_some_iff.1 h2).1).trans h2,h3,fun j x hj hx=>?_,h5⟩
  obtain ⟨q,p,g1,g2,g3,g4,g5,g6⟩:=h4 j x hj hx
  exact ⟨q,p,g1,(hf q g5 (List.getElem?_eq_some_iff.1 g2).1).trans g2,(hf p g6 (List.getElem?_eq_some_iff.1 g3).1).trans g3,g4,g5,g6⟩
theorem cpk_view {s : List PNd} {H : Heap} {k : Nat} {cv : AV} (h : CpK s H k cv) (hk : k = s.length) : view 7 H cv = some (.fs (s.map PNd.enc)):=by
 subst hk
 rcases h with ⟨h0,rfl⟩ | ⟨r,Es,rfl,hr,hl,hN,_⟩
 ·have : s = []:=List.length_eq_zero_iff.1 h0
  subst this;rfl
 ·have hv : vl (view 6 H) Es = some (s.map PNd.enc):=by
   refine vl_ofn (by rw [hl,List.length_map]) fun j a x ha hx=>?_
   rw [List.getElem?_map] at hx
   cases ht : s[j]? with
   | none=>rw [ht] at hx;simp at hx
   | some y=>
    rw [ht] at hx
    simp only [Option.map_some,Option.some.injEq] at hx
    subst hx
    obtain ⟨q,p,h1,h2,h3,_⟩:=hN j y (List.getElem?_eq_some_iff.1 ht).1 ht
    rw [ha] at h1
    cases h1
    exact view_agg (vlc rfl (vlc (view_new h2 Nat.two_pos) (vlc rfl (vlc rfl (vlc (view_new h3 Nat.two_pos) (vlc rfl (vlc rfl (vlc rfl (vlc rfl (vlc rfl (vlc rfl (vlc rfl (vlc rfl vln)))))))))))))
  show (match H[r]? with
   | some o=>if o.st < 2 then (if 0 + s.length ≤ o.elems.length then (vl (view 6 H) ((o.elems.drop 0).take s.length)).map D.fs else none) else none
   | none=>none) = _
  simp only [hr]
  rw [if_pos (by decide),if_pos (by omega),List.drop_zero,List.take_of_length_le (by omega),hv];rfl
theorem ap_at {l : List AV} {a : AV} {k : Nat} (h : l.length = k) : (l ++ [a])[k]? = some a:=by subst h;simp
theorem ap_at0 {a : AV} {k : Nat} (h : k = 0) : [a][k]? = some a:=by subst h;rfl
attribute [local irreducible] newD NdP
theorem c10 (s : Stt) (B : Sb s) (V : SOk s) : Fn 10 [s.enc] s.enc:=by
 have hn20:=V.n20;have hl10:=V.l10
 refine run_walkF eok Tryz.func10 rfl (by kernel_rfl) ?_
 conv=>whnf
 repeat' (first
 | ((with_reducible refine on_dec_f ?_ ?_);(focus ((try simp only [List.length_map,List.length_cons,List.length_nil,List.length_append]);omega));conv=>whnf)
 | ((with_reducible refine on_dec (fun h=>?_) (fun h=>?_))<;>(try simp only [List.length_map] at h)<;>conv=>whnf)
 | ((with_reducible refine call_go ?_);(first | refine call_step (run_dataW (c30 (s.nodes[k]'(by omega)).d (by have:=(dok (V.nd k (by omega)).de).e;omega) (by have:=(dok (V.nd k (by omega)).de).a;omega)) rfl rfl) ?_);conv=>whnf)
 | (refine ⟨[],[(7,3),(5,3)],(by decide +kernel),?_⟩;conv=>whnf)
 | ((with_reducible refine loop_go ?_);first | (apply loopG2 (fun (k : Nat) (cv : AV) (H : Heap)=>s.nodes.length - k) (fun (k : Nat) (cv : AV) (H : Heap)=>k ≤ s.nodes.length ∧ H[0]? = some ⟨[.d s.enc],3,0⟩ ∧ H[1]? = some ⟨[(E 25).zero],3,0⟩ ∧ H[2]? = some ⟨[.agg [cv,.sl 3 0 ((s.lims.map Lmt.enc).map AV.d).length 2 none,.d (i s.tick)]],3,0⟩ ∧ H[3]? = some ⟨(s.lims.map Lmt.enc).map .d,2,0⟩ ∧ CpK s.nodes H k cv) (fun (k : Nat) (cv : AV) (H : Heap)=>[(1,.ptr 0 0 0),(2,.ptr 1 0 0),(3,.ptr 2 0 0),(4,.d (i k))]) (0) (.nilS);rotate_left;(focus (exact .inl ⟨rfl,⟨(by first | rfl ),(by first | rfl ),(by first | rfl ),(by first | rfl ),trivial⟩⟩));rotate_left;(focus (exact ⟨Nat.zero_le _,rfl,rfl,rfl,rfl,.inl ⟨rfl,rfl⟩⟩));intro k cv H C hI hC;obtain ⟨hk,hb0,hb1,hb2,hb3,hI2⟩:=hI;have hl0:=lt_of_at hb3;have hI3:=hI2;rcases hI2 with ⟨hk0,rfl⟩ | ⟨r,Es,rfl,hr,hE,hN,hr0⟩;rotate_left;have hlr:=lt_of_at hr;rotate_left;all_goals (conv=>whnf)))
 | ((with_reducible show C _ _);first | (refine hC (k + 1) (.sl n 0 (k + 1) 13 none) _ _ ?_ (by omega) ?_;clear hC;rotate_left;(exact ⟨(by first | rfl ),(by first | rfl ),(by first | rfl ),(by first | rfl ),trivial⟩);(refine ⟨by omega,(by (repeat (first | assumption | refine look_new (by assumption) (by omega) ?_ | refine look_set (by assumption) (by omega) ?_))),(by (repeat (first | assumption | refine look_new (by assumption) (by omega) ?_ | refine look_set (by assumption) (by omega) ?_))),(by subst hk0;exact ho),(by (repeat (first | assumption | refine look_new (by assumption) (by omega) ?_ | refine look_set (by assumption) (by omega) ?_))),cpk_snoc (x:=(s.nodes[k]'(by omega))) (Fs:=?_) (q:=?_) (p:=?_) (H:=[]) (r:=0) (Es:=[]) (by intro j x hj;omega) (List.getElem?_eq_getElem (by omega : k < s.nodes.length)) ?_ ?_ ?_ ?_ ?_ ?_ ?_ ?_ ?_ ?_⟩;rotate_left 3;(focus (repeat (first | assumption | refine look_set (by assumption) (by omega) ?_)));(focus (simp only [List.length_cons,List.length_nil];omega));(focus (intro j hj;omega));(focus (exact ap_at0 hk0));(focus (repeat (first | assumption | refine look_new (by assumption) (by omega) ?_ | refine look_set (by assumption) (by omega) ?_)));(focus (repeat (first | assumption | refine look_new (by assumption) (by omega) ?_ | refine look_set (by assumption) (by omega) ?_)));(focus omega);(focus exact Nat.zero_le _);(focus (intro q hq h3q hlt;simp only [List.length_nil] at hlt;omega));(focus omega))) | (refine hC (k + 1) (.sl n 0 (k + 1) 13 none) _ _ ?_ (by omega) ?_;clear hC;rotate_left;(exact ⟨(by first | rfl ),(by first | rfl ),(by first | rfl ),(by first | rfl ),trivial⟩);(refine ⟨by omega,(by (repeat (first | assumption | refine look_new (by assumption) (by omega) ?_ | refine look_set (by assumption) (by omega) ?_))),(by (repeat (first | assumption | refine look_new (by assumption) (by omega) ?_ | refine look_set (by assumption) (by omega) ?_))),(by assumption),(by (repeat (first | assumption | refine look_new (by assumption) (by omega) ?_ | refine look_set (by assumption) (by omega) ?_))),cpk_snoc (x:=(s.nodes[k]'(by omega))) (Fs:=?_) (q:=?_) (p:=?_) hN (List.getElem?_eq_getElem (by omega : k < s.nodes.length)) ?_ ?_ ?_ ?_ ?_ ?_ ?_ ?_ ?_ ?_⟩;rotate_left 3;(focus (repeat (first | assumption | refine look_set (by assumption) (by omega) ?_)));(focus (simp only [List.length_append,List.length_cons,List.length_nil];omega));(focus (intro j hj;exact cp_old hE hj));(focus (exact ap_at hE));(focus (repeat (first | assumption | refine look_new (by assumption) (by omega) ?_ | refine look_set (by assumption) (by omega) ?_)));(focus (repeat (first | assumption | refine look_new (by assumption) (by omega) ?_ | refine look_set (by assumption) (by omega) ?_)));(focus omega);(focus omega);(focus (intro q hq h3q hlt;(repeat (first | rfl | refine look_new (by assumption) (by omega) ?_ | refine look_set (by assumption) (by omega) ?_))));(focus omega))))
 | (refine ⟨(by intro y hy;obtain ⟨x,_,rfl⟩:=List.mem_map.1 hy;first | exact ⟨rfl,rfl⟩),?_⟩;conv=>whnf)
 | (refine ⟨cap_ok (by first | (simp only [List.length_map];omega)) rfl,?_⟩;conv=>whnf)
 | (refine ix_map (by omega) ?_;conv=>whnf)
 | (refine wrap64 (by omega) ?_;conv=>whnf)
 | (refine new_0 ?_;conv=>whnf)
 | (refine new_1 ?_;conv=>whnf)
 | (refine new_2 ?_;conv=>whnf)
 | (refine new_3 ?_;conv=>whnf)
 | (refine newG (fun n H hn hl hf ho=>?_);conv=>whnf)
 | (refine setG (by omega) (fun H hl hf ho=>?_);conv=>whnf)
 | (refine nthG (x:=?_) ?_ ?_;rotate_left;(focus ((repeat (first | assumption | refine look_new (by assumption) (by omega) ?_ | refine look_set (by assumption) (by omega) ?_));done));conv=>whnf)
 | (refine ⟨Nat.le_refl _,?_⟩;conv=>whnf)
 | (refine ⟨⟨(by simp only [List.length_map,List.length_append];omega),cap_ok (by have:=B.el _ (List.getElem_mem (by omega : k < s.nodes.length));have:=B.sl _ (List.getElem_mem (by omega : k < s.nodes.length));simp only [List.length_map,List.length_cons,List.length_nil,List.length_append];omega) rfl⟩,?_⟩;conv=>whnf)
 | (refine ⟨cap_ok (by have:=B.el _ (List.getElem_mem (by omega : k < s.nodes.length));have:=B.sl _ (List.getElem_mem (by omega : k < s.nodes.length));simp only [List.length_map,List.length_cons,List.length_nil,List.length_append];omega) rfl,?_⟩;conv=>whnf)
 | (refine ⟨congrArg (Option.map AO.vis) (Eq.symm (by (repeat (first | rfl )))),?_⟩;conv=>whnf)
 | ((with_reducible refine endx_go ?_);first | (exact endxv (view_agg (vlc (cpk_view (cpk_frame hI3 (fun q hq hlt=>hf q (by omega))) (by omega)) (vlc (view_new ((hf 3 (by omega)).trans hb3) Nat.two_pos) (vlc rfl vln)))) rfl;done))
 | (refine ⟨rfl,?_⟩;conv=>whnf)
  | fail
  )
end Go.Proofs.YtkmhnaojgkcjoaaGreatDoor
namespace Go.Proofs.YtkmhnaojgkcjoaaGreatDoor
open Go Dw
def filesOf : List PNd → List K19.Fil
 | []=>[]
 | x :: l=>if 0 < bytesN x then ⟨x.d.owner,(bytesN x : Nat)⟩ :: filesOf l else filesOf l
theorem files_app : ∀ (a b : List PNd),filesOf (a ++ b) = filesOf a ++ filesOf b
 | [],_=>rfl
 | x :: a,b=>by
  simp only [List.cons_append,filesOf,files_app a b]
  split<;>rfl
theorem files_t {l : List PNd} {k : Nat} (h : k < l.length) (hp : 0 < bytesN l[k]) : filesOf (l.take (k + 1)) = filesOf (l.take k) ++ [⟨l[k].d.owner,(bytesN l[k] : Nat)⟩]:=by
 rw [List.take_succ_eq_append_getElem h,files_app]
 simp only [filesOf,if_pos hp]
theorem files_f {l : List PNd} {k : Nat} (h : k < l.length) (hp : ¬ 0 < bytesN l[k]) : filesOf (l.take (k + 1)) = filesOf (l.take k):=by
 rw [List.take_succ_eq_append_getElem h,files_app]
 simp only [filesOf,if_neg hp,List.append_nil]
theorem files_len : ∀ (l : List PNd),(filesOf l).length ≤ l.length
 | []=>Nat.le_refl _
 | x :: l=>by
  have:=files_len l
  simp only [filesOf]
  split<;>simp only [List.length_cons]<;>omega
theorem files_tot : ∀ (l : List PNd),K19.totF (filesOf l) = (allN l : Nat)
 | []=>rfl
 | x :: l=>by
  have:=files_tot l
  simp only [filesOf,allN]
  split
  ·simp only [K19.totF,this];omega
  ·rw [this];omega
theorem files_sum (w : Int) : ∀ (l : List PNd),K19.sumW (filesOf l) w = (sumP (fun x=>decide (x.d.owner = w)) l : Nat)
 | []=>rfl
 | x :: l=>by
  have:=files_sum w l
  simp only [filesOf,sumP,decide_eq_true_eq]
  split
  ·simp only [K19.sumW,this]
   split<;>omega
  ·rw [this]
   split<;>omega
theorem hold_who {n : Int} (h : isHold n = true) : K19.whoE n = 0 ∧ isWho n = true:=by
 unfold isHold isUser within at h
 simp only [Bool.or_eq_true,Bool.and_eq_true,decide_eq_true_eq] at h
 refine ⟨K19.who_iff.2 (by omega),?_⟩
 unfold isWho isUser within
 simp only [Bool.or_eq_true,Bool.and_eq_true,decide_eq_true_eq]
 omega
theorem user_who {n : Int} (h : isUser n = true) : K19.whoE n = 0:=by
 unfold isUser within at h
 simp only [Bool.and_eq_true,decide_eq_true_eq] at h
 exact K19.who_iff.2 (by omega)
theorem files_mem : ∀ {l : List PNd} {f : K19.Fil},f ∈ filesOf l → ∃ x ∈ l,f.who = x.d.owner ∧ f.bytes = (bytesN x : Nat) ∧ 0 < bytesN x
 | [],f,h=>by cases h
 | x :: l,f,h=>by
  simp only [filesOf] at h
  split at h
  ·rename_i hp
   rcases List.mem_cons.1 h with rfl | h
   ·exact ⟨x,by simp,rfl,rfl,hp⟩
   ·obtain ⟨y,hy,r⟩:=files_mem h
    exact ⟨y,by simp [hy],r⟩
  ·obtain ⟨y,hy,r⟩:=files_mem h
   exact ⟨y,by simp [hy],r⟩
theorem bytes_all : ∀ {l : List PNd} {x : PNd},x ∈ l → bytesN x ≤ allN l
 | [],x,h=>by cases h
 | y :: l,x,h=>by
  simp only [allN]
  rcases List.mem_cons.1 h with rfl | h
  ·omega
  ·have:=bytes_all h;omega
theorem SOk.hold {s : Stt} (V : SOk s) {x : PNd} (hx : x ∈ s.nodes) : isHold x.d.owner = true:=by
 obtain ⟨k,hk,rfl⟩:=List.getElem_of_mem hx
 exact (pair_ok (dok (V.nd k hk).de).p).1
theorem files_ok {s : Stt} (V : SOk s) : K19.FsOk (filesOf s.nodes) where
 len:=by have:=files_len s.nodes;have:=V.n20;omega
 ok:=fun f hf=>by
  obtain ⟨x,hx,h1,h2,_⟩:=files_mem hf
  unfold K19.filE
  rw [K19.firstE_z]
  intro e he
  have h3:=bytes_all hx
  have h4:=V.all
  simp only [List.mem_cons,List.not_mem_nil,or_false] at he
  rcases he with rfl | rfl
  ·rw [h1];exact (hold_who (V.hold hx)).1
  ·exact K19.numE_iff.2 (by omega)
 pos:=fun f hf=>by
  obtain ⟨x,hx,h1,h2,h3⟩:=files_mem hf
  omega
 tot:=by rw [files_tot];have:=V.all;omega
theorem who_sQ {s : Stt} (V : SOk s) {o : K19.Own} (ho : o ∈ (K19.sQ (filesOf s.nodes)).os) : isWho o.who = true:=by
 obtain ⟨f,hf,e⟩:=K19.sQ_who (files_ok V) ho
 obtain ⟨x,hx,h1,_⟩:=files_mem hf
 rw [← e,h1];exact (hold_who (V.hold hx)).2
theorem used_sQ {s : Stt} (V : SOk s) {o : K19.Own} (ho : o ∈ (K19.sQ (filesOf s.nodes)).os) : o.used = (useN s o.who : Nat):=by
 rw [K19.sQ_used (files_ok V) ho,files_sum];rfl
theorem tot_sQ {s : Stt} (V : SOk s) : K19.usedS (K19.sQ (filesOf s.nodes)).os = (allN s.nodes : Nat):=by
 rw [K19.sQ_tot (files_ok V),files_tot]
end Go.Proofs.YtkmhnaojgkcjoaaGreatDoor
namespace Go.Proofs.YtkmhnaojgkcjoaaGreatDoor
open Go Dw
set_option maxRecDepth 10000
attribute [local irreducible] Run
set_option maxHeartbeats 1000000
open Paths
def dsc0 : Dsc:=⟨4,4,false,false,[],[]⟩
def nod0 : PNd:=⟨0,[],[],[],[],dsc0,0,0⟩
def stt0 : Stt:=⟨[nod0],[],0⟩
theorem sok0 : SOk stt0:=st_ok (by decide +kernel)
theorem sb0 : Sb stt0 where
 el:=by decide
 nl:=by decide
 sl:=by decide
 sn:=by decide
 sd:=by
  intro x hx k
  simp only [stt0,List.mem_singleton] at hx
  subst hx
  simp [nod0,sumS]
 al:=by
  intro k
  have h1 : ∀ l : List PNd,(∀ x ∈ l,bytesN x = 0) → allN l = 0:=by
   intro l
   induction l with
   | nil=>intro _;rfl
   | cons x l ih=>
    intro h
    simp only [allN]
    rw [h x (by simp),ih (fun y hy=>h y (by simp [hy]))]
  have h2 : bytesN nod0 = 0:=rfl
  rw [h1 _ (fun x hx=>by
   have:=List.mem_of_mem_take hx
   simp only [stt0,List.mem_singleton] at this
   subst this;exact h2)]
  decide
 ll:=by decide
end Go.Proofs.YtkmhnaojgkcjoaaGreatDoor
namespace Go.Proofs.YtkmhnaojgkcjoaaGreatDoor
open Go Dw Paths
set_option maxRecDepth 100000
def gX (a : List D) (y : D) : List D → Option D:=fun xs=>if sameDs xs a then some y else none
theorem gX_ok {f : Nat} {a : List D} {y : D} (h : Fn f a y) : ∀ xs r,gX a y xs = some r → Run Tryz.prog f (xs.map .d) [] (.d r) []:=by
 intro xs r e
 unfold gX at e
 split at e
 ·rename_i h2;cases e
  rw [sameDs_ok _ _ h2];exact h
 ·cases e
def gS (args : List AV) (h : Heap) : Option (AV × Heap):=match args with
 | [.sl id s n k none]=>if Nat.beq s 0 && (Nat.beq n 1 && Nat.beq k 1) then (match h[id]? with
  | some ⟨[.d (.str _)],a,b⟩=>if Nat.beq a 1 && Nat.beq b 0 then some (.tup [],h) else none
  | _=>none) else none
 | _=>none
theorem gS_ok : ∀ args h r h', gS args h = some (r, h') → Run Tryz.prog 58 args h r h' := by
 intro args h r h' e
 unfold gS at e
 split at e
 ·rename_i id s n k
  split at e
  ·rename_i h1
   simp only [Bool.and_eq_true,Nat.beq_eq] at h1
   obtain ⟨rfl,rfl,rfl⟩:=h1
   split at e
   ·rename_i t a b ho
    split at e
    ·rename_i h2
     simp only [Bool.and_eq_true,Nat.beq_eq] at h2
     obtain ⟨rfl,rfl⟩:=h2
     cases e
     have:=run_mut0 (c58r [t] (by simp)) (fun x=>rfl) ho (args:=[]) rfl (fun j hj=>by cases hj) rfl
     have h3 : h.set id ⟨([t].map D.str).map .d,1,0⟩ = h:=set_same ho
     rw [sortB_one,h3] at this
     exact this
    ·cases e
   ·cases e
  ·cases e
 ·cases e
def orcA (f : Nat) : Option Orc:=if Nat.beq f 25 then some (.fn (gX [stt0.enc] (.tup [.fp stt0.enc 0,i 0]))) else if Nat.beq f 58 then some (.at gS) else orc27 f
theorem horcA : OrcOk Tryz.prog orcA:=by
 intro f o h
 unfold orcA at h
 split at h
 ·rename_i h1;cases h;rw [Nat.eq_of_beq_eq_true h1]
  exact gX_ok (c25 stt0 sb0 sok0)
 split at h
 ·rename_i h1;cases h;rw [Nat.eq_of_beq_eq_true h1]
  exact gS_ok
 exact horc27 f o h
def dmZ (f : Nat) : Bool:=false
theorem c4 : Fn 4 [] (.bool true):=
 run_ev2 (fs:=Tryz.prog.funcs.toList) (orc:=orcA) eok horcA (xs:=[]) rfl names_ok dmZ 300 30 (by kernel_rfl) rfl rfl
end Go.Proofs.YtkmhnaojgkcjoaaGreatDoor
namespace Go.Proofs.YtkmhnaojgkcjoaaGreatDoor
open Go Dw
set_option maxRecDepth 10000
attribute [local irreducible] Run
set_option maxHeartbeats 1000000
open Paths
open K19 (Fil Quo usedS)
theorem srcF {out : List Fil} {K : List AV → Prop} {B : List AV → Prop} (hk : K ((out.map Fil.enc).map AV.d)) : 0 + out.length ≤ ((out.map Fil.enc).map AV.d).length ∧ dropK ((out.map Fil.enc).map AV.d) 0 (fun r=>onBool (r.length == out.length) (onOk (r.all AV.known) (K r)) (B r)):=
 srcA (s:=0) (by simp) (known_d fun y hy=>by obtain ⟨f,_,rfl⟩:=List.mem_map.1 hy;rfl) hk
theorem h8o {s : Stt} {out : List Fil} {k : Nat} {y : D} (h8 : Fn 8 [.fs ((filesOf s.nodes).map Fil.enc)] y) (e : out = filesOf (s.nodes.take k)) (hk : ¬ (k : Int) < s.nodes.length) : Fn 8 [.fs (out.map Fil.enc)] y:=by
 rw [List.take_of_length_le (by omega)] at e
 rw [e];exact h8
theorem run_row {f : Nat} {l : List D} {y : D} (hf : Fn f [.fs l] y) {H : Heap} {id st k' : Nat} {c : Option Nat} (h : H[id]? = some ⟨l.map .d,2,st⟩) (hst : st < 2) : Run Tryz.prog f [.sl id 0 (l.map AV.d).length k' c] H (.d y) (Dw.freeze H [id]):=by
 have h1 : vl (view 8 H) [AV.sl id 0 (l.map AV.d).length k' c] = some [.fs l]:=vlc (view_new h hst) vln
 have h2:=run_viewF hf h1
 have h3 : ∀ n : Nat,(l.map AV.d).flatMap (reach n H) = []:=fun n=>List.flatMap_eq_nil_iff.2 fun a ha=>by
  obtain ⟨d,_,rfl⟩:=List.mem_map.1 ha
  cases n<;>rfl
 have h4 : [AV.sl id 0 (l.map AV.d).length k' c].flatMap (reach 8 H) = [id]:=by
  rw [List.flatMap_cons,List.flatMap_nil,List.append_nil]
  show id :: (match H[id]? with | some o=>o.elems.flatMap (reach 7 H) | none=>[]) = [id]
  rw [h]
  exact congrArg (List.cons id) (h3 7)
 rwa [h4] at h2
theorem wrapU {a b : Int} {K : Int → Prop} (e : a = b) (h0 : 0 ≤ b) (h1 : b ≤ 8192) (hk : K b) : wrapK .i64 a K:=by
 subst e;exact wrap64 (by omega) hk
theorem used_end {os : List K19.Own} {n : Int} {k : Nat} (hut : usedS os = n) (hk : ¬ (k : Int) < os.length) : usedS (os.take k) = n:=by
 rw [List.take_of_length_le (by omega)];exact hut
theorem out_all {s : Stt} {out l : List Fil} {k : Nat} (hz : filesOf s.nodes = l) (e : out = filesOf (s.nodes.take k)) (hk : ¬ (k : Int) < s.nodes.length) : out = l:=by
 rw [List.take_of_length_le (by omega)] at e
 rw [e];exact hz
theorem out_0 {out : List Fil} (e : out = []) : ((out.length : Nat) : Int) = 0:=by subst e;rfl
theorem out_1 {out l : List Fil} {f : Fil} (e : out = f :: l) : ¬ ((out.length : Nat) : Int) = 0:=by subst e;rw [List.length_cons];omega
theorem vl_d : ∀ {H : Heap} {n : Nat} (l : List D),vl (view (n + 1) H) (l.map AV.d) = some l
 | _,_,[]=>rfl
 | H,n,x :: l=>by
  rw [List.map_cons]
  exact vlc rfl (vl_d l)
theorem run_row1 {f : Nat} {a b : D} {l : List D} {y : D} (hf : Fn f [.fs (.agg [a,b] :: l)] y) {H : Heap} {id st k' n : Nat} {c : Option Nat} (h : H[id]? = some ⟨AV.agg [.d a,.d b] :: l.map .d,2,st⟩) (hst : st < 2) (hl : n = l.length + 1) : Run Tryz.prog f [.sl id 0 n k' c] H (.d y) (Dw.freeze H [id]):=by
 have h0 : view 8 H (.sl id 0 n k' c) = some (.fs (.agg [a,b] :: l)):=by
  show (match H[id]? with
   | some o=>if o.st < 2 then (if 0 + n ≤ o.elems.length then (vl (view 7 H) ((o.elems.drop 0).take n)).map D.fs else none) else none
   | none=>none) = _
  rw [h]
  show (if st < 2 then (if 0 + n ≤ (AV.agg [.d a,.d b] :: l.map AV.d).length then (vl (view 7 H) (((AV.agg [.d a,.d b] :: l.map AV.d).drop 0).take n)).map D.fs else none) else none) = _
  rw [if_pos hst,if_pos (by rw [List.length_cons,List.length_map];omega),List.drop_zero,List.take_of_length_le (by rw [List.length_cons,List.length_map];omega),vlc (x:=.agg [a,b]) rfl (vl_d (n:=6) l)]
  rfl
 have h1 : vl (view 8 H) [AV.sl id 0 n k' c] = some [.fs (.agg [a,b] :: l)]:=vlc h0 vln
 have h2:=run_viewF hf h1
 have h3 : (l.map AV.d).flatMap (reach 7 H) = []:=List.flatMap_eq_nil_iff.2 fun a ha=>by
  obtain ⟨d,_,rfl⟩:=List.mem_map.1 ha
  rfl
 have h4 : [AV.sl id 0 n k' c].flatMap (reach 8 H) = [id]:=by
  rw [List.flatMap_cons,List.flatMap_nil,List.append_nil]
  show id :: (match H[id]? with | some o=>o.elems.flatMap (reach 7 H) | none=>[]) = [id]
  rw [h]
  show id :: (AV.agg [.d a,.d b] :: l.map AV.d).flatMap (reach 7 H) = [id]
  rw [List.flatMap_cons,h3]
  rfl
 rwa [h4] at h2
theorem files_0 (l : List PNd) : filesOf (l.take 0) = []:=by simp [filesOf]
theorem used_0 (l : List K19.Own) : usedS (l.take 0) = 0:=by simp [usedS]
theorem used_s {l : List K19.Own} {k : Nat} (hk : k < l.length) : usedS (l.take k) + l[k].used = usedS (l.take (k + 1)):=(K19.usedS_take hk).symm
attribute [local irreducible] treeN dscE allN bytesN sumP isWho isUser checkT chkS filesOf usedS smallB
theorem c5t {s : Stt} (B : Sb s) {b : Bool} (h : smallB s = b) : Fn 5 [s.enc] (.bool b):=by have:=c5 s B;rwa [h] at this
theorem c6t {w : Int} {b : Bool} (h : isUser w = b) : Fn 6 [i w] (.bool b):=by have:=c6 w;rwa [h] at this
theorem c3n (s : Stt) (B : Sb s) (who : Int) (hsm : smallB s = false) : Fn 3 [s.enc,i who] (.bool true):=by
 refine run_walkF eok Tryz.func3 rfl (by kernel_rfl) ?_
 conv=>whnf
 repeat' (first
 | ((with_reducible refine call_go ?_);(first | refine call_step (run_data (xs:=[]) c4 _) ?_ | refine call_step (run_data (xs:=[_]) (c5t B hsm) _) ?_ );conv=>whnf)
 | ((with_reducible refine endx_go ?_);first | (exact endx rfl;done))
  | fail
  )
theorem c3u (s : Stt) (B : Sb s) (who : Int) (hsm : smallB s = true) (hu : isUser who = false) : Fn 3 [s.enc,i who] (.bool true):=by
 refine run_walkF eok Tryz.func3 rfl (by kernel_rfl) ?_
 conv=>whnf
 repeat' (first
 | ((with_reducible refine call_go ?_);(first | refine call_step (run_data (xs:=[]) c4 _) ?_ | refine call_step (run_data (xs:=[_]) (c5t B hsm) _) ?_ | refine call_step (run_data (xs:=[_]) (c6t hu) _) ?_ );conv=>whnf)
 | ((with_reducible refine endx_go ?_);first | (exact endx rfl;done))
  | fail
  )
theorem c3z (s : Stt) (B : Sb s) (V : SOk s) (who : Int) (hsm : smallB s = true) (hu : isUser who = true) (os : List K19.Own) (hol : os.length ≤ 20) (h9 : ∀ k (h : k < os.length),Fn 9 [s.enc,i os[k].who] (.tup [i os[k].used,i 0])) (hus : ∀ k,0 ≤ usedS (os.take k) ∧ usedS (os.take k) ≤ 8192) (hut : usedS os = (allN s.nodes : Nat)) (h8 : Fn 8 [.fs ((filesOf s.nodes).map Fil.enc)] (.tup [(Quo.mk os true).enc,i 0])) (hz : filesOf s.nodes = []) : Fn 3 [s.enc,i who] (.bool true):=by
 have hn20:=V.n20
 refine run_walkF eok Tryz.func3 rfl (by kernel_rfl) ?_
 conv=>whnf
 repeat' (first
 | ((with_reducible refine on_ndec_t (by first | assumption | rfl) ?_);conv=>whnf)
 | ((with_reducible refine on_dec_f ?_ ?_);(focus ((try simp only [List.length_map,List.length_cons,List.length_nil,List.length_append]);omega));conv=>whnf)
 | ((with_reducible refine on_dec (fun h=>?_) (fun h=>?_))<;>(try simp only [List.length_map] at h)<;>conv=>whnf)
 | ((with_reducible refine on_ndec (fun h=>?_) (fun h=>?_))<;>(try simp only [List.length_map] at h)<;>conv=>whnf)
 | ((with_reducible refine call_go ?_);(first | refine call_step (run_data (xs:=[]) c4 _) ?_ | refine call_step (run_data (xs:=[_]) (c5t B hsm) _) ?_ | refine call_step (run_data (xs:=[_]) (c6t hu) _) ?_ | refine call_step (run_data (xs:=[_]) (c7 (s.nodes[k]'(by omega)) (B.sd _ (List.getElem_mem (by omega : k < s.nodes.length))) (B.sl _ (List.getElem_mem (by omega : k < s.nodes.length)))) _) ?_ | refine call_step (run_row (h8o h8 hIa.2.2 h) rfl Nat.two_pos) ?_ | refine call_step (run_viewF (c10 s B V) rfl) ?_ | refine call_step (run_data (xs:=[_,_]) (h9 k (by omega)) _) ?_ | refine call_step (run_data (xs:=[_]) (c11 s V.n20 B.sd B.sl B.al) _) ?_);conv=>whnf)
 | (refine ⟨[],[(14,10)],(by decide +kernel),?_⟩;conv=>whnf)
 | (refine ⟨[],[(3,1),(7,1)],(by decide +kernel),?_⟩;conv=>whnf)
 | ((with_reducible refine loop_go ?_);first | (refine loop1 (fun (k : Nat)=>os.length - k) (fun (k : Nat)=>k ≤ os.length) (fun (k : Nat)=>[(1,.d (i who)),(2,.ptr 0 0 0),(5,.sl 1 0 out.length 2 none),(8,.ptr 2 0 0),(10,.d (i (usedS (os.take k)))),(11,.d (i k))]) (fun (k : Nat)=>[⟨[.d s.enc],3,0⟩,⟨(out.map Fil.enc).map .d,2,0⟩,⟨[.d (Quo.mk os true).enc],2,0⟩]) (0) (by exact Nat.zero_le _) ?_ (fun k C hI hC=>?_);(exact ⟨[.old 0,.old 1,.old 3],rfl,rfl,⟨(by first | (show (_ : D) = _;with_reducible rfl) ),⟨rfl,rfl,rfl⟩,(by first | exact ⟨rfl,rfl,rfl,rfl,rfl⟩ ),⟨rfl,rfl,rfl⟩,(by rw [used_0];rfl),(by first | exact congrArg (D.int .i64) (by omega) ),trivial⟩,⟨⟨rfl,rfl,.inl ⟨[_],rfl,rfl⟩⟩,⟨rfl,rfl,.inr (wksd _ _)⟩,⟨rfl,rfl,.inl ⟨[_],rfl,rfl⟩⟩,trivial⟩⟩);all_goals (conv=>whnf)) | (refine loop2 (fun (k : Nat) (out : List Fil)=>s.nodes.length - k) (fun (k : Nat) (out : List Fil)=>k ≤ s.nodes.length ∧ out.length ≤ k ∧ out = filesOf (s.nodes.take k)) (fun (k : Nat) (out : List Fil)=>[(1,.d (i who)),(2,.ptr 0 0 0),(5,.sl 1 0 out.length 2 none),(6,.d (i k))]) (fun (k : Nat) (out : List Fil)=>[⟨[.d s.enc],3,0⟩,⟨(out.map Fil.enc).map .d,2,0⟩]) (0) ([]) (by exact ⟨Nat.zero_le _,Nat.le_refl _,(files_0 _).symm⟩) ?_ (fun k out Ca hIa hCa=>?_);(exact ⟨[.old 0,.void 2],rfl,rfl,⟨(by first | (show (_ : D) = _;with_reducible rfl) ),⟨rfl,rfl,rfl⟩,⟨rfl,rfl,rfl,rfl⟩,(by first | exact congrArg (D.int .i64) (by omega) ),trivial⟩,⟨⟨rfl,rfl,.inl ⟨[_],rfl,rfl⟩⟩,⟨rfl,rfl,(by decide),rfl⟩,trivial⟩⟩);all_goals (conv=>whnf)))
 | ((with_reducible show C _ _);first | (refine hC (k + 1) _ _ ?_ (by omega) ?_;clear hC;rotate_left;(exact ⟨[.old 0,.old 1,.old 2],rfl,rfl,⟨(by first | (show (_ : D) = _;with_reducible rfl) ),⟨rfl,rfl,rfl⟩,(by first | exact ⟨rfl,rfl,rfl,rfl,rfl⟩ ),⟨rfl,rfl,rfl⟩,(by first | (show (_ : D) = _;with_reducible rfl) ),(by first | exact congrArg (D.int .i64) (by omega) ),trivial⟩,⟨⟨rfl,rfl,.inl ⟨[_],rfl,rfl⟩⟩,⟨rfl,rfl,.inr (wksd _ _)⟩,⟨rfl,rfl,.inl ⟨[_],rfl,rfl⟩⟩,trivial⟩⟩);(exact by omega)))
 | ((with_reducible show Ca _ _);first | (refine hCa (k + 1) (out ++ [(⟨(s.nodes[k]'(by omega)).d.owner,(bytesN (s.nodes[k]'(by omega)) : Nat)⟩ : Fil)]) _ _ ?_ (by omega) ?_;clear hCa;rotate_left;(exact ⟨[.old 0,.old 3],rfl,rfl,⟨(by first | (show (_ : D) = _;with_reducible rfl) ),⟨rfl,rfl,rfl⟩,⟨rfl,rfl,(by simp),rfl,rfl⟩,(by first | exact congrArg (D.int .i64) (by omega) ),trivial⟩,⟨⟨rfl,rfl,.inl ⟨[_],rfl,rfl⟩⟩,⟨rfl,rfl,.inr (wks_add (wksd _ _) ⟨rfl,rfl,rfl,trivial⟩)⟩,trivial⟩⟩);(exact ⟨by omega,(by rw [List.length_append,List.length_singleton];omega),(by rw [hIa.2.2];exact (files_t (by omega) (by omega)).symm)⟩)) | (refine hCa (k + 1) (out) _ _ ?_ (by omega) ?_;clear hCa;rotate_left;(exact ⟨[.old 0,.old 1],rfl,rfl,⟨(by first | (show (_ : D) = _;with_reducible rfl) ),⟨rfl,rfl,rfl⟩,(by first | exact ⟨rfl,rfl,rfl,rfl,rfl⟩ ),(by first | exact congrArg (D.int .i64) (by omega) ),trivial⟩,⟨⟨rfl,rfl,.inl ⟨[_],rfl,rfl⟩⟩,⟨rfl,rfl,.inr (wksd _ _)⟩,trivial⟩⟩);(exact ⟨by omega,by omega,(by rw [hIa.2.2];exact (files_f (by omega) (by omega)).symm)⟩)))
 | (refine ⟨⟨(by first | (simp;done)),cap_ok (by simp only [List.length_map,List.length_cons,List.length_nil,List.length_append];omega) rfl⟩,?_⟩;conv=>whnf)
 | (refine ⟨cap_ok (by first | (simp only [List.length_map];omega)) rfl,?_⟩;conv=>whnf)
 | (refine ix_map (by omega) ?_;conv=>whnf)
 | (refine wrap64 (by omega) ?_;conv=>whnf)
 | (exact absurd (out_0 (out_all hz hIa.2.2 (by assumption))) (by assumption))
 | (refine srcF ?_;conv=>whnf)
 | (refine wrapU (used_s (by omega)) (hus _).1 (hus _).2 ?_;conv=>whnf)
 | (refine ⟨Nat.le_refl _,?_⟩;conv=>whnf)
 | (refine ix_map (l:=os) (f:=K19.Own.enc) (by omega) ?_;conv=>whnf)
 | ((with_reducible refine endx_go ?_);first | (exact absurd (used_end hut (by omega)) (by assumption);done) | (exact endx (congrArg D.bool (decide_eq_true (by assumption)));done))
 | (refine ⟨rfl,?_⟩;conv=>whnf)
  | fail
  )
theorem c3s (s : Stt) (B : Sb s) (V : SOk s) (who : Int) (hsm : smallB s = true) (hu : isUser who = true) (os : List K19.Own) (hol : os.length ≤ 20) (h9 : ∀ k (h : k < os.length),Fn 9 [s.enc,i os[k].who] (.tup [i os[k].used,i 0])) (hus : ∀ k,0 ≤ usedS (os.take k) ∧ usedS (os.take k) ≤ 8192) (hut : usedS os = (allN s.nodes : Nat)) (h8 : Fn 8 [.fs ((filesOf s.nodes).map Fil.enc)] (.tup [(Quo.mk os true).enc,i 0])) (f : Fil) (l : List Fil) (hz : filesOf s.nodes = f :: l) (m y : Quo) (h12 : Fn 12 [(Quo.mk os true).enc,i f.who,i who,i f.bytes] (.tup [m.enc,i 0])) (h8b : Fn 8 [.fs ((Fil.mk who f.bytes :: l).map Fil.enc)] (.tup [y.enc,i 0])) (h13 : Fn 13 [m.enc,y.enc] (.tup [.fs [],i 0])) : Fn 3 [s.enc,i who] (.bool true):=by
 have hn20:=V.n20
 refine run_walkF eok Tryz.func3 rfl (by kernel_rfl) ?_
 conv=>whnf
 repeat' (first
 | ((with_reducible refine on_ndec_t (by first | assumption | rfl) ?_);conv=>whnf)
 | ((with_reducible refine on_dec_f ?_ ?_);(focus ((try simp only [List.length_map,List.length_cons,List.length_nil,List.length_append]);omega));conv=>whnf)
 | ((with_reducible refine on_dec (fun h=>?_) (fun h=>?_))<;>(try simp only [List.length_map] at h)<;>conv=>whnf)
 | ((with_reducible refine on_ndec (fun h=>?_) (fun h=>?_))<;>(try simp only [List.length_map] at h)<;>conv=>whnf)
 | ((with_reducible refine call_go ?_);(first | refine call_step (run_data (xs:=[]) c4 _) ?_ | refine call_step (run_data (xs:=[_]) (c5t B hsm) _) ?_ | refine call_step (run_data (xs:=[_]) (c6t hu) _) ?_ | refine call_step (run_data (xs:=[_]) (c7 (s.nodes[k]'(by omega)) (B.sd _ (List.getElem_mem (by omega : k < s.nodes.length))) (B.sl _ (List.getElem_mem (by omega : k < s.nodes.length)))) _) ?_ | refine call_step (run_row (h8o h8 hIa.2.2 h) rfl Nat.two_pos) ?_ | refine call_step (run_row1 h8b rfl Nat.two_pos (by rw [List.length_cons,List.length_map])) ?_ | refine call_step (run_viewF (c10 s B V) rfl) ?_ | refine call_step (run_data (xs:=[_,_]) (h9 k (by omega)) _) ?_ | refine call_step (run_data (xs:=[_]) (c11 s V.n20 B.sd B.sl B.al) _) ?_ | refine call_step (run_viewF h12 rfl) ?_ | refine call_step (run_viewF h13 rfl) ?_);conv=>whnf)
 | (refine ⟨[],[(14,10)],(by decide +kernel),?_⟩;conv=>whnf)
 | (refine ⟨[],[(3,1),(7,1)],(by decide +kernel),?_⟩;conv=>whnf)
 | ((with_reducible refine loop_go ?_);first | (refine loop1 (fun (k : Nat)=>os.length - k) (fun (k : Nat)=>k ≤ os.length) (fun (k : Nat)=>[(1,.d (i who)),(2,.ptr 0 0 0),(5,.sl 1 0 out.length 2 none),(8,.ptr 2 0 0),(10,.d (i (usedS (os.take k)))),(11,.d (i k))]) (fun (k : Nat)=>[⟨[.d s.enc],3,0⟩,⟨(out.map Fil.enc).map .d,2,0⟩,⟨[.d (Quo.mk os true).enc],2,0⟩]) (0) (by exact Nat.zero_le _) ?_ (fun k C hI hC=>?_);(exact ⟨[.old 0,.old 1,.old 3],rfl,rfl,⟨(by first | (show (_ : D) = _;with_reducible rfl) ),⟨rfl,rfl,rfl⟩,(by first | exact ⟨rfl,rfl,rfl,rfl,rfl⟩ ),⟨rfl,rfl,rfl⟩,(by rw [used_0];rfl),(by first | exact congrArg (D.int .i64) (by omega) ),trivial⟩,⟨⟨rfl,rfl,.inl ⟨[_],rfl,rfl⟩⟩,⟨rfl,rfl,.inr (wksd _ _)⟩,⟨rfl,rfl,.inl ⟨[_],rfl,rfl⟩⟩,trivial⟩⟩);all_goals (conv=>whnf)) | (refine loop2 (fun (k : Nat) (out : List Fil)=>s.nodes.length - k) (fun (k : Nat) (out : List Fil)=>k ≤ s.nodes.length ∧ out.length ≤ k ∧ out = filesOf (s.nodes.take k)) (fun (k : Nat) (out : List Fil)=>[(1,.d (i who)),(2,.ptr 0 0 0),(5,.sl 1 0 out.length 2 none),(6,.d (i k))]) (fun (k : Nat) (out : List Fil)=>[⟨[.d s.enc],3,0⟩,⟨(out.map Fil.enc).map .d,2,0⟩]) (0) ([]) (by exact ⟨Nat.zero_le _,Nat.le_refl _,(files_0 _).symm⟩) ?_ (fun k out Ca hIa hCa=>?_);(exact ⟨[.old 0,.void 2],rfl,rfl,⟨(by first | (show (_ : D) = _;with_reducible rfl) ),⟨rfl,rfl,rfl⟩,⟨rfl,rfl,rfl,rfl⟩,(by first | exact congrArg (D.int .i64) (by omega) ),trivial⟩,⟨⟨rfl,rfl,.inl ⟨[_],rfl,rfl⟩⟩,⟨rfl,rfl,(by decide),rfl⟩,trivial⟩⟩);all_goals (conv=>whnf)))
 | ((with_reducible show C _ _);first | (refine hC (k + 1) _ _ ?_ (by omega) ?_;clear hC;rotate_left;(exact ⟨[.old 0,.old 1,.old 2],rfl,rfl,⟨(by first | (show (_ : D) = _;with_reducible rfl) ),⟨rfl,rfl,rfl⟩,(by first | exact ⟨rfl,rfl,rfl,rfl,rfl⟩ ),⟨rfl,rfl,rfl⟩,(by first | (show (_ : D) = _;with_reducible rfl) ),(by first | exact congrArg (D.int .i64) (by omega) ),trivial⟩,⟨⟨rfl,rfl,.inl ⟨[_],rfl,rfl⟩⟩,⟨rfl,rfl,.inr (wksd _ _)⟩,⟨rfl,rfl,.inl ⟨[_],rfl,rfl⟩⟩,trivial⟩⟩);(exact by omega)))
 | ((with_reducible show Ca _ _);first | (refine hCa (k + 1) (out ++ [(⟨(s.nodes[k]'(by omega)).d.owner,(bytesN (s.nodes[k]'(by omega)) : Nat)⟩ : Fil)]) _ _ ?_ (by omega) ?_;clear hCa;rotate_left;(exact ⟨[.old 0,.old 3],rfl,rfl,⟨(by first | (show (_ : D) = _;with_reducible rfl) ),⟨rfl,rfl,rfl⟩,⟨rfl,rfl,(by simp),rfl,rfl⟩,(by first | exact congrArg (D.int .i64) (by omega) ),trivial⟩,⟨⟨rfl,rfl,.inl ⟨[_],rfl,rfl⟩⟩,⟨rfl,rfl,.inr (wks_add (wksd _ _) ⟨rfl,rfl,rfl,trivial⟩)⟩,trivial⟩⟩);(exact ⟨by omega,(by rw [List.length_append,List.length_singleton];omega),(by rw [hIa.2.2];exact (files_t (by omega) (by omega)).symm)⟩)) | (refine hCa (k + 1) (out) _ _ ?_ (by omega) ?_;clear hCa;rotate_left;(exact ⟨[.old 0,.old 1],rfl,rfl,⟨(by first | (show (_ : D) = _;with_reducible rfl) ),⟨rfl,rfl,rfl⟩,(by first | exact ⟨rfl,rfl,rfl,rfl,rfl⟩ ),(by first | exact congrArg (D.int .i64) (by omega) ),trivial⟩,⟨⟨rfl,rfl,.inl ⟨[_],rfl,rfl⟩⟩,⟨rfl,rfl,.inr (wksd _ _)⟩,trivial⟩⟩);(exact ⟨by omega,by omega,(by rw [hIa.2.2];exact (files_f (by omega) (by omega)).symm)⟩)))
 | (refine ⟨⟨(by first | (simp;done)),cap_ok (by simp only [List.length_map,List.length_cons,List.length_nil,List.length_append];omega) rfl⟩,?_⟩;conv=>whnf)
 | (refine ⟨cap_ok (by first | (simp only [List.length_map];omega)) rfl,?_⟩;conv=>whnf)
 | (refine ix_map (by omega) ?_;conv=>whnf)
 | (refine wrap64 (by omega) ?_;conv=>whnf)
 | (exact absurd (by assumption) (out_1 (out_all hz hIa.2.2 (by assumption))))
 | (have eo:=out_all hz hIa.2.2 (by assumption);clear hIa hCa;subst eo;refine ⟨⟨by omega,(by rw [List.length_cons];omega)⟩,?_⟩;conv=>whnf)
 | (refine ⟨⟨by omega,(by rw [List.length_cons];omega)⟩,?_⟩;conv=>whnf)
 | (refine srcF ?_;conv=>whnf)
 | (refine wrapU (used_s (by omega)) (hus _).1 (hus _).2 ?_;conv=>whnf)
 | (refine ⟨Nat.le_refl _,?_⟩;conv=>whnf)
 | (refine ix_map (l:=os) (f:=K19.Own.enc) (by omega) ?_;conv=>whnf)
 | ((with_reducible refine endx_go ?_);first | (exact endx rfl;done) | (exact absurd (used_end hut (by omega)) (by assumption);done) )
 | (refine ⟨rfl,?_⟩;conv=>whnf)
  | fail
  )
theorem usedS_bd {n : Int} : ∀ (l : List K19.Own) (k : Nat),(∀ o ∈ l,0 ≤ o.used) → 0 ≤ K19.usedS (l.take k) ∧ K19.usedS (l.take k) ≤ K19.usedS l
 | [],k,_=>by simp [K19.usedS]
 | o :: l,0,hp=>by
  have h1:=usedS_bd (n:=n) l l.length (fun x hx=>hp x (by simp [hx]))
  have h2:=hp o (by simp)
  rw [List.take_length] at h1
  simp only [List.take_zero,K19.usedS];omega
 | o :: l,k + 1,hp=>by
  have h1:=usedS_bd (n:=n) l k (fun x hx=>hp x (by simp [hx]))
  have h2:=hp o (by simp)
  simp only [List.take_succ_cons,K19.usedS];omega
theorem c3 (s : Stt) (B : Sb s) (who : Int) : Fn 3 [s.enc,i who] (.bool true):=by
 cases hsm : smallB s with
 | false=>exact c3n s B who hsm
 | true=>
  cases hu : isUser who with
  | false=>exact c3u s B who hsm hu
  | true=>
   have V : SOk s:=st_ok (Decidable.byContradiction fun c=>by rw [small_e c] at hsm;cases hsm)
   have K:=files_ok V
   have hl20:=K19.sQ_len (filesOf s.nodes)
   have hf20:=K.len
   have h9 : ∀ k (h : k < (K19.sQ (filesOf s.nodes)).os.length),Fn 9 [s.enc,i (K19.sQ (filesOf s.nodes)).os[k].who] (.tup [i (K19.sQ (filesOf s.nodes)).os[k].used,i 0]):=fun k h=>by
    have hm:=List.getElem_mem h
    rw [used_sQ V hm]
    exact c9 s B V _ (who_sQ V hm)
   have hus : ∀ k,0 ≤ K19.usedS ((K19.sQ (filesOf s.nodes)).os.take k) ∧ K19.usedS ((K19.sQ (filesOf s.nodes)).os.take k) ≤ 8192:=fun k=>by
    have h1:=usedS_bd (n:=0) (K19.sQ (filesOf s.nodes)).os k (fun o ho=>by rw [used_sQ V ho];omega)
    have h2:=tot_sQ V
    have h3:=V.all
    omega
   have h8 : Fn 8 [.fs ((filesOf s.nodes).map K19.Fil.enc)] (.tup [(K19.Quo.mk (K19.sQ (filesOf s.nodes)).os true).enc,i 0]):=by
    have:=K19.c8 (filesOf s.nodes) (by omega)
    rw [K19.sums_ok K] at this
    exact this
   cases hf : filesOf s.nodes with
   | nil=>exact c3z s B V who hsm hu (K19.sQ (filesOf s.nodes)).os (by omega) h9 hus (tot_sQ V) h8 hf
   | cons f l=>
    have K2:=K
    rw [hf] at K2
    obtain ⟨m,h1,h2,h3,h4⟩:=K19.move_law K2 (user_who hu)
    have hl2:=K19.sQ_len (f :: l)
    have hl3:=K19.sQ_len (⟨who,f.bytes⟩ :: l)
    have hk2:=K2.len
    rw [List.length_cons] at hl3 hl2 hk2
    refine c3s s B V who hsm hu (K19.sQ (filesOf s.nodes)).os (by omega) h9 hus (tot_sQ V) h8 f l hf m (K19.sQ (⟨who,f.bytes⟩ :: l)) ?_ ?_ ?_
    ·have:=K19.c12 (K19.sQ (f :: l)) (by omega) f.who who f.bytes
     rw [h1] at this
     rw [hf];exact this
    ·have:=K19.c8 (⟨who,f.bytes⟩ :: l) (by rw [List.length_cons];omega)
     rw [h3] at this
     exact this
    ·have:=K19.c13 m (K19.sQ (⟨who,f.bytes⟩ :: l)) (by omega) (by omega)
     rw [h4] at this
     exact this
end Go.Proofs.YtkmhnaojgkcjoaaGreatDoor
namespace Go.Proofs.YtkmhnaojgkcjoaaGreatDoor
open Go Dw Paths
theorem blk_mem {x : D} : ∀ {l : List D},x ∈ l → bulkD x ≤ bulkDs l
 | [],h=>by cases h
 | y :: l,h=>by
  simp only [bulkDs]
  rcases List.mem_cons.1 h with rfl | h
  ·omega
  ·have:=blk_mem h;omega
theorem blk_at {α : Type} {f : α → D} {a : α} {l : List α} (h : a ∈ l) : bulkD (f a) ≤ bulkDs (l.map f):=blk_mem (List.mem_map_of_mem h)
theorem blk_len {α : Type} {f : α → D} (h : ∀ a,1 ≤ bulkD (f a)) : ∀ l : List α,l.length ≤ bulkDs (l.map f)
 | []=>Nat.zero_le _
 | a :: l=>by
  have h1:=h a
  have h2:=blk_len h l
  simp only [List.map_cons,List.length_cons,bulkDs];omega
theorem blk_ent (x : Ent) : bulkD x.enc = x.name.length + 2:=by simp only [Ent.enc,bulkD,bulkDs,i];try omega
theorem blk_stm (x : Stm) : bulkD x.enc = x.name.length + x.data.length + 2:=by simp only [Stm.enc,bulkD,bulkDs];omega
theorem blk_nd (x : PNd) : bulkDs (x.ents.map Ent.enc) + x.data.length + bulkDs (x.sts.map Stm.enc) + 1 ≤ bulkD x.enc:=by simp only [PNd.enc,bulkD,bulkDs,i];omega
theorem blk_lm (x : Lmt) : bulkD x.enc = 2:=by simp only [Lmt.enc,bulkD,bulkDs,i]
theorem blk_st (s : Stt) : bulkDs (s.nodes.map PNd.enc) + bulkDs (s.lims.map Lmt.enc) + 1 ≤ bulkD s.enc:=by simp only [Stt.enc,bulkD,bulkDs,i];omega
theorem blk_sum : ∀ l : List Stm,sumS l ≤ bulkDs (l.map Stm.enc)
 | []=>Nat.zero_le _
 | x :: l=>by
  have h1:=blk_stm x
  have h2:=blk_sum l
  simp only [sumS,List.map_cons,bulkDs];omega
theorem sumS_le : ∀ (l : List Stm) (k : Nat),sumS (l.take k) ≤ sumS l
 | [],k=>by simp
 | x :: l,0=>by simp [sumS]
 | x :: l,k + 1=>by
  have:=sumS_le l k
  simp only [List.take_succ_cons,sumS];omega
theorem allN_le : ∀ (l : List PNd) (k : Nat),allN (l.take k) ≤ allN l
 | [],k=>by simp
 | x :: l,0=>by simp [allN]
 | x :: l,k + 1=>by
  have:=allN_le l k
  simp only [List.take_succ_cons,allN];omega
theorem blk_all : ∀ l : List PNd,allN l ≤ bulkDs (l.map PNd.enc)
 | []=>Nat.zero_le _
 | x :: l=>by
  have h1:=blk_nd x
  have h2:=blk_all l
  have h3:=blk_sum x.sts
  simp only [allN,List.map_cons,bulkDs,bytesN];omega
theorem sb_of {s : Stt} (h : bulkD s.enc ≤ 1048576) : Sb s:=by
 have h0:=blk_st s
 have hx : ∀ x ∈ s.nodes,bulkD x.enc ≤ 1048576:=fun x hx=>by have:=blk_at (f:=PNd.enc) hx;omega
 refine ⟨fun x m=>?_,fun x m y n=>?_,fun x m=>?_,fun x m y n=>?_,fun x m k=>?_,fun k=>?_,?_⟩
 ·have h1:=hx x m
  have h2:=blk_nd x
  have h3:=blk_len (f:=Ent.enc) (fun a=>by rw [blk_ent];omega) x.ents
  omega
 ·have h1:=hx x m
  have h2:=blk_nd x
  have h3:=blk_at (f:=Ent.enc) n
  rw [blk_ent] at h3
  omega
 ·have h1:=hx x m
  have h2:=blk_nd x
  have h3:=blk_len (f:=Stm.enc) (fun a=>by rw [blk_stm];omega) x.sts
  omega
 ·have h1:=hx x m
  have h2:=blk_nd x
  have h3:=blk_at (f:=Stm.enc) n
  rw [blk_stm] at h3
  omega
 ·have h1:=hx x m
  have h2:=blk_nd x
  have h3:=blk_sum x.sts
  have h4:=sumS_le x.sts k
  omega
 ·have h1:=blk_all s.nodes
  have h2:=allN_le s.nodes k
  omega
 ·have h3:=blk_len (f:=Lmt.enc) (fun a=>by rw [blk_lm];omega) s.lims
  omega
end Go.Proofs.YtkmhnaojgkcjoaaGreatDoor
namespace Go.Proofs.YtkmhnaojgkcjoaaGreatDoor
open Go Dw Paths
theorem map_of {α : Type} {f : α → D} : ∀ (l : List D),(∀ y ∈ l,∃ a,y = f a) → ∃ r : List α,l = r.map f
 | [],_=>⟨[],rfl⟩
 | x :: l,h=>by
  obtain ⟨a,rfl⟩:=h x (by simp)
  obtain ⟨r,rfl⟩:=map_of l fun y hy=>h y (by simp [hy])
  exact ⟨a :: r,rfl⟩
theorem shpInt {n : Nat} {x : D} (h : shp E (n + 1) 3 x) : ∃ k : Int,x = i k:=by
 obtain ⟨k,rfl,_⟩:=h
 exact ⟨k,rfl⟩
theorem shpEnt {n : Nat} {x : D} (h : shp E (n + 2) 139 x) : ∃ e : Ent,x = e.enc:=by
 obtain ⟨cs,rfl,y1,r1,⟨k1,rfl,_⟩,rfl,y2,r2,⟨k2,rfl,_⟩,rfl,rfl⟩:=h
 exact ⟨⟨k1,k2⟩,rfl⟩
theorem shpStm {n : Nat} {x : D} (h : shp E (n + 2) 63 x) : ∃ e : Stm,x = e.enc:=by
 obtain ⟨cs,rfl,y1,r1,⟨k1,rfl,_⟩,rfl,y2,r2,⟨k2,rfl,_⟩,rfl,rfl⟩:=h
 exact ⟨⟨k1,k2⟩,rfl⟩
theorem shpLmt {n : Nat} {x : D} (h : shp E (n + 2) 123 x) : ∃ e : Lmt,x = e.enc:=by
 obtain ⟨cs,rfl,y1,r1,⟨k1,rfl,_⟩,rfl,y2,r2,⟨k2,rfl,_⟩,rfl,rfl⟩:=h
 exact ⟨⟨k1,k2⟩,rfl⟩
theorem shpAce {n : Nat} {x : D} (h : shp E (n + 2) 188 x) : ∃ e : Ace,x = e.enc:=by
 obtain ⟨cs,rfl,y1,r1,⟨k1,rfl,_⟩,rfl,y2,r2,⟨k2,rfl,_⟩,rfl,y3,r3,⟨k3,rfl,_⟩,rfl,y4,r4,⟨k4,rfl,_⟩,rfl,rfl⟩:=h
 exact ⟨⟨k1,k2,k3,k4⟩,rfl⟩
theorem shpDsc {n : Nat} {x : D} (h : shp E (n + 4) 35 x) : ∃ d : Dsc,x = .agg d.cs:=by
 obtain ⟨cs,rfl,y1,r1,⟨k1,rfl,_⟩,rfl,y2,r2,⟨k2,rfl,_⟩,rfl,y3,r3,⟨k3,rfl⟩,rfl,y4,r4,⟨k4,rfl⟩,rfl,y5,r5,⟨l5,rfl,_,h5⟩,rfl,y6,r6,⟨l6,rfl,_,h6⟩,rfl,rfl⟩:=h
 obtain ⟨es,rfl⟩:=map_of l5 fun y hy=>shpAce (h5 y hy)
 obtain ⟨au,rfl⟩:=map_of l6 fun y hy=>shpAce (h6 y hy)
 exact ⟨⟨k1,k2,k3,k4,es,au⟩,rfl⟩
theorem shpPNd {n : Nat} {x : D} (h : shp E (n + 5) 37 x) : ∃ e : PNd,x = e.enc:=by
 obtain ⟨cs,rfl,y1,r1,⟨k1,rfl,_⟩,rfl,y2,r2,⟨l2,rfl,_,h2⟩,rfl,y3,r3,⟨k3,rfl,_⟩,rfl,y4,r4,⟨k4,rfl,_⟩,rfl,y5,r5,⟨l5,rfl,_,h5⟩,rfl,y6,r6,h6,rfl,y7,r7,⟨k7,rfl,_⟩,rfl,y8,r8,⟨k8,rfl,_⟩,rfl,rfl⟩:=h
 obtain ⟨en,rfl⟩:=map_of l2 fun y hy=>shpEnt (h2 y hy)
 obtain ⟨st,rfl⟩:=map_of l5 fun y hy=>shpStm (h5 y hy)
 obtain ⟨d,rfl⟩:=shpDsc h6
 exact ⟨⟨k1,en,k3,k4,st,d,k7,k8⟩,rfl⟩
theorem shpStt {n : Nat} {x : D} (h : shp E (n + 7) 25 x) : ∃ s : Stt,x = s.enc:=by
 obtain ⟨cs,rfl,y1,r1,⟨l1,rfl,_,h1⟩,rfl,y2,r2,⟨l2,rfl,_,h2⟩,rfl,y3,r3,⟨k3,rfl,_⟩,rfl,rfl⟩:=h
 obtain ⟨nd,rfl⟩:=map_of l1 fun y hy=>shpPNd (h1 y hy)
 obtain ⟨lm,rfl⟩:=map_of l2 fun y hy=>shpLmt (h2 y hy)
 exact ⟨⟨nd,lm,k3⟩,rfl⟩
end Go.Proofs.YtkmhnaojgkcjoaaGreatDoor
namespace Go.Proofs.YtkmhnaojgkcjoaaGreatDoor
open Go Dw Go.ChangeShapes Go.WideShapes Go.RowKit
set_option maxRecDepth 100000
theorem own29 : ownKnob Tryz.prog.godebug = none:=by kernel_rfl
theorem laidOut29 : laidOutB Tryz.prog = true:=by kernel_rfl
def laid29 : List (String × DataW Unit) := [("math/bits.deBruijn32tab", Rows.laid_math_bits_deBruijn32tab), ("math/bits.deBruijn64tab", Rows.laid_math_bits_deBruijn64tab), ("internal/strconv.uint64pow10", Rows.laid_internal_strconv_uint64pow10), ("unicode/utf8.acceptRanges", Rows.laid_unicode_utf8_acceptRanges), ("unicode/utf8.first", Rows.laid_unicode_utf8_first)]
def table29 : Array Value:=(Pinned.utf8FirstZ.map fun (n : Nat)=>Value.int .u8 n).toArray
def withTable (o : Go.Obj) : Go.Obj:=match o with
 | Go.Obj.cells _ t fr=>Go.Obj.cells table29 t fr
 | o=>o
noncomputable def wit29 (os : Os) : World:=
 { World.doorLaid Tryz.prog 60 os with heap:=(World.doorLaid Tryz.prog 60 os).heap.modify 4 withTable }
theorem door_met29 (os : Os) (args : Array Value) : laidMetH Tryz.prog laid29 ((wit29 os).forCall (fun _ _=>0) ⟨#[],args,[]⟩).memory:=
 laidMetH_of_parts3 (fuel:=8) (laidMet_of_run' 8 (by kernel_rfl) (by kernel_rfl)) (by kernel_rfl) (by kernel_rfl)
theorem shaped29 (os : Os) (args : Array Value) : ((wit29 os).forCall (fun _ _=>0) ⟨#[],args,[]⟩).Shaped Tryz.prog:=
 World.shaped_of_RefB (by kernel_rfl) (by kernel_rfl)
theorem bulk29 (H : Type) : Bulk (H:=H) Rows.uptoBulk Rows.uptoBulkAll where
 one:=fun d=>by
  cases d with
  | lit l=>cases l<;>simp [Rows.uptoBulk]
  | _=>simp [Rows.uptoBulk]
 str:=fun s=>by simp [Rows.uptoBulk]
 sl:=fun a b=>by simp only [Rows.uptoBulk];omega
 agg:=fun a=>by simp only [Rows.uptoBulk];omega
 nil:=rfl
 cons:=fun d l=>rfl
theorem card_hl {P : Program} {nm : String} {f0 : Nat} {fn0 : Func} {lk : Bool} (h1 : P.funcNamed nm = some f0) (h2 : P.funcs[f0]? = some fn0) (h3 : lk = P.looks []) (h4 : (fn0.params.toList.all fun t=>!P.wantsStandIn t) = true) :
  ∀ f fn,P.funcNamed nm = some f → P.funcs[f]? = some fn → lk = P.looks [] ∧ ∀ (j : Nat) t,fn.params[j]? = some t → P.wantsStandIn t = false:=by
 intro f fn h5 h6
 obtain rfl : f = f0:=(Option.some.inj (h1.symm.trans h5)).symm
 obtain rfl : fn = fn0:=(Option.some.inj (h2.symm.trans h6)).symm
 refine ⟨h3,fun j t ht=>?_⟩
 have:=List.all_eq_true.1 h4 t (List.mem_of_getElem? (by simpa using ht))
 simpa using this
end Go.Proofs.YtkmhnaojgkcjoaaGreatDoor
