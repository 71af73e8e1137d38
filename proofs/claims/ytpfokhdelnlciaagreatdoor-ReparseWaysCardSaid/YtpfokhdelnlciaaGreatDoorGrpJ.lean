/-
  Own lemmas, no conditions: Ww, Pm, Wx, Wz, Xa, Xb, Pn, Xc, Xd, Xe, Xf, Xg, Ld, Sh.
-/
import Derived.Test.YtpfokhdelnlciaaGreatDoorGrpH
import Derived.Test.YtpfokhdelnlciaaGreatDoorTie
import Derived.Test.YtpfokhdelnlciaaGreatDoorCards
import Derived.ProofKit
import Derived.LaidMore
import Derived.Test.YtpfokhdelnlciaaGreatDoorRows
set_option linter.unusedVariables false
set_option linter.unusedSimpArgs false
namespace Go.Proofs.YtpfokhdelnlciaaGreatDoor
open Go Dw
set_option maxRecDepth 10000
attribute [local irreducible] Run
set_option maxHeartbeats 1000000
open Paths
attribute [local irreducible] nameErr cut normal dots partErr text parse glue fold within
abbrev rowB (R : List Bool) : List AV:=(R.map D.bool).map .d
abbrev rowI (l : List Int) : List AV:=(l.map i).map .d
theorem rowI_hd {pre q : List Int} {w : Int} {n : Nat} {K : AV → Prop} (hn : n = pre.length) (k : K (.d (i w))) : nthK (rowI (pre ++ w :: q)) n K:=by
 subst hn
 exact nthK_of (x:=.d (i w)) (by simp [rowI]) k
theorem rep_rowB (n : Nat) (b : Bool) : rowB (List.replicate n b) = List.replicate n (.d (.bool b)):=by simp [rowB]
theorem rep_rowI (n : Nat) (x : Int) : rowI (List.replicate n x) = List.replicate n (.d (i x)):=by simp [rowI]
theorem rowB_at {R : List Bool} {n m : Nat} {K : AV → Prop} (e : n = m) (h : m < R.length) (k : K (.d (.bool R[m]))) : nthK (rowB R) n K:=by
 subst e
 exact nthK_of (x:=.d (.bool R[n])) (by simp [rowB,h]) k
theorem rowB_set {R : List Bool} {n m : Nat} {K : List AV → Prop} (e : n = m) (k : K (rowB (R.set m true))) : setK (rowB R) n (.d (.bool true)) K:=by
 subst e
 refine setK_of ?_
 have : (rowB R).set n (.d (.bool true)) = rowB (R.set n true):=by simp [rowB,List.map_set]
 rw [this];exact k
theorem nb_of {t : List Nod} {a m : Nat} {R R0 : List Bool} {p : Int} {cur cur0 : List Int} {nd : Nod} (hg : Good t) (hd : t[p.toNat]? = some nd) (h : Bi t a R p cur nd m R0 cur0) (hm : m < nd.ents.length) : nd.ents[m].node.toNat < R.length ∧ 1 ≤ nd.ents[m].node ∧ nd.ents[m].node ≤ (t.length : Int) - 1:=by
 have:=hg nd (List.mem_of_getElem? hd) _ (List.getElem_mem hm)
 rw [h.b.len];omega
theorem bi_cap {t : List Nod} {a m : Nat} {R R0 : List Bool} {p : Int} {cur cur0 : List Int} {nd : Nod} (h : Bi t a R p cur nd m R0 cur0) (hl : t.length < 100000) : (p :: cur).length + 1 ≤ 10000000:=by
 have:=bi_cnt h;omega
theorem isT_of {R : List Bool} {k : Nat} (h : k < R.length) (e : R[k] = true) : isT R k:=by unfold isT;rw [List.getElem?_eq_getElem h,e]
theorem isF_of {R : List Bool} {k : Nat} (h : k < R.length) (e : R[k] = false) : R[k]? = some false:=by rw [List.getElem?_eq_getElem h,e]
theorem hd_of {t : List Nod} {a : Nat} {R : List Bool} {p : Int} {cur : List Int} (h : Bf t a R (p :: cur)) : ∃ nd,t[p.toNat]? = some nd ∧ 0 ≤ p:=by
 obtain ⟨h0,h1⟩:=h.q p (by simp)
 have:=isT_lt h1
 rw [h.len] at this
 exact ⟨t[p.toNat],List.getElem?_eq_getElem this,h0⟩
theorem rowI_next (pre q : List Int) (w : Int) : rowI (pre ++ w :: q) = rowI ((pre ++ [w]) ++ q):=by simp
theorem rowI_push {μ : List Mu} {pre cur : List Int} {w x : Int} {n : Nat} (hn : n = pre.length) : wks μ ((rowI (pre ++ w :: cur)).drop n ++ [.d (i x)]) (rowI ([] ++ w :: (cur ++ [x]))):=by
 subst hn
 have : (rowI (pre ++ w :: cur)).drop pre.length ++ [.d (i x)] = rowI ([] ++ w :: (cur ++ [x])):=by simp [rowI]
 rw [this];exact wksd _ _
theorem rowI_pushT {μ : List Mu} {pre cur : List Int} {w x : Int} {n k : Nat} (hn : n = pre.length) (hk : k = (w :: cur).length) : wks μ (((rowI (pre ++ w :: cur)).drop n).take k ++ [.d (i x)]) (rowI ([] ++ w :: (cur ++ [x]))):=by
 have h:=rowI_push (μ:=μ) (cur:=cur) (w:=w) (x:=x) hn
 rw [List.take_of_length_le (by subst hn;rw [hk];simp [rowI])]
 exact h
theorem appI_len {pre cur : List Int} {w : Int} : pre.length + (w :: cur).length = (rowI (pre ++ w :: cur)).length:=by simp [rowI]
theorem mk_rowB {n : Nat} {l : Int} {A : Prop} {h : Heap} {F : Nat → Heap → Prop} (hA : A) (hl : l = n) (hk : newD h ⟨rowB (List.replicate n false),1,0⟩ F) : A ∧ newD h ⟨List.replicate l.toNat (.d (.bool false)),1,0⟩ F:=by
 subst hl
 rw [rep_rowB] at hk
 exact ⟨hA,hk⟩
theorem mk_rowI {n : Nat} {l : Int} {A : Prop} {h : Heap} {F : Nat → Heap → Prop} (hA : A) (hl : l = n) (hk : newD h ⟨rowI (List.replicate n 0),1,0⟩ F) : A ∧ newD h ⟨List.replicate l.toNat (.d (i 0)),1,0⟩ F:=by
 subst hl
 rw [rep_rowI] at hk
 exact ⟨hA,hk⟩
attribute [local irreducible] Good rchF cntT
theorem c58 (t : List Nod) (a : Nat) (hg : Good t) (ha : a < t.length) (hl : t.length < 100000) (hb : ∀ x ∈ t,x.ents.length < 1000000) : Fn 58 [treeD t,i a] (.fs ((rchF t a).map D.bool)):=by
 refine run_walkF eok Tryz.func58 rfl (by kernel_rfl) ?_
 conv=>whnf
 repeat' (first
 | ((with_reducible refine on_dec_f ?_ ?_);(focus ((try simp only [List.length_map,List.length_cons,List.length_nil,List.length_append]);omega));conv=>whnf)
 | ((with_reducible refine on_dec_t ?_ ?_);(focus ((try simp only [List.length_map,List.length_cons,List.length_nil,List.length_append]);omega));conv=>whnf)
 | ((with_reducible refine on_dec (fun h=>?_) (fun h=>?_))<;>(try simp only [List.length_map] at h)<;>conv=>whnf)
 | ((with_reducible refine on_not (fun h=>?_) (fun h=>?_))<;>conv=>whnf)
 | ((with_reducible refine loop_go ?_);first | (refine loop5 (fun (m : Nat) (R2 : List Bool) (pre2 : List Int) (cur2 : List Int) (fr2 : Bool)=>nd.ents.length - m) (fun (m : Nat) (R2 : List Bool) (pre2 : List Int) (cur2 : List Int) (fr2 : Bool)=>Bi t a R2 w cur2 nd m R cur) (fun (m : Nat) (R2 : List Bool) (pre2 : List Int) (cur2 : List Int) (fr2 : Bool)=>[(0,.d (treeD t)),(5,.sl 0 0 t.length 1 (some t.length)),(6,.sl 1 pre2.length (w :: cur2).length 1 (capO fr2 (w :: cur2).length)),(28,.d (.fs (nd.ents.map Ent.enc))),(29,.d (i nd.ents.length)),(30,.d (i m))]) (fun (m : Nat) (R2 : List Bool) (pre2 : List Int) (cur2 : List Int) (fr2 : Bool)=>[⟨rowB R2,1,0⟩,⟨rowI (pre2 ++ w :: cur2),1,0⟩]) (0) (R) (pre) (cur) (false) (by exact bi_0 hI) ?_ (fun m R2 pre2 cur2 fr2 Ci hIi hCi=>?_);(exact ⟨[.old 0,.old 1],rfl,rfl,⟨(by first | (show (_ : D) = _;with_reducible rfl) ),(by first | exact ⟨rfl,rfl,rfl,rfl,rfl⟩ ),⟨rfl,rfl,(by simp),rfl,(capO_eq (fr:=false) (by simp))⟩,(by first | (show (_ : D) = _;with_reducible rfl) ),(congrArg (D.int .i64) (by simp only [List.length_map])),(by first | exact congrArg (D.int .i64) (by omega) ),trivial⟩,⟨⟨rfl,rfl,.inl ⟨_,rfl,rfl⟩⟩,⟨rfl,rfl,.inl ⟨_,rfl,rfl⟩⟩,trivial⟩⟩);cases fr2;all_goals (conv=>whnf)) | (refine loop5 (fun (m : Nat) (R2 : List Bool) (pre2 : List Int) (cur2 : List Int) (fr2 : Bool)=>nd.ents.length - m) (fun (m : Nat) (R2 : List Bool) (pre2 : List Int) (cur2 : List Int) (fr2 : Bool)=>Bi t a R2 w cur2 nd m R cur) (fun (m : Nat) (R2 : List Bool) (pre2 : List Int) (cur2 : List Int) (fr2 : Bool)=>[(0,.d (treeD t)),(5,.sl 0 0 t.length 1 (some t.length)),(6,.sl 1 pre2.length (w :: cur2).length 1 (capO fr2 (w :: cur2).length)),(28,.d (.fs (nd.ents.map Ent.enc))),(29,.d (i nd.ents.length)),(30,.d (i m))]) (fun (m : Nat) (R2 : List Bool) (pre2 : List Int) (cur2 : List Int) (fr2 : Bool)=>[⟨rowB R2,1,0⟩,⟨rowI (pre2 ++ w :: cur2),1,0⟩]) (0) (R) (pre) (cur) (true) (by exact bi_0 hI) ?_ (fun m R2 pre2 cur2 fr2 Ci hIi hCi=>?_);(exact ⟨[.old 0,.old 1],rfl,rfl,⟨(by first | (show (_ : D) = _;with_reducible rfl) ),(by first | exact ⟨rfl,rfl,rfl,rfl,rfl⟩ ),⟨rfl,rfl,(by simp),rfl,(capO_eq (fr:=true) (by simp))⟩,(by first | (show (_ : D) = _;with_reducible rfl) ),(congrArg (D.int .i64) (by simp only [List.length_map])),(by first | exact congrArg (D.int .i64) (by omega) ),trivial⟩,⟨⟨rfl,rfl,.inl ⟨_,rfl,rfl⟩⟩,⟨rfl,rfl,.inl ⟨_,rfl,rfl⟩⟩,trivial⟩⟩);cases fr2;all_goals (conv=>whnf)) | (refine loop4 (fun (R : List Bool) (pre : List Int) (q : List Int) (fr : Bool)=>2 * (t.length - cntT R) + q.length) (fun (R : List Bool) (pre : List Int) (q : List Int) (fr : Bool)=>Bf t a R q) (fun (R : List Bool) (pre : List Int) (q : List Int) (fr : Bool)=>[(0,.d (treeD t)),(5,.sl 0 0 t.length 1 (some t.length)),(6,.sl 1 pre.length q.length 1 (capO fr q.length))]) (fun (R : List Bool) (pre : List Int) (q : List Int) (fr : Bool)=>[⟨rowB R,1,0⟩,⟨rowI (pre ++ q),1,0⟩]) (startR t a) ([]) ([(a : Int)]) (true) (by exact bf_0 ha) ?_ (fun R pre q fr C hI hC=>?_);(exact ⟨[.old 0,.old 1],rfl,rfl,⟨(by first | (show (_ : D) = _;with_reducible rfl) ),⟨rfl,rfl,(by simp),rfl,(by simp)⟩,(by first | exact ⟨rfl,rfl,rfl,rfl,rfl⟩ ),trivial⟩,⟨⟨rfl,rfl,.inl ⟨_,rfl,rfl⟩⟩,⟨rfl,rfl,.inl ⟨_,rfl,rfl⟩⟩,trivial⟩⟩);(rcases q with (_ | ⟨w,cur⟩));(rotate_left;(obtain ⟨nd,hnd,hw0⟩:=hd_of hI);rotate_right);all_goals cases fr;all_goals (conv=>whnf)))
 | ((with_reducible show C _ _);first | (refine hC (R2) (pre2 ++ [w]) (cur2) (false) _ _ ?_ (by exact (bi_end hIi hnd (by omega)).2) ?_;clear hC;rotate_left;(exact ⟨[.old 0,.old 1],rfl,rfl,⟨(by first | (show (_ : D) = _;with_reducible rfl) ),(by first | exact ⟨rfl,rfl,rfl,rfl,rfl⟩ ),⟨rfl,(by simp only [List.length_append,List.length_cons,List.length_nil]),Nat.add_sub_cancel _ 1,rfl,capO_pred (fr:=false)⟩,trivial⟩,⟨⟨rfl,rfl,.inl ⟨_,rfl,rfl⟩⟩,⟨rfl,rfl,.inl ⟨_,rfl,(rowI_next _ _ _).symm⟩⟩,trivial⟩⟩);(exact (bi_end hIi hnd (by omega)).1)) | (refine hC (R2) (pre2 ++ [w]) (cur2) (true) _ _ ?_ (by exact (bi_end hIi hnd (by omega)).2) ?_;clear hC;rotate_left;(exact ⟨[.old 0,.old 1],rfl,rfl,⟨(by first | (show (_ : D) = _;with_reducible rfl) ),(by first | exact ⟨rfl,rfl,rfl,rfl,rfl⟩ ),⟨rfl,(by simp only [List.length_append,List.length_cons,List.length_nil]),Nat.add_sub_cancel _ 1,rfl,capO_pred (fr:=true)⟩,trivial⟩,⟨⟨rfl,rfl,.inl ⟨_,rfl,rfl⟩⟩,⟨rfl,rfl,.inl ⟨_,rfl,(rowI_next _ _ _).symm⟩⟩,trivial⟩⟩);(exact (bi_end hIi hnd (by omega)).1)))
 | ((with_reducible show Ci _ _);first | (refine hCi (m + 1) (R2) (pre2) (cur2) (true) _ _ ?_ (by omega) ?_;clear hCi;rotate_left;(exact ⟨[.old 0,.old 1],rfl,rfl,⟨(by first | (show (_ : D) = _;with_reducible rfl) ),(by first | exact ⟨rfl,rfl,rfl,rfl,rfl⟩ ),(by first | exact ⟨rfl,rfl,rfl,rfl,rfl⟩ ),(by first | (show (_ : D) = _;with_reducible rfl) ),(by first | (show (_ : D) = _;with_reducible rfl) ),(by first | exact congrArg (D.int .i64) (by omega) ),trivial⟩,⟨⟨rfl,rfl,.inl ⟨_,rfl,rfl⟩⟩,⟨rfl,rfl,.inl ⟨_,rfl,rfl⟩⟩,trivial⟩⟩);(exact bi_skip hIi (by omega) (isT_of (nb_of hg hnd hIi (by omega)).1 (by assumption)))) | (refine hCi (m + 1) (R2) (pre2) (cur2) (false) _ _ ?_ (by omega) ?_;clear hCi;rotate_left;(exact ⟨[.old 0,.old 1],rfl,rfl,⟨(by first | (show (_ : D) = _;with_reducible rfl) ),(by first | exact ⟨rfl,rfl,rfl,rfl,rfl⟩ ),(by first | exact ⟨rfl,rfl,rfl,rfl,rfl⟩ ),(by first | (show (_ : D) = _;with_reducible rfl) ),(by first | (show (_ : D) = _;with_reducible rfl) ),(by first | exact congrArg (D.int .i64) (by omega) ),trivial⟩,⟨⟨rfl,rfl,.inl ⟨_,rfl,rfl⟩⟩,⟨rfl,rfl,.inl ⟨_,rfl,rfl⟩⟩,trivial⟩⟩);(exact bi_skip hIi (by omega) (isT_of (nb_of hg hnd hIi (by omega)).1 (by assumption)))) | (refine hCi (m + 1) (setT R2 (nd.ents[m]'(by omega))) ([]) (cur2 ++ [(nd.ents[m]'(by omega)).node]) (false) _ _ ?_ (by omega) ?_;clear hCi;rotate_left;(exact ⟨[.old 0,.old 4],rfl,rfl,⟨(by first | (show (_ : D) = _;with_reducible rfl) ),(by first | exact ⟨rfl,rfl,rfl,rfl,rfl⟩ ),⟨rfl,rfl,(by simp),rfl,rfl⟩,(by first | (show (_ : D) = _;with_reducible rfl) ),(by first | (show (_ : D) = _;with_reducible rfl) ),(by first | exact congrArg (D.int .i64) (by omega) ),trivial⟩,⟨⟨rfl,rfl,.inl ⟨_,rfl,rfl⟩⟩,⟨rfl,rfl,.inr (rowI_push rfl)⟩,trivial⟩⟩);(exact bi_push hg hIi hnd (by omega) (isF_of (nb_of hg hnd hIi (by omega)).1 (by assumption)))) | (refine hCi (m + 1) (setT R2 (nd.ents[m]'(by omega))) ([]) (cur2 ++ [(nd.ents[m]'(by omega)).node]) (false) _ _ ?_ (by omega) ?_;clear hCi;rotate_left;(exact ⟨[.old 0,.old 4],rfl,rfl,⟨(by first | (show (_ : D) = _;with_reducible rfl) ),(by first | exact ⟨rfl,rfl,rfl,rfl,rfl⟩ ),⟨rfl,rfl,(by simp),rfl,rfl⟩,(by first | (show (_ : D) = _;with_reducible rfl) ),(by first | (show (_ : D) = _;with_reducible rfl) ),(by first | exact congrArg (D.int .i64) (by omega) ),trivial⟩,⟨⟨rfl,rfl,.inl ⟨_,rfl,rfl⟩⟩,⟨rfl,rfl,.inr (rowI_pushT rfl rfl)⟩,trivial⟩⟩);(exact bi_push hg hIi hnd (by omega) (isF_of (nb_of hg hnd hIi (by omega)).1 (by assumption)))) )
 | (refine ix_map (by omega) ?_;conv=>whnf)
 | (refine wrap64 (by have:=hb nd (List.mem_of_getElem? hnd);omega) ?_;conv=>whnf)
 | (refine mk_rowB (n:=t.length) (by rw [List.length_map];refine ⟨by omega,Int.le_refl _,by omega,?_⟩;show (t.length : Int) * ((1 : Nat) : Int) ≤ _;omega) (by rw [List.length_map]) ?_;conv=>whnf)
 | (refine ⟨⟨by omega,by (try simp only [List.length_map]);omega⟩,?_⟩;conv=>whnf)
 | (refine ⟨⟨by have:=nb_of hg hnd hIi (m:=m) (by omega);omega,by have:=nb_of hg hnd hIi (m:=m) (by omega);(try simp only [List.length_map]);omega⟩,?_⟩;conv=>whnf)
 | (refine rowB_at (m:=a) ?_ ?_ ?_;(focus omega);(focus (simpa using ha));conv=>whnf)
 | (refine rowB_set (m:=a) ?_ ?_;(focus omega);conv=>whnf)
 | (refine ⟨⟨by omega,by simp only [List.length_cons];omega⟩,?_⟩;conv=>whnf)
 | (refine rowB_at (m:=(nd.ents[m]'(by omega)).node.toNat) ?_ (nb_of hg hnd hIi (by omega)).1 ?_;(focus omega);conv=>whnf)
 | (refine rowB_set (m:=(nd.ents[m]'(by omega)).node.toNat) ?_ ?_;(focus omega);conv=>whnf)
 | ((with_reducible refine dropN_of ?_);conv=>whnf)
 | (refine ⟨⟨appI_len,cap_ok (bi_cap hIi hl) rfl⟩,?_⟩;conv=>whnf)
 | (refine ⟨⟨Nat.le_of_eq appI_len,cap_ok (bi_cap hIi hl) rfl⟩,?_⟩;conv=>whnf)
 | (refine ⟨Nat.le_refl _,?_⟩;conv=>whnf)
 | (refine own_sl 1 ((w :: cur2).length) rfl rfl ⟨by simp only [List.length_cons];omega,Nat.le_refl _⟩ ?_;conv=>whnf)
 | (refine ix_nd hw0 hnd ?_;conv=>whnf)
 | (refine rowI_hd (by first | rfl ) ?_;conv=>whnf)
 | ((with_reducible refine endx_go ?_);first | (exact endxv (view_mapL (f:=D.bool) (l:=R) hI.len.symm rfl (by decide)) (by rw [← bf_end hg hI]);done))
  | fail
  )
end Go.Proofs.YtpfokhdelnlciaaGreatDoor
namespace Go.Proofs.YtpfokhdelnlciaaGreatDoor
open Go Dw Paths
def frstG (f : Nat → Int) : Nat → Nat → Int × Int
 | 0,_=>(0,0)
 | n + 1,k=>if f k = 0 then frstG f n (k + 1) else ((k : Int),f k)
def frst (f : Nat → Int) (n k : Nat) : Int × Int:=frstG f (n - k) k
theorem frst_e {f : Nat → Int} {n k : Nat} (h : k < n) (e : ¬ f k = 0) : frst f n k = ((k : Int),f k):=by
 unfold frst
 rw [show n - k = (n - (k + 1)) + 1 by omega]
 simp only [frstG,if_neg e]
theorem frst_n {f : Nat → Int} {n k : Nat} (h : k < n) (e : f k = 0) : frst f n k = frst f n (k + 1):=by
 unfold frst
 rw [show n - k = (n - (k + 1)) + 1 by omega]
 simp only [frstG,if_pos e]
theorem frst_end {f : Nat → Int} {n k : Nat} (h : n ≤ k) : frst f n k = (0,0):=by
 unfold frst
 rw [show n - k = 0 by omega];rfl
theorem frst_ok {f : Nat → Int} {n : Nat} : ∀ (m k : Nat),m = n - k → (frst f n k).2 = 0 → ∀ j,k ≤ j → j < n → f j = 0
 | 0,k,hm,_,j,h1,h2=>by omega
 | m + 1,k,hm,h,j,h1,h2=>by
  by_cases e : f k = 0
  ·rw [frst_n (by omega) e] at h
   by_cases hj : j = k
   ·subst hj;exact e
   ·exact frst_ok m (k + 1) (by omega) h j (by omega) h2
  ·rw [frst_e (by omega) e] at h;exact absurd h e
def errN (t : List Nod) (k : Nat) : Int:=match t[k]? with
 | some x=>nodE t k x
 | none=>0
def errC (t : List Nod) (R : List Bool) (k : Nat) : Int:=if k = 0 then 0 else match t[k]? with
 | some x=>if namesR t k = 0 then 12 else if 1 < namesR t k ∧ x.kind ≠ 1 then 23 else if R[k]? = some true then 0 else 14
 | none=>0
def checkT (t : List Nod) : Int × Int:=if t.length = 0 then (0,10) else if 40 < t.length then (0,8) else if (frst (errN t) t.length 0).2 = 0 then frst (errC t (rchF t 0)) t.length 0 else frst (errN t) t.length 0
theorem errN_at {t : List Nod} {k : Nat} (h : k < t.length) : errN t k = nodE t k t[k]:=by unfold errN;rw [List.getElem?_eq_getElem h]
theorem tup2 {p : Int × Int} {a b : Int} (h : p = (a,b)) : D.tup [i a,i b] = D.tup [i p.1,i p.2]:=by rw [h]
theorem chk_0 {t : List Nod} (h : t.length = 0) : checkT t = (0,10):=if_pos h
theorem chk_8 {t : List Nod} (h : 40 < t.length) : checkT t = (0,8):=by unfold checkT;rw [if_neg (by omega),if_pos h]
section
variable {t : List Nod} (h1 : ¬ t.length = 0) (h2 : ¬ 40 < t.length)
include h1 h2
theorem chk_n {k : Nat} (hf : frst (errN t) t.length 0 = frst (errN t) t.length k) (hk : k < t.length) (e : ¬ nodE t k t[k] = 0) : checkT t = ((k : Int),nodE t k t[k]):=by
 have e' : ¬ errN t k = 0:=by rw [errN_at hk];exact e
 rw [frst_e hk e'] at hf
 unfold checkT
 rw [if_neg h1, if_neg h2, hf, if_neg e', errN_at hk]
theorem chk_c (hf : frst (errN t) t.length 0 = (0,0)) {k : Nat} {p : Int × Int} (hc : frst (errC t (rchF t 0)) t.length 0 = frst (errC t (rchF t 0)) t.length k) (hp : frst (errC t (rchF t 0)) t.length k = p) : checkT t = p:=by
 unfold checkT
 rw [if_neg h1,if_neg h2,if_pos (by rw [hf]),hc,hp]
end
theorem errC_at {t : List Nod} {R : List Bool} {k : Nat} (h0 : 1 ≤ k) (h : k < t.length) : errC t R k = if namesR t k = 0 then 12 else if 1 < namesR t k ∧ t[k].kind ≠ 1 then 23 else if R[k]? = some true then 0 else 14:=by
 unfold errC
 rw [if_neg (by omega),List.getElem?_eq_getElem h]
section
variable {t : List Nod} {R : List Bool} {k : Nat} (h0 : 1 ≤ k) (h : k < t.length)
include h0 h
theorem errC_12 (e : namesR t k = 0) : errC t R k = 12:=by rw [errC_at h0 h,if_pos e]
theorem errC_23 (e : 1 < namesR t k) (e2 : t[k].kind ≠ 1) : errC t R k = 23:=by rw [errC_at h0 h,if_neg (by omega),if_pos ⟨e,e2⟩]
theorem errC_14 (e : ¬ namesR t k = 0) (e2 : ¬ (1 < namesR t k ∧ t[k].kind ≠ 1)) (e3 : R[k]? = some false) : errC t R k = 14:=by rw [errC_at h0 h,if_neg e,if_neg e2,if_neg (by rw [e3];simp)]
theorem errC_o (e : ¬ namesR t k = 0) (e2 : ¬ (1 < namesR t k ∧ t[k].kind ≠ 1)) (e3 : R[k]? = some true) : errC t R k = 0:=by rw [errC_at h0 h,if_neg e,if_neg e2,if_pos e3]
end
theorem ents_good {len : Int} {l : List Ent} : ∀ (n k : Nat),n = l.length - k → entsE len l n k = 0 → ∀ j (h : j < l.length),k ≤ j → 1 ≤ l[j].node ∧ l[j].node ≤ len - 1
 | 0,k,hn,_,j,h,hk=>by omega
 | n + 1,k,hn,he,j,h,hk=>by
  have hkl : k < l.length:=by omega
  rw [ents_at hkl hn] at he
  by_cases e : entE len (l.take k) l[k] = 0
  ·rw [if_neg (by simpa using e)] at he
   by_cases hj : j = k
   ·subst hj
    unfold entE at e
    split at e
    ·rename_i h1;exact absurd e h1
    ·split at e
     ·exact absurd e (by decide)
     ·split at e
      ·rename_i h3
       simpa [within] using h3
      ·exact absurd e (by decide)
   ·exact ents_good (l.length - (k + 1)) (k + 1) rfl he j h (by omega)
  ·rw [if_pos e] at he;exact absurd he e
theorem nod_good {t : List Nod} {d : Int} {x : Nod} (h : nodE t d x = 0) : ∀ e ∈ x.ents,1 ≤ e.node ∧ e.node ≤ (t.length : Int) - 1:=by
 unfold nodE at h
 split at h
 ·exact absurd h (by decide)
 ·split at h
  ·exact absurd h (by decide)
  ·split at h
   ·exact absurd h (by decide)
   ·split at h
    ·rename_i h1;exact absurd h h1
    ·rename_i h1
     have h2:=Classical.not_not.1 h1
     intro e he
     obtain ⟨j,hj,rfl⟩:=List.getElem_of_mem he
     exact ents_good _ 0 rfl h2 j hj (Nat.zero_le _)
theorem good_of {t : List Nod} (h : ∀ k,k < t.length → errN t k = 0) : Good t:=by
 intro x hx
 obtain ⟨k,hk,rfl⟩:=List.getElem_of_mem hx
 have:=h k hk
 rw [errN_at hk] at this
 exact nod_good this
structure Rd (t : List Nod) (P : List Bool) (R : List Bool) (j k : Nat) : Prop where
 len : R.length = t.length
 kl : k ≤ ((t[j]?).map fun x=>x.ents.length).getD 0
 is : (k = 0 ∧ R = P) ∨ (isT P j ∧ R = markE P ((((t[j]?).map fun x=>x.ents).getD []).take k))
theorem rd_0 {t : List Nod} {P : List Bool} {j : Nat} (h : P.length = t.length) : Rd t P P j 0:=⟨h,Nat.zero_le _,.inl ⟨rfl,rfl⟩⟩
section
variable {t : List Nod} {P R : List Bool} {j k : Nat} (h : Rd t P R j k) (hj : j < t.length)
include h hj
theorem rd_step (hk : k < t[j].ents.length) (hT : isT R j) : Rd t P (setT R t[j].ents[k]) j (k + 1):=by
 refine ⟨by rw [setT_len];exact h.len,by rw [List.getElem?_eq_getElem hj];exact hk,.inr ?_⟩
 rw [List.getElem?_eq_getElem hj]
 simp only [Option.map_some,Option.getD_some]
 rw [List.take_succ_eq_append_getElem hk,markE_snoc]
 rcases h.is with ⟨rfl,rfl⟩ | ⟨h1,h2⟩
 ·exact ⟨hT,by simp [markE]⟩
 ·rw [List.getElem?_eq_getElem hj] at h2
  simp only [Option.map_some,Option.getD_some] at h2
  exact ⟨h1,by rw [h2]⟩
theorem rd_end (hP : P.length = t.length) (hx : R[j]? = some false ∨ t[j].ents.length ≤ k) : R = markI t P j:=by
 unfold markI
 rw [List.getElem?_eq_getElem hj]
 simp only
 rcases h.is with ⟨rfl,rfl⟩ | ⟨h1,h2⟩
 ·split
  ·rename_i hT
   rcases hx with hx | hx
   ·rw [hx] at hT;simp at hT
   ·have : t[j].ents = []:=List.length_eq_zero_iff.1 (by omega)
    rw [this];rfl
  ·rfl
 ·rw [if_pos (show P[j]? = some true from h1)]
  rw [List.getElem?_eq_getElem hj] at h2
  simp only [Option.map_some,Option.getD_some] at h2
  rcases hx with hx | hx
  ·have : isT R j:=by rw [h2];exact (isT_markE _ _).2 (.inl h1)
   unfold isT at this
   rw [hx] at this;simp at this
  ·rw [h2,List.take_of_length_le hx]
end
end Go.Proofs.YtpfokhdelnlciaaGreatDoor
namespace Go.Proofs.YtpfokhdelnlciaaGreatDoor
open Go Dw
set_option maxRecDepth 10000
attribute [local irreducible] Run
set_option maxHeartbeats 1000000
open Paths
attribute [local irreducible] nameErr cut normal dots partErr text parse glue fold within
theorem good_at {t : List Nod} (hG : Good t) {j m : Nat} (hj : j < t.length) (hm : m < t[j].ents.length) : 1 ≤ t[j].ents[m].node ∧ t[j].ents[m].node ≤ (t.length : Int) - 1:=hG _ (List.getElem_mem hj) _ (List.getElem_mem hm)
attribute [local irreducible] frst errN errC checkT rchF nodE namesR Good cntT setT markI
theorem rowB_setT {R : List Bool} {n : Nat} {e : Ent} {K : List AV → Prop} (h : n = e.node.toNat) (k : K (rowB (setT R e))) : setK (rowB R) n (.d (.bool true)) K:=by
 unfold setT at k
 exact rowB_set h k
theorem loop_c {t : List Nod} {k : Nat} (hI : frst (errN t) t.length 0 = frst (errN t) t.length k) (hk : t.length ≤ k) : frst (errN t) t.length 0 = (0,0):=hI.trans (frst_end hk)
theorem hG_of {t : List Nod} (h : frst (errN t) t.length 0 = (0,0)) : Good t:=good_of fun j hj=>frst_ok t.length 0 rfl (by rw [h]) j (Nat.zero_le _) hj
theorem rdl {t : List Nod} (r j : Nat) : (roundP t (roundsR t (startR t 0) r) j).length = t.length:=by rw [roundP_len,rounds_len,start_len]
theorem ndK {t : List Nod} {k : Nat} (h : k < t.length) : t[((k : Nat) : Int).toNat]? = some t[k]:=by simp [h]
theorem hbn {t : List Nod} (hb : ∀ x ∈ t,x.ents.length < 1000000 ∧ ∀ y ∈ x.ents,y.name.length < 1000000) : ∀ x ∈ t,x.ents.length < 1000000:=fun x hx=>(hb x hx).1
theorem c23 (t : List Nod) (hb : ∀ x ∈ t,x.ents.length < 1000000 ∧ ∀ y ∈ x.ents,y.name.length < 1000000) : Fn 23 [treeD t] (.tup [i (checkT t).1,i (checkT t).2]):=by
 refine run_walkF eok Tryz.func23 rfl (by kernel_rfl) ?_
 conv=>whnf
 repeat' (first
 | ((with_reducible refine on_dec (fun h=>?_) (fun h=>?_))<;>(try simp only [List.length_map] at h)<;>conv=>whnf)
 | ((with_reducible refine on_ndec (fun h=>?_) (fun h=>?_))<;>(try simp only [List.length_map] at h)<;>conv=>whnf)
 | ((with_reducible refine on_not (fun h=>?_) (fun h=>?_))<;>conv=>whnf)
 | ((with_reducible refine onBool_split (fun h=>?_) (fun h=>?_))<;>conv=>whnf)
 | ((with_reducible refine call_go ?_);(first | refine call_step (run_data (xs:=[_,_]) (c65 t (k : Int) (t[k]'(by omega)) (by omega) (ndK (by omega)) (by omega) (hb _ (List.getElem_mem _)).1 (hb _ (List.getElem_mem _)).2) _) ?_ | refine call_step (run_data (xs:=[_,_]) (c66 t (q : Int) (by omega) (hbn hb)) _) ?_);conv=>whnf)
 | ((with_reducible refine loop_go ?_);first | (refine loop1 (fun (q : Nat)=>t.length - q) (fun (q : Nat)=>1 ≤ q ∧ q ≤ t.length ∧ frst (errC t (rchF t 0)) t.length 0 = frst (errC t (rchF t 0)) t.length q) (fun (q : Nat)=>[(0,.d (treeD t)),(6,.sl 0 0 t.length 1 (some t.length)),(10,.d (i q))]) (fun (q : Nat)=>[⟨rowB (rchF t 0),1,0⟩]) (1) (by exact ⟨Nat.le_refl _,by omega,frst_n (by omega) (by unfold errC;rfl)⟩) ?_ (fun q Cq hIq hCq=>?_);(exact ⟨[.old 0],rfl,rfl,⟨(by first | (show (_ : D) = _;with_reducible rfl) ),(by first | exact ⟨rfl,rfl,rfl,rfl,rfl⟩ ),(by first | exact congrArg (D.int .i64) (by omega) ),trivial⟩,⟨⟨rfl,rfl,.inl ⟨_,rfl,(by rw [show r = t.length by omega];unfold rchF;rfl)⟩⟩,trivial⟩⟩);all_goals (conv=>whnf)) | (refine loop2 (fun (m : Nat) (R : List Bool)=>(t[j]'(by omega)).ents.length - m) (fun (m : Nat) (R : List Bool)=>Rd t (roundP t (roundsR t (startR t 0) r) j) R j m) (fun (m : Nat) (R : List Bool)=>[(0,.d (treeD t)),(6,.sl 0 0 t.length 1 (some t.length)),(7,.d (i r)),(8,.d (i j)),(9,.d (i m))]) (fun (m : Nat) (R : List Bool)=>[⟨rowB (R),1,0⟩]) (0) (roundP t (roundsR t (startR t 0) r) j) (by exact rd_0 (rdl r j)) ?_ (fun m R Cm hIm hCm=>?_);(exact ⟨[.old 0],rfl,rfl,⟨(by first | (show (_ : D) = _;with_reducible rfl) ),(by first | exact ⟨rfl,rfl,rfl,rfl,rfl⟩ ),(by first | (show (_ : D) = _;with_reducible rfl) ),(by first | (show (_ : D) = _;with_reducible rfl) ),(by first | exact congrArg (D.int .i64) (by omega) ),trivial⟩,⟨⟨rfl,rfl,.inl ⟨_,rfl,rfl⟩⟩,trivial⟩⟩);all_goals (conv=>whnf)) | (refine loop1 (fun (j : Nat)=>t.length - j) (fun (j : Nat)=>j ≤ t.length) (fun (j : Nat)=>[(0,.d (treeD t)),(6,.sl 0 0 t.length 1 (some t.length)),(7,.d (i r)),(8,.d (i j))]) (fun (j : Nat)=>[⟨rowB (roundP t (roundsR t (startR t 0) r) j),1,0⟩]) (0) (by exact Nat.zero_le _) ?_ (fun j Cj hIj hCj=>?_);(exact ⟨[.old 0],rfl,rfl,⟨(by first | (show (_ : D) = _;with_reducible rfl) ),(by first | exact ⟨rfl,rfl,rfl,rfl,rfl⟩ ),(by first | (show (_ : D) = _;with_reducible rfl) ),(by first | exact congrArg (D.int .i64) (by omega) ),trivial⟩,⟨⟨rfl,rfl,.inl ⟨_,rfl,rfl⟩⟩,trivial⟩⟩);all_goals (conv=>whnf)) | (refine loop1 (fun (r : Nat)=>t.length - r) (fun (r : Nat)=>r ≤ t.length) (fun (r : Nat)=>[(0,.d (treeD t)),(6,.sl 0 0 t.length 1 (some t.length)),(7,.d (i r))]) (fun (r : Nat)=>[⟨rowB (roundsR t (startR t 0) r),1,0⟩]) (0) (by exact Nat.zero_le _) ?_ (fun r Cr hIr hCr=>?_);(exact ⟨[.old 0],rfl,rfl,⟨(by first | (show (_ : D) = _;with_reducible rfl) ),⟨rfl,rfl,(by simp),rfl,(by simp)⟩,(by first | exact congrArg (D.int .i64) (by omega) ),trivial⟩,⟨⟨rfl,rfl,.inl ⟨_,rfl,rfl⟩⟩,trivial⟩⟩);have hE:=loop_c hI.2 (by omega);have hG:=hG_of hE;all_goals (conv=>whnf)) | (refine loop1 (fun (k : Nat)=>t.length - k) (fun (k : Nat)=>k ≤ t.length ∧ frst (errN t) t.length 0 = frst (errN t) t.length k) (fun (k : Nat)=>[(0,.d (treeD t)),(4,.d (i k))]) (fun (k : Nat)=>[]) (0) (by exact ⟨Nat.zero_le _,rfl⟩) ?_ (fun k C hI hC=>?_);(exact ⟨[],rfl,rfl,⟨(by first | (show (_ : D) = _;with_reducible rfl) ),(by first | exact congrArg (D.int .i64) (by omega) ),trivial⟩,trivial⟩);all_goals (conv=>whnf)))
 | ((with_reducible show C _ _);first | (refine hC (k + 1) _ _ ?_ (by omega) ?_;clear hC;rotate_left;(exact ⟨[],rfl,rfl,⟨(by first | (show (_ : D) = _;with_reducible rfl) ),(by first | exact congrArg (D.int .i64) (by omega) ),trivial⟩,trivial⟩);(exact ⟨by omega,hI.2.trans (frst_n (by omega) ((errN_at (by omega)).trans (by assumption)))⟩)))
 | ((with_reducible show Cj _ _);first | (refine hCj (j + 1) _ _ ?_ (by omega) ?_;clear hCj;rotate_left;(exact ⟨[.old 0],rfl,rfl,⟨(by first | (show (_ : D) = _;with_reducible rfl) ),(by first | exact ⟨rfl,rfl,rfl,rfl,rfl⟩ ),(by first | (show (_ : D) = _;with_reducible rfl) ),(by first | exact congrArg (D.int .i64) (by omega) ),trivial⟩,⟨⟨rfl,rfl,.inl ⟨_,rfl,(by rw [roundP_succ,← rd_end hIm (by omega) (rdl r j) (by first | exact .inl (isF_of (by rw [hIm.len];omega) (by assumption)) | exact .inr (by omega))])⟩⟩,trivial⟩⟩);(exact (by omega : j + 1 ≤ t.length))))
 | ((with_reducible show Cm _ _);first | (refine hCm (m + 1) (setT R ((t[j]'(by omega)).ents[m]'(by omega))) _ _ ?_ (by omega) ?_;clear hCm;rotate_left;(exact ⟨[.old 0],rfl,rfl,⟨(by first | (show (_ : D) = _;with_reducible rfl) ),(by first | exact ⟨rfl,rfl,rfl,rfl,rfl⟩ ),(by first | (show (_ : D) = _;with_reducible rfl) ),(by first | (show (_ : D) = _;with_reducible rfl) ),(by first | exact congrArg (D.int .i64) (by omega) ),trivial⟩,⟨⟨rfl,rfl,.inl ⟨_,rfl,rfl⟩⟩,trivial⟩⟩);(exact rd_step hIm (by omega) (by omega) (isT_of (by rw [hIm.len];omega) (by assumption)))))
 | ((with_reducible show Cq _ _);first | (refine hCq (q + 1) _ _ ?_ (by omega) ?_;clear hCq;rotate_left;(exact ⟨[.old 0],rfl,rfl,⟨(by first | (show (_ : D) = _;with_reducible rfl) ),(by first | exact ⟨rfl,rfl,rfl,rfl,rfl⟩ ),(by first | exact congrArg (D.int .i64) (by omega) ),trivial⟩,⟨⟨rfl,rfl,.inl ⟨_,rfl,rfl⟩⟩,trivial⟩⟩);(exact ⟨by omega,by omega,hIq.2.2.trans (frst_n (by omega) (errC_o (by omega) (by omega) (by omega) (by omega) (isT_of (by rw [rch_len];omega) (by assumption))))⟩)))
 | ((with_reducible show Cr _ _);first | (refine hCr (r + 1) _ _ ?_ (by omega) ?_;clear hCr;rotate_left;(exact ⟨[.old 0],rfl,rfl,⟨(by first | (show (_ : D) = _;with_reducible rfl) ),(by first | exact ⟨rfl,rfl,rfl,rfl,rfl⟩ ),(by first | exact congrArg (D.int .i64) (by omega) ),trivial⟩,⟨⟨rfl,rfl,.inl ⟨_,rfl,(by rw [show j = t.length by omega];rfl)⟩⟩,trivial⟩⟩);(exact (by omega : r + 1 ≤ t.length))))
 | (refine ix_map (by omega) ?_;conv=>whnf)
 | (refine wrap64 (by omega) ?_;conv=>whnf)
 | (refine wrap64 (by have:=(hb _ (List.getElem_mem (by omega : j < t.length))).1;omega) ?_;conv=>whnf)
 | (refine mk_rowB (n:=t.length) (by rw [List.length_map];refine ⟨by omega,Int.le_refl _,by omega,?_⟩;show (t.length : Int) * ((1 : Nat) : Int) ≤ _;omega) (by rw [List.length_map]) ?_;conv=>whnf)
 | (refine rowB_at (m:=0) ?_ ?_ ?_;(focus rfl);(focus (rw [List.length_replicate];omega));conv=>whnf)
 | (refine rowB_set (m:=0) ?_ ?_;(focus rfl);conv=>whnf)
 | (refine rowB_at (R:=R) (m:=j) ?_ ?_ ?_;(focus omega);(focus (rw [hIm.len];omega));conv=>whnf)
 | (refine rowB_at (R:=R) (m:=((t[j]'(by omega)).ents[m]'(by omega)).node.toNat) ?_ ?_ ?_;(focus omega);(focus (rw [hIm.len];have:=good_at hG (j:=j) (m:=m) (by omega) (by omega);omega));conv=>whnf)
 | (refine rowB_setT (R:=R) (e:=((t[j]'(by omega)).ents[m]'(by omega))) ?_ ?_;(focus omega);conv=>whnf)
 | (refine rowB_at (R:=rchF t 0) (m:=q) ?_ ?_ ?_;(focus omega);(focus (rw [rch_len];omega));conv=>whnf)
 | (refine ⟨⟨by have:=good_at hG (j:=j) (m:=m) (by omega) (by omega);omega,by have:=good_at hG (j:=j) (m:=m) (by omega) (by omega);(try simp only [List.length_map]);omega⟩,?_⟩;conv=>whnf)
 | (refine ⟨⟨by omega,by (try simp only [List.length_map]);omega⟩,?_⟩;conv=>whnf)
 | ((with_reducible refine endx_go ?_);first | (exact endx2 (tup2 (chk_c (t:=t) (by omega) (by omega) hE hIq.2.2 ((frst_e (by omega) (by rw [errC_12 (by omega) (by omega) (by omega)];decide)).trans (by rw [errC_12 (by omega) (by omega) (by omega)]))));done) | (exact endx2 (tup2 (chk_c (t:=t) (by omega) (by omega) hE hIq.2.2 ((frst_e (by omega) (by rw [errC_23 (by omega) (by omega) (by omega) (by assumption)];decide)).trans (by rw [errC_23 (by omega) (by omega) (by omega) (by assumption)]))));done) | (exact endx2 (tup2 (chk_c (t:=t) (by omega) (by omega) hE hIq.2.2 ((frst_e (by omega) (by rw [errC_14 (by omega) (by omega) (by omega) (by omega) (isF_of (by rw [rch_len];omega) (by assumption))];decide)).trans (by rw [errC_14 (by omega) (by omega) (by omega) (by omega) (isF_of (by rw [rch_len];omega) (by assumption))]))));done) | (exact endx2 (tup2 (chk_c (t:=t) (by omega) (by omega) hE hIq.2.2 (frst_end (by omega))));done) | (exact endx2 (tup2 (chk_0 (t:=t) (by omega)));done) | (exact endx2 (tup2 (chk_8 (t:=t) (by omega)));done) | (exact endx2 (tup2 (chk_n (by omega) (by omega) hI.2 (by omega) h));done))
  | fail
  )
end Go.Proofs.YtpfokhdelnlciaaGreatDoor
namespace Go.Proofs.YtpfokhdelnlciaaGreatDoor
open Go Dw
set_option maxRecDepth 10000
attribute [local irreducible] Run
set_option maxHeartbeats 1000000
open Paths
attribute [local irreducible] nameErr cut normal dots partErr text parse glue fold within
def sameN (a b : Bs) : Bool:=if a = b then true else decide (nameErr a = 0) && (decide (nameErr b = 0) && decide (fold a = fold b))
theorem sameN_ok {a b : Bs} (h0 : nameErr a = 0) (h1 : nameErr b = 0) : sameN a b = decide (fold a = fold b):=by
 unfold sameN
 split
 ·rename_i h;rw [h];exact (decide_eq_true rfl).symm
 ·rw [decide_eq_true h0,decide_eq_true h1,Bool.true_and,Bool.true_and]
theorem sameN_eq {a b : Bs} (h : a = b) : sameN a b = true:=if_pos h
theorem sameN_ne {a b : Bs} (h : ¬ a = b) (h2 : ¬ (nameErr a = 0 ∧ nameErr b = 0)) : sameN a b = false:=by
 unfold sameN
 rw [if_neg h]
 by_cases h0 : nameErr a = 0
 ·rw [decide_eq_true h0,decide_eq_false (fun h1=>h2 ⟨h0,h1⟩)];rfl
 ·rw [decide_eq_false h0];rfl
attribute [local irreducible] sameN
theorem c71a1 (a b : Bs) (ha : a.length < 1000000) (hb : b.length < 1000000) (h0 : ¬ nameErr a = 0) (h2 : nameErr b = 0) : Fn 71 [.str a,.str b] (.bool (sameN a b)):=by
 refine run_walkF eok Tryz.func71 rfl (by kernel_rfl) ?_
 conv=>whnf
 repeat' (first
 | ((with_reducible refine on_dec_f (by assumption) ?_);conv=>whnf)
 | ((with_reducible refine on_dec (fun h=>?_) (fun h=>?_))<;>(try simp only [List.length_map] at h)<;>conv=>whnf)
 | ((with_reducible refine call_go ?_);(first | refine call_step (run_view (c105n a ha h0) rfl rfl) ?_ | refine call_step (run_view (c105 b hb h2) rfl rfl) ?_);conv=>whnf)
 | ((with_reducible refine endx_go ?_);first | (exact endx (congrArg D.bool (sameN_eq (by first | assumption )).symm);done) | (exact endx (congrArg D.bool (by first | rw [sameN_ne (by first | assumption ) (by simp [*])] ));done))
  | fail
  )
theorem c71a2 (a b : Bs) (ha : a.length < 1000000) (hb : b.length < 1000000) (h0 : ¬ nameErr a = 0) (h2 : ¬ nameErr b = 0) : Fn 71 [.str a,.str b] (.bool (sameN a b)):=by
 refine run_walkF eok Tryz.func71 rfl (by kernel_rfl) ?_
 conv=>whnf
 repeat' (first
 | ((with_reducible refine on_dec_f (by assumption) ?_);conv=>whnf)
 | ((with_reducible refine on_dec (fun h=>?_) (fun h=>?_))<;>(try simp only [List.length_map] at h)<;>conv=>whnf)
 | ((with_reducible refine call_go ?_);(first | refine call_step (run_view (c105n a ha h0) rfl rfl) ?_ | refine call_step (run_view (c105n b hb h2) rfl rfl) ?_);conv=>whnf)
 | ((with_reducible refine endx_go ?_);first | (exact endx (congrArg D.bool (sameN_eq (by first | assumption )).symm);done) | (exact endx (congrArg D.bool (by first | rw [sameN_ne (by first | assumption ) (by simp [*])] ));done))
  | fail
  )
theorem c71b (a b : Bs) (ha : a.length < 1000000) (hb : b.length < 1000000) (h0 : nameErr a = 0) (h1 : ¬ nameErr b = 0): Fn 71 [.str a,.str b] (.bool (sameN a b)):=by
 refine run_walkF eok Tryz.func71 rfl (by kernel_rfl) ?_
 conv=>whnf
 repeat' (first
 | ((with_reducible refine on_dec_f (by assumption) ?_);conv=>whnf)
 | ((with_reducible refine on_dec (fun h=>?_) (fun h=>?_))<;>(try simp only [List.length_map] at h)<;>conv=>whnf)
 | ((with_reducible refine call_go ?_);(first | refine call_step (run_view (c105 a ha h0) rfl rfl) ?_ | refine call_step (run_view (c105n b hb h1) rfl rfl) ?_);conv=>whnf)
 | ((with_reducible refine endx_go ?_);first | (exact endx (congrArg D.bool (sameN_eq (by first | assumption )).symm);done) | (exact endx (congrArg D.bool (by first | rw [sameN_ne (by first | assumption ) (by simp [*])] ));done))
  | fail
  )
theorem c71g (a b : Bs) (ha : a.length < 1000000) (hb : b.length < 1000000) : Fn 71 [.str a,.str b] (.bool (sameN a b)):=by
 by_cases h0 : nameErr a = 0
 ·by_cases h1 : nameErr b = 0
  ·rw [sameN_ok h0 h1];exact c71 a b ha hb h0 h1
  ·exact c71b a b ha hb h0 h1
 ·by_cases h2 : nameErr b = 0
  ·exact c71a1 a b ha hb h0 h2
  ·exact c71a2 a b ha hb h0 h2
def ixF (p : Ent → Bool) : List Ent → Nat → Int
 | [],_=>-1
 | e :: l,k=>if p e = true then k else ixF p l (k + 1)
theorem ixF_t {p : Ent → Bool} {l : List Ent} {k : Nat} (hk : k < l.length) (h : p l[k] = true) : ixF p (l.drop k) k = (k : Int):=by rw [List.drop_eq_getElem_cons hk];exact if_pos h
theorem ixF_f {p : Ent → Bool} {l : List Ent} {k : Nat} (hk : k < l.length) (h : p l[k] = false) : ixF p (l.drop k) k = ixF p (l.drop (k + 1)) (k + 1):=by rw [List.drop_eq_getElem_cons hk];exact if_neg (by rw [h];decide)
theorem ixF_end {p : Ent → Bool} {l : List Ent} {k : Nat} (hk : l.length ≤ k) : ixF p (l.drop k) k = -1:=by rw [List.drop_eq_nil_of_le hk];rfl
theorem ixF_any {p : Ent → Bool} : ∀ (l : List Ent) (k : Nat),decide (0 ≤ ixF p l k) = l.any p
 | [],k=>by simp [ixF]
 | e :: l,k=>by
  have e1 : ixF p (e :: l) k = if p e = true then (k : Int) else ixF p l (k + 1):=rfl
  rw [List.any_cons]
  by_cases h : p e = true
  ·rw [if_pos h] at e1;rw [e1,h,Bool.true_or];exact decide_eq_true (by omega)
  ·rw [if_neg h] at e1;rw [e1,show p e = false by simpa using h,Bool.false_or];exact ixF_any l (k + 1)
attribute [local irreducible] ixF
theorem c95 (x y : Ent) (hx : x.name.length < 1000000) (hy : y.name.length < 1000000) : Fn 95 [y.enc,.fp x.enc 0] (.bool (sameN x.name y.name)):=by
 refine run_walkF eok Tryz.func95 rfl (by kernel_rfl) ?_
 conv=>whnf
 repeat' (first
 | ((with_reducible refine call_go ?_);(first | refine call_step (run_data (xs:=[_,_]) (c71g x.name y.name hx hy) _) ?_);conv=>whnf)
 | ((with_reducible refine endx_go ?_);first | (exact endx rfl;done))
  | fail
  )
theorem c101 (x : Ent) (s : Bs) (hx : x.name.length < 1000000) (hs : s.length < 1000000) : Fn 101 [x.enc,.fp (.str s) 0] (.bool (sameN x.name s)):=by
 refine run_walkF eok Tryz.func101 rfl (by kernel_rfl) ?_
 conv=>whnf
 repeat' (first
 | ((with_reducible refine call_go ?_);(first | refine call_step (run_data (xs:=[_,_]) (c71g x.name s hx hs) _) ?_);conv=>whnf)
 | ((with_reducible refine endx_go ?_);first | (exact endx rfl;done))
  | fail
  )
theorem c100s (l : List Ent) (x : Ent) (hx : x.name.length < 1000000) (hl : l.length < 1000000) (hb : ∀ y ∈ l,y.name.length < 1000000) : Fn 100 [.fs (l.map Ent.enc),.fn 95 [] [.fp x.enc 0]] (i (ixF (fun y=>sameN x.name y.name) l 0)):=by
 refine run_walkF eok Tryz.func100 rfl (by kernel_rfl) ?_
 conv=>whnf
 repeat' (first
 | ((with_reducible refine on_dec (fun h=>?_) (fun h=>?_))<;>(try simp only [List.length_map] at h)<;>conv=>whnf)
 | ((with_reducible refine onBool_split (fun h=>?_) (fun h=>?_))<;>conv=>whnf)
 | ((with_reducible refine loop_go ?_);first | (refine loop1 (fun (k : Nat)=>l.length - k) (fun (k : Nat)=>k ≤ l.length ∧ ixF (fun y=>sameN x.name y.name) l 0 = ixF (fun y=>sameN x.name y.name) (l.drop k) k) (fun (k : Nat)=>[(0,.d (.fs (l.map Ent.enc))),(1,.d (.fn 95 [] [.fp x.enc 0])),(7,.d (i l.length)),(8,.d (i k))]) (fun (k : Nat)=>[]) (0) (by exact ⟨Nat.zero_le _,rfl⟩) ?_ (fun k C hI hC=>?_);(exact ⟨[],rfl,rfl,⟨(by first | (show (_ : D) = _;with_reducible rfl) ),(by first | (show (_ : D) = _;with_reducible rfl) ),(congrArg (D.int .i64) (by simp only [List.length_map])),(by first | exact congrArg (D.int .i64) (by omega) ),trivial⟩,trivial⟩);all_goals (conv=>whnf)))
 | ((with_reducible show C _ _);first | (refine hC (k + 1) _ _ ?_ (by omega) ?_;clear hC;rotate_left;(exact ⟨[],rfl,rfl,⟨(by first | (show (_ : D) = _;with_reducible rfl) ),(by first | (show (_ : D) = _;with_reducible rfl) ),(by first | (show (_ : D) = _;with_reducible rfl) ),(by first | exact congrArg (D.int .i64) (by omega) ),trivial⟩,trivial⟩);(exact ⟨by omega,hI.2.trans (ixF_f (by omega) (by assumption))⟩)))
 | (refine ix_map (by omega) ?_;conv=>whnf)
 | (refine wrap64 (by omega) ?_;conv=>whnf)
 | ((with_reducible refine call_go ?_);(refine call_step (run_data (xs:=[_,_]) (c95 x (l[k]'(by omega)) hx (hb _ (List.getElem_mem _))) _) ?_);conv=>whnf)
 | ((with_reducible refine endx_go ?_);first | (exact endx (congrArg i (hI.2.trans (ixF_t (by omega) (by assumption))).symm);done) | (exact endx (congrArg i (hI.2.trans (ixF_end (by omega))).symm);done))
  | fail
  )
theorem c100e (l : List Ent) (s : Bs) (hs : s.length < 1000000) (hl : l.length < 1000000) (hb : ∀ y ∈ l,y.name.length < 1000000) : Fn 100 [.fs (l.map Ent.enc),.fn 101 [] [.fp (.str s) 0]] (i (ixF (fun y=>sameN y.name s) l 0)):=by
 refine run_walkF eok Tryz.func100 rfl (by kernel_rfl) ?_
 conv=>whnf
 repeat' (first
 | ((with_reducible refine on_dec (fun h=>?_) (fun h=>?_))<;>(try simp only [List.length_map] at h)<;>conv=>whnf)
 | ((with_reducible refine onBool_split (fun h=>?_) (fun h=>?_))<;>conv=>whnf)
 | ((with_reducible refine loop_go ?_);first | (refine loop1 (fun (k : Nat)=>l.length - k) (fun (k : Nat)=>k ≤ l.length ∧ ixF (fun y=>sameN y.name s) l 0 = ixF (fun y=>sameN y.name s) (l.drop k) k) (fun (k : Nat)=>[(0,.d (.fs (l.map Ent.enc))),(1,.d (.fn 101 [] [.fp (.str s) 0])),(7,.d (i l.length)),(8,.d (i k))]) (fun (k : Nat)=>[]) (0) (by exact ⟨Nat.zero_le _,rfl⟩) ?_ (fun k C hI hC=>?_);(exact ⟨[],rfl,rfl,⟨(by first | (show (_ : D) = _;with_reducible rfl) ),(by first | (show (_ : D) = _;with_reducible rfl) ),(congrArg (D.int .i64) (by simp only [List.length_map])),(by first | exact congrArg (D.int .i64) (by omega) ),trivial⟩,trivial⟩);all_goals (conv=>whnf)))
 | ((with_reducible show C _ _);first | (refine hC (k + 1) _ _ ?_ (by omega) ?_;clear hC;rotate_left;(exact ⟨[],rfl,rfl,⟨(by first | (show (_ : D) = _;with_reducible rfl) ),(by first | (show (_ : D) = _;with_reducible rfl) ),(by first | (show (_ : D) = _;with_reducible rfl) ),(by first | exact congrArg (D.int .i64) (by omega) ),trivial⟩,trivial⟩);(exact ⟨by omega,hI.2.trans (ixF_f (by omega) (by assumption))⟩)))
 | (refine ix_map (by omega) ?_;conv=>whnf)
 | (refine wrap64 (by omega) ?_;conv=>whnf)
 | ((with_reducible refine call_go ?_);(refine call_step (run_data (xs:=[_,_]) (c101 (l[k]'(by omega)) s (hb _ (List.getElem_mem _)) hs) _) ?_);conv=>whnf)
 | ((with_reducible refine endx_go ?_);first | (exact endx (congrArg i (hI.2.trans (ixF_t (by omega) (by assumption))).symm);done) | (exact endx (congrArg i (hI.2.trans (ixF_end (by omega))).symm);done))
  | fail
  )
theorem c96 (l : List Ent) (x : Ent) (hx : x.name.length < 1000000) (hl : l.length < 1000000) (hb : ∀ y ∈ l,y.name.length < 1000000) : Fn 96 [.fs (l.map Ent.enc),.fn 95 [] [.fp x.enc 0]] (.bool (l.any fun y=>sameN x.name y.name)):=by
 refine run_walkF eok Tryz.func96 rfl (by kernel_rfl) ?_
 conv=>whnf
 repeat' (first
 | ((with_reducible refine call_go ?_);(first | refine call_step (run_data (xs:=[_,_]) (c100s l x hx hl hb) _) ?_);conv=>whnf)
 | ((with_reducible refine endx_go ?_);first | (exact endx (congrArg D.bool (ixF_any l 0));done))
  | fail
  )
end Go.Proofs.YtpfokhdelnlciaaGreatDoor
namespace Go.Proofs.YtpfokhdelnlciaaGreatDoor
open Go Dw
set_option maxRecDepth 10000
attribute [local irreducible] Run
set_option maxHeartbeats 1000000
open Paths
attribute [local irreducible] nameErr cut normal dots partErr text parse glue fold within
def entF (len : Int) (l : List Ent) (k : Nat) (y : Ent) : Int:=firstE [nameErr y.name,if !((l.take k).any fun z=>sameN y.name z.name) then 0 else 5,if within y.node 1 (len - 1) then 0 else 6]
attribute [local irreducible] frst errN errC checkT rchF nodE namesR Good cntT setT markI sameN
theorem c94 (t : List Nod) (x : Nod) (k : Nat) (y : Ent) (hk : k < x.ents.length) (ht : t.length < 1000000) (hy : y.name.length < 1000000) (hl : x.ents.length < 1000000) (hb : ∀ z ∈ x.ents,z.name.length < 1000000) : Fn 94 [i k,y.enc,.fp x.enc 0,.fp (treeD t) 0] (i (entF t.length x.ents k y)):=by
 refine run_walkF eok Tryz.func94 rfl (by kernel_rfl) ?_
 conv=>whnf
 repeat' (first
 | ((with_reducible refine call_go ?_);(first | refine call_step (run_data (xs:=[_]) (c63 y.name hy) _) ?_ | refine call_step (run_view (c96 (x.ents.take k) y hy (by rw [List.length_take];omega) (fun z hz=>hb z (List.mem_of_mem_take hz))) rfl (vlc rfl (vlc rfl vln))) ?_ | refine call_step (run_view (c53 _ 5) rfl rfl) ?_ | refine call_step (run_view (c53 _ 6) rfl rfl) ?_ | refine call_step (run_view (c90 y.node 1 _) rfl rfl) ?_ | refine call_step (run_view (c52 [nameErr y.name,if (!(List.take k x.ents).any fun z=>sameN y.name z.name) = true then 0 else 5,if within y.node 1 (((t.map Nod.enc).length : Int) - 1) = true then 0 else 6] (by decide : 3 < 1000000)) rfl (vlc rfl vln)) ?_);conv=>whnf)
 | (refine ⟨[],[(4,2),(6,2),(12,2),(13,2),(12,8),(13,8),(12,10),(13,10)],(by decide +kernel),?_⟩;conv=>whnf)
 | (refine wrap64 (by first | (simp only [List.length_map];omega)) ?_;conv=>whnf)
 | (refine sl_map (f:=Ent.enc) (l:=x.ents) 0 k ?_ ?_ ?_ ?_ ?_;(rfl);(rfl);(omega);(exact fun x=>rfl);conv=>whnf)
 | ((with_reducible refine endx_go ?_);first | (exact endx (congrArg i (by unfold entF;rw [List.length_map]));done))
 | (refine ⟨rfl,?_⟩;conv=>whnf)
  | fail
  )
def errE (len : Int) (l : List Ent) (k : Nat) : Int:=match l[k]? with
 | some y=>entF len l k y
 | none=>0
theorem errE_at {len : Int} {l : List Ent} {k : Nat} (h : k < l.length) : errE len l k = entF len l k l[k]:=by unfold errE;rw [List.getElem?_eq_getElem h]
theorem entF_E {len : Int} {l : List Ent} {k : Nat} (hk : k < l.length) (hv : ∀ z ∈ l.take k,nameErr z.name = 0) : entF len l k l[k] = entE len (l.take k) l[k]:=by
 unfold entF entE
 by_cases h : nameErr l[k].name = 0
 ·have e : (l.take k).any (fun z=>sameN l[k].name z.name) = (l.take k).any fun y=>decide (fold y.name = fold l[k].name):=by
   rw [Bool.eq_iff_iff,List.any_eq_true,List.any_eq_true]
   constructor
   ·rintro ⟨z,hz,e⟩
    rw [sameN_ok h (hv z hz)] at e
    exact ⟨z,hz,decide_eq_true (of_decide_eq_true e).symm⟩
   ·rintro ⟨z,hz,e⟩
    exact ⟨z,hz,by rw [sameN_ok h (hv z hz)];exact decide_eq_true (of_decide_eq_true e).symm⟩
  rw [e,h]
  generalize ((l.take k).any fun y=>decide (fold y.name = fold l[k].name)) = b
  generalize within l[k].node 1 (len - 1) = w
  cases b<;>cases w<;>simp [firstE]
 ·rw [if_pos h]
  simp [firstE,h]
theorem entE_nm {len : Int} {a : List Ent} {y : Ent} (h : entE len a y = 0) : nameErr y.name = 0:=by
 unfold entE at h
 split at h
 ·rename_i h1;exact absurd h h1
 ·rename_i h1;exact Classical.not_not.1 h1
theorem ents_F {len : Int} {l : List Ent} : ∀ (n k : Nat),n = l.length - k → (∀ z ∈ l.take k,nameErr z.name = 0) → (frst (errE len l) l.length k).2 = entsE len l n k
 | 0,k,hn,_=>by rw [frst_end (by omega)];rfl
 | n + 1,k,hn,hv=>by
  have hk : k < l.length:=by omega
  have e1 : errE len l k = entE len (l.take k) l[k]:=(errE_at hk).trans (entF_E hk hv)
  rw [ents_at hk hn]
  by_cases e : entE len (l.take k) l[k] = 0
  ·rw [if_neg (by simpa using e),frst_n hk (e1.trans e)]
   have : n = l.length - (k + 1):=by omega
   subst this
   refine ents_F _ (k + 1) rfl fun z hz=>?_
   rw [List.take_succ_eq_append_getElem hk] at hz
   rcases List.mem_append.1 hz with hz | hz
   ·exact hv z hz
   ·rw [List.mem_singleton.1 hz];exact entE_nm e
  ·rw [if_pos e,frst_e hk (by rw [e1];exact e)];exact e1
attribute [local irreducible] entF errE
theorem c93 (t : List Nod) (x : Nod) (ht : t.length < 1000000) (hl : x.ents.length < 1000000) (hb : ∀ z ∈ x.ents,z.name.length < 1000000) : Fn 93 [.fs (x.ents.map Ent.enc),.fn 94 [] [.fp x.enc 0,.fp (treeD t) 0]] (.tup [i (frst (errE t.length x.ents) x.ents.length 0).1,i (frst (errE t.length x.ents) x.ents.length 0).2]):=by
 refine run_walkF eok Tryz.func93 rfl (by kernel_rfl) ?_
 conv=>whnf
 repeat' (first
 | ((with_reducible refine on_dec (fun h=>?_) (fun h=>?_))<;>(try simp only [List.length_map] at h)<;>conv=>whnf)
 | ((with_reducible refine on_ndec (fun h=>?_) (fun h=>?_))<;>(try simp only [List.length_map] at h)<;>conv=>whnf)
 | ((with_reducible refine loop_go ?_);first | (refine loop1 (fun (k : Nat)=>x.ents.length - k) (fun (k : Nat)=>k ≤ x.ents.length ∧ frst (errE t.length x.ents) x.ents.length 0 = frst (errE t.length x.ents) x.ents.length k) (fun (k : Nat)=>[(1,.d (.fn 94 [] [.fp x.enc 0,.fp (treeD t) 0])),(9,.d (.fs (x.ents.map Ent.enc))),(10,.d (i x.ents.length)),(11,.d (i k))]) (fun (k : Nat)=>[]) (0) (by exact ⟨Nat.zero_le _,rfl⟩) ?_ (fun k C hI hC=>?_);(exact ⟨[],rfl,rfl,⟨(by first | (show (_ : D) = _;with_reducible rfl) ),(by first | (show (_ : D) = _;with_reducible rfl) ),(congrArg (D.int .i64) (by simp only [List.length_map])),(by first | exact congrArg (D.int .i64) (by omega) ),trivial⟩,trivial⟩);all_goals (conv=>whnf)))
 | ((with_reducible show C _ _);first | (refine hC (k + 1) _ _ ?_ (by omega) ?_;clear hC;rotate_left;(exact ⟨[],rfl,rfl,⟨(by first | (show (_ : D) = _;with_reducible rfl) ),(by first | (show (_ : D) = _;with_reducible rfl) ),(by first | (show (_ : D) = _;with_reducible rfl) ),(by first | exact congrArg (D.int .i64) (by omega) ),trivial⟩,trivial⟩);(exact ⟨by omega,hI.2.trans (frst_n (by omega) ((errE_at (by omega)).trans (by assumption)))⟩)))
 | (refine ix_map (by omega) ?_;conv=>whnf)
 | (refine wrap64 (by omega) ?_;conv=>whnf)
 | ((with_reducible refine call_go ?_);(refine call_step (run_data (xs:=[_,_,_,_]) (c94 t x k (x.ents[k]'(by omega)) (by omega) ht (hb _ (List.getElem_mem _)) hl hb) _) ?_);conv=>whnf)
 | ((with_reducible refine endx_go ?_);first | (exact endx2 (tup2 (hI.2.trans ((frst_e (by omega) (by rw [errE_at (by omega)];exact h)).trans (by rw [errE_at (by omega)]))));done) | (exact endx2 (tup2 (hI.2.trans (frst_end (by omega))));done))
  | fail
  )
end Go.Proofs.YtpfokhdelnlciaaGreatDoor
namespace Go.Proofs.YtpfokhdelnlciaaGreatDoor
open Go Dw
set_option maxRecDepth 10000
attribute [local irreducible] Run
set_option maxHeartbeats 1000000
open Paths
attribute [local irreducible] nameErr cut normal dots partErr text parse glue fold within
theorem targ_f {K : Int} {es : List Ent} {tg : Bs} {v : Int} (hv : v = if (parse tg).1.stream ≠ [] ∨ (K = 3 ∧ (parse tg).1.abs = false) then 3 else 0) : firstE [(parse tg).2,v] = targE ⟨K,es,tg⟩:=by
 subst hv
 unfold targE
 by_cases h : (parse tg).2 = 0
 ·rw [h]
  simp only [ne_eq,not_true_eq_false,if_false]
  split<;>simp [firstE]
 ·rw [if_pos h];simp [firstE,h]
attribute [local irreducible] targE
attribute [local irreducible] frst errN errC checkT rchF nodE namesR Good cntT setT markI sameN entF errE entsE
theorem c92k2 (es : List Ent) (tg : Bs) : Fn 92 [Nod.enc ⟨2,es,tg⟩] (i (targE ⟨2,es,tg⟩)):=by
 refine run_walkF eok Tryz.func92 rfl (by kernel_rfl) ?_
 conv=>whnf
 repeat' (first
 | ((with_reducible refine onBool_split (fun h=>?_) (fun h=>?_))<;>conv=>whnf)
 | ((with_reducible refine call_go ?_);(first | refine call_step (run_viewF (c35 tg) rfl) ?_ | refine call_step (run_view (c53 _ 3) rfl rfl) ?_ | refine call_step (run_view (c52 [(parse tg).2,_] (by decide : 2 < 1000000)) rfl (vlc rfl vln)) ?_);conv=>whnf)
 | ((with_reducible refine endx_go ?_);first | (exact endx (congrArg i (targ_f (by have hz : ({ data:=#[] } : ByteArray).data.toList = []:=rfl;simp_all)));done))
  | fail
  )
theorem c92k3 (es : List Ent) (tg : Bs) : Fn 92 [Nod.enc ⟨3,es,tg⟩] (i (targE ⟨3,es,tg⟩)):=by
 refine run_walkF eok Tryz.func92 rfl (by kernel_rfl) ?_
 conv=>whnf
 repeat' (first
 | ((with_reducible refine onBool_split (fun h=>?_) (fun h=>?_))<;>conv=>whnf)
 | ((with_reducible refine call_go ?_);(first | refine call_step (run_viewF (c35 tg) rfl) ?_ | refine call_step (run_view (c53 _ 3) rfl rfl) ?_ | refine call_step (run_view (c52 [(parse tg).2,_] (by decide : 2 < 1000000)) rfl (vlc rfl vln)) ?_);conv=>whnf)
 | ((with_reducible refine endx_go ?_);first | (exact endx (congrArg i (targ_f (by have hz : ({ data:=#[] } : ByteArray).data.toList = []:=rfl;simp_all)));done))
  | fail
  )
theorem c53t (e : Int) : Fn 53 [.bool true,i e] (i 0):=c53 true e
theorem c53f (e : Int) : Fn 53 [.bool false,i e] (i e):=c53 false e
theorem c90k (K : Int) (h : within K 0 3 = true) : Fn 90 [i K,i 0,i 3] (.bool true):=by
 have:=c90 K 0 3
 rwa [h] at this
theorem w0 : within 0 0 3 = true:=by decide +kernel
theorem w1 : within 1 0 3 = true:=by decide +kernel
theorem w2 : within 2 0 3 = true:=by decide +kernel
theorem w3 : within 3 0 3 = true:=by decide +kernel
theorem c52_0 : Fn 52 [.fs [i 0,i 0,i 0]] (i 0):=c52 [0,0,0] (by decide)
theorem c52_3 : Fn 52 [.fs [i 0,i 0,i 3]] (i 3):=c52 [0,0,3] (by decide)
theorem c52_a : Fn 52 [.fs [i 0,i 35,i 0]] (i 35):=c52 [0,35,0] (by decide)
theorem c52_b : Fn 52 [.fs [i 0,i 35,i 3]] (i 35):=c52 [0,35,3] (by decide)
theorem tg_t {tg : Bs} (h : decide (tg = ({ data:=#[] } : ByteArray).data.toList) = true) : tg = []:=of_decide_eq_true h
theorem tg_f {tg : Bs} (h : decide (tg = ({ data:=#[] } : ByteArray).data.toList) = false) : ¬ tg = []:=of_decide_eq_false h
theorem end_0 {t : List Nod} {d : Int} {es : List Ent} {tg : Bs} (h : tg = []) : (frst (errE t.length es) es.length 0).2 = nodE t d ⟨0,es,tg⟩:=by
 rw [nd_0,if_pos h];exact ents_F _ 0 rfl (fun z hz=>by simp at hz)
theorem end_n {t : List Nod} {d : Int} {x : Nod} {len : Int} (h : x.ents.length = 0) (h2 : nodE t d x = 0) : (frst (errE len x.ents) x.ents.length 0).2 = nodE t d x:=by
 rw [frst_end (by omega),h2]
theorem c61k0 (t : List Nod) (d : Int) (es : List Ent) (tg : Bs) (h0 : 0 ≤ d) (hd : t[d.toNat]? = some ⟨0,es,tg⟩) (ht : t.length < 1000000) (hl : es.length < 1000000) (hb : ∀ y ∈ es,y.name.length < 1000000) : Fn 61 [treeD t,i d] (i (nodE t d ⟨0,es,tg⟩)):=by
 refine run_walkF eok Tryz.func61 rfl (by kernel_rfl) ?_
 conv=>whnf
 repeat' (first
 | ((with_reducible refine on_dec (fun h=>?_) (fun h=>?_))<;>(try simp only [List.length_map] at h)<;>conv=>whnf)
 | ((with_reducible refine onBool_split (fun h=>?_) (fun h=>?_))<;>conv=>whnf)
 | ((with_reducible refine call_go ?_);(first | refine call_step (run_data (xs:=[_,_,_]) (c90k 0 w0) _) ?_ | refine call_step (run_data (xs:=[_,_]) (c53t _) _) ?_ | refine call_step (run_data (xs:=[_,_]) (c53f _) _) ?_ | refine call_step (run_view c52_0 rfl (vlc rfl vln)) ?_ | refine call_step (run_view c52_3 rfl (vlc rfl vln)) ?_ | refine call_step (run_view (c93 t ⟨0,es,tg⟩ ht hl hb) rfl (vlc rfl (vlc rfl vln))) ?_);conv=>whnf)
 | (refine ⟨[],[(11,2),(11,3),(11,9)],(by decide +kernel),?_⟩;conv=>whnf)
 | (refine ix_nd h0 hd ?_;conv=>whnf)
 | ((with_reducible refine endx_go ?_);first | (exact endx (congrArg i (nd_0.trans (if_neg (by first | exact tg_f (by assumption) ))).symm);done) | (exact endx (congrArg i (end_0 (by first | exact tg_t (by assumption) )));done))
 | (refine ⟨rfl,?_⟩;conv=>whnf)
  | fail
  )
theorem c61k1 (t : List Nod) (d : Int) (es : List Ent) (tg : Bs) (h0 : 0 ≤ d) (hd : t[d.toNat]? = some ⟨1,es,tg⟩) (ht : t.length < 1000000) (hl : es.length < 1000000) (hb : ∀ y ∈ es,y.name.length < 1000000) : Fn 61 [treeD t,i d] (i (nodE t d ⟨1,es,tg⟩)):=by
 refine run_walkF eok Tryz.func61 rfl (by kernel_rfl) ?_
 conv=>whnf
 repeat' (first
 | ((with_reducible refine on_dec (fun h=>?_) (fun h=>?_))<;>(try simp only [List.length_map] at h)<;>conv=>whnf)
 | ((with_reducible refine onBool_split (fun h=>?_) (fun h=>?_))<;>conv=>whnf)
 | ((with_reducible refine call_go ?_);(first | refine call_step (run_data (xs:=[_,_,_]) (c90k 1 w1) _) ?_ | refine call_step (run_data (xs:=[_,_]) (c53t _) _) ?_ | refine call_step (run_data (xs:=[_,_]) (c53f _) _) ?_ | refine call_step (run_view c52_0 rfl (vlc rfl vln)) ?_ | refine call_step (run_view c52_3 rfl (vlc rfl vln)) ?_ | refine call_step (run_view c52_a rfl (vlc rfl vln)) ?_ | refine call_step (run_view c52_b rfl (vlc rfl vln)) ?_ | refine call_step (run_view (c93 t ⟨1,es,tg⟩ ht hl hb) rfl (vlc rfl (vlc rfl vln))) ?_);conv=>whnf)
 | (refine ⟨[],[(11,2),(11,3),(11,9)],(by decide +kernel),?_⟩;conv=>whnf)
 | (refine ix_nd h0 hd ?_;conv=>whnf)
 | ((with_reducible refine endx_go ?_);first | (exact endx (congrArg i (nd_1.trans (if_pos (by omega))).symm);done) | (exact endx (congrArg i (nd_1.trans ((if_neg (by omega)).trans (if_neg (fun hh=>(fun hh=>by have:=congrArg List.length hh;simp only [List.length_nil] at this;omega) hh.1)))).symm);done) | (exact endx (congrArg i (nd_1.trans ((if_neg (by omega)).trans (if_neg (fun hh=>((by first | exact tg_f (by assumption) ) : ¬ tg = []) hh.2)))).symm);done) | (exact endx (congrArg i (end_n (x:=⟨1,es,tg⟩) (by show es.length = 0;omega) (nd_1.trans ((if_neg (by omega)).trans (if_pos ⟨List.length_eq_zero_iff.1 (by omega),(by first | exact tg_t (by assumption) )⟩)))));done))
 | (refine ⟨rfl,?_⟩;conv=>whnf)
  | fail
  )
theorem c61k2 (t : List Nod) (d : Int) (es : List Ent) (tg : Bs) (h0 : 0 ≤ d) (hd : t[d.toNat]? = some ⟨2,es,tg⟩) (ht : t.length < 1000000) (hl : es.length < 1000000) (hb : ∀ y ∈ es,y.name.length < 1000000) : Fn 61 [treeD t,i d] (i (nodE t d ⟨2,es,tg⟩)):=by
 refine run_walkF eok Tryz.func61 rfl (by kernel_rfl) ?_
 conv=>whnf
 repeat' (first
 | ((with_reducible refine on_dec (fun h=>?_) (fun h=>?_))<;>(try simp only [List.length_map] at h)<;>conv=>whnf)
 | ((with_reducible refine on_ndec (fun h=>?_) (fun h=>?_))<;>(try simp only [List.length_map] at h)<;>conv=>whnf)
 | ((with_reducible refine onBool_split (fun h=>?_) (fun h=>?_))<;>conv=>whnf)
 | ((with_reducible refine call_go ?_);(first | refine call_step (run_data (xs:=[_,_,_]) (c90k 2 w2) _) ?_ | refine call_step (run_data (xs:=[_,_]) (c53t _) _) ?_ | refine call_step (run_data (xs:=[_,_]) (c53f _) _) ?_ | refine call_step (run_view c52_0 rfl (vlc rfl vln)) ?_ | refine call_step (run_view c52_3 rfl (vlc rfl vln)) ?_ | refine call_step (run_view c52_a rfl (vlc rfl vln)) ?_ | refine call_step (run_view c52_b rfl (vlc rfl vln)) ?_ | refine call_step (run_data (xs:=[_]) (c92k2 es tg) _) ?_ | refine call_step (run_view (c93 t ⟨2,es,tg⟩ ht hl hb) rfl (vlc rfl (vlc rfl vln))) ?_);conv=>whnf)
 | (refine ⟨[],[(11,2),(11,3),(11,9)],(by decide +kernel),?_⟩;conv=>whnf)
 | (refine ix_nd h0 hd ?_;conv=>whnf)
 | ((with_reducible refine endx_go ?_);first | (exact endx (congrArg i ((nd_l (by omega : (2 : Int) = 2 ∨ (2 : Int) = 3)).trans (if_pos (by omega))).symm);done) | (exact endx (congrArg i ((nd_l (by omega : (2 : Int) = 2 ∨ (2 : Int) = 3)).trans ((if_neg (by omega)).trans (if_neg (fun hh=>by have:=congrArg List.length hh;simp only [List.length_nil] at this;omega)))).symm);done) | (exact endx (congrArg i ((nd_l (by omega : (2 : Int) = 2 ∨ (2 : Int) = 3)).trans ((if_neg (by omega)).trans ((if_pos (List.length_eq_zero_iff.1 (by omega))).trans rfl))).symm);done) | (exact endx (congrArg i (end_n (x:=⟨2,es,tg⟩) (by show es.length = 0;omega) ((nd_l (by omega : (2 : Int) = 2 ∨ (2 : Int) = 3)).trans ((if_neg (by omega)).trans ((if_pos (List.length_eq_zero_iff.1 (by omega))).trans (by assumption))))));done))
 | (refine ⟨rfl,?_⟩;conv=>whnf)
  | fail
  )
theorem c61k3 (t : List Nod) (d : Int) (es : List Ent) (tg : Bs) (h0 : 0 ≤ d) (hd : t[d.toNat]? = some ⟨3,es,tg⟩) (ht : t.length < 1000000) (hl : es.length < 1000000) (hb : ∀ y ∈ es,y.name.length < 1000000) : Fn 61 [treeD t,i d] (i (nodE t d ⟨3,es,tg⟩)):=by
 refine run_walkF eok Tryz.func61 rfl (by kernel_rfl) ?_
 conv=>whnf
 repeat' (first
 | ((with_reducible refine on_dec (fun h=>?_) (fun h=>?_))<;>(try simp only [List.length_map] at h)<;>conv=>whnf)
 | ((with_reducible refine on_ndec (fun h=>?_) (fun h=>?_))<;>(try simp only [List.length_map] at h)<;>conv=>whnf)
 | ((with_reducible refine onBool_split (fun h=>?_) (fun h=>?_))<;>conv=>whnf)
 | ((with_reducible refine call_go ?_);(first | refine call_step (run_data (xs:=[_,_,_]) (c90k 3 w3) _) ?_ | refine call_step (run_data (xs:=[_,_]) (c53t _) _) ?_ | refine call_step (run_data (xs:=[_,_]) (c53f _) _) ?_ | refine call_step (run_view c52_0 rfl (vlc rfl vln)) ?_ | refine call_step (run_view c52_3 rfl (vlc rfl vln)) ?_ | refine call_step (run_view c52_a rfl (vlc rfl vln)) ?_ | refine call_step (run_view c52_b rfl (vlc rfl vln)) ?_ | refine call_step (run_data (xs:=[_]) (c92k3 es tg) _) ?_ | refine call_step (run_view (c93 t ⟨3,es,tg⟩ ht hl hb) rfl (vlc rfl (vlc rfl vln))) ?_);conv=>whnf)
 | (refine ⟨[],[(11,2),(11,3),(11,9)],(by decide +kernel),?_⟩;conv=>whnf)
 | (refine ix_nd h0 hd ?_;conv=>whnf)
 | ((with_reducible refine endx_go ?_);first | (exact endx (congrArg i ((nd_l (by omega : (3 : Int) = 2 ∨ (3 : Int) = 3)).trans (if_pos (by omega))).symm);done) | (exact endx (congrArg i ((nd_l (by omega : (3 : Int) = 2 ∨ (3 : Int) = 3)).trans ((if_neg (by omega)).trans (if_neg (fun hh=>by have:=congrArg List.length hh;simp only [List.length_nil] at this;omega)))).symm);done) | (exact endx (congrArg i ((nd_l (by omega : (3 : Int) = 2 ∨ (3 : Int) = 3)).trans ((if_neg (by omega)).trans ((if_pos (List.length_eq_zero_iff.1 (by omega))).trans rfl))).symm);done) | (exact endx (congrArg i (end_n (x:=⟨3,es,tg⟩) (by show es.length = 0;omega) ((nd_l (by omega : (3 : Int) = 2 ∨ (3 : Int) = 3)).trans ((if_neg (by omega)).trans ((if_pos (List.length_eq_zero_iff.1 (by omega))).trans (by assumption))))));done))
 | (refine ⟨rfl,?_⟩;conv=>whnf)
  | fail
  )
theorem c90n {K : Int} (h : within K 0 3 = false) : Fn 90 [i K,i 0,i 3] (.bool false):=by
 have:=c90 K 0 3
 rwa [h] at this
theorem c53d {p : Prop} {_ : Decidable p} (e : Int) (h : ¬ p) : Fn 53 [.bool (decide p),i e] (i e):=by
 rw [decide_eq_false h];exact c53f e
theorem c52_15 (a b : Int) : Fn 52 [.fs [i 15,i a,i b]] (i 15):=c52 [15,a,b] (by decide : 3 < 1000000)
theorem c61x (t : List Nod) (d : Int) (x : Nod) (h0 : 0 ≤ d) (hd : t[d.toNat]? = some x) (hk : within x.kind 0 3 = false) (hkk : x.kind < 0 ∨ 3 < x.kind) : Fn 61 [treeD t,i d] (i (nodE t d x)):=by
 refine run_walkF eok Tryz.func61 rfl (by kernel_rfl) ?_
 conv=>whnf
 repeat' (first
 | ((with_reducible refine on_dec_f ?_ ?_);(focus ((try simp only [List.length_map,List.length_cons,List.length_nil,List.length_append]);omega));conv=>whnf)
 | ((with_reducible refine on_dec (fun h=>?_) (fun h=>?_))<;>(try simp only [List.length_map] at h)<;>conv=>whnf)
 | ((with_reducible refine onBool_split (fun h=>?_) (fun h=>?_))<;>conv=>whnf)
 | ((with_reducible refine call_go ?_);(first | refine call_step (run_data (xs:=[_,_,_]) (c90n hk) _) ?_ | refine call_step (run_data (xs:=[_,_]) (c53t _) _) ?_ | refine call_step (run_data (xs:=[_,_]) (c53f _) _) ?_ | refine call_step (run_data (xs:=[_,_]) (c53d (p:=x.kind = 0) _ (by omega)) _) ?_ | refine call_step (run_data (xs:=[_,_]) (c53d (p:=x.kind = 3) _ (by omega)) _) ?_ | refine call_step (run_view (c52_15 0 0) rfl (vlc rfl vln)) ?_ | refine call_step (run_view (c52_15 0 3) rfl (vlc rfl vln)) ?_ | refine call_step (run_view (c52_15 35 0) rfl (vlc rfl vln)) ?_ | refine call_step (run_view (c52_15 35 3) rfl (vlc rfl vln)) ?_);conv=>whnf)
 | (refine ⟨[],[(11,2),(11,3),(11,9)],(by decide +kernel),?_⟩;conv=>whnf)
 | (refine ix_nd h0 hd ?_;conv=>whnf)
 | ((with_reducible refine endx_go ?_);first | (exact endx (congrArg i (nd_k hk).symm);done))
 | (refine ⟨rfl,?_⟩;conv=>whnf)
  | fail
  )
theorem c61 (t : List Nod) (d : Int) (x : Nod) (h0 : 0 ≤ d) (hd : t[d.toNat]? = some x) (ht : t.length < 1000000) (hl : x.ents.length < 1000000) (hb : ∀ y ∈ x.ents,y.name.length < 1000000) : Fn 61 [treeD t,i d] (i (nodE t d x)):=by
 cases hk : within x.kind 0 3 with
 | false=>
  refine c61x t d x h0 hd hk ?_
  have : ¬ (0 ≤ x.kind ∧ x.kind ≤ 3):=fun h=>by
   have : within x.kind 0 3 = true:=by simpa [within] using h
   rw [hk] at this;cases this
  omega
 | true=>
  have hw : 0 ≤ x.kind ∧ x.kind ≤ 3:=(by simpa [within] using hk)
  obtain ⟨K,es,tg⟩:=x
  have : K = 0 ∨ K = 1 ∨ K = 2 ∨ K = 3:=by simp only at hw;omega
  rcases this with rfl | rfl | rfl | rfl
  ·exact c61k0 t d es tg h0 hd ht hl hb
  ·exact c61k1 t d es tg h0 hd ht hl hb
  ·exact c61k2 t d es tg h0 hd ht hl hb
  ·exact c61k3 t d es tg h0 hd ht hl hb
end Go.Proofs.YtpfokhdelnlciaaGreatDoor
namespace Go.Proofs.YtpfokhdelnlciaaGreatDoor
open Go Dw
def entsAt (t : List Nod) (k : Nat) : List Ent:=match t[k]? with
 | some x=>x.ents
 | none=>[]
def cntN (t : List Nod) (k m j : Nat) : Nat:=namesR (t.take k) j + cntE ((entsAt t k).take m) j
def cntsL (t : List Nod) (k m : Nat) : List Int:=(List.range t.length).map fun j=>((cntN t k m j : Nat) : Int)
theorem cnts_len (t : List Nod) (k m : Nat) : (cntsL t k m).length = t.length:=by simp [cntsL]
theorem cnts_at {t : List Nod} {k m j : Nat} (h : j < (cntsL t k m).length) : (cntsL t k m)[j] = ((cntN t k m j : Nat) : Int):=by
 simp [cntsL]
theorem cnts_0 (t : List Nod) : List.replicate t.length (0 : Int) = cntsL t 0 0:=by
 apply List.ext_getElem
 ·rw [cnts_len,List.length_replicate]
 ·intro j h1 h2
  rw [cnts_at,List.getElem_replicate]
  simp [cntN,namesR,cntE]
theorem entsAt_eq {t : List Nod} {k : Nat} (h : k < t.length) : entsAt t k = t[k].ents:=by unfold entsAt;rw [List.getElem?_eq_getElem h]
theorem cnts_step {t : List Nod} {k m : Nat} (hk : k < t.length) (hm : m < t[k].ents.length) {n : Nat} (hn : t[k].ents[m].node = (n : Int)) {v : Int} (hv : v = ((cntN t k m n : Nat) : Int) + 1) : (cntsL t k m).set n v = cntsL t k (m + 1):=by
 apply List.ext_getElem
 ·rw [List.length_set,cnts_len,cnts_len]
 ·intro j h1 h2
  rw [List.getElem_set,cnts_at h2]
  have hs : cntN t k (m + 1) j = cntN t k m j + bitN (decide (t[k].ents[m].node = (j : Int))):=by
   unfold cntN
   rw [entsAt_eq hk,cntE_take _ _ hm];omega
  rw [hs,hn]
  by_cases e : n = j
  ·subst e
   rw [if_pos rfl,hv]
   simp [bitN]
  ·rw [if_neg e,cnts_at]
   have : ¬ (n : Int) = (j : Int):=by omega
   simp [bitN,this]
theorem cnts_next {t : List Nod} {k m : Nat} (hk : k < t.length) (hm : t[k].ents.length ≤ m) : cntsL t k m = cntsL t (k + 1) 0:=by
 apply List.ext_getElem
 ·rw [cnts_len,cnts_len]
 ·intro j h1 h2
  rw [cnts_at,cnts_at]
  congr 1
  unfold cntN
  rw [entsAt_eq hk,names_take t k hk,List.take_of_length_le hm,List.take_zero]
  simp [cntE]
theorem cnts_end {t : List Nod} {k j : Nat} (hk : t.length ≤ k) (h : j < (cntsL t k 0).length) : (cntsL t k 0)[j] = ((namesR t j : Nat) : Int):=by
 rw [cnts_at]
 unfold cntN
 rw [List.take_of_length_le hk,List.take_zero]
 simp [cntE]
theorem cntN_le {t : List Nod} {k m j : Nat} (hb : ∀ x ∈ t,x.ents.length < 1000000) (hm : m ≤ 1000000) : cntN t k m j ≤ 1000000 * t.length + 1000000:=by
 have h1 : ∀ (l : List Nod),(∀ x ∈ l,x.ents.length < 1000000) → namesR l j ≤ 1000000 * l.length:=by
  intro l
  induction l with
  | nil=>intro _;simp [namesR]
  | cons x l ih=>
   intro h
   have:=ih fun y hy=>h y (by simp [hy])
   have:=h x (by simp)
   have:=cntE_le (n:=j) x.ents
   simp only [namesR,List.length_cons];omega
 have h2:=h1 (t.take k) fun x hx=>hb x (List.mem_of_mem_take hx)
 have h3:=cntE_le (n:=j) ((entsAt t k).take m)
 rw [List.length_take] at h2 h3
 unfold cntN
 have : min k t.length ≤ t.length:=Nat.min_le_right _ _
 omega
end Go.Proofs.YtpfokhdelnlciaaGreatDoor
namespace Go.Proofs.YtpfokhdelnlciaaGreatDoor
open Go Dw
set_option maxRecDepth 10000
attribute [local irreducible] Run
set_option maxHeartbeats 1000000
open Paths
attribute [local irreducible] nameErr cut normal dots partErr text parse glue fold within
attribute [local irreducible] targE frst errN errC checkT rchF nodE namesR Good cntT setT markI sameN entF errE entsE
structure Tb (t : List Nod) : Prop where
 tl : t.length < 1000000
 el : ∀ x ∈ t,x.ents.length < 1000000
 nl : ∀ x ∈ t,∀ y ∈ x.ents,y.name.length < 1000000
theorem nd_at {t : List Nod} {k : Nat} (h : k < t.length) : t[((k : Nat) : Int).toNat]? = some t[k]:=by simp [h]
theorem c61e {t : List Nod} (B : Tb t) (k : Nat) (h : k < t.length) : Fn 61 [treeD t,i k] (i (errN t k)):=by
 have:=c61 t (k : Int) t[k] (by omega) (nd_at h) B.tl (B.el _ (List.getElem_mem h)) (B.nl _ (List.getElem_mem h))
 rwa [← errN_at h] at this
theorem c60 (t : List Nod) (B : Tb t) (k : Nat) (hk : k < t.length) (x : Nod) : Fn 60 [i k,x.enc,.fp (treeD t) 0] (i (errN t k)):=by
 refine run_walkF eok Tryz.func60 rfl (by kernel_rfl) ?_
 conv=>whnf
 repeat' (first
 | ((with_reducible refine call_go ?_);(first | refine call_step (run_data (xs:=[_,_]) (c61e B k hk) _) ?_);conv=>whnf)
 | ((with_reducible refine endx_go ?_);first | (exact endx rfl;done))
  | fail
  )
theorem c59a (t : List Nod) (B : Tb t)  : Fn 59 [treeD t,.fn 60 [] [.fp (treeD t) 0]] (.tup [i (frst (errN t) t.length 0).1,i (frst (errN t) t.length 0).2]):=by
 have hbt:=B.tl
 refine run_walkF eok Tryz.func59 rfl (by kernel_rfl) ?_
 conv=>whnf
 repeat' (first
 | ((with_reducible refine on_dec (fun h=>?_) (fun h=>?_))<;>(try simp only [List.length_map] at h)<;>conv=>whnf)
 | ((with_reducible refine on_ndec (fun h=>?_) (fun h=>?_))<;>(try simp only [List.length_map] at h)<;>conv=>whnf)
 | ((with_reducible refine loop_go ?_);first | (refine loop1 (fun (k : Nat)=>t.length - k) (fun (k : Nat)=>k ≤ t.length ∧ frst (errN t) t.length 0 = frst (errN t) t.length k) (fun (k : Nat)=>[(1,.d (.fn 60 [] [.fp (treeD t) 0])),(9,.d (treeD t)),(10,.d (i t.length)),(11,.d (i k))]) (fun (k : Nat)=>[]) (0) (by exact ⟨Nat.zero_le _,rfl⟩) ?_ (fun k C hI hC=>?_);(exact ⟨[],rfl,rfl,⟨(by first | (show (_ : D) = _;with_reducible rfl) ),(by first | (show (_ : D) = _;with_reducible rfl) ),(congrArg (D.int .i64) (by simp only [List.length_map])),(by first | exact congrArg (D.int .i64) (by omega) ),trivial⟩,trivial⟩);all_goals (conv=>whnf)))
 | ((with_reducible show C _ _);first | (refine hC (k + 1) _ _ ?_ (by omega) ?_;clear hC;rotate_left;(exact ⟨[],rfl,rfl,⟨(by first | (show (_ : D) = _;with_reducible rfl) ),(by first | (show (_ : D) = _;with_reducible rfl) ),(by first | (show (_ : D) = _;with_reducible rfl) ),(by first | exact congrArg (D.int .i64) (by omega) ),trivial⟩,trivial⟩);(exact ⟨by omega,hI.2.trans (frst_n (by omega) (by assumption))⟩)))
 | (refine ix_map (by omega) ?_;conv=>whnf)
 | (refine wrap64 (by omega) ?_;conv=>whnf)
 | ((with_reducible refine call_go ?_);(refine call_step (run_data (xs:=[_,_,_]) (c60 t B k (by omega) (t[k]'(by omega))) _) ?_);conv=>whnf)
 | ((with_reducible refine endx_go ?_);first | (exact endx2 (tup2 (hI.2.trans (frst_e (by omega) h)));done) | (exact endx2 (tup2 (hI.2.trans (frst_end (by omega))));done))
  | fail
  )
theorem c53i {b : Bool} (e : Int) : Fn 53 [.bool b,i e] (i (if b = true then 0 else e)):=c53 b e
theorem errC_f {t : List Nod} {R : List Bool} {k : Nat} (h0 : 1 ≤ k) (h : k < t.length) (hR : k < R.length) {c : Int} (hc : c = (namesR t k : Nat)) {a : Int} {b : Int} {d : Int} (ha : a = if decide (0 < c) = true then 0 else 12) (hb : b = if c = 1 ∨ t[k].kind = 1 then 0 else 23) (hd : d = if R[k] = true then 0 else 14) : firstE [a,b,d] = errC t R k:=by
 subst ha hb hd hc
 rw [errC_at h0 h,List.getElem?_eq_getElem hR]
 generalize namesR t k = n
 by_cases e0 : n = 0
 ·subst e0;simp [firstE]
 ·have e1 : 0 < n:=by omega
  by_cases e2 : n = 1
  ·subst e2
   cases R[k]<;>simp [firstE]
  ·have e3 : 1 < n:=by omega
   have e4 : ¬ (n : Int) = 1:=by omega
   by_cases e5 : t[k].kind = 1
   ·cases R[k]<;>simp [firstE,e0,e1,e3,e5]
   ·simp [firstE,e0,e1,e3,e4,e5]
theorem rowI_at {l : List Int} {n m : Nat} {K : AV → Prop} (e : n = m) (h : m < l.length) (k : K (.d (i l[m]))) : nthK (rowI l) n K:=by
 subst e
 exact nthK_of (x:=.d (i l[n])) (by simp [rowI,h]) k
theorem c62 (t : List Nod) (R : List Bool) (cs : List Int) (k : Nat) (hk : k < t.length) (hR : R.length = t.length) (hC : cs.length = t.length) (hc : ∀ j (h : j < cs.length),cs[j] = ((namesR t j : Nat) : Int)) : Fn 62 [i k,Nod.enc (t[k]'hk),.fp (.fs (cs.map i)) 0,.fp (.fs (R.map D.bool)) 0] (i (errC t R k)):=by
 refine run_walkF eok Tryz.func62 rfl (by kernel_rfl) ?_
 conv=>whnf
 repeat' (first
 | ((with_reducible refine on_dec (fun h=>?_) (fun h=>?_))<;>(try simp only [List.length_map] at h)<;>conv=>whnf)
 | ((with_reducible refine call_go ?_);(first | refine call_step (run_data (xs:=[_,_]) (c53i _) _) ?_ | refine call_step (run_view (c52 [_,_,_] (by decide : 3 < 1000000)) rfl (vlc rfl vln)) ?_);conv=>whnf)
 | (refine ⟨[],[(6,5),(9,5),(17,5),(20,5),(17,16),(20,16)],(by decide +kernel),?_⟩;conv=>whnf)
 | (refine ix_map (by omega) ?_;conv=>whnf)
 | ((with_reducible refine endx_go ?_);first | (exact endx (congrArg i (by unfold errC;rw [if_pos (by omega)]));done) | (exact endx (congrArg i (errC_f (c:=cs[k]) (by omega) hk (by omega) (hc _ _) rfl (by simp [h]) rfl));done))
  | fail
  )
theorem c59b (t : List Nod) (B : Tb t) (R : List Bool) (cs : List Int) (hR : R.length = t.length) (hCs : cs.length = t.length) (hc : ∀ j (h : j < cs.length),cs[j] = ((namesR t j : Nat) : Int)) : Fn 59 [treeD t,.fn 62 [] [.fp (.fs (cs.map i)) 0,.fp (.fs (R.map D.bool)) 0]] (.tup [i (frst (errC t R) t.length 0).1,i (frst (errC t R) t.length 0).2]):=by
 have hbt:=B.tl
 refine run_walkF eok Tryz.func59 rfl (by kernel_rfl) ?_
 conv=>whnf
 repeat' (first
 | ((with_reducible refine on_dec (fun h=>?_) (fun h=>?_))<;>(try simp only [List.length_map] at h)<;>conv=>whnf)
 | ((with_reducible refine on_ndec (fun h=>?_) (fun h=>?_))<;>(try simp only [List.length_map] at h)<;>conv=>whnf)
 | ((with_reducible refine loop_go ?_);first | (refine loop1 (fun (k : Nat)=>t.length - k) (fun (k : Nat)=>k ≤ t.length ∧ frst (errC t R) t.length 0 = frst (errC t R) t.length k) (fun (k : Nat)=>[(1,.d (.fn 62 [] [.fp (.fs (cs.map i)) 0,.fp (.fs (R.map D.bool)) 0])),(9,.d (treeD t)),(10,.d (i t.length)),(11,.d (i k))]) (fun (k : Nat)=>[]) (0) (by exact ⟨Nat.zero_le _,rfl⟩) ?_ (fun k C hI hC=>?_);(exact ⟨[],rfl,rfl,⟨(by first | (show (_ : D) = _;with_reducible rfl) ),(by first | (show (_ : D) = _;with_reducible rfl) ),(congrArg (D.int .i64) (by simp only [List.length_map])),(by first | exact congrArg (D.int .i64) (by omega) ),trivial⟩,trivial⟩);all_goals (conv=>whnf)))
 | ((with_reducible show C _ _);first | (refine hC (k + 1) _ _ ?_ (by omega) ?_;clear hC;rotate_left;(exact ⟨[],rfl,rfl,⟨(by first | (show (_ : D) = _;with_reducible rfl) ),(by first | (show (_ : D) = _;with_reducible rfl) ),(by first | (show (_ : D) = _;with_reducible rfl) ),(by first | exact congrArg (D.int .i64) (by omega) ),trivial⟩,trivial⟩);(exact ⟨by omega,hI.2.trans (frst_n (by omega) (by assumption))⟩)))
 | (refine ix_map (by omega) ?_;conv=>whnf)
 | (refine wrap64 (by omega) ?_;conv=>whnf)
 | ((with_reducible refine call_go ?_);(refine call_step (run_data (xs:=[_,_,_,_]) (c62 t R cs k (by omega) hR hCs hc) _) ?_);conv=>whnf)
 | ((with_reducible refine endx_go ?_);first | (exact endx2 (tup2 (hI.2.trans (frst_e (by omega) h)));done) | (exact endx2 (tup2 (hI.2.trans (frst_end (by omega))));done))
  | fail
  )
end Go.Proofs.YtpfokhdelnlciaaGreatDoor
namespace Go.Proofs.YtpfokhdelnlciaaGreatDoor
open Go Dw
set_option maxRecDepth 10000
attribute [local irreducible] Run
set_option maxHeartbeats 1000000
open Paths
attribute [local irreducible] nameErr cut normal dots partErr text parse glue fold within
def preT (t : List Nod) : Int:=firstE [if decide (0 < ((t.map Nod.enc).length : Int)) = true then 0 else 10,if decide (((t.map Nod.enc).length : Int) ≤ 40) = true then 0 else 8]
theorem c52p (t : List Nod) : Fn 52 [.fs [i (if decide (0 < ((t.map Nod.enc).length : Int)) = true then 0 else 10),i (if decide (((t.map Nod.enc).length : Int) ≤ 40) = true then 0 else 8)]] (i (preT t)):=c52 [_,_] (by decide : 2 < 1000000)
theorem pre_v (t : List Nod) : preT t = if t.length = 0 then 10 else if 40 < t.length then 8 else 0:=by
 unfold preT
 rw [List.length_map]
 by_cases h : t.length = 0
 ·rw [if_pos h,h];simp [firstE]
 ·by_cases h2 : 40 < t.length
  ·rw [if_neg h,if_pos h2,decide_eq_true (by omega),decide_eq_false (by omega)];simp [firstE]
  ·rw [if_neg h,if_neg h2,decide_eq_true (by omega),decide_eq_true (by omega)];simp [firstE]
theorem chk_p {t : List Nod} (h : ¬ preT t = 0) : checkT t = (0,preT t):=by
 rw [pre_v] at *
 by_cases h1 : t.length = 0
 ·rw [if_pos h1,chk_0 h1]
 ·by_cases h2 : 40 < t.length
  ·rw [if_neg h1,if_pos h2,chk_8 h2]
  ·rw [if_neg h1,if_neg h2] at h;exact absurd rfl h
theorem pre_len {t : List Nod} (h : preT t = 0) : 0 < t.length ∧ t.length ≤ 40:=by
 rw [pre_v] at h
 by_cases h1 : t.length = 0
 ·rw [if_pos h1] at h;exact absurd h (by decide)
 ·by_cases h2 : 40 < t.length
  ·rw [if_neg h1,if_pos h2] at h;exact absurd h (by decide)
  ·omega
theorem chk_m {t : List Nod} (h : preT t = 0) (h2 : ¬ (frst (errN t) t.length 0).2 = 0) : checkT t = ((frst (errN t) t.length 0).1,(frst (errN t) t.length 0).2):=by
 have:=pre_len h
 unfold checkT
 rw [if_neg (by omega),if_neg (by omega),if_neg h2]
theorem chk_o {t : List Nod} (h : preT t = 0) (h2 : (frst (errN t) t.length 0).2 = 0) : checkT t = ((frst (errC t (rchF t 0)) t.length 0).1,(frst (errC t (rchF t 0)) t.length 0).2):=by
 have:=pre_len h
 unfold checkT
 rw [if_neg (by omega),if_neg (by omega),if_pos h2]
theorem hG_ok {t : List Nod} (h : (frst (errN t) t.length 0).2 = 0) : Good t:=good_of fun j hj=>frst_ok t.length 0 rfl h j (Nat.zero_le _) hj
theorem view_62 {H : Heap} {a b id k1 k2 k3 n : Nat} {c : Option Nat} {cs : List Int} {R : List D} (ha : H[a]? = some ⟨[.sl id 0 n 1 c],k1,0⟩) (hi : H[id]? = some ⟨rowI cs,k2,0⟩) (hn : n = cs.length) (hb : H[b]? = some ⟨[.d (.fs R)],k3,0⟩) : view 8 H (.fn 62 [] [.ptr a 0 0,.ptr b 0 0]) = some (.fn 62 [] [.fp (.fs (cs.map i)) 0,.fp (.fs R) 0]):=by
 have h1 : view 7 H (.ptr a 0 0) = some (.fp (.fs (cs.map i)) 0):=view_ptr (n:=6) ha Nat.two_pos rfl (view_mapL (n:=4) (f:=i) hn hi (by decide))
 have h2 : view 7 H (.ptr b 0 0) = some (.fp (.fs R) 0):=view_ptr (n:=6) hb Nat.two_pos rfl rfl
 show (match vl (view 7 H) [] with
  | some a'=>match vl (view 7 H) [.ptr a 0 0,.ptr b 0 0] with
   | some c=>some (D.fn 62 a' c)
   | none=>none
  | none=>none) = _
 rw [show vl (view 7 H) [.ptr a 0 0,.ptr b 0 0] = some [.fp (.fs (cs.map i)) 0,.fp (.fs R) 0] from vlc h1 (vlc h2 vln)]
 rfl
theorem rowI_set {l : List Int} {n m : Nat} {v : Int} {K : List AV → Prop} (e : n = m) (k : K (rowI (l.set m v))) : setK (rowI l) n (.d (i v)) K:=by
 subst e
 refine setK_of ?_
 have : (rowI l).set n (.d (i v)) = rowI (l.set n v):=by simp [rowI,List.map_set]
 rw [this];exact k
theorem cv_bd {t : List Nod} {k m n : Nat} (hE : ∀ x ∈ t,x.ents.length < 1000000) (hl : t.length ≤ 40) (hk : k < t.length) (hm : m < t[k].ents.length) (h : n < (cntsL t k m).length) : 0 ≤ (cntsL t k m)[n] ∧ (cntsL t k m)[n] ≤ 41000000:=by
 have h1:=hE _ (List.getElem_mem hk)
 have h2:=cntN_le (j:=n) (k:=k) (m:=m) hE (by omega)
 rw [cnts_at h];omega
theorem row_step {t : List Nod} {k m n : Nat} {v : Int} (hk : k < t.length) (hm : m < t[k].ents.length) (hn : t[k].ents[m].node = (n : Int)) (h : n < (cntsL t k m).length) (hv : v = (cntsL t k m)[n] + 1) : rowI ((cntsL t k m).set n v) = rowI (cntsL t k (m + 1)):=by
 rw [cnts_step hk hm hn (by rw [hv,cnts_at h])]
theorem good_k {t : List Nod} (hG : Good t) {k m : Nat} (hk : k < t.length) (hm : m < t[k].ents.length) : t[k].ents[m].node.toNat < (cntsL t k m).length ∧ 1 ≤ t[k].ents[m].node ∧ t[k].ents[m].node ≤ (t.length : Int) - 1 ∧ t[k].ents[m].node = ((t[k].ents[m].node.toNat : Nat) : Int):=by
 have:=good_at hG hk hm
 rw [cnts_len];omega
attribute [local irreducible] preT targE frst errN errC checkT rchF nodE namesR Good cntT setT markI sameN entF errE entsE cntsL
theorem c21p (t : List Nod) (B : Tb t) (hp : ¬ preT t = 0) : Fn 21 [treeD t] (.tup [i (checkT t).1,i (checkT t).2]):=by
 refine run_walkF eok Tryz.func21 rfl (by kernel_rfl) ?_
 conv=>whnf
 repeat' (first
 | ((with_reducible refine on_ndec_f (by assumption) ?_);conv=>whnf)
 | ((with_reducible refine call_go ?_);(first | refine call_step (run_data (xs:=[_,_]) (c53i _) _) ?_ | refine call_step (run_view (c52p t) rfl (vlc rfl vln)) ?_ );conv=>whnf)
 | (refine ⟨[],[(4,3)],(by decide +kernel),?_⟩;conv=>whnf)
 | ((with_reducible refine endx_go ?_);first | (exact endx2 (tup2 (chk_p hp));done))
 | (refine ⟨rfl,?_⟩;conv=>whnf)
  | fail
  )
theorem c21n (t : List Nod) (B : Tb t) (hp : preT t = 0) (hn : ¬ (frst (errN t) t.length 0).2 = 0) : Fn 21 [treeD t] (.tup [i (checkT t).1,i (checkT t).2]):=by
 refine run_walkF eok Tryz.func21 rfl (by kernel_rfl) ?_
 conv=>whnf
 repeat' (first
 | ((with_reducible refine on_ndec_t (by first | assumption ) ?_);conv=>whnf)
 | ((with_reducible refine on_ndec_f (by assumption) ?_);conv=>whnf)
 | ((with_reducible refine call_go ?_);(first | refine call_step (run_data (xs:=[_,_]) (c53i _) _) ?_ | refine call_step (run_view (c52p t) rfl (vlc rfl vln)) ?_ | refine call_step (run_view (c59a t B) rfl (vlc rfl (vlc rfl vln))) ?_ );conv=>whnf)
 | (refine ⟨[],[(4,3)],(by decide +kernel),?_⟩;conv=>whnf)
 | ((with_reducible refine endx_go ?_);first | (exact endx2 (tup2 (chk_m hp hn));done))
 | (refine ⟨rfl,?_⟩;conv=>whnf)
  | fail
  )
theorem c21o (t : List Nod) (B : Tb t) (hp : preT t = 0) (hn : (frst (errN t) t.length 0).2 = 0) : Fn 21 [treeD t] (.tup [i (checkT t).1,i (checkT t).2]):=by
 have hl:=pre_len hp;have hG:=hG_ok hn;have hE:=B.el
 refine run_walkF eok Tryz.func21 rfl (by kernel_rfl) ?_
 conv=>whnf
 repeat' (first
 | ((with_reducible refine on_ndec_t (by first | assumption ) ?_);conv=>whnf)
 | ((with_reducible refine on_dec (fun h=>?_) (fun h=>?_))<;>(try simp only [List.length_map] at h)<;>conv=>whnf)
 | ((with_reducible refine call_go ?_);(first | refine call_step (run_data (xs:=[_,_]) (c53i _) _) ?_ | refine call_step (run_view (c52p t) rfl (vlc rfl vln)) ?_ | refine call_step (run_view (c59a t B) rfl (vlc rfl (vlc rfl vln))) ?_ | refine call_step (run_view (c59b t B (rchF t 0) (cntsL t k 0) (rch_len t 0) (cnts_len t k 0) (fun j h=>cnts_end (by omega) h)) rfl (vlc rfl (vlc (view_62 rfl rfl (cnts_len t k 0).symm rfl) vln))) ?_ | refine call_step (run_data (xs:=[_,_]) (c58 t 0 hG (by omega) (by omega) B.el) _) ?_);conv=>whnf)
 | (refine ⟨[],[(4,3)],(by decide +kernel),?_⟩;conv=>whnf)
 | ((with_reducible refine loop_go ?_);first | (refine loop1 (fun (m : Nat)=>(t[k]'(by omega)).ents.length - m) (fun (m : Nat)=>m ≤ (t[k]'(by omega)).ents.length) (fun (m : Nat)=>[(1,.ptr 0 0 0),(7,.ptr 2 0 0),(39,.d (treeD t)),(40,.d (i t.length)),(41,.d (i k)),(46,.d (.fs ((t[k]'(by omega)).ents.map Ent.enc))),(47,.d (i (t[k]'(by omega)).ents.length)),(48,.d (i m))]) (fun (m : Nat)=>[⟨[.d (treeD t)],1,0⟩,⟨rowI (cntsL t k m),1,0⟩,⟨[.sl 1 0 t.length 1 (some t.length)],1,0⟩]) (0) (by exact Nat.zero_le _) ?_ (fun m Cm hIm hCm=>?_);(exact ⟨[.old 0,.old 1,.old 2],rfl,rfl,⟨⟨rfl,rfl,rfl⟩,⟨rfl,rfl,rfl⟩,(by first | (show (_ : D) = _;with_reducible rfl) ),(by first | (show (_ : D) = _;with_reducible rfl) ),(by first | (show (_ : D) = _;with_reducible rfl) ),(by first | (show (_ : D) = _;with_reducible rfl) ),(congrArg (D.int .i64) (by simp only [List.length_map])),(by first | exact congrArg (D.int .i64) (by omega) ),trivial⟩,⟨⟨rfl,rfl,.inl ⟨[_],rfl,rfl⟩⟩,⟨rfl,rfl,.inl ⟨_,rfl,rfl⟩⟩,⟨rfl,rfl,.inr ⟨⟨rfl,rfl,rfl,rfl,rfl⟩,trivial⟩⟩,trivial⟩⟩);all_goals (conv=>whnf)) | (refine loop1 (fun (k : Nat)=>t.length - k) (fun (k : Nat)=>k ≤ t.length) (fun (k : Nat)=>[(1,.ptr 0 0 0),(7,.ptr 2 0 0),(39,.d (treeD t)),(40,.d (i t.length)),(41,.d (i k))]) (fun (k : Nat)=>[⟨[.d (treeD t)],1,0⟩,⟨rowI (cntsL t k 0),1,0⟩,⟨[.sl 1 0 t.length 1 (some t.length)],1,0⟩]) (0) (by exact Nat.zero_le _) ?_ (fun k C hI hC=>?_);(exact ⟨[.old 0,.old 2,.old 3],rfl,rfl,⟨⟨rfl,rfl,rfl⟩,⟨rfl,rfl,rfl⟩,(by first | (show (_ : D) = _;with_reducible rfl) ),(congrArg (D.int .i64) (by simp only [List.length_map])),(by first | exact congrArg (D.int .i64) (by omega) ),trivial⟩,⟨⟨rfl,rfl,.inl ⟨[_],rfl,rfl⟩⟩,⟨rfl,rfl,.inl ⟨_,rfl,(by rw [cnts_0])⟩⟩,⟨rfl,rfl,.inr ⟨⟨rfl,rfl,(by simp),rfl,(by simp)⟩,trivial⟩⟩,trivial⟩⟩);all_goals (conv=>whnf)))
 | ((with_reducible show C _ _);first | (refine hC (k + 1) _ _ ?_ (by omega) ?_;clear hC;rotate_left;(exact ⟨[.old 0,.old 1,.old 2],rfl,rfl,⟨⟨rfl,rfl,rfl⟩,⟨rfl,rfl,rfl⟩,(by first | (show (_ : D) = _;with_reducible rfl) ),(by first | (show (_ : D) = _;with_reducible rfl) ),(by first | exact congrArg (D.int .i64) (by omega) ),trivial⟩,⟨⟨rfl,rfl,.inl ⟨[_],rfl,rfl⟩⟩,⟨rfl,rfl,.inl ⟨_,rfl,(congrArg rowI (cnts_next (by omega) (by omega)).symm)⟩⟩,⟨rfl,rfl,.inr ⟨⟨rfl,rfl,rfl,rfl,rfl⟩,trivial⟩⟩,trivial⟩⟩);(exact (by omega : k + 1 ≤ t.length))))
 | ((with_reducible show Cm _ _);first | (refine hCm (m + 1) _ _ ?_ (by omega) ?_;clear hCm;rotate_left;(exact ⟨[.old 0,.old 1,.old 2],rfl,rfl,⟨⟨rfl,rfl,rfl⟩,⟨rfl,rfl,rfl⟩,(by first | (show (_ : D) = _;with_reducible rfl) ),(by first | (show (_ : D) = _;with_reducible rfl) ),(by first | (show (_ : D) = _;with_reducible rfl) ),(by first | (show (_ : D) = _;with_reducible rfl) ),(by first | (show (_ : D) = _;with_reducible rfl) ),(by first | exact congrArg (D.int .i64) (by omega) ),trivial⟩,⟨⟨rfl,rfl,.inl ⟨[_],rfl,rfl⟩⟩,⟨rfl,rfl,.inl ⟨_,rfl,(row_step (by omega) (by omega) (good_k hG (by omega) (by omega)).2.2.2 (good_k hG (by omega) (by omega)).1 rfl).symm⟩⟩,⟨rfl,rfl,.inr ⟨⟨rfl,rfl,rfl,rfl,rfl⟩,trivial⟩⟩,trivial⟩⟩);(exact (by omega : m + 1 ≤ (t[k]'(by omega)).ents.length))))
 | (refine ix_map (by omega) ?_;conv=>whnf)
 | (refine wrap64 (by omega) ?_;conv=>whnf)
 | (refine mk_rowI (n:=t.length) (by rw [List.length_map];refine ⟨by omega,Int.le_refl _,by omega,?_⟩;show (t.length : Int) * ((8 : Nat) : Int) ≤ _;omega) (by rw [List.length_map]) ?_;conv=>whnf)
 | (refine rowI_at (l:=cntsL t k m) (m:=((t[k]'(by omega)).ents[m]'(by omega)).node.toNat) ?_ ?_ ?_;(focus omega);(focus (exact (good_k hG (by omega) (by omega)).1));conv=>whnf)
 | (refine rowI_set (l:=cntsL t k m) (m:=((t[k]'(by omega)).ents[m]'(by omega)).node.toNat) ?_ ?_;(focus omega);conv=>whnf)
 | (refine ⟨⟨by have hgk:=good_k hG (k:=k) (m:=m) (by omega) (by omega);omega,by have hgk:=good_k hG (k:=k) (m:=m) (by omega) (by omega);(try simp only [List.length_map]);omega⟩,?_⟩;conv=>whnf)
 | (refine wrap64 (by have:=cv_bd (n:=((t[k]'(by omega)).ents[m]'(by omega)).node.toNat) hE (by omega) (by omega) (by omega) (good_k hG (by omega) (by omega)).1;omega) ?_;conv=>whnf)
 | (refine wrap64 (by have:=hE _ (List.getElem_mem (by omega : k < t.length));omega) ?_;conv=>whnf)
 | ((with_reducible refine endx_go ?_);first | (exact endx2 (tup2 (chk_o hp hn));done))
 | (refine ⟨rfl,?_⟩;conv=>whnf)
  | fail
  )
theorem c21 (t : List Nod) (B : Tb t) : Fn 21 [treeD t] (.tup [i (checkT t).1,i (checkT t).2]):=by
 by_cases hp : preT t = 0
 ·by_cases hn : (frst (errN t) t.length 0).2 = 0
  ·exact c21o t B hp hn
  ·exact c21n t B hp hn
 ·exact c21p t B hp
end Go.Proofs.YtpfokhdelnlciaaGreatDoor
namespace Go.Proofs.YtpfokhdelnlciaaGreatDoor
open Go Dw
set_option maxRecDepth 10000
attribute [local irreducible] Run
set_option maxHeartbeats 1000000
open Paths
attribute [local irreducible] nameErr cut normal dots partErr text parse glue fold within
def lookE (t : List Nod) (d : Int) (s : Bs) : Int:=
 if (checkT t).2 ≠ 0 then (checkT t).2 else if within d 0 ((t.length : Int) - 1) = false then 6 else match t[d.toNat]? with
 | none=>6
 | some x=>if x.kind ≠ 0 then 35 else if nameErr s ≠ 0 then nameErr s else if look x.ents s < 0 then 6 else 0
section
variable {t : List Nod} {d : Int} {s : Bs} (h : (checkT t).2 = 0) (h2 : within d 0 ((t.length : Int) - 1) = true) {x : Nod} (hx : t[d.toNat]? = some x)
include h h2 hx
end
theorem tb_hb {t : List Nod} (B : Tb t) : ∀ x ∈ t,x.ents.length < 1000000 ∧ ∀ y ∈ x.ents,y.name.length < 1000000:=fun x hx=>⟨B.el x hx,B.nl x hx⟩
attribute [local irreducible] checkT lookE look
theorem c17 (t : List Nod) (B : Tb t) : Fn 17 [treeD t] (i (checkT t).2):=by
 refine run_walkF eok Tryz.func17 rfl (by kernel_rfl) ?_
 conv=>whnf
 repeat' (first
 | ((with_reducible refine call_go ?_);(first | refine call_step (run_data (xs:=[_]) (c23 t (tb_hb B)) _) ?_);conv=>whnf)
 | ((with_reducible refine endx_go ?_);first | (exact endx rfl;done))
  | fail
  )
theorem c50 (t : List Nod) (B : Tb t) : Fn 50 [treeD t] (i (checkT t).2):=by
 refine run_walkF eok Tryz.func50 rfl (by kernel_rfl) ?_
 conv=>whnf
 repeat' (first
 | ((with_reducible refine call_go ?_);(first | refine call_step (run_data (xs:=[_]) (c21 t B) _) ?_);conv=>whnf)
 | ((with_reducible refine endx_go ?_);first | (exact endx rfl;done))
  | fail
  )
theorem c44w {t : List Nod} {d : Int} {b : Bool} (B : Tb t) (h : within d 0 ((t.length : Int) - 1) = b) : Fn 44 [treeD t,i d] (i (if b = true then 0 else 6)):=by
 subst h;exact c44 t d B.tl
def ixI (p : Int → Bool) : List Int → Nat → Int
 | [],_=>-1
 | e :: l,k=>if p e = true then k else ixI p l (k + 1)
theorem ixI_t {p : Int → Bool} {l : List Int} {k : Nat} (hk : k < l.length) (h : p l[k] = true) : ixI p (l.drop k) k = (k : Int):=by rw [List.drop_eq_getElem_cons hk];exact if_pos h
theorem ixI_f {p : Int → Bool} {l : List Int} {k : Nat} (hk : k < l.length) (h : p l[k] = false) : ixI p (l.drop k) k = ixI p (l.drop (k + 1)) (k + 1):=by rw [List.drop_eq_getElem_cons hk];exact if_neg (by rw [h];decide)
theorem ixI_end {p : Int → Bool} {l : List Int} {k : Nat} (hk : l.length ≤ k) : ixI p (l.drop k) k = -1:=by rw [List.drop_eq_nil_of_le hk];rfl
theorem ixI_any {p : Int → Bool} : ∀ (l : List Int) (k : Nat),decide (0 ≤ ixI p l k) = l.any p
 | [],k=>by simp [ixI]
 | e :: l,k=>by
  have e1 : ixI p (e :: l) k = if p e = true then (k : Int) else ixI p l (k + 1):=rfl
  rw [List.any_cons]
  by_cases h : p e = true
  ·rw [if_pos h] at e1;rw [e1,h,Bool.true_or];exact decide_eq_true (by omega)
  ·rw [if_neg h] at e1;rw [e1,show p e = false by simpa using h,Bool.false_or];exact ixI_any l (k + 1)
def noN (t : List Nod) (n : Int) : Bool:=!within n 0 ((t.length : Int) - 1)
attribute [local irreducible] ixI
theorem c89 (t : List Nod) (B : Tb t) (n : Int) : Fn 89 [i n,.fp (treeD t) 0] (.bool (noN t n)):=by
 have hbt:=B.tl
 refine run_walkF eok Tryz.func89 rfl (by kernel_rfl) ?_
 conv=>whnf
 repeat' (first
 | ((with_reducible refine call_go ?_);(first | refine call_step (run_data (xs:=[_,_,_]) (c90 n 0 _) _) ?_);conv=>whnf)
 | (refine wrap64 (by first | (simp only [List.length_map];omega)) ?_;conv=>whnf)
 | ((with_reducible refine endx_go ?_);first | (exact endx (congrArg D.bool (by unfold noN;rw [List.length_map]));done))
  | fail
  )
theorem c125 (t : List Nod) (B : Tb t) (l : List Int) (hl : l.length < 1000000) : Fn 125 [.fs (l.map i),.fn 89 [] [.fp (treeD t) 0]] (i (ixI (noN t) l 0)):=by
 refine run_walkF eok Tryz.func125 rfl (by kernel_rfl) ?_
 conv=>whnf
 repeat' (first
 | ((with_reducible refine on_dec (fun h=>?_) (fun h=>?_))<;>(try simp only [List.length_map] at h)<;>conv=>whnf)
 | ((with_reducible refine onBool_split (fun h=>?_) (fun h=>?_))<;>conv=>whnf)
 | ((with_reducible refine loop_go ?_);first | (refine loop1 (fun (k : Nat)=>l.length - k) (fun (k : Nat)=>k ≤ l.length ∧ ixI (noN t) l 0 = ixI (noN t) (l.drop k) k) (fun (k : Nat)=>[(0,.d (.fs (l.map i))),(1,.d (.fn 89 [] [.fp (treeD t) 0])),(7,.d (i l.length)),(8,.d (i k))]) (fun (k : Nat)=>[]) (0) (by exact ⟨Nat.zero_le _,rfl⟩) ?_ (fun k C hI hC=>?_);(exact ⟨[],rfl,rfl,⟨(by first | (show (_ : D) = _;with_reducible rfl) ),(by first | (show (_ : D) = _;with_reducible rfl) ),(congrArg (D.int .i64) (by simp only [List.length_map])),(by first | exact congrArg (D.int .i64) (by omega) ),trivial⟩,trivial⟩);all_goals (conv=>whnf)))
 | ((with_reducible show C _ _);first | (refine hC (k + 1) _ _ ?_ (by omega) ?_;clear hC;rotate_left;(exact ⟨[],rfl,rfl,⟨(by first | (show (_ : D) = _;with_reducible rfl) ),(by first | (show (_ : D) = _;with_reducible rfl) ),(by first | (show (_ : D) = _;with_reducible rfl) ),(by first | exact congrArg (D.int .i64) (by omega) ),trivial⟩,trivial⟩);(exact ⟨by omega,hI.2.trans (ixI_f (by omega) (by assumption))⟩)))
 | (refine ix_map (by omega) ?_;conv=>whnf)
 | (refine wrap64 (by omega) ?_;conv=>whnf)
 | ((with_reducible refine call_go ?_);(refine call_step (run_data (xs:=[_,_]) (c89 t B (l[k]'(by omega))) _) ?_);conv=>whnf)
 | ((with_reducible refine endx_go ?_);first | (exact endx (congrArg i (hI.2.trans (ixI_t (by omega) (by assumption))).symm);done) | (exact endx (congrArg i (hI.2.trans (ixI_end (by omega))).symm);done))
  | fail
  )
theorem c91 (t : List Nod) (B : Tb t) (l : List Int) (hl : l.length < 1000000) : Fn 91 [.fs (l.map i),.fn 89 [] [.fp (treeD t) 0]] (.bool (l.any (noN t))):=by
 refine run_walkF eok Tryz.func91 rfl (by kernel_rfl) ?_
 conv=>whnf
 repeat' (first
 | ((with_reducible refine call_go ?_);(first | refine call_step (run_data (xs:=[_,_]) (c125 t B l hl) _) ?_);conv=>whnf)
 | ((with_reducible refine endx_go ?_);first | (exact endx (congrArg D.bool (ixI_any l 0));done))
  | fail
  )
theorem c57 (t : List Nod) (B : Tb t) (l : List Int) (hl : l.length < 1000000) : Fn 57 [treeD t,.fs (l.map i)] (i (if (!l.any (noN t)) = true then 0 else 6)):=by
 refine run_walkF eok Tryz.func57 rfl (by kernel_rfl) ?_
 conv=>whnf
 repeat' (first
 | ((with_reducible refine call_go ?_);(first | refine call_step (run_view (c91 t B l hl) rfl (vlc rfl (vlc rfl vln))) ?_ | refine call_step (run_data (xs:=[_,_]) (c53i _) _) ?_);conv=>whnf)
 | ((with_reducible refine endx_go ?_);first | (exact endx rfl;done))
  | fail
  )
end Go.Proofs.YtpfokhdelnlciaaGreatDoor
namespace Go.Proofs.YtpfokhdelnlciaaGreatDoor
open Go Dw
set_option maxRecDepth 10000
attribute [local irreducible] Run
set_option maxHeartbeats 1000000
open Paths
attribute [local irreducible] nameErr cut normal dots partErr text parse glue fold within
theorem ents_nm {len : Int} {l : List Ent} : ∀ (n k : Nat),n = l.length - k → entsE len l n k = 0 → ∀ j (h : j < l.length),k ≤ j → nameErr l[j].name = 0
 | 0,k,hn,_,j,h,hk=>by omega
 | n + 1,k,hn,he,j,h,hk=>by
  have hkl : k < l.length:=by omega
  rw [ents_at hkl hn] at he
  by_cases e : entE len (l.take k) l[k] = 0
  ·rw [if_neg (by simpa using e)] at he
   by_cases hj : j = k
   ·subst hj;exact entE_nm e
   ·exact ents_nm (l.length - (k + 1)) (k + 1) rfl he j h (by omega)
  ·rw [if_pos e] at he;exact absurd he e
theorem nod_nm {t : List Nod} {d : Int} {x : Nod} (h : nodE t d x = 0) : ∀ e ∈ x.ents,nameErr e.name = 0:=by
 unfold nodE at h
 split at h
 ·exact absurd h (by decide)
 ·split at h
  ·exact absurd h (by decide)
  ·split at h
   ·exact absurd h (by decide)
   ·split at h
    ·rename_i h1;exact absurd h h1
    ·rename_i h1
     intro e he
     obtain ⟨j,hj,rfl⟩:=List.getElem_of_mem he
     exact ents_nm _ 0 rfl (Classical.not_not.1 h1) j hj (Nat.zero_le _)
theorem chk_err {t : List Nod} (h : (checkT t).2 = 0) : 0 < t.length ∧ t.length ≤ 40 ∧ ∀ j,j < t.length → errN t j = 0:=by
 unfold checkT at h
 by_cases h1 : t.length = 0
 ·rw [if_pos h1] at h;exact absurd h (by decide)
 ·by_cases h2 : 40 < t.length
  ·rw [if_neg h1,if_pos h2] at h;exact absurd h (by decide)
  ·rw [if_neg h1,if_neg h2] at h
   by_cases h3 : (frst (errN t) t.length 0).2 = 0
   ·exact ⟨by omega,by omega,fun j hj=>frst_ok t.length 0 rfl h3 j (Nat.zero_le _) hj⟩
   ·rw [if_neg h3] at h;exact absurd h h3
theorem chk_nm {t : List Nod} (h : (checkT t).2 = 0) {d : Nat} {x : Nod} (hx : t[d]? = some x) : ∀ e ∈ x.ents,nameErr e.name = 0:=by
 obtain ⟨hd,rfl⟩:=List.getElem?_eq_some_iff.1 hx
 have:=(chk_err h).2.2 d hd
 rw [errN_at hd] at this
 exact nod_nm this
theorem look_ix {s : Bs} (hs : nameErr s = 0) : ∀ (l : List Ent) (k : Nat),(∀ e ∈ l,nameErr e.name = 0) → ixF (fun y=>sameN y.name s) l k = lookG l s k
 | [],k,_=>rfl
 | e :: l,k,h=>by
  have ih:=look_ix hs l (k + 1) fun y hy=>h y (by simp [hy])
  have e1 : ixF (fun y=>sameN y.name s) (e :: l) k = if sameN e.name s = true then (k : Int) else ixF (fun y=>sameN y.name s) l (k + 1):=rfl
  have e2 : lookG (e :: l) s k = if fold e.name = fold s then (k : Int) else lookG l s (k + 1):=rfl
  rw [e1,e2,ih,sameN_ok (h e (by simp)) hs]
  simp only [decide_eq_true_eq]
theorem look_ge {s : Bs} : ∀ (l : List Ent) (k : Nat),¬ lookG l s k < 0 → (k : Int) ≤ lookG l s k ∧ lookG l s k < k + l.length
 | [],k,h=>by simp [lookG] at h
 | e :: l,k,h=>by
  have e2 : lookG (e :: l) s k = if fold e.name = fold s then (k : Int) else lookG l s (k + 1):=rfl
  rw [e2] at h ⊢
  split
  ·simp only [List.length_cons];omega
  ·rename_i h1
   rw [if_neg h1] at h
   have:=look_ge l (k + 1) h
   simp only [List.length_cons];omega
theorem look_in {l : List Ent} {s : Bs} (h : ¬ look l s < 0) : 0 ≤ look l s ∧ (look l s).toNat < l.length:=by
 have:=look_ge l 0 h
 unfold look at *
 omega
def entR (l : List Ent) (s : Bs) : Ent:=(l[(look l s).toNat]?).getD ⟨[],0⟩
theorem entR_at {l : List Ent} {s : Bs} (h : (look l s).toNat < l.length) : entR l s = l[(look l s).toNat]:=by unfold entR;rw [List.getElem?_eq_getElem h];rfl
theorem c100l (l : List Ent) (s : Bs) (hs : s.length < 1000000) (hl : l.length < 1000000) (hb : ∀ y ∈ l,y.name.length < 1000000) (hv : ∀ e ∈ l,nameErr e.name = 0) (h : nameErr s = 0) : Fn 100 [.fs (l.map Ent.enc),.fn 101 [] [.fp (.str s) 0]] (i (look l s)):=by
 have:=c100e l s hs hl hb
 rwa [look_ix h l 0 hv] at this
theorem look_ix1 {l : List Ent} {s : Bs} {K : D → Prop} (h : ¬ look l s < 0) (k : K (entR l s).enc) : 0 ≤ look l s ∧ nthK (l.map Ent.enc) (look l s).toNat K:=by
 obtain ⟨h0,h1⟩:=look_in h
 rw [entR_at h1] at k
 exact ⟨h0,nthK_of (x:=Ent.enc l[(look l s).toNat]) (by simp [h1]) k⟩
attribute [local irreducible] checkT lookE look entR noN
theorem c64n (t : List Nod) (B : Tb t) (d : Int) (s : Bs) (hs : s.length < 1000000) (x : Nod) (hx : t[d.toNat]? = some x) (h0 : 0 ≤ d) (hv : ∀ e ∈ x.ents,nameErr e.name = 0) (hn : nameErr s = 0) (hf : look x.ents s < 0) : Fn 64 [treeD t,i d,.str s] (.tup [Ent.enc ⟨[],0⟩,.bool false]):=by
 refine run_walkF eok Tryz.func64 rfl (by kernel_rfl) ?_
 conv=>whnf
 repeat' (first
 | ((with_reducible refine on_dec_t (by assumption) ?_);conv=>whnf)
 | ((with_reducible refine call_go ?_);(first | refine call_step (run_view (c100l x.ents s hs (B.el _ (List.mem_of_getElem? hx)) (B.nl _ (List.mem_of_getElem? hx)) hv hn) rfl (vlc rfl (vlc rfl vln))) ?_);conv=>whnf)
 | (refine ix_nd h0 hx ?_;conv=>whnf)
 | ((with_reducible refine endx_go ?_);first | (exact endxv (view_tup (vlc (view_agg (vlc rfl (vlc rfl vln))) (vlc rfl vln))) rfl;done) )
  | fail
  )
theorem c64f (t : List Nod) (B : Tb t) (d : Int) (s : Bs) (hs : s.length < 1000000) (x : Nod) (hx : t[d.toNat]? = some x) (h0 : 0 ≤ d) (hv : ∀ e ∈ x.ents,nameErr e.name = 0) (hn : nameErr s = 0) (hf : ¬ look x.ents s < 0) : Fn 64 [treeD t,i d,.str s] (.tup [(entR x.ents s).enc,.bool true]):=by
 refine run_walkF eok Tryz.func64 rfl (by kernel_rfl) ?_
 conv=>whnf
 repeat' (first
 | ((with_reducible refine on_dec_f (by assumption) ?_);conv=>whnf)
 | ((with_reducible refine call_go ?_);(first | refine call_step (run_view (c100l x.ents s hs (B.el _ (List.mem_of_getElem? hx)) (B.nl _ (List.mem_of_getElem? hx)) hv hn) rfl (vlc rfl (vlc rfl vln))) ?_);conv=>whnf)
 | (refine ix_nd h0 hx ?_;conv=>whnf)
 | (refine look_ix1 (by assumption) ?_;conv=>whnf)
 | ((with_reducible refine endx_go ?_);first | (exact endx2 rfl;done) )
  | fail
  )
def nsE (t : List Nod) (d : Int) : Int:=if (![d].any (noN t)) = true then 0 else 6
theorem c57x {t : List Nod} (B : Tb t) (d : Int) : Fn 57 [treeD t,.fs [i d]] (i (nsE t d)):=c57 t B [d] (by simp)
theorem c57f {t : List Nod} (B : Tb t) {d : Int} (h : within d 0 ((t.length : Int) - 1) = false) : Fn 57 [treeD t,.fs [i d]] (i 6):=by
 have:=c57x B d
 have e : nsE t d = 6:=by unfold nsE noN;simp [h]
 rwa [e] at this
theorem c57t {t : List Nod} (B : Tb t) {d : Int} (h : within d 0 ((t.length : Int) - 1) = true) : Fn 57 [treeD t,.fs [i d]] (i 0):=by
 have:=c57x B d
 have e : nsE t d = 0:=by unfold nsE noN;simp [h]
 rwa [e] at this
theorem c52e {a b : Int} (h : ¬ a = 0) : Fn 52 [.fs [i a,i b]] (i a):=by
 have:=c52 [a,b] (by decide : 2 < 1000000)
 have e : firstE [a,b] = a:=by simp [firstE,h]
 rwa [e] at this
theorem c52z {b : Int} : Fn 52 [.fs [i 0,i b]] (i b):=by
 have:=c52 [0,b] (by decide : 2 < 1000000)
 have e : firstE [0,b] = b:=by
  by_cases h : b = 0
  ·subst h;simp [firstE]
  ·simp [firstE,h]
 rwa [e] at this
theorem c50e {t : List Nod} (B : Tb t) {c : Int} (h : (checkT t).2 = c) : Fn 50 [treeD t] (i c):=by subst h;exact c50 t B
theorem c53y {p : Prop} {_ : Decidable p} (e : Int) (h : p) : Fn 53 [.bool (decide p),i e] (i 0):=by
 rw [decide_eq_true h];exact c53t e
def lookN (t : List Nod) (d : Int) (s : Bs) : Int:=if lookE t d s = 0 then (entR ((t[d.toNat]?).getD ⟨0,[],[]⟩).ents s).node else 0
attribute [local irreducible] lookN nsE
end Go.Proofs.YtpfokhdelnlciaaGreatDoor
namespace Go.Proofs.YtpfokhdelnlciaaGreatDoor
open Go Dw
set_option maxRecDepth 10000
attribute [local irreducible] Run
set_option maxHeartbeats 1000000
open Paths
attribute [local irreducible] nameErr cut normal dots partErr text parse glue fold within
theorem vl_ofn {f : AV → Option D} : ∀ {l : List AV} {r : List D},l.length = r.length → (∀ (j : Nat) (a : AV) (x : D),l[j]? = some a → r[j]? = some x → f a = some x) → vl f l = some r
 | [],[],_,_=>rfl
 | [],_ :: _,h,_=>by simp at h
 | _ :: _,[],h,_=>by simp at h
 | a :: l,x :: r,h,hf=>by
  have h1:=hf 0 a x rfl rfl
  have h2:=vl_ofn (l:=l) (r:=r) (by simpa using h) fun j a x ha hx=>hf (j + 1) a x (by simpa using ha) (by simpa using hx)
  exact vlc h1 h2
def ndA (x : Nod) (q : Nat) : AV:=.agg [.d (i x.kind),.sl q 0 x.ents.length 2 none,.d (.str x.target)]
def NdAt (H : Heap) (r : Nat) (e : Option AV) (x : Nod) : Prop:=∃ q,e = some (ndA x q) ∧ H[q]? = some ⟨(x.ents.map Ent.enc).map .d,2,0⟩ ∧ q ≠ r
def CpI (t : List Nod) (H : Heap) (k : Nat) (cv : AV) : Prop:=(k = 0 ∧ cv = .nilS) ∨ ∃ (r : Nat) (Es : List AV),cv = .sl r 0 k 3 none ∧ H[r]? = some ⟨Es,3,0⟩ ∧ Es.length = k ∧ ∀ j x,j < k → t[j]? = some x → NdAt H r Es[j]? x
theorem cp_snoc {t : List Nod} {H H' : Heap} {k r id r' : Nat} {Es Fs : List AV} (h : ∀ j x,j < k → t[j]? = some x → NdAt H r Es[j]? x) (hk : k < t.length) (hr : H'[r']? = some ⟨Fs,3,0⟩) (hl : Fs.length = k + 1) (hE : ∀ j,j < k → Fs[j]? = Es[j]?) (he : Fs[k]? = some (ndA t[k] id)) (hid : H'[id]? = some ⟨(t[k].ents.map Ent.enc).map .d,2,0⟩) (hne : id ≠ r') (hm : H.length ≤ r') (hf : ∀ q,q ≠ r → q < H.length → H'[q]? = H[q]?) : CpI t H' (k + 1) (.sl r' 0 (k + 1) 3 none):=by
 refine .inr ⟨r', Fs, rfl, hr, hl, fun j x hj hx => ?_⟩
 by_cases e : j < k
 ·obtain ⟨q,h1,h2,h3⟩:=h j x e hx
  have hq : q < H.length:=(List.getElem?_eq_some_iff.1 h2).1
  exact ⟨q,by rw [hE j e];exact h1,by rw [hf q h3 hq];exact h2,by omega⟩
 ·have : j = k:=by omega
  subst this
  rw [List.getElem?_eq_getElem hk] at hx
  cases hx
  exact ⟨id,he,hid,hne⟩
theorem cp_view {t : List Nod} {H : Heap} {k : Nat} {cv : AV} (h : CpI t H k cv) (hk : k = t.length) : view 8 H cv = some (treeD t):=by
 subst hk
 rcases h with ⟨h0,rfl⟩ | ⟨r,Es,rfl,hr,hl,hN⟩
 ·have : t = []:=List.length_eq_zero_iff.1 h0
  subst this;rfl
 ·have hv : vl (view 7 H) Es = some (t.map Nod.enc):=by
   refine vl_ofn (by rw [hl,List.length_map]) fun j a x ha hx=>?_
   rw [List.getElem?_map] at hx
   cases ht : t[j]? with
   | none=>rw [ht] at hx;simp at hx
   | some y=>
    rw [ht] at hx
    simp only [Option.map_some,Option.some.injEq] at hx
    subst hx
    obtain ⟨q,h1,h2,_⟩:=hN j y (List.getElem?_eq_some_iff.1 ht).1 ht
    rw [ha] at h1
    cases h1
    exact view_agg (vlc rfl (vlc (view_map (n:=4) (f:=Ent.enc) h2 Nat.two_pos) (vlc rfl vln)))
  show (match H[r]? with
   | some o=>if o.st < 2 then (if 0 + t.length ≤ o.elems.length then (vl (view 7 H) ((o.elems.drop 0).take t.length)).map D.fs else none) else none
   | none=>none) = _
  simp only [hr]
  rw [if_pos (by decide),if_pos (by omega),List.drop_zero,List.take_of_length_le (by omega),hv];rfl
theorem cp_at {l : List AV} {x : Nod} {q n k : Nat} (h : l.length = k) (hn : n = x.ents.length) : (l ++ [.agg [.d (i x.kind),.sl q 0 n 2 none,.d (.str x.target)]])[k]? = some (ndA x q):=by
 subst h;subst hn;simp [ndA]
theorem cp_at0 {x : Nod} {q n k : Nat} (h : k = 0) (hn : n = x.ents.length) : ([.agg [.d (i x.kind),.sl q 0 n 2 none,.d (.str x.target)]] : List AV)[k]? = some (ndA x q):=by
 subst h;subst hn;rfl
theorem cp_old {l l' : List AV} {k j : Nat} (h : l.length = k) (hj : j < k) : (l ++ l')[j]? = l[j]?:=List.getElem?_append_left (by omega)
attribute [local irreducible] newD NdAt
theorem c13 (t : List Nod) (B : Tb t) : Fn 13 [treeD t] (treeD t):=by
 have hbt:=B.tl;have hbe:=B.el
 refine run_walkF eok Tryz.func13 rfl (by kernel_rfl) ?_
 conv=>whnf
 repeat' (first
 | ((with_reducible refine on_dec_f ?_ ?_);(focus ((try simp only [List.length_map,List.length_cons,List.length_nil,List.length_append]);omega));conv=>whnf)
 | ((with_reducible refine on_dec (fun h=>?_) (fun h=>?_))<;>(try simp only [List.length_map] at h)<;>conv=>whnf)
 | (refine ⟨[],[(5,12),(17,12)],(by decide +kernel),?_⟩;conv=>whnf)
 | ((with_reducible refine loop_go ?_);first | (apply loopG2 (fun (k : Nat) (cv : AV) (H : Heap)=>t.length - k) (fun (k : Nat) (cv : AV) (H : Heap)=>k ≤ t.length ∧ CpI t H k cv) (fun (k : Nat) (cv : AV) (H : Heap)=>[(0,.d (treeD t)),(3,cv),(4,.d (i k))]) (0) (.nilS) ([]);rotate_left;(focus (exact .inl ⟨rfl,⟨(by first | rfl ),(by first | rfl ),(by first | rfl ),trivial⟩⟩));rotate_left;(focus (exact ⟨Nat.zero_le _,.inl ⟨rfl,rfl⟩⟩));intro k cv H C hI hC;obtain ⟨hk,hI2⟩:=hI;rcases hI2 with ⟨hk0,rfl⟩ | ⟨r,Es,rfl,hr,hE,hN⟩;rotate_left;have hlr:=lt_of_at hr;rotate_left;all_goals (conv=>whnf)))
 | ((with_reducible show C _ _);first | (refine hC (k + 1) (.sl n 0 (k + 1) 3 none) _ _ ?_ (by omega) ?_;clear hC;rotate_left;(exact ⟨(by first | rfl ),(by subst hk0;rfl),(by first | rfl ),trivial⟩);(refine ⟨by omega,cp_snoc (Fs:=?_) (id:=?_) (H:=[]) (r:=0) (Es:=[]) (by intro j x hj;omega) (by omega) ?_ ?_ ?_ ?_ ?_ ?_ ?_ ?_⟩;rotate_left 2;(focus assumption);(focus (simp only [List.length_cons,List.length_nil];omega));(focus (intro j hj;omega));(focus (refine cp_at0 (x:=t[k]'(by omega)) hk0 ?_;simp only [List.length_map]));(focus (repeat (first | assumption | refine look_new (by assumption) (by omega) ?_ )));(focus omega);(focus exact Nat.zero_le _);(focus (intro q hq hlt;simp only [List.length_nil] at hlt;omega)))) | (refine hC (k + 1) (.sl n 0 (k + 1) 3 none) _ _ ?_ (by omega) ?_;clear hC;rotate_left;(exact ⟨(by first | rfl ),(by first | rfl ),(by first | rfl ),trivial⟩);(refine ⟨by omega,cp_snoc (Fs:=?_) (id:=?_) hN (by omega) ?_ ?_ ?_ ?_ ?_ ?_ ?_ ?_⟩;rotate_left 2;(focus assumption);(focus (simp only [List.length_append,List.length_cons,List.length_nil];omega));(focus (intro j hj;exact cp_old hE hj));(focus (refine cp_at (x:=t[k]'(by omega)) hE ?_;simp only [List.length_map]));(focus (repeat (first | assumption | refine look_new (by assumption) (by omega) ?_ | refine look_set (by assumption) (by omega) ?_)));(focus omega);(focus omega);(focus (intro q hq hlt;(repeat (first | rfl | refine look_new (by assumption) (by omega) ?_ | refine look_set (by assumption) (by omega) ?_)))))))
 | (refine ⟨(by intro y hy;obtain ⟨x,_,rfl⟩:=List.mem_map.1 hy;first | exact ⟨rfl,rfl⟩),?_⟩;conv=>whnf)
 | (refine ix_map (by omega) ?_;conv=>whnf)
 | (refine wrap64 (by omega) ?_;conv=>whnf)
 | (refine newG (fun n H hn hl hf ho=>?_);conv=>whnf)
 | (refine setG (by omega) (fun H hl hf ho=>?_);conv=>whnf)
 | (refine nthG (x:=?_) ?_ ?_;rotate_left;(focus ((repeat (first | assumption | refine look_new (by assumption) (by omega) ?_ ));done));conv=>whnf)
 | (refine ⟨Nat.le_refl _,?_⟩;conv=>whnf)
 | (refine ⟨⟨(by simp only [List.length_map,List.length_append];omega),cap_ok (by have:=B.el _ (List.getElem_mem (by omega : k < t.length));simp only [List.length_map,List.length_cons,List.length_nil,List.length_append];omega) rfl⟩,?_⟩;conv=>whnf)
 | (refine ⟨cap_ok (by have:=B.el _ (List.getElem_mem (by omega : k < t.length));simp only [List.length_map,List.length_cons,List.length_nil,List.length_append];omega) rfl,?_⟩;conv=>whnf)
 | ((with_reducible refine endx_go ?_);first | (exact endxv (cp_view (by first | exact .inl ⟨hk0,rfl⟩ | exact .inr ⟨r,Es,rfl,hr,hE,hN⟩) (by omega)) rfl;done))
  | fail
  )
end Go.Proofs.YtpfokhdelnlciaaGreatDoor
namespace Go.Proofs.YtpfokhdelnlciaaGreatDoor
open Go Dw Go.ChangeShapes Go.WideShapes Go.RowKit
set_option maxRecDepth 100000
theorem own27 : ownKnob Tryz.prog.godebug = none:=by kernel_rfl
theorem laidOut27 : laidOutB Tryz.prog = true:=by kernel_rfl
def laid27 : List (String × DataW Unit) := [("unicode/utf8.acceptRanges", Rows.laid_unicode_utf8_acceptRanges), ("unicode/utf8.first", Rows.laid_unicode_utf8_first)]
def table27 : Array Value:=(Pinned.utf8FirstZ.map fun (n : Nat)=>Value.int .u8 n).toArray
def withTable (o : Go.Obj) : Go.Obj:=match o with
 | Go.Obj.cells _ t fr=>Go.Obj.cells table27 t fr
 | o=>o
noncomputable def wit27 (os : Os) : World:=
 { World.doorLaid Tryz.prog 60 os with heap:=(World.doorLaid Tryz.prog 60 os).heap.modify 1 withTable }
theorem door_met27 (os : Os) (args : Array Value) : laidMetH Tryz.prog laid27 ((wit27 os).forCall (fun _ _=>0) ⟨#[],args,[]⟩).memory:=
 laidMetH_of_parts3 (fuel:=8) (laidMet_of_run' 8 (by kernel_rfl) (by kernel_rfl)) (by kernel_rfl) (by kernel_rfl)
theorem shaped27 (os : Os) (args : Array Value) : ((wit27 os).forCall (fun _ _=>0) ⟨#[],args,[]⟩).Shaped Tryz.prog:=
 World.shaped_of_RefB (by kernel_rfl) (by kernel_rfl)
theorem card_hl {P : Program} {nm : String} {f0 : Nat} {fn0 : Func} {lk : Bool} (h1 : P.funcNamed nm = some f0) (h2 : P.funcs[f0]? = some fn0) (h3 : lk = P.looks []) (h4 : (fn0.params.toList.all fun t=>!P.wantsStandIn t) = true) :
  ∀ f fn,P.funcNamed nm = some f → P.funcs[f]? = some fn → lk = P.looks [] ∧ ∀ (j : Nat) t,fn.params[j]? = some t → P.wantsStandIn t = false:=by
 intro f fn h5 h6
 obtain rfl : f = f0:=(Option.some.inj (h1.symm.trans h5)).symm
 obtain rfl : fn = fn0:=(Option.some.inj (h2.symm.trans h6)).symm
 refine ⟨h3,fun j t ht=>?_⟩
 have:=List.all_eq_true.1 h4 t (List.mem_of_getElem? (by simpa using ht))
 simpa using this
end Go.Proofs.YtpfokhdelnlciaaGreatDoor
namespace Go.Proofs.YtpfokhdelnlciaaGreatDoor
open Go Dw Paths
theorem map_of {α : Type} {f : α → D} : ∀ (l : List D),(∀ y ∈ l,∃ a,y = f a) → ∃ r : List α,l = r.map f
 | [],_=>⟨[],rfl⟩
 | x :: l,h=>by
  obtain ⟨a,rfl⟩:=h x (by simp)
  obtain ⟨r,rfl⟩:=map_of l fun y hy=>h y (by simp [hy])
  exact ⟨a :: r,rfl⟩
theorem shpInt {n : Nat} {x : D} (h : shp E (n + 1) 3 x) : ∃ k : Int,x = i k:=by
 obtain ⟨k,rfl,_⟩:=h
 exact ⟨k,rfl⟩
theorem shpEnt {n : Nat} {x : D} (h : shp E (n + 2) 54 x) : ∃ e : Ent,x = e.enc:=by
 obtain ⟨cs,rfl,y1,r1,⟨k1,rfl,_⟩,rfl,y2,r2,⟨k2,rfl,_⟩,rfl,rfl⟩:=h
 exact ⟨⟨k1,k2⟩,rfl⟩
theorem shpNod {n : Nat} {x : D} (h : shp E (n + 4) 41 x) : ∃ e : Nod,x = e.enc:=by
 obtain ⟨cs,rfl,y1,r1,⟨k1,rfl,_⟩,rfl,y2,r2,h2,rfl,y3,r3,⟨k3,rfl,_⟩,rfl,rfl⟩:=h
 obtain ⟨l,rfl,_,h4⟩:=h2
 obtain ⟨r,rfl⟩:=map_of l fun y hy=>shpEnt (h4 y hy)
 exact ⟨⟨k1,r,k3⟩,rfl⟩
theorem shpTree {n : Nat} {x : D} (h : shp E (n + 5) 22 x) : ∃ t : List Nod,x = treeD t:=by
 obtain ⟨l,rfl,_,h4⟩:=h
 obtain ⟨r,rfl⟩:=map_of l fun y hy=>shpNod (h4 y hy)
 exact ⟨r,rfl⟩
end Go.Proofs.YtpfokhdelnlciaaGreatDoor
