/-
  Chapter 27: ReparseWays holds at every input: no condition of ours (its card lists two tables of the library, tied to the text).
-/
import Derived.Test.YtpfokhdelnlciaaGreatDoorGrpL
set_option linter.unusedVariables false
set_option linter.unusedSimpArgs false
namespace Go.Proofs.YtpfokhdelnlciaaGreatDoor
open Go Dw
set_option maxRecDepth 10000
attribute [local irreducible] Run
set_option maxHeartbeats 1000000
open Paths
attribute [local irreducible] nameErr cut normal dots partErr text parse glue fold within
theorem sm_all : ∀ (l : List Nod) (n : Int),smGo l n = true → ∀ x ∈ l,x.ents.length ≤ 24 ∧ ∀ y ∈ x.ents,y.name.length ≤ 60
 | [],_,_,x,hx=>by cases hx
 | y :: l,n,h,x,hx=>by
  simp only [smGo] at h
  split at h
  ·cases h
  ·rename_i h1
   split at h
   ·cases h
   ·rename_i h2
    rcases List.mem_cons.1 hx with rfl | hx
    ·simp only [Bool.or_eq_true,decide_eq_true_eq] at h1
     refine ⟨by omega,fun y hy=>?_⟩
     refine Nat.le_of_not_lt fun hh=>h2 (List.any_eq_true.2 ⟨y,hy,?_⟩)
     unfold longE
     exact decide_eq_true (by omega)
    ·exact sm_all l _ h x hx
theorem tb_small {t : List Nod} (h : smallT t = true) : Tb t:=by
 unfold smallT at h
 split at h
 ·cases h
 ·rename_i h1
  have:=sm_all t 0 h
  exact ⟨by omega,fun x hx=>by have:=(this x hx).1;omega,fun x hx y hy=>by have:=(this x hx).2 y hy;omega⟩
attribute [local irreducible] checkT lookE look entR noN smallT lookN
end Go.Proofs.YtpfokhdelnlciaaGreatDoor
namespace Go.Proofs.YtpfokhdelnlciaaGreatDoor
open Go Dw
set_option maxRecDepth 10000
attribute [local irreducible] Run
set_option maxHeartbeats 1000000
open Paths
attribute [local irreducible] nameErr cut normal dots partErr text parse glue fold within
attribute [local irreducible] resP resR folR fol checkT fdR stR smallT
end Go.Proofs.YtpfokhdelnlciaaGreatDoor
namespace Go.Proofs.YtpfokhdelnlciaaGreatDoor
open Go Dw
set_option maxRecDepth 10000
attribute [local irreducible] Run
set_option maxHeartbeats 1000000
open Paths
attribute [local irreducible] nameErr cut normal dots partErr text parse glue fold within
theorem few_small {t : List Nod} (h : smallT t = true) : ∀ x ∈ t,x.ents.length ≤ 1000:=by
 unfold smallT at h
 split at h
 ·cases h
 ·exact fun x hx=>by have:=(sm_all t 0 h x hx).1;omega
theorem c20m {t : List Nod} (B : Tb t) {d n : Int} (hc : (checkT t).2 = 0) (hn : within n 0 ((t.length : Int) - 1) = false) : Fn 20 [treeD t,i d,i n] (.tup [.bool false,i 6]):=by
 cases hd : within d 0 ((t.length : Int) - 1) with
 | false=>exact c20b t B d n hc hd false hn
 | true=>exact c20c t B d n hc hd hn
theorem brU_few {t : List Nod} (V : Vt t) : (brU t t.length).length < 1000000:=by
 have:=br_len t t.length
 have:=V.len.2
 omega
theorem paths_few {t : List Nod} (V : Vt t) (hf : ∀ x ∈ t,x.ents.length ≤ 1000) (n : Int) : (pathsR t n).length < 1000000:=by
 unfold pathsR
 split
 ·show 1 < _;omega
 ·have h:=put_len (put_0 (t:=t) (n:=n))
  have h2:=posG_all V hf
  rw [(insS_perm _).length_eq]
  unfold plR
  rw [List.length_map]
  have:=List.length_filter_le (fun p : Nat × Ent=>decide (p.2.node = n)) (posG t 0)
  omega
section
variable {t : List Nod} (V : Vt t) {n : Int} {k : Nat} (hk : k < (pathsR t n).length) (hs : ¬ (200 : Int) < (pathsR t n)[k].length) (hc : ¬ (16 : Int) < (cut 47 (pathsR t n)[k]).length)
include V hk hs hc
theorem pr_at : (resR t (pathsR t n)[k] false).e = 0 ∧ (resR t (pathsR t n)[k] false).x.node = n ∧ (resR t (pathsR t n)[k] false).st = 0:=
 paths_res V (List.getElem_mem hk) (by omega) (by omega)
theorem pr_c12 : Fn 12 [treeD t,.str (pathsR t n)[k],.bool false] (.tup [(resR t (pathsR t n)[k] false).enc,i 0]):=c12e V.b (pr_at V hk hs hc).1
end
attribute [local irreducible] checkT pathsR brU brk pw resP resR nodAt belR smallT OkI
theorem c9a (t : List Nod) (d n : Int) (hf : smallT t = false) : Fn 9 [treeD t,i d,i n] (.bool true):=by
 refine run_walkF eok Tryz.func9 rfl (by kernel_rfl) ?_
 conv=>whnf
 repeat' (first
 | ((with_reducible refine on_nf (by assumption) ?_);conv=>whnf)
 | ((with_reducible refine call_go ?_);(first | refine call_step (run_data (xs:=[]) c10w _) ?_ | refine call_step (run_data (xs:=[_]) (c11 t) _) ?_ );conv=>whnf)
 | ((with_reducible refine endx_go ?_);first | (exact endx rfl;done) )
  | fail
  )
theorem c9b (t : List Nod) (d n : Int) (hf : smallT t = true) (hc : ¬ (checkT t).2 = 0) : Fn 9 [treeD t,i d,i n] (.bool true):=by
 have B:=tb_small hf
 refine run_walkF eok Tryz.func9 rfl (by kernel_rfl) ?_
 conv=>whnf
 repeat' (first
 | ((with_reducible refine on_nt (by assumption) ?_);conv=>whnf)
 | ((with_reducible refine on_ndec_f (by assumption) ?_);conv=>whnf)
 | ((with_reducible refine on_dec_t rfl ?_);conv=>whnf)
 | ((with_reducible refine call_go ?_);(first | refine call_step (run_data (xs:=[]) c10w _) ?_ | refine call_step (run_data (xs:=[_]) (c11 t) _) ?_ | refine call_step (run_data (xs:=[_]) (c13 t B) _) ?_ | refine call_step (run_data (xs:=[_,_]) (c40a t B n hc) _) ?_ | refine call_step (run_data (xs:=[_,_,_]) (c20a t B d n hc) _) ?_ | refine call_step (run_data (xs:=[_]) (c41a t B hc) _) ?_ | refine call_step (run_data (xs:=[_]) (c17 t B) _) ?_ );conv=>whnf)
 | (refine wrap64 (by decide) ?_;conv=>whnf)
 | ((with_reducible refine endx_go ?_);first | (exact endx rfl;done) )
  | fail
  )
theorem c9c (t : List Nod) (d n : Int) (hf : smallT t = true) (hc : (checkT t).2 = 0) (hn : within n 0 ((t.length : Int) - 1) = false) : Fn 9 [treeD t,i d,i n] (.bool true):=by
 have B:=tb_small hf;have V : Vt t:=⟨B,hc⟩;have h24:=few_small hf;have hbr:=brU_few V
 refine run_walkF eok Tryz.func9 rfl (by kernel_rfl) ?_
 conv=>whnf
 repeat' (first
 | ((with_reducible refine on_nt (by assumption) ?_);conv=>whnf)
 | ((with_reducible refine on_ndec_t (by first | assumption | rfl) ?_);conv=>whnf)
 | ((with_reducible refine call_go ?_);(first | refine call_step (run_data (xs:=[]) c10w _) ?_ | refine call_step (run_data (xs:=[_]) (c11 t) _) ?_ | refine call_step (run_data (xs:=[_]) (c13 t B) _) ?_ | refine call_step (run_data (xs:=[_,_]) (c40b t B n hc hn) _) ?_ | refine call_step (run_data (xs:=[_,_,_]) (c20m B hc hn) _) ?_ | refine call_step (run_data (xs:=[_]) (c41 t V h24) _) ?_ | refine call_step (run_data (xs:=[_]) (c17e B hc) _) ?_ | refine call_step (run_data (xs:=[_]) (c43 t V h24) _) ?_ | refine call_step (run_data (xs:=[_,_]) (c42 (brU t t.length) (brU t t.length) hbr hbr) _) ?_ | refine call_step (run_data (xs:=[_,_]) (c44w B hn) _) ?_ );conv=>whnf)
 | ((with_reducible refine endx_go ?_);first | (exact endx rfl;done) )
  | fail
  )
theorem c9d (t : List Nod) (d n : Int) (hf : smallT t = true) (hc : (checkT t).2 = 0) (hn : within n 0 ((t.length : Int) - 1) = true) (hd : within d 0 ((t.length : Int) - 1) = false) : Fn 9 [treeD t,i d,i n] (.bool true):=by
 have B:=tb_small hf;have V : Vt t:=⟨B,hc⟩;have h24:=few_small hf;have hbr:=brU_few V;have hpf:=paths_few V h24 n
 refine run_walkF eok Tryz.func9 rfl (by kernel_rfl) ?_
 conv=>whnf
 repeat' (first
 | ((with_reducible refine on_nt (by assumption) ?_);conv=>whnf)
 | ((with_reducible refine on_ndec_t (by first | assumption | rfl) ?_);conv=>whnf)
 | ((with_reducible refine on_ndec_t (pr_at V (by omega) (by assumption) (by assumption)).2.1 ?_);conv=>whnf)
 | ((with_reducible refine on_ndec_t (pr_at V (by omega) (by assumption) (by assumption)).2.2 ?_);conv=>whnf)
 | ((with_reducible refine on_dec (fun h=>?_) (fun h=>?_))<;>(try simp only [List.length_map] at h)<;>conv=>whnf)
 | ((with_reducible refine call_go ?_);(first | refine call_step (run_data (xs:=[]) c10w _) ?_ | refine call_step (run_data (xs:=[_]) (c11 t) _) ?_ | refine call_step (run_data (xs:=[_]) (c13 t B) _) ?_ | refine call_step (run_data (xs:=[_,_]) (c40c t B n h24 hc hn) _) ?_ | refine call_step (run_data (xs:=[_,_,_]) (c20b t B d n hc hd true hn) _) ?_ | refine call_step (run_data (xs:=[_]) (c41 t V h24) _) ?_ | refine call_step (run_data (xs:=[_]) (c17e B hc) _) ?_ | refine call_step (run_data (xs:=[_]) (c43 t V h24) _) ?_ | refine call_step (run_data (xs:=[_,_]) (c42 (brU t t.length) (brU t t.length) hbr hbr) _) ?_ | refine call_step (run_data (xs:=[_,_]) (c44w B hn) _) ?_ | refine call_step (run_data (xs:=[_,_]) (c44w B hd) _) ?_ | refine call_step (run_data (xs:=[_,_]) (c46 V h24 n) _) ?_ | refine call_step (run_data (xs:=[_,_]) (c45 (pathsR t n) (pathsR t n) hpf hpf) _) ?_ | refine call_step (run_data (xs:=[_,_]) (c47 ((pathsR t n)[k]'(by omega)) 47 (by omega)) _) ?_ | refine call_step (run_data (xs:=[_,_,_]) (pr_c12 V (by omega) (by assumption) (by assumption)) _) ?_ );conv=>whnf)
 | (refine ⟨[],[(10,1),(10,6),(5,1)],(by decide +kernel),?_⟩;conv=>whnf)
 | ((with_reducible refine loop_go ?_);first | (refine loop1 (fun (k : Nat)=>(pathsR t n).length - k) (fun (k : Nat)=>k ≤ (pathsR t n).length) (fun (k : Nat)=>[(0,.d (treeD t)),(1,.d (i d)),(2,.d (i n)),(7,.d (strL (pathsR t n))),(9,.d (.bool false)),(10,.d (i 6)),(14,.d (i k))]) (fun (k : Nat)=>[]) (0) (by exact Nat.zero_le _) ?_ (fun k C hI hC=>?_);(exact ⟨[],rfl,rfl,⟨(by first | (show (_ : D) = _;with_reducible rfl) ),(by first | (show (_ : D) = _;with_reducible rfl) ),(by first | (show (_ : D) = _;with_reducible rfl) ),(by first | (show (_ : D) = _;with_reducible rfl) ),(by first | (show (_ : D) = _;with_reducible rfl) ),(by first | (show (_ : D) = _;with_reducible rfl) ),(by first | exact congrArg (D.int .i64) (by omega) ),trivial⟩,trivial⟩);all_goals (conv=>whnf)))
 | ((with_reducible show C _ _);first | (refine hC (k + 1) _ _ ?_ (by omega) ?_;clear hC;rotate_left;(exact ⟨[],rfl,rfl,⟨(by first | (show (_ : D) = _;with_reducible rfl) ),(by first | (show (_ : D) = _;with_reducible rfl) ),(by first | (show (_ : D) = _;with_reducible rfl) ),(by first | (show (_ : D) = _;with_reducible rfl) ),(by first | (show (_ : D) = _;with_reducible rfl) ),(by first | (show (_ : D) = _;with_reducible rfl) ),(by first | exact congrArg (D.int .i64) (by omega) ),trivial⟩,trivial⟩);(exact by omega)))
 | (refine ix_map (by omega) ?_;conv=>whnf)
 | (refine wrap64 (by omega) ?_;conv=>whnf)
 | ((with_reducible refine endx_go ?_);first | (exact endx rfl;done) )
 | (refine ⟨rfl,?_⟩;conv=>whnf)
  | fail
  )
theorem c9e (t : List Nod) (d n : Int) (hf : smallT t = true) (hc : (checkT t).2 = 0) (hn : within n 0 ((t.length : Int) - 1) = true) (hd : within d 0 ((t.length : Int) - 1) = true) (hk : ¬ (nodAt t d).kind = 0) : Fn 9 [treeD t,i d,i n] (.bool true):=by
 have B:=tb_small hf;have V : Vt t:=⟨B,hc⟩;have h24:=few_small hf;have hbr:=brU_few V;have hpf:=paths_few V h24 n
 refine run_walkF eok Tryz.func9 rfl (by kernel_rfl) ?_
 conv=>whnf
 repeat' (first
 | ((with_reducible refine on_nt (by assumption) ?_);conv=>whnf)
 | ((with_reducible refine on_ndec_t (by first | assumption | rfl) ?_);conv=>whnf)
 | ((with_reducible refine on_ndec_f (by assumption) ?_);conv=>whnf)
 | ((with_reducible refine on_ndec_t (pr_at V (by omega) (by assumption) (by assumption)).2.1 ?_);conv=>whnf)
 | ((with_reducible refine on_ndec_t (pr_at V (by omega) (by assumption) (by assumption)).2.2 ?_);conv=>whnf)
 | ((with_reducible refine on_dec (fun h=>?_) (fun h=>?_))<;>(try simp only [List.length_map] at h)<;>conv=>whnf)
 | ((with_reducible refine call_go ?_);(first | refine call_step (run_data (xs:=[]) c10w _) ?_ | refine call_step (run_data (xs:=[_]) (c11 t) _) ?_ | refine call_step (run_data (xs:=[_]) (c13 t B) _) ?_ | refine call_step (run_data (xs:=[_,_]) (c40c t B n h24 hc hn) _) ?_ | refine call_step (run_data (xs:=[_,_,_]) (c20d t B d n hc hd hn hk) _) ?_ | refine call_step (run_data (xs:=[_]) (c41 t V h24) _) ?_ | refine call_step (run_data (xs:=[_]) (c17e B hc) _) ?_ | refine call_step (run_data (xs:=[_]) (c43 t V h24) _) ?_ | refine call_step (run_data (xs:=[_,_]) (c42 (brU t t.length) (brU t t.length) hbr hbr) _) ?_ | refine call_step (run_data (xs:=[_,_]) (c44w B hn) _) ?_ | refine call_step (run_data (xs:=[_,_]) (c44w B hd) _) ?_ | refine call_step (run_data (xs:=[_,_]) (c46 V h24 n) _) ?_ | refine call_step (run_data (xs:=[_,_]) (c45 (pathsR t n) (pathsR t n) hpf hpf) _) ?_ | refine call_step (run_data (xs:=[_,_]) (c47 ((pathsR t n)[k]'(by omega)) 47 (by omega)) _) ?_ | refine call_step (run_data (xs:=[_,_,_]) (pr_c12 V (by omega) (by assumption) (by assumption)) _) ?_ );conv=>whnf)
 | (refine ⟨[],[(10,1),(10,6),(5,1)],(by decide +kernel),?_⟩;conv=>whnf)
 | ((with_reducible refine loop_go ?_);first | (refine loop1 (fun (k : Nat)=>(pathsR t n).length - k) (fun (k : Nat)=>k ≤ (pathsR t n).length) (fun (k : Nat)=>[(0,.d (treeD t)),(1,.d (i d)),(2,.d (i n)),(7,.d (strL (pathsR t n))),(9,.d (.bool false)),(10,.d (i 35)),(14,.d (i k))]) (fun (k : Nat)=>[]) (0) (by exact Nat.zero_le _) ?_ (fun k C hI hC=>?_);(exact ⟨[],rfl,rfl,⟨(by first | (show (_ : D) = _;with_reducible rfl) ),(by first | (show (_ : D) = _;with_reducible rfl) ),(by first | (show (_ : D) = _;with_reducible rfl) ),(by first | (show (_ : D) = _;with_reducible rfl) ),(by first | (show (_ : D) = _;with_reducible rfl) ),(by first | (show (_ : D) = _;with_reducible rfl) ),(by first | exact congrArg (D.int .i64) (by omega) ),trivial⟩,trivial⟩);all_goals (conv=>whnf)))
 | ((with_reducible show C _ _);first | (refine hC (k + 1) _ _ ?_ (by omega) ?_;clear hC;rotate_left;(exact ⟨[],rfl,rfl,⟨(by first | (show (_ : D) = _;with_reducible rfl) ),(by first | (show (_ : D) = _;with_reducible rfl) ),(by first | (show (_ : D) = _;with_reducible rfl) ),(by first | (show (_ : D) = _;with_reducible rfl) ),(by first | (show (_ : D) = _;with_reducible rfl) ),(by first | (show (_ : D) = _;with_reducible rfl) ),(by first | exact congrArg (D.int .i64) (by omega) ),trivial⟩,trivial⟩);(exact by omega)))
 | (refine ix_map (by omega) ?_;conv=>whnf)
 | (refine wrap64 (by omega) ?_;conv=>whnf)
 | (refine ix_nd (okI_w.1 hd).nn (okI_w.1 hd).get ?_;conv=>whnf)
 | ((with_reducible refine endx_go ?_);first | (exact endx rfl;done) )
 | (refine ⟨rfl,?_⟩;conv=>whnf)
  | fail
  )
theorem c9f (t : List Nod) (d n : Int) (hf : smallT t = true) (hc : (checkT t).2 = 0) (hn : within n 0 ((t.length : Int) - 1) = true) (hd : within d 0 ((t.length : Int) - 1) = true) (hk : (nodAt t d).kind = 0) : Fn 9 [treeD t,i d,i n] (.bool true):=by
 have B:=tb_small hf;have V : Vt t:=⟨B,hc⟩;have h24:=few_small hf;have hbr:=brU_few V;have hpf:=paths_few V h24 n
 refine run_walkF eok Tryz.func9 rfl (by kernel_rfl) ?_
 conv=>whnf
 repeat' (first
 | ((with_reducible refine on_nt (by assumption) ?_);conv=>whnf)
 | ((with_reducible refine on_ndec_t (by first | assumption | rfl) ?_);conv=>whnf)
 | ((with_reducible refine on_ndec_t (pr_at V (by omega) (by assumption) (by assumption)).2.1 ?_);conv=>whnf)
 | ((with_reducible refine on_ndec_t (pr_at V (by omega) (by assumption) (by assumption)).2.2 ?_);conv=>whnf)
 | ((with_reducible refine on_dec (fun h=>?_) (fun h=>?_))<;>(try simp only [List.length_map] at h)<;>conv=>whnf)
 | ((with_reducible refine call_go ?_);(first | refine call_step (run_data (xs:=[]) c10w _) ?_ | refine call_step (run_data (xs:=[_]) (c11 t) _) ?_ | refine call_step (run_data (xs:=[_]) (c13 t B) _) ?_ | refine call_step (run_data (xs:=[_,_]) (c40c t B n h24 hc hn) _) ?_ | refine call_step (run_data (xs:=[_,_,_]) (c20e t B d n hc hd hn hk) _) ?_ | refine call_step (run_data (xs:=[_]) (c41 t V h24) _) ?_ | refine call_step (run_data (xs:=[_]) (c17e B hc) _) ?_ | refine call_step (run_data (xs:=[_]) (c43 t V h24) _) ?_ | refine call_step (run_data (xs:=[_,_]) (c42 (brU t t.length) (brU t t.length) hbr hbr) _) ?_ | refine call_step (run_data (xs:=[_,_]) (c44w B hn) _) ?_ | refine call_step (run_data (xs:=[_,_]) (c44w B hd) _) ?_ | refine call_step (run_data (xs:=[_,_]) (c46 V h24 n) _) ?_ | refine call_step (run_data (xs:=[_,_]) (c45 (pathsR t n) (pathsR t n) hpf hpf) _) ?_ | refine call_step (run_data (xs:=[_,_]) (c47 ((pathsR t n)[k]'(by omega)) 47 (by omega)) _) ?_ | refine call_step (run_data (xs:=[_,_,_]) (pr_c12 V (by omega) (by assumption) (by assumption)) _) ?_ | refine call_step (run_data (xs:=[_,_,_]) (c48d V (okI_w.1 hd) (okI_w.1 hn) hk) _) ?_);conv=>whnf)
 | (refine ⟨[],[(10,1),(10,6),(5,1)],(by decide +kernel),?_⟩;conv=>whnf)
 | ((with_reducible refine loop_go ?_);first | (refine loop1 (fun (k : Nat)=>(pathsR t n).length - k) (fun (k : Nat)=>k ≤ (pathsR t n).length) (fun (k : Nat)=>[(0,.d (treeD t)),(1,.d (i d)),(2,.d (i n)),(7,.d (strL (pathsR t n))),(9,.d (.bool (belR t d n))),(10,.d (i 0)),(14,.d (i k))]) (fun (k : Nat)=>[]) (0) (by exact Nat.zero_le _) ?_ (fun k C hI hC=>?_);(exact ⟨[],rfl,rfl,⟨(by first | (show (_ : D) = _;with_reducible rfl) ),(by first | (show (_ : D) = _;with_reducible rfl) ),(by first | (show (_ : D) = _;with_reducible rfl) ),(by first | (show (_ : D) = _;with_reducible rfl) ),(by first | (show (_ : D) = _;with_reducible rfl) ),(by first | (show (_ : D) = _;with_reducible rfl) ),(by first | exact congrArg (D.int .i64) (by omega) ),trivial⟩,trivial⟩);all_goals (conv=>whnf)))
 | ((with_reducible show C _ _);first | (refine hC (k + 1) _ _ ?_ (by omega) ?_;clear hC;rotate_left;(exact ⟨[],rfl,rfl,⟨(by first | (show (_ : D) = _;with_reducible rfl) ),(by first | (show (_ : D) = _;with_reducible rfl) ),(by first | (show (_ : D) = _;with_reducible rfl) ),(by first | (show (_ : D) = _;with_reducible rfl) ),(by first | (show (_ : D) = _;with_reducible rfl) ),(by first | (show (_ : D) = _;with_reducible rfl) ),(by first | exact congrArg (D.int .i64) (by omega) ),trivial⟩,trivial⟩);(exact by omega)))
 | (refine ix_map (by omega) ?_;conv=>whnf)
 | (refine wrap64 (by omega) ?_;conv=>whnf)
 | (refine ix_nd (okI_w.1 hd).nn (okI_w.1 hd).get ?_;conv=>whnf)
 | ((with_reducible refine endx_go ?_);first | (exact endx (congrArg D.bool (decide_eq_true rfl));done) )
 | (refine ⟨rfl,?_⟩;conv=>whnf)
  | fail
  )
theorem c9 (t : List Nod) (d n : Int) : Fn 9 [treeD t,i d,i n] (.bool true):=by
 cases hf : smallT t with
 | false=>exact c9a t d n hf
 | true=>
  by_cases hc : (checkT t).2 = 0
  ·cases hn : within n 0 ((t.length : Int) - 1) with
   | false=>exact c9c t d n hf hc hn
   | true=>
    cases hd : within d 0 ((t.length : Int) - 1) with
    | false=>exact c9d t d n hf hc hn hd
    | true=>
     by_cases hk : (nodAt t d).kind = 0
     ·exact c9f t d n hf hc hn hd hk
     ·exact c9e t d n hf hc hn hd hk
  ·exact c9b t d n hf hc
end Go.Proofs.YtpfokhdelnlciaaGreatDoor
namespace Go.Proofs.YtpfokhdelnlciaaGreatDoor
open Go Dw Go.ChangeShapes Go.WideShapes Go.RowKit
section
attribute [local irreducible] Run
theorem hrun9 : ∀ xs,shps E 6 Tryz.f9.params.toList xs → Run Tryz.prog 9 (xs.map .d) [] (.d (.bool true)) []:=by
 intro xs h
 obtain ⟨x1,r1,rfl,h1,x2,r2,rfl,h2,x3,r3,rfl,h3,rfl⟩:=h
 obtain ⟨t,rfl⟩:=shpTree h1
 obtain ⟨d,rfl⟩:=shpInt h2
 obtain ⟨n,rfl⟩:=shpInt h3
 exact c9 t d n
end
set_option maxRecDepth 100000 in
theorem lifted9 (os : Os) (started : os.Started) (H : Type) (enc : TypeId × Value → H) :
  ReturnsInHanded {} Tryz.checked os 9 .any (fun w args=>(Rows.reparseWaysSpec.pre enc Tryz.prog Tryz.f9 [] false w args ∧ laidMetH Tryz.prog laid27 w) ∧ sizedMet enc Tryz.prog Tryz.f9 (OpenSpec.ofChange Rows.reparseWaysSpec) false w args)
   (Rows.reparseWaysSpec.post enc Tryz.prog Tryz.f9 false true false false):=by
 refine returnsInHanded_of_change_and (C:=Tryz.checked) (X:=fun w _=>laidMetH Tryz.prog laid27 w) (fun _ _ _ hh h=>h.of_heap hh) own27 started (by kernel_rfl) Tryz.func9
  (ChangeSpec.witness_shaped (enc:=enc) (C:=Tryz.checked) (os:=os) (X:=fun w _=>laidMetH Tryz.prog laid27 w) false (wit27 os) #[.slice none 0 0,.int .i64 0,.int .i64 0] 8 rfl (shaped27 os _) (by kernel_rfl) (by kernel_rfl) (by kernel_rfl) (door_met27 os _)) ?_
 intro W base args ds gs before hval hW _ _ _ _
 refine law_lift (n:=6) (t4:=4) eok Tryz.func9 (by kernel_rfl) rfl laidOut27 rfl ?_ rfl Tryz.underlying4 (by kernel_rfl) hrun9 W base args ds gs before hval hW
 intro H ds hds
 match ds,hds with
 | [a,b,c],_=>rfl
theorem over9 : Rows.ReparseWaysSaid:=
 OpenClaim.holds_of_wide 9 Tryz.f9 rfl rfl rfl rfl rfl rfl rfl ⟨rfl,rfl,rfl,rfl,rfl⟩ rfl rfl rfl rfl rfl (by kernel_rfl) Tryz.func9 (by kernel_rfl)
  (of_decide_eq_true (by kernel_rfl)) (by unfold Func.isWrapper;first | (rw [if_pos (by decide +kernel)];kernel_rfl) | (rw [if_neg (by decide +kernel)];exact ⟨rfl,rfl⟩))
  (fun os started H enc _=>lifted9 os started H enc)
theorem reparseWays_proved : Rows.ReparseWaysCardSaid:=
 Claim7.holds_tied_plain_at .later [] [.data, .pinned] true (true, "a16cbc1bcc8e620bf3fa5a01d12ddd2b9540fe44c3b039af40c111ac70deaea2") false
  over9 (fun _ h=>by cases h) (by kernel_rfl) (fun _ h=>by cases h) reparseWays_row_tie rfl ⟨rfl,rfl⟩ (by kernel_rfl) rfl
  (card_hl (f0:=9) (fn0:=Tryz.f9) (by kernel_rfl) Tryz.func9 (by kernel_rfl) (by kernel_rfl)) (by kernel_rfl)
end Go.Proofs.YtpfokhdelnlciaaGreatDoor
