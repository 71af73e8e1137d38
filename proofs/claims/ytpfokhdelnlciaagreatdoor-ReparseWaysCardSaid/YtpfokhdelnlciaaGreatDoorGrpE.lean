/-
  Own lemmas, no conditions: We, Wf, Wg, Wy, Wp.
-/
import Derived.Test.YtpfokhdelnlciaaGreatDoorGrpD
set_option linter.unusedVariables false
set_option linter.unusedSimpArgs false
namespace Go.Proofs.YtpfokhdelnlciaaGreatDoor
open Go Dw
set_option maxRecDepth 10000
attribute [local irreducible] Run
set_option maxHeartbeats 4000000
open Paths
attribute [local irreducible] nameErr cut normal
theorem lastIx {l : List Bs} (h : l ≠ []) : l.length - 1 < l.length:=by have:=List.length_pos_iff.2 h;omega
theorem cut_one {c : UInt8} {x : Bs} : (cut c x).length ≤ 1 ↔ x.contains c = false:=by
 rw [cut_len]
 have:=List.count_eq_zero (a:=c) (l:=x)
 constructor
 ·intro h
  have : x.count c = 0:=by omega
  rw [List.count_eq_zero] at this;simpa using this
 ·intro h
  have h2 : ¬ c ∈ x:=by simpa using h
  rw [List.count_eq_zero.2 h2];exact Nat.le_refl _
theorem wp_take {l : List Bs} {k : Nat} (h : wellParts (l.take k) = true) (hk : k < l.length) (h1 : ¬ l[k] = []) (h2 : ¬ (1 : Int) < (cut 58 l[k]).length) : wellParts (l.take (k + 1)) = true:=by
 unfold wellParts at h ⊢
 rw [List.take_succ_eq_append_getElem hk,List.all_append,h]
 have:=cut_one (c:=58) (x:=l[k])
 have h3 : l[k].contains 58 = false:=this.1 (by omega)
 have h4 : ¬ 58 ∈ l[k]:=by simpa using h3
 simp [h1,h4]
theorem wp_bad {l : List Bs} {k : Nat} (hk : k < l.length) (h : l[k] = [] ∨ (1 : Int) < (cut 58 l[k]).length) : wellParts l = false:=by
 unfold wellParts
 rw [List.all_eq_false]
 refine ⟨l[k],List.getElem_mem _,?_⟩
 rcases h with h | h
 ·simp [h]
 ·have:=cut_one (c:=58) (x:=l[k])
  cases hc : l[k].contains 58
  ·have:=this.2 hc;omega
  ·have h4 : 58 ∈ l[k]:=by simpa using hc
   simp [h4]
theorem pe_drop {l : List Bs} {k : Nat} (hk : k < l.length) : firstE ((l.drop k).map partErr) = if partErr l[k] = 0 then firstE ((l.drop (k + 1)).map partErr) else partErr l[k]:=by
 rw [List.drop_eq_getElem_cons hk,List.map_cons,firstE_cons]
theorem pe_dots {x : Bs} (h : dots x = true) : partErr x = 0:=if_pos h
theorem pe_name {x : Bs} (h : dots x = false) : partErr x = nameErr x:=if_neg (by rw [h];decide)
theorem restOf_c (x : UInt8) (r : Bs) : restOf (x :: r) = if x = 47 then r else x :: r:=by
 unfold restOf
 by_cases h : x = 47
 ·rw [if_pos (by rw [h];rfl),if_pos h];rfl
 ·rw [if_neg (by simpa using h),if_neg h]
theorem isAbs_c (x : UInt8) (r : Bs) : isAbs (x :: r) = decide ((x.toNat : Int) = 47):=by
 unfold isAbs
 rw [decide_eq_decide]
 show some x = some 47 ↔ _
 constructor
 ·intro h;cases h;rfl
 ·intro h;rw [u8_inj (a:=x) (b:=47) (by rw [h];rfl)]
attribute [local irreducible] wellParts partErr restOf isAbs
theorem c47r (s : Bs) (c : UInt8) (l : List Bs) (hl : cut c s = l) (hs : s.length < 1000000) : Run Tryz.prog 47 [.d (.str s),.d (u8 c)] [] (.sl 0 0 l.length 1 none) [⟨(l.map D.str).map .d,1,0⟩]:=by
 refine run_walkV eok Tryz.func47 rfl (by kernel_rfl) [] (by rfl) [] ?_
 conv=>whnf
 repeat' (first
 | ((with_reducible refine on_dec_f ?_ ?_);(focus ((try simp only [List.length_map,List.length_cons,List.length_nil,List.length_append]);omega));conv=>whnf)
 | ((with_reducible refine on_dec (fun h=>?_) (fun h=>?_))<;>(try simp only [List.length_map] at h)<;>conv=>whnf)
 | ((with_reducible refine loop_go ?_);first | (refine loop3 (fun (out : List Bs) (a : Nat) (k : Nat)=>s.length - k) (fun (out : List Bs) (a : Nat) (k : Nat)=>k ≤ s.length ∧ a ≤ k ∧ out.length ≤ k ∧ CutI c s out a k) (fun (out : List Bs) (a : Nat) (k : Nat)=>[(0,.d (.str s)),(1,.d (u8 c)),(5,.sl 0 0 out.length 1 none),(6,.d (i a)),(7,.d (i k))]) (fun (out : List Bs) (a : Nat) (k : Nat)=>[⟨(out.map D.str).map .d,1,0⟩]) ([]) (0) (0) (by exact ⟨Nat.zero_le _,Nat.le_refl _,Nat.le_refl _,CutI.zero _ _⟩) ?_ (fun out a k C hI hC=>?_);(exact ⟨[.void 1],rfl,rfl,⟨rfl,rfl,⟨rfl,rfl,rfl,rfl⟩,rfl,rfl,trivial⟩,⟨⟨rfl,rfl,(by decide),rfl⟩,trivial⟩⟩);all_goals (conv=>whnf)))
 | ((with_reducible show C _ _);first | (refine hC (out ++ [(s.take k).drop a]) (k + 1) (k + 1) _ _ ?_ (by omega) ?_;clear hC;rotate_left;(exact ⟨[.old 2],rfl,rfl,⟨(by first | (show (_ : D) = _;with_reducible rfl) ),(by first | (show (_ : D) = _;with_reducible rfl) ),⟨rfl,rfl,(by simp),rfl,rfl⟩,(by first | exact congrArg (D.int .i64) (by omega) ),(by first | exact congrArg (D.int .i64) (by omega) ),trivial⟩,⟨⟨rfl,rfl,.inr (wks_add (wksd _ _) rfl)⟩,trivial⟩⟩);(exact ⟨by omega,by omega,by simp;omega,hI.2.2.2.hit (by omega) (u8_inj h)⟩)) | (refine hC (out) (a) (k + 1) _ _ ?_ (by omega) ?_;clear hC;rotate_left;(exact ⟨[.old 0],rfl,rfl,⟨(by first | (show (_ : D) = _;with_reducible rfl) ),(by first | (show (_ : D) = _;with_reducible rfl) ),(by first | exact ⟨rfl,rfl,rfl,rfl,rfl⟩ ),(by first | (show (_ : D) = _;with_reducible rfl) ),(by first | exact congrArg (D.int .i64) (by omega) ),trivial⟩,⟨⟨rfl,rfl,.inr (wksd _ _)⟩,trivial⟩⟩);(exact ⟨by omega,by omega,by omega,hI.2.2.2.miss (by omega) (fun e=>h (by rw [e]))⟩)))
 | (refine ⟨⟨(by first | (simp;done)),cap_ok (by simp only [List.length_map,List.length_cons,List.length_nil,List.length_append];omega) rfl⟩,?_⟩;conv=>whnf)
 | (refine ix_str (by omega) ?_;conv=>whnf)
 | (refine wrap64 (by omega) ?_;conv=>whnf)
 | (refine sl_str a s.length (by omega) (by omega) (by omega) ?_;conv=>whnf)
 | (refine sl_str a k (by omega) (by omega) (by omega) ?_;conv=>whnf)
 | (refine ⟨Nat.le_refl _,?_⟩;conv=>whnf)
 | ((with_reducible refine endx_go ?_);first | (refine endX_of (.inl ⟨[.old 2],rfl,rfl,⟨⟨rfl,rfl,?_,rfl,rfl⟩,trivial⟩,⟨⟨rfl,rfl,.inr ?_⟩,trivial⟩⟩);(focus (rw [← hl,← hI.2.2.2.done (by omega)];simp));rw [← hl,← hI.2.2.2.done (by omega)];exact wks_add (wksd _ _) (congrArg D.str (by rw [List.take_length]));done))
  | fail
  )
theorem set_str {l L : List Bs} {n m : Nat} {a : Bs} {K : List AV → Prop} (e : n = m) (hL : l.set m a = L) (hk : K ((L.map D.str).map .d)) : setK ((l.map D.str).map AV.d) n (.d (.str a)) K:=by
 subst e;subst hL
 rw [setK_eq,set_row];exact hk
def res (ab : Bool) (L : List Bs) (T : Bs) : PP × Int:=if wellParts L = false then (noPP,7) else if partsErr L T ≠ 0 then (noPP,partsErr L T) else (⟨ab,L,T⟩,0)
theorem wp_nil (l : List Bs) : wellParts (l.take 0) = true:=by rw [List.take_zero];unfold wellParts;rfl
theorem wp_end {l : List Bs} {k : Nat} (h : wellParts (l.take k) = true) (hk : ¬ ((k : Int) < l.length)) : wellParts l = true:=by
 rwa [List.take_of_length_le (by omega)] at h
theorem res_bad {ab : Bool} {L : List Bs} {T : Bs} (h : wellParts L = false) : D.tup [PPe noPP,i 7] = .tup [PPe (res ab L T).1,i (res ab L T).2]:=by
 unfold res;rw [if_pos h]
theorem res_err {ab : Bool} {L : List Bs} {T : Bs} {e : Int} (h : wellParts L = true) (h2 : partsErr L T = e) (h3 : ¬ e = 0) : D.tup [PPe noPP,i e] = .tup [PPe (res ab L T).1,i (res ab L T).2]:=by
 unfold res;rw [if_neg (by rw [h];decide),if_pos (by rw [h2];exact h3),h2]
theorem res_ok {ab : Bool} {L : List Bs} {T : Bs} (h : wellParts L = true) (h2 : partsErr L T = 0) : D.tup [PPe ⟨ab,L,T⟩,i 0] = .tup [PPe (res ab L T).1,i (res ab L T).2]:=by
 unfold res;rw [if_neg (by rw [h];decide),if_neg (by rw [h2];simp)]
theorem pe_part {L : List Bs} {T : Bs} {k : Nat} (hk : k < L.length) (hi : firstE (L.map partErr) = firstE ((L.drop k).map partErr)) (hd : dots L[k] = false) (hn : ¬ nameErr L[k] = 0) : partsErr L T = nameErr L[k]:=by
 unfold partsErr
 rw [hi,pe_drop hk,pe_name hd,if_neg hn,firstE_cons,if_neg hn]
theorem pe_parts {L : List Bs} {T : Bs} {k : Nat} (hk : ¬ ((k : Int) < L.length)) (hi : firstE (L.map partErr) = firstE ((L.drop k).map partErr)) : partsErr L T = firstE [if T = [] then 0 else nameErr T,if 16 < L.length then 8 else 0]:=by
 unfold partsErr
 rw [hi,List.drop_eq_nil_of_le (by omega),List.map_nil,firstE_nil,firstE_cons,if_pos rfl]
theorem pe_tail {L : List Bs} {T : Bs} (h : ¬ ((16 : Int) < L.length)) (hT : T = [] ∨ nameErr T = 0) : firstE [if T = [] then 0 else nameErr T,if 16 < L.length then 8 else 0] = 0:=by
 rw [if_neg (show ¬ 16 < L.length by omega)]
 rcases hT with hT | hT
 ·rw [if_pos hT];rfl
 ·rw [hT];simp [firstE_cons,firstE_nil]
theorem pe_tail_8 {L : List Bs} {T : Bs} (h : (16 : Int) < L.length) (hT : T = [] ∨ nameErr T = 0) : firstE [if T = [] then 0 else nameErr T,if 16 < L.length then 8 else 0] = 8:=by
 rw [if_pos (show 16 < L.length by omega)]
 rcases hT with hT | hT
 ·rw [if_pos hT];rfl
 ·rw [hT];simp [firstE_cons,firstE_nil]
theorem pe_tail_n {L : List Bs} {T : Bs} (hT : ¬ T = []) (hn : ¬ nameErr T = 0) : firstE [if T = [] then 0 else nameErr T,if 16 < L.length then 8 else 0] = nameErr T:=by
 rw [if_neg hT,firstE_cons,if_neg hn]
theorem set_small {l L : List Bs} {m : Nat} {a : Bs} (hL : l.set m a = L) (h : ∀ y ∈ l,y.length < 1000) (ha : a.length < 1000) : ∀ y ∈ L,y.length < 1000:=by
 intro y hy
 rw [← hL] at hy
 rcases List.mem_or_eq_of_mem_set hy with hy | rfl
 ·exact h y hy
 ·exact ha
theorem cut_small {c : UInt8} {s y : Bs} {l : List Bs} (h : cut c s = l) (hs : s.length < 1000) (hy : y ∈ l) : y.length < 1000:=by
 rw [← h] at hy
 have:=(cut_mem hy).2;omega
theorem rest_len (x : UInt8) (r : Bs) : (restOf (x :: r)).length ≤ r.length + 1:=by
 rw [restOf_c];split<;>simp
theorem c30at (x : UInt8) (r q : Bs) (l cs : List Bs) (hlen : r.length ≤ 199) (h47 : ¬ x :: r = [47]) (hq : restOf (x :: r) = q) (hl : cut 47 q = l) (hcs : cut 58 (l[l.length - 1]'(lastIx (by rw [← hl];exact cut_ne _ _))) = cs) (hx : (x.toNat : Int) = 47) (h2 : 2 < cs.length) : Fn 30 [.str (x :: r)] (.tup [PPe noPP,i 7]):=by
 have hl0 : 0 < l.length:=List.length_pos_iff.2 (by rw [← hl];exact cut_ne _ _);have hll : l.length < 1000:=(by rw [← hl,cut_len];have:=List.count_le_length (a:=47) (l:=q);have:=rest_len x r;rw [hq] at this;omega);have hpl : ∀ x ∈ l,x.length < 1000:=(by intro y hy;rw [← hl] at hy;have:=(cut_mem hy).2;have:=rest_len x r;rw [hq] at this;omega);have h97t : ((x :: r).take (r.length + 1)).drop 1 = q:=(by rw [← hq,restOf_c,if_pos (u8_inj (b:=47) hx)];simp);have hql : q.length ≤ 200:=(by have:=rest_len x r;rw [hq] at this;omega)
 refine run_walkF eok Tryz.func30 rfl (by kernel_rfl) ?_
 conv=>whnf
 repeat' (first
 | ((with_reducible refine on_dec_t (by assumption) ?_);conv=>whnf)
 | ((with_reducible refine on_dec_f (by assumption) ?_);conv=>whnf)
 | ((with_reducible refine on_dec_f ?_ ?_);(focus ((try simp only [List.length_map,List.length_cons,List.length_nil,List.length_append]);omega));conv=>whnf)
 | ((with_reducible refine on_dec_t ?_ ?_);(focus ((try simp only [List.length_map,List.length_cons,List.length_nil,List.length_append]);omega));conv=>whnf)
 | ((with_reducible refine call_go ?_);(first | refine call_step (run_new (l:=l) (c47r (((x :: r).take (r.length + 1)).drop 1) 47 l (by rw [h97t,hl]) (by rw [h97t];omega)) (fun _=>rfl) rfl) ?_ | refine call_step (run_new (l:=cs) (c47r (l[l.length - 1]'(by omega)) 58 cs hcs (by have:=hpl _ (List.getElem_mem (l:=l) (n:=l.length - 1) (by omega));omega)) (fun _=>rfl) rfl) ?_ );conv=>whnf)
 | (refine wrap64 (by omega) ?_;conv=>whnf)
 | (refine sl_str 1 (r.length + 1) (by omega) (by simp) (by simp) ?_;conv=>whnf)
 | (refine ⟨Int.le_refl 0,?_⟩;conv=>whnf)
 | (refine ⟨⟨by omega,by first | omega | (simp;done)⟩,?_⟩;conv=>whnf)
 | (refine nthK_rowi (l:=l) (l.length - 1) (by omega) (by omega) ?_;conv=>whnf)
 | ((with_reducible refine endx_go ?_);first | (exact endxv rfl rfl;done))
  | fail
  )
theorem c30bt (x : UInt8) (r q : Bs) (l : List Bs) (a b : Bs) (hlen : r.length ≤ 199) (h47 : ¬ x :: r = [47]) (hq : restOf (x :: r) = q) (hl : cut 47 q = l) (hcs : cut 58 (l[l.length - 1]'(lastIx (by rw [← hl];exact cut_ne _ _))) = [a,b]) (hx : (x.toNat : Int) = 47) (h2 : dots a = true) : Fn 30 [.str (x :: r)] (.tup [PPe noPP,i 7]):=by
 have hl0 : 0 < l.length:=List.length_pos_iff.2 (by rw [← hl];exact cut_ne _ _);have hll : l.length < 1000:=(by rw [← hl,cut_len];have:=List.count_le_length (a:=47) (l:=q);have:=rest_len x r;rw [hq] at this;omega);have hpl : ∀ x ∈ l,x.length < 1000:=(by intro y hy;rw [← hl] at hy;have:=(cut_mem hy).2;have:=rest_len x r;rw [hq] at this;omega);have h97t : ((x :: r).take (r.length + 1)).drop 1 = q:=(by rw [← hq,restOf_c,if_pos (u8_inj (b:=47) hx)];simp);have hql : q.length ≤ 200:=(by have:=rest_len x r;rw [hq] at this;omega)
 refine run_walkF eok Tryz.func30 rfl (by kernel_rfl) ?_
 conv=>whnf
 repeat' (first
 | ((with_reducible refine on_dec_t (by assumption) ?_);conv=>whnf)
 | ((with_reducible refine on_dec_f (by assumption) ?_);conv=>whnf)
 | ((with_reducible refine onBool_t (by assumption) ?_);conv=>whnf)
 | ((with_reducible refine on_dec_f ?_ ?_);(focus ((try simp only [List.length_map,List.length_cons,List.length_nil,List.length_append]);omega));conv=>whnf)
 | ((with_reducible refine call_go ?_);(first | refine call_step (run_new (l:=l) (c47r (((x :: r).take (r.length + 1)).drop 1) 47 l (by rw [h97t,hl]) (by rw [h97t];omega)) (fun _=>rfl) rfl) ?_ | refine call_step (run_new (l:=[a,b]) (c47r (l[l.length - 1]'(by omega)) 58 [a,b] hcs (by have:=hpl _ (List.getElem_mem (l:=l) (n:=l.length - 1) (by omega));omega)) (fun _=>rfl) rfl) ?_ | refine call_step (run_view (c74 _) rfl rfl) ?_);conv=>whnf)
 | (refine wrap64 (by omega) ?_;conv=>whnf)
 | (refine sl_str 1 (r.length + 1) (by omega) (by simp) (by simp) ?_;conv=>whnf)
 | (refine ⟨Int.le_refl 0,?_⟩;conv=>whnf)
 | (refine ⟨⟨by omega,by first | omega | (simp;done)⟩,?_⟩;conv=>whnf)
 | (refine nthK_rowi (l:=l) (l.length - 1) (by omega) (by omega) ?_;conv=>whnf)
 | ((with_reducible refine endx_go ?_);first | (exact endxv rfl rfl;done))
  | fail
  )
theorem c30ct (x : UInt8) (r q : Bs) (l : List Bs) (a b : Bs) (hlen : r.length ≤ 199) (h47 : ¬ x :: r = [47]) (hq : restOf (x :: r) = q) (hl : cut 47 q = l) (hcs : cut 58 (l[l.length - 1]'(lastIx (by rw [← hl];exact cut_ne _ _))) = [a,b]) (hx : (x.toNat : Int) = 47) (h2 : dots a = false) (h3 : b = []) : Fn 30 [.str (x :: r)] (.tup [PPe noPP,i 7]):=by
 have hl0 : 0 < l.length:=List.length_pos_iff.2 (by rw [← hl];exact cut_ne _ _);have hll : l.length < 1000:=(by rw [← hl,cut_len];have:=List.count_le_length (a:=47) (l:=q);have:=rest_len x r;rw [hq] at this;omega);have hpl : ∀ x ∈ l,x.length < 1000:=(by intro y hy;rw [← hl] at hy;have:=(cut_mem hy).2;have:=rest_len x r;rw [hq] at this;omega);have h97t : ((x :: r).take (r.length + 1)).drop 1 = q:=(by rw [← hq,restOf_c,if_pos (u8_inj (b:=47) hx)];simp);have hql : q.length ≤ 200:=(by have:=rest_len x r;rw [hq] at this;omega)
 refine run_walkF eok Tryz.func30 rfl (by kernel_rfl) ?_
 conv=>whnf
 repeat' (first
 | ((with_reducible refine on_dec_t (by assumption) ?_);conv=>whnf)
 | ((with_reducible refine on_dec_f (by assumption) ?_);conv=>whnf)
 | ((with_reducible refine onBool_f (by assumption) ?_);conv=>whnf)
 | ((with_reducible refine on_dec_f ?_ ?_);(focus ((try simp only [List.length_map,List.length_cons,List.length_nil,List.length_append]);omega));conv=>whnf)
 | ((with_reducible refine onBool_split (fun h=>?_) (fun h=>?_))<;>conv=>whnf)
 | ((with_reducible refine call_go ?_);(first | refine call_step (run_new (l:=l) (c47r (((x :: r).take (r.length + 1)).drop 1) 47 l (by rw [h97t,hl]) (by rw [h97t];omega)) (fun _=>rfl) rfl) ?_ | refine call_step (run_new (l:=[a,b]) (c47r (l[l.length - 1]'(by omega)) 58 [a,b] hcs (by have:=hpl _ (List.getElem_mem (l:=l) (n:=l.length - 1) (by omega));omega)) (fun _=>rfl) rfl) ?_ | refine call_step (run_view (c74 _) rfl rfl) ?_);conv=>whnf)
 | (refine ⟨[],[],(by decide +kernel),?_⟩;conv=>whnf)
 | (refine wrap64 (by omega) ?_;conv=>whnf)
 | (exact absurd h3 (of_decide_eq_false h))
 | (refine sl_str 1 (r.length + 1) (by omega) (by simp) (by simp) ?_;conv=>whnf)
 | (refine ⟨Int.le_refl 0,?_⟩;conv=>whnf)
 | (refine ⟨⟨by omega,by first | omega | (simp;done)⟩,?_⟩;conv=>whnf)
 | (refine nthK_rowi (l:=l) (l.length - 1) (by omega) (by omega) ?_;conv=>whnf)
 | ((with_reducible refine endx_go ?_);first | (exact endxv rfl rfl;done) )
  | fail
  )
theorem c30af (x : UInt8) (r q : Bs) (l cs : List Bs) (hlen : r.length ≤ 199) (h47 : ¬ x :: r = [47]) (hq : restOf (x :: r) = q) (hl : cut 47 q = l) (hcs : cut 58 (l[l.length - 1]'(lastIx (by rw [← hl];exact cut_ne _ _))) = cs) (hx : ¬ (x.toNat : Int) = 47) (h2 : 2 < cs.length) : Fn 30 [.str (x :: r)] (.tup [PPe noPP,i 7]):=by
 have hl0 : 0 < l.length:=List.length_pos_iff.2 (by rw [← hl];exact cut_ne _ _);have hll : l.length < 1000:=(by rw [← hl,cut_len];have:=List.count_le_length (a:=47) (l:=q);have:=rest_len x r;rw [hq] at this;omega);have hpl : ∀ x ∈ l,x.length < 1000:=(by intro y hy;rw [← hl] at hy;have:=(cut_mem hy).2;have:=rest_len x r;rw [hq] at this;omega);have h97f : x :: r = q:=(by rw [← hq,restOf_c,if_neg (fun e=>hx (by rw [e];rfl))]);have hql : q.length ≤ 200:=(by have:=rest_len x r;rw [hq] at this;omega)
 refine run_walkF eok Tryz.func30 rfl (by kernel_rfl) ?_
 conv=>whnf
 repeat' (first
 | ((with_reducible refine on_dec_f (by assumption) ?_);conv=>whnf)
 | ((with_reducible refine on_dec_f ?_ ?_);(focus ((try simp only [List.length_map,List.length_cons,List.length_nil,List.length_append]);omega));conv=>whnf)
 | ((with_reducible refine on_dec_t ?_ ?_);(focus ((try simp only [List.length_map,List.length_cons,List.length_nil,List.length_append]);omega));conv=>whnf)
 | ((with_reducible refine call_go ?_);(first | refine call_step (run_new (l:=l) (c47r (x :: r) 47 l (by rw [h97f,hl]) (by rw [h97f];omega)) (fun _=>rfl) rfl) ?_ | refine call_step (run_new (l:=cs) (c47r (l[l.length - 1]'(by omega)) 58 cs hcs (by have:=hpl _ (List.getElem_mem (l:=l) (n:=l.length - 1) (by omega));omega)) (fun _=>rfl) rfl) ?_ );conv=>whnf)
 | (refine wrap64 (by omega) ?_;conv=>whnf)
 | (refine ⟨Int.le_refl 0,?_⟩;conv=>whnf)
 | (refine ⟨⟨by omega,by first | omega | (simp;done)⟩,?_⟩;conv=>whnf)
 | (refine nthK_rowi (l:=l) (l.length - 1) (by omega) (by omega) ?_;conv=>whnf)
 | ((with_reducible refine endx_go ?_);first | (exact endxv rfl rfl;done))
  | fail
  )
theorem c30bf (x : UInt8) (r q : Bs) (l : List Bs) (a b : Bs) (hlen : r.length ≤ 199) (h47 : ¬ x :: r = [47]) (hq : restOf (x :: r) = q) (hl : cut 47 q = l) (hcs : cut 58 (l[l.length - 1]'(lastIx (by rw [← hl];exact cut_ne _ _))) = [a,b]) (hx : ¬ (x.toNat : Int) = 47) (h2 : dots a = true) : Fn 30 [.str (x :: r)] (.tup [PPe noPP,i 7]):=by
 have hl0 : 0 < l.length:=List.length_pos_iff.2 (by rw [← hl];exact cut_ne _ _);have hll : l.length < 1000:=(by rw [← hl,cut_len];have:=List.count_le_length (a:=47) (l:=q);have:=rest_len x r;rw [hq] at this;omega);have hpl : ∀ x ∈ l,x.length < 1000:=(by intro y hy;rw [← hl] at hy;have:=(cut_mem hy).2;have:=rest_len x r;rw [hq] at this;omega);have h97f : x :: r = q:=(by rw [← hq,restOf_c,if_neg (fun e=>hx (by rw [e];rfl))]);have hql : q.length ≤ 200:=(by have:=rest_len x r;rw [hq] at this;omega)
 refine run_walkF eok Tryz.func30 rfl (by kernel_rfl) ?_
 conv=>whnf
 repeat' (first
 | ((with_reducible refine on_dec_f (by assumption) ?_);conv=>whnf)
 | ((with_reducible refine onBool_t (by assumption) ?_);conv=>whnf)
 | ((with_reducible refine on_dec_f ?_ ?_);(focus ((try simp only [List.length_map,List.length_cons,List.length_nil,List.length_append]);omega));conv=>whnf)
 | ((with_reducible refine call_go ?_);(first | refine call_step (run_new (l:=l) (c47r (x :: r) 47 l (by rw [h97f,hl]) (by rw [h97f];omega)) (fun _=>rfl) rfl) ?_ | refine call_step (run_new (l:=[a,b]) (c47r (l[l.length - 1]'(by omega)) 58 [a,b] hcs (by have:=hpl _ (List.getElem_mem (l:=l) (n:=l.length - 1) (by omega));omega)) (fun _=>rfl) rfl) ?_ | refine call_step (run_view (c74 _) rfl rfl) ?_);conv=>whnf)
 | (refine wrap64 (by omega) ?_;conv=>whnf)
 | (refine ⟨Int.le_refl 0,?_⟩;conv=>whnf)
 | (refine ⟨⟨by omega,by first | omega | (simp;done)⟩,?_⟩;conv=>whnf)
 | (refine nthK_rowi (l:=l) (l.length - 1) (by omega) (by omega) ?_;conv=>whnf)
 | ((with_reducible refine endx_go ?_);first | (exact endxv rfl rfl;done))
  | fail
  )
theorem c30cf (x : UInt8) (r q : Bs) (l : List Bs) (a b : Bs) (hlen : r.length ≤ 199) (h47 : ¬ x :: r = [47]) (hq : restOf (x :: r) = q) (hl : cut 47 q = l) (hcs : cut 58 (l[l.length - 1]'(lastIx (by rw [← hl];exact cut_ne _ _))) = [a,b]) (hx : ¬ (x.toNat : Int) = 47) (h2 : dots a = false) (h3 : b = []) : Fn 30 [.str (x :: r)] (.tup [PPe noPP,i 7]):=by
 have hl0 : 0 < l.length:=List.length_pos_iff.2 (by rw [← hl];exact cut_ne _ _);have hll : l.length < 1000:=(by rw [← hl,cut_len];have:=List.count_le_length (a:=47) (l:=q);have:=rest_len x r;rw [hq] at this;omega);have hpl : ∀ x ∈ l,x.length < 1000:=(by intro y hy;rw [← hl] at hy;have:=(cut_mem hy).2;have:=rest_len x r;rw [hq] at this;omega);have h97f : x :: r = q:=(by rw [← hq,restOf_c,if_neg (fun e=>hx (by rw [e];rfl))]);have hql : q.length ≤ 200:=(by have:=rest_len x r;rw [hq] at this;omega)
 refine run_walkF eok Tryz.func30 rfl (by kernel_rfl) ?_
 conv=>whnf
 repeat' (first
 | ((with_reducible refine on_dec_f (by assumption) ?_);conv=>whnf)
 | ((with_reducible refine onBool_f (by assumption) ?_);conv=>whnf)
 | ((with_reducible refine on_dec_f ?_ ?_);(focus ((try simp only [List.length_map,List.length_cons,List.length_nil,List.length_append]);omega));conv=>whnf)
 | ((with_reducible refine onBool_split (fun h=>?_) (fun h=>?_))<;>conv=>whnf)
 | ((with_reducible refine call_go ?_);(first | refine call_step (run_new (l:=l) (c47r (x :: r) 47 l (by rw [h97f,hl]) (by rw [h97f];omega)) (fun _=>rfl) rfl) ?_ | refine call_step (run_new (l:=[a,b]) (c47r (l[l.length - 1]'(by omega)) 58 [a,b] hcs (by have:=hpl _ (List.getElem_mem (l:=l) (n:=l.length - 1) (by omega));omega)) (fun _=>rfl) rfl) ?_ | refine call_step (run_view (c74 _) rfl rfl) ?_);conv=>whnf)
 | (refine ⟨[],[],(by decide +kernel),?_⟩;conv=>whnf)
 | (refine wrap64 (by omega) ?_;conv=>whnf)
 | (exact absurd h3 (of_decide_eq_false h))
 | (refine ⟨Int.le_refl 0,?_⟩;conv=>whnf)
 | (refine ⟨⟨by omega,by first | omega | (simp;done)⟩,?_⟩;conv=>whnf)
 | (refine nthK_rowi (l:=l) (l.length - 1) (by omega) (by omega) ?_;conv=>whnf)
 | ((with_reducible refine endx_go ?_);first | (exact endxv rfl rfl;done) )
  | fail
  )
attribute [local irreducible] res
theorem c30dt (x : UInt8) (r q : Bs) (l L : List Bs) (a T : Bs) (hlen : r.length ≤ 199) (h47 : ¬ x :: r = [47]) (hq : restOf (x :: r) = q) (hl : cut 47 q = l) (hcs : cut 58 (l[l.length - 1]'(lastIx (by rw [← hl];exact cut_ne _ _))) = [a,T]) (hL : l.set (l.length - 1) a = L) (hx : (x.toNat : Int) = 47) (h2 : dots a = false) (h3 : ¬ T = []) : Fn 30 [.str (x :: r)] (.tup [PPe (res (decide ((x.toNat : Int) = 47)) L T).1,i (res (decide ((x.toNat : Int) = 47)) L T).2]):=by
 have hl0 : 0 < l.length:=List.length_pos_iff.2 (by rw [← hl];exact cut_ne _ _);have hll : l.length < 1000:=(by rw [← hl,cut_len];have:=List.count_le_length (a:=47) (l:=q);have:=rest_len x r;rw [hq] at this;omega);have hpl : ∀ x ∈ l,x.length < 1000:=(by intro y hy;rw [← hl] at hy;have:=(cut_mem hy).2;have:=rest_len x r;rw [hq] at this;omega);have h97t : ((x :: r).take (r.length + 1)).drop 1 = q:=(by rw [← hq,restOf_c,if_pos (u8_inj (b:=47) hx)];simp);have hql : q.length ≤ 200:=(by have:=rest_len x r;rw [hq] at this;omega);have hLl : l.length = L.length:=(by rw [← hL];simp);have hls : (l[l.length - 1]'(by omega)).length < 1000:=hpl _ (List.getElem_mem _);have hpT : T.length < 1000:=cut_small hcs hls (by simp);have hpL : ∀ y ∈ L,y.length < 1000:=set_small hL hpl (cut_small hcs hls (by simp))
 refine run_walkF eok Tryz.func30 rfl (by kernel_rfl) ?_
 conv=>whnf
 repeat' (first
 | ((with_reducible refine on_dec_t (by assumption) ?_);conv=>whnf)
 | ((with_reducible refine on_dec_f (by assumption) ?_);conv=>whnf)
 | ((with_reducible refine onBool_f (by assumption) ?_);conv=>whnf)
 | ((with_reducible refine on_nf (by assumption) ?_);conv=>whnf)
 | ((with_reducible refine on_dec_f ?_ ?_);(focus ((try simp only [List.length_map,List.length_cons,List.length_nil,List.length_append]);omega));conv=>whnf)
 | ((with_reducible refine on_dec (fun h=>?_) (fun h=>?_))<;>(try simp only [List.length_map] at h)<;>conv=>whnf)
 | ((with_reducible refine on_ndec (fun h=>?_) (fun h=>?_))<;>(try simp only [List.length_map] at h)<;>conv=>whnf)
 | ((with_reducible refine onBool_split (fun h=>?_) (fun h=>?_))<;>conv=>whnf)
 | ((with_reducible refine call_go ?_);(first | refine call_step (run_new (l:=l) (c47r (((x :: r).take (r.length + 1)).drop 1) 47 l (by rw [h97t,hl]) (by rw [h97t];omega)) (fun _=>rfl) rfl) ?_ | refine call_step (run_new (l:=[a,T]) (c47r (l[l.length - 1]'(by omega)) 58 [a,T] hcs (by have:=hpl _ (List.getElem_mem (l:=l) (n:=l.length - 1) (by omega));omega)) (fun _=>rfl) rfl) ?_ | refine call_step (run_viewF (c47 (L[k]'(by omega)) 58 (by have:=hpL _ (List.getElem_mem (l:=L) (n:=k) (by omega));omega)) rfl) ?_ | refine call_step (run_view (c74 _) rfl rfl) ?_ | refine call_step (run_view (c67 (L[k]'(by omega)) (by have:=hpL _ (List.getElem_mem (l:=L) (n:=k) (by omega));omega)) rfl rfl) ?_ | refine call_step (run_view (c67 T (by have:=hpT;omega)) rfl rfl) ?_);conv=>whnf)
 | (refine ⟨[],[],(by decide +kernel),?_⟩;conv=>whnf)
 | ((with_reducible refine loop_go ?_);first | (refine loop1 (fun (k : Nat)=>L.length - k) (fun (k : Nat)=>k ≤ L.length ∧ wellParts (L.take k) = true) (fun (k : Nat)=>[(2,.ptr 0 0 0),(4,.d (i 7)),(5,.ptr 1 0 0),(8,.d (i k))]) (fun (k : Nat)=>[⟨[.junk],3,0⟩,⟨[.agg [.d (.bool (decide ((x.toNat : Int) = 47))),.sl 2 0 L.length 1 none,.d (.str T)]],3,0⟩,⟨(L.map D.str).map .d,1,0⟩]) (0) (by exact ⟨Nat.zero_le _,wp_nil _⟩) ?_ (fun k C hI hC=>?_);(exact ⟨[.old 0,.old 1,.old 2],rfl,rfl,⟨⟨rfl,rfl,rfl⟩,(by first | (show (_ : D) = _;with_reducible rfl) ),⟨rfl,rfl,rfl⟩,(by first | exact congrArg (D.int .i64) (by omega) ),trivial⟩,⟨⟨rfl,rfl,.inr ⟨trivial,trivial⟩⟩,⟨rfl,rfl,.inr ⟨⟨rfl,⟨rfl,rfl,hLl,rfl,rfl⟩,rfl,trivial⟩,trivial⟩⟩,⟨rfl,rfl,.inr (wksd _ _)⟩,trivial⟩⟩);all_goals (conv=>whnf)) | (refine loop1 (fun (k : Nat)=>L.length - k) (fun (k : Nat)=>k ≤ L.length ∧ wellParts L = true ∧ firstE (L.map partErr) = firstE ((L.drop k).map partErr)) (fun (k : Nat)=>[(2,.ptr 0 0 0),(5,.ptr 1 0 0),(9,.d (i k))]) (fun (k : Nat)=>[⟨[.junk],3,0⟩,⟨[.agg [.d (.bool (decide ((x.toNat : Int) = 47))),.sl 2 0 L.length 1 none,.d (.str T)]],3,0⟩,⟨(L.map D.str).map .d,1,0⟩]) (0) (by exact ⟨Nat.zero_le _,wp_end hI.2 (by assumption),rfl⟩) ?_ (fun k C2 hI2 hC2=>?_);(exact ⟨[.old 0,.old 1,.old 2],rfl,rfl,⟨⟨rfl,rfl,rfl⟩,⟨rfl,rfl,rfl⟩,(by first | exact congrArg (D.int .i64) (by omega) ),trivial⟩,⟨⟨rfl,rfl,.inr ⟨trivial,trivial⟩⟩,⟨rfl,rfl,.inr ⟨⟨rfl,⟨rfl,rfl,rfl,rfl,rfl⟩,rfl,trivial⟩,trivial⟩⟩,⟨rfl,rfl,.inr (wksd _ _)⟩,trivial⟩⟩);all_goals (conv=>whnf)))
 | ((with_reducible show C _ _);first | (refine hC (k + 1) _ _ ?_ (by omega) ?_;clear hC;rotate_left;(exact ⟨[.old 0,.old 1,.old 2],rfl,rfl,⟨⟨rfl,rfl,rfl⟩,(by first | (show (_ : D) = _;with_reducible rfl) ),⟨rfl,rfl,rfl⟩,(by first | exact congrArg (D.int .i64) (by omega) ),trivial⟩,⟨⟨rfl,rfl,.inr ⟨trivial,trivial⟩⟩,⟨rfl,rfl,.inr ⟨⟨rfl,⟨rfl,rfl,rfl,rfl,rfl⟩,rfl,trivial⟩,trivial⟩⟩,⟨rfl,rfl,.inr (wksd _ _)⟩,trivial⟩⟩);(exact ⟨by omega,wp_take hI.2 (by omega) (of_decide_eq_false (by assumption)) (by assumption)⟩)))
 | ((with_reducible show C2 _ _);first | (refine hC2 (k + 1) _ _ ?_ (by omega) ?_;clear hC2;rotate_left;(exact ⟨[.old 0,.old 1,.old 2],rfl,rfl,⟨⟨rfl,rfl,rfl⟩,⟨rfl,rfl,rfl⟩,(by first | exact congrArg (D.int .i64) (by omega) ),trivial⟩,⟨⟨rfl,rfl,.inr ⟨trivial,trivial⟩⟩,⟨rfl,rfl,.inr ⟨⟨rfl,⟨rfl,rfl,rfl,rfl,rfl⟩,rfl,trivial⟩,trivial⟩⟩,⟨rfl,rfl,.inr (wksd _ _)⟩,trivial⟩⟩);(exact ⟨by omega,hI2.2.1,by rw [hI2.2.2,pe_drop (by omega),if_pos (by first | exact pe_dots (by assumption) | (rw [pe_name (by assumption)];assumption))]⟩)))
 | (refine wrap64 (by omega) ?_;conv=>whnf)
 | (exact absurd (of_decide_eq_true h) h3)
 | (refine nthK_rowi (l:=L) k (by omega) (by omega) ?_;conv=>whnf)
 | (refine set_str (l:=l) (L:=L) (m:=l.length - 1) (by omega) hL ?_;conv=>whnf)
 | (refine sl_str 1 (r.length + 1) (by omega) (by simp) (by simp) ?_;conv=>whnf)
 | (refine ⟨Int.le_refl 0,?_⟩;conv=>whnf)
 | (refine ⟨⟨by omega,by first | omega | (simp;done)⟩,?_⟩;conv=>whnf)
 | (refine nthK_rowi (l:=l) (l.length - 1) (by omega) (by omega) ?_;conv=>whnf)
 | ((with_reducible refine endx_go ?_);first | (exact endxv rfl (res_bad (wp_bad (k:=k) (by omega) (by first | exact .inl (of_decide_eq_true (by assumption)) | exact .inr (by assumption))));done) | (exact endxv rfl (res_err hI2.2.1 (pe_part (by omega) hI2.2.2 (by assumption) (by assumption)) (by assumption));done) | (exact endxv rfl (res_err hI2.2.1 (by rw [pe_parts (by assumption) hI2.2.2];exact pe_tail_8 (by assumption) (.inr (by assumption))) (by decide));done) | (exact endxv rfl (res_err hI2.2.1 (by rw [pe_parts (by assumption) hI2.2.2];exact pe_tail_n (by assumption) (by assumption)) (by assumption));done) | (exact endxv (view_tup (vlc (view_agg (vlc rfl (vlc (view_map rfl Nat.two_pos) (vlc rfl vln)))) (vlc rfl vln))) (res_ok hI2.2.1 (by rw [pe_parts (by assumption) hI2.2.2];exact pe_tail (by assumption) (.inr (by assumption))));done))
  | fail
  )
theorem c30et (x : UInt8) (r q : Bs) (l : List Bs) (a : Bs) (hlen : r.length ≤ 199) (h47 : ¬ x :: r = [47]) (hq : restOf (x :: r) = q) (hl : cut 47 q = l) (hcs : cut 58 (l[l.length - 1]'(lastIx (by rw [← hl];exact cut_ne _ _))) = [a]) (hx : (x.toNat : Int) = 47) : Fn 30 [.str (x :: r)] (.tup [PPe (res (decide ((x.toNat : Int) = 47)) l []).1,i (res (decide ((x.toNat : Int) = 47)) l []).2]):=by
 have hl0 : 0 < l.length:=List.length_pos_iff.2 (by rw [← hl];exact cut_ne _ _);have hll : l.length < 1000:=(by rw [← hl,cut_len];have:=List.count_le_length (a:=47) (l:=q);have:=rest_len x r;rw [hq] at this;omega);have hpl : ∀ x ∈ l,x.length < 1000:=(by intro y hy;rw [← hl] at hy;have:=(cut_mem hy).2;have:=rest_len x r;rw [hq] at this;omega);have h97t : ((x :: r).take (r.length + 1)).drop 1 = q:=(by rw [← hq,restOf_c,if_pos (u8_inj (b:=47) hx)];simp);have hql : q.length ≤ 200:=(by have:=rest_len x r;rw [hq] at this;omega)
 refine run_walkF eok Tryz.func30 rfl (by kernel_rfl) ?_
 conv=>whnf
 repeat' (first
 | ((with_reducible refine on_dec_t (by assumption) ?_);conv=>whnf)
 | ((with_reducible refine on_dec_f (by assumption) ?_);conv=>whnf)
 | ((with_reducible refine on_dec_f ?_ ?_);(focus ((try simp only [List.length_map,List.length_cons,List.length_nil,List.length_append]);omega));conv=>whnf)
 | ((with_reducible refine on_dec (fun h=>?_) (fun h=>?_))<;>(try simp only [List.length_map] at h)<;>conv=>whnf)
 | ((with_reducible refine on_ndec (fun h=>?_) (fun h=>?_))<;>(try simp only [List.length_map] at h)<;>conv=>whnf)
 | ((with_reducible refine onBool_split (fun h=>?_) (fun h=>?_))<;>conv=>whnf)
 | ((with_reducible refine call_go ?_);(first | refine call_step (run_new (l:=l) (c47r (((x :: r).take (r.length + 1)).drop 1) 47 l (by rw [h97t,hl]) (by rw [h97t];omega)) (fun _=>rfl) rfl) ?_ | refine call_step (run_new (l:=[a]) (c47r (l[l.length - 1]'(by omega)) 58 [a] hcs (by have:=hpl _ (List.getElem_mem (l:=l) (n:=l.length - 1) (by omega));omega)) (fun _=>rfl) rfl) ?_ | refine call_step (run_viewF (c47 (l[k]'(by omega)) 58 (by have:=hpl _ (List.getElem_mem (l:=l) (n:=k) (by omega));omega)) rfl) ?_ | refine call_step (run_view (c74 _) rfl rfl) ?_ | refine call_step (run_view (c67 (l[k]'(by omega)) (by have:=hpl _ (List.getElem_mem (l:=l) (n:=k) (by omega));omega)) rfl rfl) ?_);conv=>whnf)
 | ((with_reducible refine loop_go ?_);first | (refine loop1 (fun (k : Nat)=>l.length - k) (fun (k : Nat)=>k ≤ l.length ∧ wellParts (l.take k) = true) (fun (k : Nat)=>[(2,.ptr 0 0 0),(4,.d (i 7)),(5,.ptr 1 0 0),(8,.d (i k))]) (fun (k : Nat)=>[⟨[.junk],3,0⟩,⟨[.agg [.d (.bool (decide ((x.toNat : Int) = 47))),.sl 2 0 l.length 1 none,.d (.str [])]],3,0⟩,⟨(l.map D.str).map .d,1,0⟩]) (0) (by exact ⟨Nat.zero_le _,wp_nil _⟩) ?_ (fun k C hI hC=>?_);(exact ⟨[.old 0,.old 1,.old 2],rfl,rfl,⟨⟨rfl,rfl,rfl⟩,(by first | (show (_ : D) = _;with_reducible rfl) ),⟨rfl,rfl,rfl⟩,(by first | exact congrArg (D.int .i64) (by omega) ),trivial⟩,⟨⟨rfl,rfl,.inr ⟨trivial,trivial⟩⟩,⟨rfl,rfl,.inr ⟨⟨rfl,⟨rfl,rfl,rfl,rfl,rfl⟩,rfl,trivial⟩,trivial⟩⟩,⟨rfl,rfl,.inr (wksd _ _)⟩,trivial⟩⟩);all_goals (conv=>whnf)) | (refine loop1 (fun (k : Nat)=>l.length - k) (fun (k : Nat)=>k ≤ l.length ∧ wellParts l = true ∧ firstE (l.map partErr) = firstE ((l.drop k).map partErr)) (fun (k : Nat)=>[(2,.ptr 0 0 0),(5,.ptr 1 0 0),(9,.d (i k))]) (fun (k : Nat)=>[⟨[.junk],3,0⟩,⟨[.agg [.d (.bool (decide ((x.toNat : Int) = 47))),.sl 2 0 l.length 1 none,.d (.str [])]],3,0⟩,⟨(l.map D.str).map .d,1,0⟩]) (0) (by exact ⟨Nat.zero_le _,wp_end hI.2 (by assumption),rfl⟩) ?_ (fun k C2 hI2 hC2=>?_);(exact ⟨[.old 0,.old 1,.old 2],rfl,rfl,⟨⟨rfl,rfl,rfl⟩,⟨rfl,rfl,rfl⟩,(by first | exact congrArg (D.int .i64) (by omega) ),trivial⟩,⟨⟨rfl,rfl,.inr ⟨trivial,trivial⟩⟩,⟨rfl,rfl,.inr ⟨⟨rfl,⟨rfl,rfl,rfl,rfl,rfl⟩,rfl,trivial⟩,trivial⟩⟩,⟨rfl,rfl,.inr (wksd _ _)⟩,trivial⟩⟩);all_goals (conv=>whnf)))
 | ((with_reducible show C _ _);first | (refine hC (k + 1) _ _ ?_ (by omega) ?_;clear hC;rotate_left;(exact ⟨[.old 0,.old 1,.old 2],rfl,rfl,⟨⟨rfl,rfl,rfl⟩,(by first | (show (_ : D) = _;with_reducible rfl) ),⟨rfl,rfl,rfl⟩,(by first | exact congrArg (D.int .i64) (by omega) ),trivial⟩,⟨⟨rfl,rfl,.inr ⟨trivial,trivial⟩⟩,⟨rfl,rfl,.inr ⟨⟨rfl,⟨rfl,rfl,rfl,rfl,rfl⟩,rfl,trivial⟩,trivial⟩⟩,⟨rfl,rfl,.inr (wksd _ _)⟩,trivial⟩⟩);(exact ⟨by omega,wp_take hI.2 (by omega) (of_decide_eq_false (by assumption)) (by assumption)⟩)))
 | ((with_reducible show C2 _ _);first | (refine hC2 (k + 1) _ _ ?_ (by omega) ?_;clear hC2;rotate_left;(exact ⟨[.old 0,.old 1,.old 2],rfl,rfl,⟨⟨rfl,rfl,rfl⟩,⟨rfl,rfl,rfl⟩,(by first | exact congrArg (D.int .i64) (by omega) ),trivial⟩,⟨⟨rfl,rfl,.inr ⟨trivial,trivial⟩⟩,⟨rfl,rfl,.inr ⟨⟨rfl,⟨rfl,rfl,rfl,rfl,rfl⟩,rfl,trivial⟩,trivial⟩⟩,⟨rfl,rfl,.inr (wksd _ _)⟩,trivial⟩⟩);(exact ⟨by omega,hI2.2.1,by rw [hI2.2.2,pe_drop (by omega),if_pos (by first | exact pe_dots (by assumption) | (rw [pe_name (by assumption)];assumption))]⟩)))
 | (refine wrap64 (by omega) ?_;conv=>whnf)
 | (refine nthK_rowi (l:=l) k (by omega) (by omega) ?_;conv=>whnf)
 | (refine sl_str 1 (r.length + 1) (by omega) (by simp) (by simp) ?_;conv=>whnf)
 | (refine ⟨Int.le_refl 0,?_⟩;conv=>whnf)
 | (refine ⟨⟨by omega,by first | omega | (simp;done)⟩,?_⟩;conv=>whnf)
 | (refine nthK_rowi (l:=l) (l.length - 1) (by omega) (by omega) ?_;conv=>whnf)
 | ((with_reducible refine endx_go ?_);first | (exact endxv rfl (res_bad (wp_bad (k:=k) (by omega) (by first | exact .inl (of_decide_eq_true (by assumption)) | exact .inr (by assumption))));done) | (exact endxv rfl (res_err hI2.2.1 (pe_part (by omega) hI2.2.2 (by assumption) (by assumption)) (by assumption));done) | (exact endxv rfl (res_err hI2.2.1 (by rw [pe_parts (by assumption) hI2.2.2];exact pe_tail_8 (by assumption) (.inl rfl)) (by decide));done) | (exact endxv (view_tup (vlc (view_agg (vlc rfl (vlc (view_map rfl Nat.two_pos) (vlc rfl vln)))) (vlc rfl vln))) (res_ok hI2.2.1 (by rw [pe_parts (by assumption) hI2.2.2];exact pe_tail (by assumption) (.inl rfl)));done))
  | fail
  )
theorem c30df (x : UInt8) (r q : Bs) (l L : List Bs) (a T : Bs) (hlen : r.length ≤ 199) (h47 : ¬ x :: r = [47]) (hq : restOf (x :: r) = q) (hl : cut 47 q = l) (hcs : cut 58 (l[l.length - 1]'(lastIx (by rw [← hl];exact cut_ne _ _))) = [a,T]) (hL : l.set (l.length - 1) a = L) (hx : ¬ (x.toNat : Int) = 47) (h2 : dots a = false) (h3 : ¬ T = []) : Fn 30 [.str (x :: r)] (.tup [PPe (res (decide ((x.toNat : Int) = 47)) L T).1,i (res (decide ((x.toNat : Int) = 47)) L T).2]):=by
 have hl0 : 0 < l.length:=List.length_pos_iff.2 (by rw [← hl];exact cut_ne _ _);have hll : l.length < 1000:=(by rw [← hl,cut_len];have:=List.count_le_length (a:=47) (l:=q);have:=rest_len x r;rw [hq] at this;omega);have hpl : ∀ x ∈ l,x.length < 1000:=(by intro y hy;rw [← hl] at hy;have:=(cut_mem hy).2;have:=rest_len x r;rw [hq] at this;omega);have h97f : x :: r = q:=(by rw [← hq,restOf_c,if_neg (fun e=>hx (by rw [e];rfl))]);have hql : q.length ≤ 200:=(by have:=rest_len x r;rw [hq] at this;omega);have hLl : l.length = L.length:=(by rw [← hL];simp);have hls : (l[l.length - 1]'(by omega)).length < 1000:=hpl _ (List.getElem_mem _);have hpT : T.length < 1000:=cut_small hcs hls (by simp);have hpL : ∀ y ∈ L,y.length < 1000:=set_small hL hpl (cut_small hcs hls (by simp))
 refine run_walkF eok Tryz.func30 rfl (by kernel_rfl) ?_
 conv=>whnf
 repeat' (first
 | ((with_reducible refine on_dec_f (by assumption) ?_);conv=>whnf)
 | ((with_reducible refine onBool_f (by assumption) ?_);conv=>whnf)
 | ((with_reducible refine on_nf (by assumption) ?_);conv=>whnf)
 | ((with_reducible refine on_dec_f ?_ ?_);(focus ((try simp only [List.length_map,List.length_cons,List.length_nil,List.length_append]);omega));conv=>whnf)
 | ((with_reducible refine on_dec (fun h=>?_) (fun h=>?_))<;>(try simp only [List.length_map] at h)<;>conv=>whnf)
 | ((with_reducible refine on_ndec (fun h=>?_) (fun h=>?_))<;>(try simp only [List.length_map] at h)<;>conv=>whnf)
 | ((with_reducible refine onBool_split (fun h=>?_) (fun h=>?_))<;>conv=>whnf)
 | ((with_reducible refine call_go ?_);(first | refine call_step (run_new (l:=l) (c47r (x :: r) 47 l (by rw [h97f,hl]) (by rw [h97f];omega)) (fun _=>rfl) rfl) ?_ | refine call_step (run_new (l:=[a,T]) (c47r (l[l.length - 1]'(by omega)) 58 [a,T] hcs (by have:=hpl _ (List.getElem_mem (l:=l) (n:=l.length - 1) (by omega));omega)) (fun _=>rfl) rfl) ?_ | refine call_step (run_viewF (c47 (L[k]'(by omega)) 58 (by have:=hpL _ (List.getElem_mem (l:=L) (n:=k) (by omega));omega)) rfl) ?_ | refine call_step (run_view (c74 _) rfl rfl) ?_ | refine call_step (run_view (c67 (L[k]'(by omega)) (by have:=hpL _ (List.getElem_mem (l:=L) (n:=k) (by omega));omega)) rfl rfl) ?_ | refine call_step (run_view (c67 T (by have:=hpT;omega)) rfl rfl) ?_);conv=>whnf)
 | (refine ⟨[],[],(by decide +kernel),?_⟩;conv=>whnf)
 | ((with_reducible refine loop_go ?_);first | (refine loop1 (fun (k : Nat)=>L.length - k) (fun (k : Nat)=>k ≤ L.length ∧ wellParts (L.take k) = true) (fun (k : Nat)=>[(2,.ptr 0 0 0),(4,.d (i 7)),(5,.ptr 1 0 0),(8,.d (i k))]) (fun (k : Nat)=>[⟨[.junk],3,0⟩,⟨[.agg [.d (.bool (decide ((x.toNat : Int) = 47))),.sl 2 0 L.length 1 none,.d (.str T)]],3,0⟩,⟨(L.map D.str).map .d,1,0⟩]) (0) (by exact ⟨Nat.zero_le _,wp_nil _⟩) ?_ (fun k C hI hC=>?_);(exact ⟨[.old 0,.old 1,.old 2],rfl,rfl,⟨⟨rfl,rfl,rfl⟩,(by first | (show (_ : D) = _;with_reducible rfl) ),⟨rfl,rfl,rfl⟩,(by first | exact congrArg (D.int .i64) (by omega) ),trivial⟩,⟨⟨rfl,rfl,.inr ⟨trivial,trivial⟩⟩,⟨rfl,rfl,.inr ⟨⟨rfl,⟨rfl,rfl,hLl,rfl,rfl⟩,rfl,trivial⟩,trivial⟩⟩,⟨rfl,rfl,.inr (wksd _ _)⟩,trivial⟩⟩);all_goals (conv=>whnf)) | (refine loop1 (fun (k : Nat)=>L.length - k) (fun (k : Nat)=>k ≤ L.length ∧ wellParts L = true ∧ firstE (L.map partErr) = firstE ((L.drop k).map partErr)) (fun (k : Nat)=>[(2,.ptr 0 0 0),(5,.ptr 1 0 0),(9,.d (i k))]) (fun (k : Nat)=>[⟨[.junk],3,0⟩,⟨[.agg [.d (.bool (decide ((x.toNat : Int) = 47))),.sl 2 0 L.length 1 none,.d (.str T)]],3,0⟩,⟨(L.map D.str).map .d,1,0⟩]) (0) (by exact ⟨Nat.zero_le _,wp_end hI.2 (by assumption),rfl⟩) ?_ (fun k C2 hI2 hC2=>?_);(exact ⟨[.old 0,.old 1,.old 2],rfl,rfl,⟨⟨rfl,rfl,rfl⟩,⟨rfl,rfl,rfl⟩,(by first | exact congrArg (D.int .i64) (by omega) ),trivial⟩,⟨⟨rfl,rfl,.inr ⟨trivial,trivial⟩⟩,⟨rfl,rfl,.inr ⟨⟨rfl,⟨rfl,rfl,rfl,rfl,rfl⟩,rfl,trivial⟩,trivial⟩⟩,⟨rfl,rfl,.inr (wksd _ _)⟩,trivial⟩⟩);all_goals (conv=>whnf)))
 | ((with_reducible show C _ _);first | (refine hC (k + 1) _ _ ?_ (by omega) ?_;clear hC;rotate_left;(exact ⟨[.old 0,.old 1,.old 2],rfl,rfl,⟨⟨rfl,rfl,rfl⟩,(by first | (show (_ : D) = _;with_reducible rfl) ),⟨rfl,rfl,rfl⟩,(by first | exact congrArg (D.int .i64) (by omega) ),trivial⟩,⟨⟨rfl,rfl,.inr ⟨trivial,trivial⟩⟩,⟨rfl,rfl,.inr ⟨⟨rfl,⟨rfl,rfl,rfl,rfl,rfl⟩,rfl,trivial⟩,trivial⟩⟩,⟨rfl,rfl,.inr (wksd _ _)⟩,trivial⟩⟩);(exact ⟨by omega,wp_take hI.2 (by omega) (of_decide_eq_false (by assumption)) (by assumption)⟩)))
 | ((with_reducible show C2 _ _);first | (refine hC2 (k + 1) _ _ ?_ (by omega) ?_;clear hC2;rotate_left;(exact ⟨[.old 0,.old 1,.old 2],rfl,rfl,⟨⟨rfl,rfl,rfl⟩,⟨rfl,rfl,rfl⟩,(by first | exact congrArg (D.int .i64) (by omega) ),trivial⟩,⟨⟨rfl,rfl,.inr ⟨trivial,trivial⟩⟩,⟨rfl,rfl,.inr ⟨⟨rfl,⟨rfl,rfl,rfl,rfl,rfl⟩,rfl,trivial⟩,trivial⟩⟩,⟨rfl,rfl,.inr (wksd _ _)⟩,trivial⟩⟩);(exact ⟨by omega,hI2.2.1,by rw [hI2.2.2,pe_drop (by omega),if_pos (by first | exact pe_dots (by assumption) | (rw [pe_name (by assumption)];assumption))]⟩)))
 | (refine wrap64 (by omega) ?_;conv=>whnf)
 | (exact absurd (of_decide_eq_true h) h3)
 | (refine nthK_rowi (l:=L) k (by omega) (by omega) ?_;conv=>whnf)
 | (refine set_str (l:=l) (L:=L) (m:=l.length - 1) (by omega) hL ?_;conv=>whnf)
 | (refine ⟨Int.le_refl 0,?_⟩;conv=>whnf)
 | (refine ⟨⟨by omega,by first | omega | (simp;done)⟩,?_⟩;conv=>whnf)
 | (refine nthK_rowi (l:=l) (l.length - 1) (by omega) (by omega) ?_;conv=>whnf)
 | ((with_reducible refine endx_go ?_);first | (exact endxv rfl (res_bad (wp_bad (k:=k) (by omega) (by first | exact .inl (of_decide_eq_true (by assumption)) | exact .inr (by assumption))));done) | (exact endxv rfl (res_err hI2.2.1 (pe_part (by omega) hI2.2.2 (by assumption) (by assumption)) (by assumption));done) | (exact endxv rfl (res_err hI2.2.1 (by rw [pe_parts (by assumption) hI2.2.2];exact pe_tail_8 (by assumption) (.inr (by assumption))) (by decide));done) | (exact endxv rfl (res_err hI2.2.1 (by rw [pe_parts (by assumption) hI2.2.2];exact pe_tail_n (by assumption) (by assumption)) (by assumption));done) | (exact endxv (view_tup (vlc (view_agg (vlc rfl (vlc (view_map rfl Nat.two_pos) (vlc rfl vln)))) (vlc rfl vln))) (res_ok hI2.2.1 (by rw [pe_parts (by assumption) hI2.2.2];exact pe_tail (by assumption) (.inr (by assumption))));done))
  | fail
  )
theorem c30ef (x : UInt8) (r q : Bs) (l : List Bs) (a : Bs) (hlen : r.length ≤ 199) (h47 : ¬ x :: r = [47]) (hq : restOf (x :: r) = q) (hl : cut 47 q = l) (hcs : cut 58 (l[l.length - 1]'(lastIx (by rw [← hl];exact cut_ne _ _))) = [a]) (hx : ¬ (x.toNat : Int) = 47) : Fn 30 [.str (x :: r)] (.tup [PPe (res (decide ((x.toNat : Int) = 47)) l []).1,i (res (decide ((x.toNat : Int) = 47)) l []).2]):=by
 have hl0 : 0 < l.length:=List.length_pos_iff.2 (by rw [← hl];exact cut_ne _ _);have hll : l.length < 1000:=(by rw [← hl,cut_len];have:=List.count_le_length (a:=47) (l:=q);have:=rest_len x r;rw [hq] at this;omega);have hpl : ∀ x ∈ l,x.length < 1000:=(by intro y hy;rw [← hl] at hy;have:=(cut_mem hy).2;have:=rest_len x r;rw [hq] at this;omega);have h97f : x :: r = q:=(by rw [← hq,restOf_c,if_neg (fun e=>hx (by rw [e];rfl))]);have hql : q.length ≤ 200:=(by have:=rest_len x r;rw [hq] at this;omega)
 refine run_walkF eok Tryz.func30 rfl (by kernel_rfl) ?_
 conv=>whnf
 repeat' (first
 | ((with_reducible refine on_dec_f (by assumption) ?_);conv=>whnf)
 | ((with_reducible refine on_dec_f ?_ ?_);(focus ((try simp only [List.length_map,List.length_cons,List.length_nil,List.length_append]);omega));conv=>whnf)
 | ((with_reducible refine on_dec (fun h=>?_) (fun h=>?_))<;>(try simp only [List.length_map] at h)<;>conv=>whnf)
 | ((with_reducible refine on_ndec (fun h=>?_) (fun h=>?_))<;>(try simp only [List.length_map] at h)<;>conv=>whnf)
 | ((with_reducible refine onBool_split (fun h=>?_) (fun h=>?_))<;>conv=>whnf)
 | ((with_reducible refine call_go ?_);(first | refine call_step (run_new (l:=l) (c47r (x :: r) 47 l (by rw [h97f,hl]) (by rw [h97f];omega)) (fun _=>rfl) rfl) ?_ | refine call_step (run_new (l:=[a]) (c47r (l[l.length - 1]'(by omega)) 58 [a] hcs (by have:=hpl _ (List.getElem_mem (l:=l) (n:=l.length - 1) (by omega));omega)) (fun _=>rfl) rfl) ?_ | refine call_step (run_viewF (c47 (l[k]'(by omega)) 58 (by have:=hpl _ (List.getElem_mem (l:=l) (n:=k) (by omega));omega)) rfl) ?_ | refine call_step (run_view (c74 _) rfl rfl) ?_ | refine call_step (run_view (c67 (l[k]'(by omega)) (by have:=hpl _ (List.getElem_mem (l:=l) (n:=k) (by omega));omega)) rfl rfl) ?_);conv=>whnf)
 | ((with_reducible refine loop_go ?_);first | (refine loop1 (fun (k : Nat)=>l.length - k) (fun (k : Nat)=>k ≤ l.length ∧ wellParts (l.take k) = true) (fun (k : Nat)=>[(2,.ptr 0 0 0),(4,.d (i 7)),(5,.ptr 1 0 0),(8,.d (i k))]) (fun (k : Nat)=>[⟨[.junk],3,0⟩,⟨[.agg [.d (.bool (decide ((x.toNat : Int) = 47))),.sl 2 0 l.length 1 none,.d (.str [])]],3,0⟩,⟨(l.map D.str).map .d,1,0⟩]) (0) (by exact ⟨Nat.zero_le _,wp_nil _⟩) ?_ (fun k C hI hC=>?_);(exact ⟨[.old 0,.old 1,.old 2],rfl,rfl,⟨⟨rfl,rfl,rfl⟩,(by first | (show (_ : D) = _;with_reducible rfl) ),⟨rfl,rfl,rfl⟩,(by first | exact congrArg (D.int .i64) (by omega) ),trivial⟩,⟨⟨rfl,rfl,.inr ⟨trivial,trivial⟩⟩,⟨rfl,rfl,.inr ⟨⟨rfl,⟨rfl,rfl,rfl,rfl,rfl⟩,rfl,trivial⟩,trivial⟩⟩,⟨rfl,rfl,.inr (wksd _ _)⟩,trivial⟩⟩);all_goals (conv=>whnf)) | (refine loop1 (fun (k : Nat)=>l.length - k) (fun (k : Nat)=>k ≤ l.length ∧ wellParts l = true ∧ firstE (l.map partErr) = firstE ((l.drop k).map partErr)) (fun (k : Nat)=>[(2,.ptr 0 0 0),(5,.ptr 1 0 0),(9,.d (i k))]) (fun (k : Nat)=>[⟨[.junk],3,0⟩,⟨[.agg [.d (.bool (decide ((x.toNat : Int) = 47))),.sl 2 0 l.length 1 none,.d (.str [])]],3,0⟩,⟨(l.map D.str).map .d,1,0⟩]) (0) (by exact ⟨Nat.zero_le _,wp_end hI.2 (by assumption),rfl⟩) ?_ (fun k C2 hI2 hC2=>?_);(exact ⟨[.old 0,.old 1,.old 2],rfl,rfl,⟨⟨rfl,rfl,rfl⟩,⟨rfl,rfl,rfl⟩,(by first | exact congrArg (D.int .i64) (by omega) ),trivial⟩,⟨⟨rfl,rfl,.inr ⟨trivial,trivial⟩⟩,⟨rfl,rfl,.inr ⟨⟨rfl,⟨rfl,rfl,rfl,rfl,rfl⟩,rfl,trivial⟩,trivial⟩⟩,⟨rfl,rfl,.inr (wksd _ _)⟩,trivial⟩⟩);all_goals (conv=>whnf)))
 | ((with_reducible show C _ _);first | (refine hC (k + 1) _ _ ?_ (by omega) ?_;clear hC;rotate_left;(exact ⟨[.old 0,.old 1,.old 2],rfl,rfl,⟨⟨rfl,rfl,rfl⟩,(by first | (show (_ : D) = _;with_reducible rfl) ),⟨rfl,rfl,rfl⟩,(by first | exact congrArg (D.int .i64) (by omega) ),trivial⟩,⟨⟨rfl,rfl,.inr ⟨trivial,trivial⟩⟩,⟨rfl,rfl,.inr ⟨⟨rfl,⟨rfl,rfl,rfl,rfl,rfl⟩,rfl,trivial⟩,trivial⟩⟩,⟨rfl,rfl,.inr (wksd _ _)⟩,trivial⟩⟩);(exact ⟨by omega,wp_take hI.2 (by omega) (of_decide_eq_false (by assumption)) (by assumption)⟩)))
 | ((with_reducible show C2 _ _);first | (refine hC2 (k + 1) _ _ ?_ (by omega) ?_;clear hC2;rotate_left;(exact ⟨[.old 0,.old 1,.old 2],rfl,rfl,⟨⟨rfl,rfl,rfl⟩,⟨rfl,rfl,rfl⟩,(by first | exact congrArg (D.int .i64) (by omega) ),trivial⟩,⟨⟨rfl,rfl,.inr ⟨trivial,trivial⟩⟩,⟨rfl,rfl,.inr ⟨⟨rfl,⟨rfl,rfl,rfl,rfl,rfl⟩,rfl,trivial⟩,trivial⟩⟩,⟨rfl,rfl,.inr (wksd _ _)⟩,trivial⟩⟩);(exact ⟨by omega,hI2.2.1,by rw [hI2.2.2,pe_drop (by omega),if_pos (by first | exact pe_dots (by assumption) | (rw [pe_name (by assumption)];assumption))]⟩)))
 | (refine wrap64 (by omega) ?_;conv=>whnf)
 | (refine nthK_rowi (l:=l) k (by omega) (by omega) ?_;conv=>whnf)
 | (refine ⟨Int.le_refl 0,?_⟩;conv=>whnf)
 | (refine ⟨⟨by omega,by first | omega | (simp;done)⟩,?_⟩;conv=>whnf)
 | (refine nthK_rowi (l:=l) (l.length - 1) (by omega) (by omega) ?_;conv=>whnf)
 | ((with_reducible refine endx_go ?_);first | (exact endxv rfl (res_bad (wp_bad (k:=k) (by omega) (by first | exact .inl (of_decide_eq_true (by assumption)) | exact .inr (by assumption))));done) | (exact endxv rfl (res_err hI2.2.1 (pe_part (by omega) hI2.2.2 (by assumption) (by assumption)) (by assumption));done) | (exact endxv rfl (res_err hI2.2.1 (by rw [pe_parts (by assumption) hI2.2.2];exact pe_tail_8 (by assumption) (.inl rfl)) (by decide));done) | (exact endxv (view_tup (vlc (view_agg (vlc rfl (vlc (view_map rfl Nat.two_pos) (vlc rfl vln)))) (vlc rfl vln))) (res_ok hI2.2.1 (by rw [pe_parts (by assumption) hI2.2.2];exact pe_tail (by assumption) (.inl rfl)));done))
  | fail
  )
theorem c30L (s : Bs) (h1 : (200 : Int) < s.length) : Fn 30 [.str s] (.tup [PPe noPP,i 8]):=by
 refine run_walkF eok Tryz.func30 rfl (by kernel_rfl) ?_
 conv=>whnf
 repeat' (first
 | ((with_reducible refine on_dec_t (by assumption) ?_);conv=>whnf)
 | ((with_reducible refine endx_go ?_);first | (exact endxv rfl rfl;done))
  | fail
  )
theorem c30n : Fn 30 [.str []] (.tup [PPe noPP,i 7]):=by
 refine run_walkF eok Tryz.func30 rfl (by kernel_rfl) ?_
 conv=>whnf
 repeat' (first
 | ((with_reducible refine endx_go ?_);first | (exact endxv (view_tup (vlc (view_agg (vlc rfl (vlc rfl (vlc rfl vln)))) (vlc rfl vln))) rfl;done))
  | fail
  )
theorem c30s : Fn 30 [.str [47]] (.tup [PPe ⟨true,[],[]⟩,i 0]):=by
 refine run_walkF eok Tryz.func30 rfl (by kernel_rfl) ?_
 conv=>whnf
 repeat' (first
 | ((with_reducible refine endx_go ?_);first | (exact endxv (view_tup (vlc (view_agg (vlc rfl (vlc rfl (vlc rfl vln)))) (vlc rfl vln))) rfl;done))
  | fail
  )
theorem parse_c {x : UInt8} {r : Bs} (hlen : r.length ≤ 199) (h47 : ¬ x :: r = [47]) : parse (x :: r) = match colons (cut 47 (restOf (x :: r))) with
  | none=>(noPP,7)
  | some (l,t)=>res (decide ((x.toNat : Int) = 47)) l t:=by
 unfold parse
 rw [if_neg (by simp;omega),if_neg (by simp),if_neg h47,isAbs_c]
 split<;>rename_i h
 ·rw [h]
 ·rw [h];unfold res;rfl
theorem last_get {l : List Bs} (h : l ≠ []) : l.getLastD [] = l[l.length - 1]'(lastIx h):=by
 rw [List.getLastD_eq_getLast?,List.getLast?_eq_some_getLast h,Option.getD_some,List.getLast_eq_getElem]
theorem set_last {l : List Bs} (h : l ≠ []) (a : Bs) : l.set (l.length - 1) a = l.dropLast ++ [a]:=by
 conv=>lhs;rw [← List.dropLast_concat_getLast h]
 rw [List.set_append_right _ _ (by simp)]
 simp
theorem c30 (s : Bs) : Fn 30 [.str s] (.tup [PPe (parse s).1,i (parse s).2]):=by
 by_cases h1 : 200 < s.length
 ·have e : parse s = (noPP,8):=by unfold parse;rw [if_pos h1]
  rw [e];exact c30L s (by omega)
 cases s with
 | nil=>exact c30n
 | cons x r=>
  by_cases h47 : x :: r = [47]
  ·rw [h47];exact c30s
  have hlen : r.length ≤ 199:=by simp at h1;omega
  have hne : cut 47 (restOf (x :: r)) ≠ []:=cut_ne _ _
  rw [parse_c hlen h47]
  unfold colons
  rw [last_get hne]
  by_cases hx : (x.toNat : Int) = 47
  ·match hcs : cut 58 ((cut 47 (restOf (x :: r)))[(cut 47 (restOf (x :: r))).length - 1]'(lastIx hne)) with
   | []=>exact absurd hcs (cut_ne _ _)
   | [a]=>exact c30et x r _ _ a hlen h47 rfl rfl hcs hx
   | [a,b]=>
    simp only
    by_cases h2 : dots a = true
    ·rw [if_pos (.inl h2)]
     exact c30bt x r _ _ a b hlen h47 rfl rfl hcs hx h2
    ·have h2' : dots a = false:=by simpa using h2
     by_cases h3 : b = []
     ·rw [if_pos (.inr h3)]
      exact c30ct x r _ _ a b hlen h47 rfl rfl hcs hx h2' h3
     ·rw [if_neg (by rintro (h | h);exact h2 h;exact h3 h)]
      exact c30dt x r _ _ _ a b hlen h47 rfl rfl hcs (set_last hne a) hx h2' h3
   | a :: b :: c :: cs=>
    simp only
    exact c30at x r _ _ _ hlen h47 rfl rfl hcs hx (by simp)
  ·match hcs : cut 58 ((cut 47 (restOf (x :: r)))[(cut 47 (restOf (x :: r))).length - 1]'(lastIx hne)) with
   | []=>exact absurd hcs (cut_ne _ _)
   | [a]=>exact c30ef x r _ _ a hlen h47 rfl rfl hcs hx
   | [a,b]=>
    simp only
    by_cases h2 : dots a = true
    ·rw [if_pos (.inl h2)]
     exact c30bf x r _ _ a b hlen h47 rfl rfl hcs hx h2
    ·have h2' : dots a = false:=by simpa using h2
     by_cases h3 : b = []
     ·rw [if_pos (.inr h3)]
      exact c30cf x r _ _ a b hlen h47 rfl rfl hcs hx h2' h3
     ·rw [if_neg (by rintro (h | h);exact h2 h;exact h3 h)]
      exact c30df x r _ _ _ a b hlen h47 rfl rfl hcs (set_last hne a) hx h2' h3
   | a :: b :: c :: cs=>
    simp only
    exact c30af x r _ _ _ hlen h47 rfl rfl hcs hx (by simp)
theorem parse_parts (s : Bs) : (parse s).1.parts.length ≤ 1000:=by
 by_cases h : (parse s).2 = 0
 ·have:=(parse_good h).2;omega
 ·have : (parse s).1 = noPP:=by
   revert h
   unfold parse
   split
   ·intro _;rfl
   ·split
    ·intro _;rfl
    ·split
     ·intro h;exact absurd rfl h
     ·split
      ·intro _;rfl
      ·split
       ·intro _;rfl
       ·split
        ·intro _;rfl
        ·intro h;exact absurd rfl h
  rw [this];exact Nat.zero_le _
attribute [local irreducible] parse
end Go.Proofs.YtpfokhdelnlciaaGreatDoor
namespace Go.Proofs.YtpfokhdelnlciaaGreatDoor
open Go Dw
set_option maxRecDepth 10000
attribute [local irreducible] Run
set_option maxHeartbeats 4000000
open Paths
attribute [local irreducible] nameErr cut normal
theorem run_newC {P : Program} {f k : Nat} {c : Option Nat} {xs : List D} {α : Type} {g : α → D} {l : List α} (hf : Run P f (xs.map .d) [] (.sl 0 0 l.length k c) [⟨(l.map g).map .d,k,0⟩]) (hg : ∀ x,(g x).flat = true) {H : Heap} {args : List AV} (hv : vl (view 8 H) args = some xs) :
  Run P f args H (.sl H.length 0 l.length k c) (H ++ [⟨(l.map g).map .d,k,0⟩]):=by
 refine run_at (σ:=[]) (F:=args.flatMap (reach 8 H)) (fl:=true) hf List.nodup_nil (fun _ _ h=>by cases h) (embs_views H args xs _ (fun _ h=>h) hv) (by simp [embH]) (fun _=>⟨rfl,fun o ho=>?_⟩) ?_ ?_
 ·simp only [List.mem_singleton] at ho
  subst ho
  exact ⟨flats_map _ (flat_of_map hg),Nat.zero_ne_one⟩
 ·simp [ren,tau]
 ·simp only [outH,setAll,List.length_nil,List.drop_zero,List.map_cons,List.map_nil,renO,rens_D,if_true]
theorem u8i (c : UInt8) : (c.toNat : Int).toNat.toUInt8 = c:=by simp
def idx (s : Bs) (c : UInt8) : Int:=if c ∈ s then (s.idxOf c : Int) else -1
theorem idx_eq (s : Bs) (c : UInt8) : Lib.indexByte s (c.toNat : Int).toNat.toUInt8 = idx s c:=by rw [u8i,indexByte_eq];rfl
theorem c149 (s : Bs) (c : UInt8) : Fn 149 [.str s,.str [c]] (i (idx s c)):=by
 refine run_walkF eok Tryz.func149 rfl (by kernel_rfl) ?_
 conv=>whnf
 repeat' (first
 | ((with_reducible refine on_dec (fun h=>?_) (fun h=>?_))<;>(try simp only [List.length_map] at h)<;>conv=>whnf)
 | ((with_reducible refine call_go ?_);(first | refine call_step (run_view (c164 _ _) rfl rfl) ?_);conv=>whnf)
 | (refine ⟨Int.le_refl 0,?_⟩;conv=>whnf)
 | ((with_reducible refine endx_go ?_);first | (refine endx (congrArg i ?_);exact idx_eq s c;done) | (refine endx (congrArg i ?_);subst h;simp [idx];done))
  | fail
  )
theorem c136 (s : Bs) (c : UInt8) : Fn 136 [.str s,.str [c]] (i (idx s c)):=by
 refine run_walkF eok Tryz.func136 rfl (by kernel_rfl) ?_
 conv=>whnf
 repeat' (first
 | ((with_reducible refine call_go ?_);(first | refine call_step (run_view (c149 _ _) rfl rfl) ?_);conv=>whnf)
 | ((with_reducible refine endx_go ?_);first | (exact endx rfl;done))
  | fail
  )
theorem idx_ge (s : Bs) (c : UInt8) : decide (0 ≤ idx s c) = s.contains c:=by
 unfold idx
 by_cases h : c ∈ s
 ·rw [if_pos h];simp [h]
 ·rw [if_neg h];simp [h]
theorem idx_in {s : Bs} {c : UInt8} (h : c ∈ s) : idx s c = (s.idxOf c : Int) ∧ s.idxOf c < s.length:=⟨if_pos h,List.idxOf_lt_length_iff.2 h⟩
theorem idx_out {s : Bs} {c : UInt8} (h : ¬ c ∈ s) : idx s c = -1:=if_neg h
attribute [local irreducible] idx
theorem c111 (s : Bs) (c : UInt8) : Fn 111 [.str s,.str [c]] (.bool (s.contains c)):=by
 refine run_walkF eok Tryz.func111 rfl (by kernel_rfl) ?_
 conv=>whnf
 repeat' (first
 | ((with_reducible refine call_go ?_);(first | refine call_step (run_view (c136 _ _) rfl rfl) ?_);conv=>whnf)
 | ((with_reducible refine endx_go ?_);first | (exact endx (congrArg D.bool (idx_ge s c));done))
  | fail
  )
theorem c135t (s : Bs) (c : UInt8) (hs : s.length < 1000000) (hc : c ∈ s) : Fn 135 [.str s,.str [c]] (.tup [.str (s.take (s.idxOf c)),.str (s.drop (s.idxOf c + 1)),.bool true]):=by
 obtain ⟨he,hl⟩:=idx_in hc
 refine run_walkF eok Tryz.func135 rfl (by kernel_rfl) ?_
 conv=>whnf
 repeat' (first
 | ((with_reducible refine on_dec_t ?_ ?_);(focus ((try simp only [List.length_map,List.length_cons,List.length_nil,List.length_append]);omega));conv=>whnf)
 | ((with_reducible refine call_go ?_);(first | refine call_step (run_view (c149 _ _) rfl rfl) ?_);conv=>whnf)
 | (refine ⟨[],[],(by decide +kernel),?_⟩;conv=>whnf)
 | (refine sl_str 0 (s.idxOf c) (by omega) (by omega) (by omega) ?_;conv=>whnf)
 | (refine sl_str (s.idxOf c + 1) s.length (by simp only [List.length_cons,List.length_nil];omega) (by omega) (by omega) ?_;conv=>whnf)
 | (refine wrap64 (by simp only [List.length_cons,List.length_nil];omega) ?_;conv=>whnf)
 | ((with_reducible refine endx_go ?_);first | (exact endx3 (by rw [List.drop_zero,List.take_length]);done))
  | fail
  )
theorem c135f (s : Bs) (c : UInt8) (hs : s.length < 1000000) (hc : ¬ c ∈ s) : Fn 135 [.str s,.str [c]] (.tup [.str s,.str [],.bool false]):=by
 have he:=idx_out hc
 refine run_walkF eok Tryz.func135 rfl (by kernel_rfl) ?_
 conv=>whnf
 repeat' (first
 | ((with_reducible refine on_dec_f ?_ ?_);(focus ((try simp only [List.length_map,List.length_cons,List.length_nil,List.length_append]);omega));conv=>whnf)
 | ((with_reducible refine call_go ?_);(first | refine call_step (run_view (c149 _ _) rfl rfl) ?_);conv=>whnf)
 | ((with_reducible refine endx_go ?_);first | (exact endx3 rfl;done))
  | fail
  )
theorem c109t (s : Bs) (c : UInt8) (hs : s.length < 1000000) (hc : c ∈ s) : Fn 109 [.str s,.str [c]] (.tup [.str (s.take (s.idxOf c)),.str (s.drop (s.idxOf c + 1)),.bool true]):=by
 refine run_walkF eok Tryz.func109 rfl (by kernel_rfl) ?_
 conv=>whnf
 repeat' (first
 | ((with_reducible refine call_go ?_);(first | refine call_step (run_view (c135t s c hs hc) rfl rfl) ?_);conv=>whnf)
 | ((with_reducible refine endx_go ?_);first | (exact endx3 rfl;done))
  | fail
  )
theorem c109f (s : Bs) (c : UInt8) (hs : s.length < 1000000) (hc : ¬ c ∈ s) : Fn 109 [.str s,.str [c]] (.tup [.str s,.str [],.bool false]):=by
 refine run_walkF eok Tryz.func109 rfl (by kernel_rfl) ?_
 conv=>whnf
 repeat' (first
 | ((with_reducible refine call_go ?_);(first | refine call_step (run_view (c135f s c hs hc) rfl rfl) ?_);conv=>whnf)
 | ((with_reducible refine endx_go ?_);first | (exact endx3 rfl;done))
  | fail
  )
theorem c146 (x c : UInt8) (s : Bs) (hs : s.length < 1000000) : Fn 146 [.str (x :: s),.str [c]] (.bool (decide (x = c))):=by
 refine run_walkF eok Tryz.func146 rfl (by kernel_rfl) ?_
 conv=>whnf
 repeat' (first
 | ((with_reducible refine on_dec_t ?_ ?_);(focus ((try simp only [List.length_map,List.length_cons,List.length_nil,List.length_append]);omega));conv=>whnf)
 | (refine sl_str 0 1 (by omega) (by simp) (by simp) ?_;conv=>whnf)
 | ((with_reducible refine endx_go ?_);first | (refine endx (congrArg D.bool ?_);rw [decide_eq_decide];simp;done))
  | fail
  )
theorem c146n (c : UInt8) : Fn 146 [.str [],.str [c]] (.bool false):=by
 refine run_walkF eok Tryz.func146 rfl (by kernel_rfl) ?_
 conv=>whnf
 repeat' (first
 | ((with_reducible refine endx_go ?_);first | (exact endx rfl;done))
  | fail
  )
theorem c133t (x : UInt8) (s : Bs) (hs : s.length < 1000000) (hx : x = 47) : Fn 133 [.str (x :: s),.str [47]] (.tup [.str s,.bool true]):=by
 refine run_walkF eok Tryz.func133 rfl (by kernel_rfl) ?_
 conv=>whnf
 repeat' (first
 | ((with_reducible refine on_ndec_t (by first | assumption ) ?_);conv=>whnf)
 | ((with_reducible refine call_go ?_);(first | refine call_step (run_view (c146 x 47 s hs) rfl rfl) ?_);conv=>whnf)
 | (refine sl_str 1 (s.length + 1) (by simp) (by simp) (by simp) ?_;conv=>whnf)
 | ((with_reducible refine endx_go ?_);first | (exact endx2 (by simp);done))
  | fail
  )
theorem c133f (x : UInt8) (s : Bs) (hs : s.length < 1000000) (hx : ¬ x = 47) : Fn 133 [.str (x :: s),.str [47]] (.tup [.str (x :: s),.bool false]):=by
 refine run_walkF eok Tryz.func133 rfl (by kernel_rfl) ?_
 conv=>whnf
 repeat' (first
 | ((with_reducible refine on_ndec_f (by assumption) ?_);conv=>whnf)
 | ((with_reducible refine call_go ?_);(first | refine call_step (run_view (c146 x 47 s hs) rfl rfl) ?_);conv=>whnf)
 | ((with_reducible refine endx_go ?_);first | (exact endx2 rfl;done))
  | fail
  )
theorem c133n : Fn 133 [.str [],.str [47]] (.tup [.str [],.bool false]):=by
 refine run_walkF eok Tryz.func133 rfl (by kernel_rfl) ?_
 conv=>whnf
 repeat' (first
 | ((with_reducible refine call_go ?_);(first | refine call_step (run_view (c146n 47) rfl rfl) ?_);conv=>whnf)
 | ((with_reducible refine endx_go ?_);first | (exact endx2 rfl;done))
  | fail
  )
theorem c133 (s : Bs) (hs : s.length < 1000000) : Fn 133 [.str s,.str [47]] (.tup [.str (restOf s),.bool (isAbs s)]):=by
 cases s with
 | nil=>exact c133n
 | cons x r=>
  have hr : r.length < 1000000:=by simp at hs;omega
  rw [restOf_c,isAbs_c]
  by_cases h : x = 47
  ·rw [if_pos h,decide_eq_true (show (x.toNat : Int) = 47 by rw [h];rfl)];exact c133t x r hr h
  ·rw [if_neg h,decide_eq_false (show ¬ (x.toNat : Int) = 47 from fun e=>h (u8_inj (b:=47) e))];exact c133f x r hr h
theorem c107 (s : Bs) (hs : s.length < 1000000) : Fn 107 [.str s,.str [47]] (.tup [.str (restOf s),.bool (isAbs s)]):=by
 refine run_walkF eok Tryz.func107 rfl (by kernel_rfl) ?_
 conv=>whnf
 repeat' (first
 | ((with_reducible refine call_go ?_);(first | refine call_step (run_view (c133 s hs) rfl rfl) ?_);conv=>whnf)
 | ((with_reducible refine endx_go ?_);first | (exact endx2 rfl;done))
  | fail
  )
theorem c148 (s : Bs) (c : UInt8) : Fn 148 [.str s,.str [c]] (i (s.count c)):=by
 refine run_walkF eok Tryz.func148 rfl (by kernel_rfl) ?_
 conv=>whnf
 repeat' (first
 | ((with_reducible refine call_go ?_);(first | refine call_step (run_view (c167 _ _) rfl rfl) ?_ );conv=>whnf)
 | (refine ⟨Int.le_refl 0,?_⟩;conv=>whnf)
 | ((with_reducible refine endx_go ?_);first | (refine endx (congrArg i ?_);rw [u8i];rfl;done))
  | fail
  )
def rowS (out : List Bs) (n : Nat) : List Bs:=out ++ List.replicate n []
theorem rowS_len (out : List Bs) (n : Nat) : (rowS out n).length = out.length + n:=by unfold rowS;simp
theorem rowS_set (out : List Bs) (n : Nat) (p : Bs) : (rowS out (n + 1)).set out.length p = rowS (out ++ [p]) n:=by
 unfold rowS
 rw [List.set_append_right _ _ (Nat.le_refl _),Nat.sub_self,List.replicate_succ,List.set_cons_zero,List.append_assoc];rfl
theorem rowS_setN {out : List Bs} {n : Nat} {p : Bs} (h : out.length < n) : (rowS out (n - out.length)).set out.length p = rowS (out ++ [p]) (n - (out ++ [p]).length):=by
 have e : n - out.length = (n - (out ++ [p]).length) + 1:=by simp;omega
 rw [e,rowS_set]
theorem rowS_zero (n : Nat) : (List.replicate n (AV.d (D.str []))) = ((rowS [] n).map D.str).map .d:=by
 unfold rowS;simp
theorem rowS_end (out : List Bs) : rowS out 0 = out:=by unfold rowS;simp
structure SpI (c : UInt8) (s : Bs) (l out : List Bs) (cur : Bs) : Prop where
 eq : out ++ cut c cur = l
 le : cur.length ≤ s.length
theorem SpI.len {c : UInt8} {s cur : Bs} {l out : List Bs} (I : SpI c s l out cur) : l.length = out.length + (cut c cur).length:=by rw [← I.eq];simp
theorem SpI.step {c : UInt8} {s cur : Bs} {l out : List Bs} (I : SpI c s l out cur) (h : c ∈ cur) : SpI c s l (out ++ [cur.take (cur.idxOf c)]) (cur.drop (cur.idxOf c + 1)):=by
 refine ⟨?_,by have:=I.le;rw [List.length_drop];omega⟩
 rw [← I.eq,cut_mem_at h,List.append_assoc];rfl
theorem SpI.in {c : UInt8} {s cur : Bs} {l out : List Bs} (I : SpI c s l out cur) (h : (out.length : Int) < (l.length : Int) - 1) : c ∈ cur:=by
 have e:=I.len
 rw [cut_len] at e
 exact List.count_pos_iff.1 (by omega)
theorem SpI.out {c : UInt8} {s cur : Bs} {l out : List Bs} (I : SpI c s l out cur) (h : ¬ (out.length : Int) < (l.length : Int) - 1) : l = out ++ [cur]:=by
 have e:=I.len
 rw [cut_len] at e
 rw [← I.eq,cut_none (List.count_eq_zero.1 (by omega))]
attribute [local irreducible] rowS
theorem c134 (s : Bs) (c : UInt8) (l : List Bs) (hl : cut c s = l) (hs : s.length < 1000000) : Run Tryz.prog 134 [.d (.str s),.d (.str [c]),.d (i 0),.d (i (-1))] [] (.sl 0 0 l.length 1 (some l.length)) [⟨(l.map D.str).map .d,1,0⟩]:=by
 have hcn : s.count c + 1 = l.length:=(by rw [← hl,cut_len]);have hcl:=List.count_le_length (a:=c) (l:=s);have hl1 : ([] : List Bs).length < l.length:=(by rw [List.length_nil];omega);have hgm : goMin (((s.count c : Nat) : Int) + 1) ((s.length : Int) + 1) = (l.length : Int):=(by unfold goMin;split<;>omega)
 refine run_walkV eok Tryz.func134 rfl (by kernel_rfl) [] (by rfl) [] ?_
 conv=>whnf
 repeat' (first
 | ((with_reducible refine on_dec_f ?_ ?_);(focus (have:=hix (by omega);omega));conv=>whnf)
 | ((with_reducible refine on_dec (fun h=>?_) (fun h=>?_))<;>(try simp only [List.length_map] at h)<;>conv=>whnf)
 | ((with_reducible refine call_go ?_);(first | refine call_step (run_view (c148 _ _) rfl rfl) ?_ | refine call_step (run_view (c136 _ _) rfl rfl) ?_);conv=>whnf)
 | ((with_reducible refine loop_go ?_);first | (refine loop2 (fun (out : List Bs) (cur : Bs)=>l.length - out.length) (fun (out : List Bs) (cur : Bs)=>SpI c s l out cur ∧ out.length < l.length) (fun (out : List Bs) (cur : Bs)=>[(0,.d (.str cur)),(1,.d (.str [c])),(2,.d (i 0)),(3,.d (i ((l.length : Int) - 1))),(9,.sl 0 0 l.length 1 (some l.length)),(10,.d (i out.length))]) (fun (out : List Bs) (cur : Bs)=>[⟨((rowS out (l.length - out.length)).map D.str).map .d,1,0⟩]) ([]) (s) (by exact ⟨⟨hl,Nat.le_refl _⟩,hl1⟩) ?_ (fun out cur C hI hC=>?_);(exact ⟨[.old 0],rfl,rfl,⟨(by first | (show (_ : D) = _;with_reducible rfl) ),(by first | (show (_ : D) = _;with_reducible rfl) ),(by first | (show (_ : D) = _;with_reducible rfl) ),(by first | (show (_ : D) = _;with_reducible rfl) ),(by first | exact ⟨rfl,rfl,rfl,rfl,rfl⟩ ),(by first | exact rfl),trivial⟩,⟨⟨rfl,rfl,.inl ⟨_,(by rw [← rowS_zero];rfl),rfl⟩⟩,trivial⟩⟩);have hix : (out.length : Int) < (l.length : Int) - 1 → idx cur c = (cur.idxOf c : Int) ∧ cur.idxOf c < cur.length:=fun h=>idx_in (hI.1.in h);have hcu:=hI.1.le;have hol:=hI.2;all_goals (conv=>whnf)))
 | ((with_reducible show C _ _);first | (refine hC (out ++ [cur.take (cur.idxOf c)]) (cur.drop (cur.idxOf c + 1)) _ _ ?_ (by simp only [List.length_append,List.length_cons,List.length_nil];omega) ?_;clear hC;rotate_left;(exact ⟨[.old 0],rfl,rfl,⟨(congrArg D.str (by rw [List.take_length])),(by first | (show (_ : D) = _;with_reducible rfl) ),(by first | (show (_ : D) = _;with_reducible rfl) ),(by first | (show (_ : D) = _;with_reducible rfl) ),(by first | exact ⟨rfl,rfl,rfl,rfl,rfl⟩ ),(congrArg (D.int .i64) (by simp)),trivial⟩,⟨⟨rfl,rfl,.inl ⟨_,rfl,rfl⟩⟩,trivial⟩⟩);(exact ⟨hI.1.step (hI.1.in (by assumption)),by simp;omega⟩)))
 | (refine wrap64 (by omega) ?_;conv=>whnf)
 | (rw [hgm];refine ⟨⟨by omega,Int.le_refl _,by omega,(capI (by omega) rfl).2.2⟩,?_⟩;conv=>whnf)
 | (refine ⟨⟨by omega,by omega⟩,?_⟩;conv=>whnf)
 | (refine sl_str 0 (cur.idxOf c) (by omega) (by have:=hix (by omega);omega) (by have:=hix (by omega);omega) ?_;conv=>whnf)
 | (refine sl_str (cur.idxOf c + 1) cur.length (by have:=hix (by omega);simp only [List.length_cons,List.length_nil];omega) (by omega) (by have:=hix (by omega);omega) ?_;conv=>whnf)
 | (refine nthK_rowi (l:=rowS out (l.length - out.length)) out.length (by omega) (by rw [rowS_len];omega) ?_;conv=>whnf)
 | (refine set_str (m:=out.length) (by omega) (rowS_setN hI.2) ?_;conv=>whnf)
 | (refine own_sl 0 (out.length + 1) (by omega) (by omega) (by omega) ?_;conv=>whnf)
 | (refine wrap64 (by have:=hix (by omega);simp only [List.length_cons,List.length_nil];omega) ?_;conv=>whnf)
 | ((with_reducible refine endx_go ?_);first | (have hlo:=hI.1.out (by assumption);refine endX_of (.inl ⟨[.old 0],rfl,rfl,⟨⟨rfl,rfl,?_,rfl,?_⟩,trivial⟩,⟨⟨rfl,rfl,.inl ⟨_,?_,rfl⟩⟩,trivial⟩⟩);(focus (rw [hlo];simp));(focus (rfl));(rw [hlo];simp [rowS_end]);done))
  | fail
  )
theorem c108 (s : Bs) (c : UInt8) (l : List Bs) (hl : cut c s = l) (hs : s.length < 1000000) : Run Tryz.prog 108 [.d (.str s),.d (.str [c])] [] (.sl 0 0 l.length 1 (some l.length)) [⟨(l.map D.str).map .d,1,0⟩]:=by
 refine run_walkV eok Tryz.func108 rfl (by kernel_rfl) [] (by rfl) [] ?_
 conv=>whnf
 repeat' (first
 | ((with_reducible refine call_go ?_);(first | refine call_step (run_newC (l:=l) (c134 s c l hl hs) (fun _=>rfl) rfl) ?_);conv=>whnf)
 | ((with_reducible refine endx_go ?_);first | (exact endX_of (.inl ⟨[.old 0],rfl,rfl,⟨⟨rfl,rfl,rfl,rfl,rfl⟩,trivial⟩,⟨⟨rfl,rfl,.inl ⟨_,rfl,rfl⟩⟩,trivial⟩⟩);done))
  | fail
  )
theorem c110 (s : Bs) : Fn 110 [.str s] (.bool (bad s)):=by
 refine run_walkF eok Tryz.func110 rfl (by kernel_rfl) ?_
 conv=>whnf
 repeat' (first
 | ((with_reducible refine onBool_split (fun h=>?_) (fun h=>?_))<;>conv=>whnf)
 | ((with_reducible refine call_go ?_);(first | refine call_step (run_view (c111 _ _) rfl rfl) ?_);conv=>whnf)
 | ((with_reducible refine endx_go ?_);first | (refine endx (congrArg D.bool ?_);unfold bad;(simp_all;done);done) )
  | fail
  )
def ixBad : List Bs → Nat → Int
 | [],_=>-1
 | x :: l,k=>if bad x = true then (k : Int) else ixBad l (k + 1)
theorem ixBad_drop {l : List Bs} {k : Nat} (h : k < l.length) : ixBad (l.drop k) k = if bad l[k] = true then (k : Int) else ixBad (l.drop (k + 1)) (k + 1):=by
 rw [List.drop_eq_getElem_cons h];rfl
theorem ixBad_end {l : List Bs} {k : Nat} (h : l.length ≤ k) : ixBad (l.drop k) k = -1:=by
 rw [List.drop_eq_nil_of_le h];rfl
theorem ixBad_any : ∀ (l : List Bs) (k : Nat),decide (0 ≤ ixBad l k) = l.any bad
 | [],k=>rfl
 | x :: l,k=>by
  have ih:=ixBad_any l (k + 1)
  rw [ixBad,List.any_cons,← ih]
  by_cases h : bad x = true
  ·rw [if_pos h,h];simp
  ·rw [if_neg h];simp [h]
attribute [local irreducible] bad
theorem c137 (l : List Bs) (hs : l.length < 1000000) : Fn 137 [.fs (l.map .str),.fn 110 [] []] (i (ixBad l 0)):=by
 refine run_walkF eok Tryz.func137 rfl (by kernel_rfl) ?_
 conv=>whnf
 repeat' (first
 | ((with_reducible refine on_dec (fun h=>?_) (fun h=>?_))<;>(try simp only [List.length_map] at h)<;>conv=>whnf)
 | ((with_reducible refine onBool_split (fun h=>?_) (fun h=>?_))<;>conv=>whnf)
 | ((with_reducible refine call_go ?_);(first | refine call_step (run_view (c110 _) rfl rfl) ?_);conv=>whnf)
 | ((with_reducible refine loop_go ?_);first | (refine loop1 (fun (k : Nat)=>l.length - k) (fun (k : Nat)=>k ≤ l.length ∧ ixBad l 0 = ixBad (l.drop k) k) (fun (k : Nat)=>[(0,.d (.fs (l.map .str))),(1,.d (.fn 110 [] [])),(7,.d (i l.length)),(8,.d (i k))]) (fun (k : Nat)=>[]) (0) (by first | (simp;done) ) ?_ (fun k C hI hC=>?_);(exact ⟨[],rfl,rfl,⟨(by first | (show (_ : D) = _;with_reducible rfl) ),(by first | (show (_ : D) = _;with_reducible rfl) ),(by first | exact congrArg (D.int .i64) (by simp only [List.length_map]) ),(by first | exact congrArg (D.int .i64) (by omega) ),trivial⟩,trivial⟩);all_goals (conv=>whnf)))
 | ((with_reducible show C _ _);first | (refine hC (k + 1) _ _ ?_ (by omega) ?_;clear hC;rotate_left;(exact ⟨[],rfl,rfl,⟨(by first | (show (_ : D) = _;with_reducible rfl) ),(by first | (show (_ : D) = _;with_reducible rfl) ),(by first | (show (_ : D) = _;with_reducible rfl) ),(by first | exact congrArg (D.int .i64) (by omega) ),trivial⟩,trivial⟩);(exact ⟨by omega,by rw [hI.2,ixBad_drop (by omega),if_neg (by simpa using h)]⟩)))
 | (refine ix_map (by omega) ?_;conv=>whnf)
 | (refine wrap64 (by omega) ?_;conv=>whnf)
 | ((with_reducible refine endx_go ?_);first | (exact endx (congrArg i (by rw [hI.2,ixBad_drop (by omega),if_pos h]));done) | (exact endx (congrArg i (by rw [hI.2,ixBad_end (by omega)]));done))
  | fail
  )
theorem c112 (l : List Bs) (hs : l.length < 1000000) : Fn 112 [.fs (l.map .str),.fn 110 [] []] (.bool (l.any bad)):=by
 refine run_walkF eok Tryz.func112 rfl (by kernel_rfl) ?_
 conv=>whnf
 repeat' (first
 | ((with_reducible refine call_go ?_);(first | refine call_step (run_view (c137 l hs) rfl rfl) ?_);conv=>whnf)
 | ((with_reducible refine endx_go ?_);first | (exact endx (congrArg D.bool (ixBad_any l 0));done))
  | fail
  )
attribute [local irreducible] restOf isAbs dots
theorem c77n (s : Bs) (hs : s.length < 1000000) (hr : restOf s = []) : Fn 77 [.str s] (.tup [PPe ⟨isAbs s,[],[]⟩,.bool (isAbs s)]):=by
 refine run_walkF eok Tryz.func77 rfl (by kernel_rfl) ?_
 conv=>whnf
 repeat' (first
 | (exact absurd (by assumption) (of_decide_eq_false h))
 | ((with_reducible refine onBool_split (fun h=>?_) (fun h=>?_))<;>conv=>whnf)
 | ((with_reducible refine call_go ?_);(first | refine call_step (run_view (c107 s hs) rfl rfl) ?_ );conv=>whnf)
 | ((with_reducible refine endx_go ?_);first | (exact endxv rfl rfl;done))
  | fail
  )
theorem rest_le (s : Bs) : (restOf s).length ≤ s.length:=by
 cases s with
 | nil=>unfold restOf;decide
 | cons x r=>exact rest_len x r
theorem c77f (s : Bs) (l : List Bs) (hs : s.length < 100000) (hr : ¬ restOf s = []) (hl : cut 47 (restOf s) = l) (hc : ¬ 58 ∈ (l[l.length - 1]'(lastIx (by rw [← hl];exact cut_ne _ _)))) : Fn 77 [.str s] (.tup [PPe ⟨isAbs s,l,[]⟩,.bool (!l.any bad)]):=by
 have hs : s.length < 1000000:=(by omega);have hl0 : 0 < l.length:=List.length_pos_iff.2 (by rw [← hl];exact cut_ne _ _);have hrl:=rest_le s;have hll : l.length < 200000:=(by rw [← hl,cut_len];have:=List.count_le_length (a:=47) (l:=restOf s);omega);have hpl : ∀ x ∈ l,x.length < 1000000:=(by intro y hy;rw [← hl] at hy;have:=(cut_mem hy).2;omega);have hls : (l[l.length - 1]'(by omega)).length < 1000000:=hpl _ (List.getElem_mem _)
 refine run_walkF eok Tryz.func77 rfl (by kernel_rfl) ?_
 conv=>whnf
 repeat' (first
 | (exact absurd (of_decide_eq_true h) (by assumption))
 | ((with_reducible refine on_not (fun h=>?_) (fun h=>?_))<;>conv=>whnf)
 | ((with_reducible refine onBool_split (fun h=>?_) (fun h=>?_))<;>conv=>whnf)
 | ((with_reducible refine call_go ?_);(first | refine call_step (run_view (c107 s hs) rfl rfl) ?_ | refine call_step (run_newC (l:=l) (c108 (restOf s) 47 l hl (by have:=rest_le s;omega)) (fun _=>rfl) rfl) ?_ | refine call_step (run_view (c109f _ 58 hls hc) rfl rfl) ?_ | refine call_step (run_view (c112 l (by omega)) rfl (vl2 (view_map rfl Nat.two_pos) rfl)) ?_ );conv=>whnf)
 | (refine ⟨[],[(0,4),(0,12),(0,16)],(by decide +kernel),?_⟩;conv=>whnf)
 | (refine wrap64 (by omega) ?_;conv=>whnf)
 | (refine ⟨⟨by omega,by omega⟩,?_⟩;conv=>whnf)
 | (refine nthK_rowi (l:=l) (l.length - 1) (by omega) (by omega) ?_;conv=>whnf)
 | ((with_reducible refine endx_go ?_);first | (refine endxv (view_tup (vlc (view_agg (vlc rfl (vlc (view_map rfl Nat.two_pos) (vlc rfl vln)))) (vlc rfl vln))) ?_;rw [h];rfl;done))
 | (refine ⟨rfl,?_⟩;conv=>whnf)
  | fail
  )
theorem view_mapL {α : Type} {f : α → D} {l : List α} {H : Heap} {id k k' st n len : Nat} {cap : Option Nat} (e : len = l.length) (h : H[id]? = some ⟨(l.map f).map .d,k,st⟩) (hst : st < 2) : view (n + 2) H (.sl id 0 len k' cap) = some (.fs (l.map f)):=by
 subst e;exact view_map h hst
theorem c77t (s : Bs) (l L : List Bs) (hs : s.length < 100000) (hr : ¬ restOf s = []) (hl : cut 47 (restOf s) = l) (hc : 58 ∈ (l[l.length - 1]'(lastIx (by rw [← hl];exact cut_ne _ _)))) (hL : l.set (l.length - 1) (pieceA (l[l.length - 1]'(lastIx (by rw [← hl];exact cut_ne _ _)))) = L) : Fn 77 [.str s] (.tup [PPe ⟨isAbs s,L,pieceB (l[l.length - 1]'(lastIx (by rw [← hl];exact cut_ne _ _)))⟩,.bool (!L.any bad && (!bad (pieceB (l[l.length - 1]'(lastIx (by rw [← hl];exact cut_ne _ _)))) && !dots (pieceA (l[l.length - 1]'(lastIx (by rw [← hl];exact cut_ne _ _))))))]):=by
 have hs : s.length < 1000000:=(by omega);have hl0 : 0 < l.length:=List.length_pos_iff.2 (by rw [← hl];exact cut_ne _ _);have hrl:=rest_le s;have hll : l.length < 200000:=(by rw [← hl,cut_len];have:=List.count_le_length (a:=47) (l:=restOf s);omega);have hpl : ∀ x ∈ l,x.length < 1000000:=(by intro y hy;rw [← hl] at hy;have:=(cut_mem hy).2;omega);have hls : (l[l.length - 1]'(by omega)).length < 1000000:=hpl _ (List.getElem_mem _);have hLl : L.length = l.length:=(by rw [← hL];simp)
 refine run_walkF eok Tryz.func77 rfl (by kernel_rfl) ?_
 conv=>whnf
 repeat' (first
 | (exact absurd (of_decide_eq_true h) (by assumption))
 | ((with_reducible refine on_not (fun h=>?_) (fun h=>?_))<;>conv=>whnf)
 | ((with_reducible refine onBool_split (fun h=>?_) (fun h=>?_))<;>conv=>whnf)
 | ((with_reducible refine call_go ?_);(first | refine call_step (run_view (c107 s hs) rfl rfl) ?_ | refine call_step (run_newC (l:=l) (c108 (restOf s) 47 l hl (by have:=rest_le s;omega)) (fun _=>rfl) rfl) ?_ | refine call_step (run_view (c109t _ 58 hls hc) rfl rfl) ?_ | refine call_step (run_view (c112 L (by omega)) rfl (vl2 (view_mapL hLl.symm rfl Nat.two_pos) rfl)) ?_ | refine call_step (run_view (c80 _) rfl rfl) ?_ | refine call_step (run_view (c110 _) rfl rfl) ?_);conv=>whnf)
 | (refine ⟨[],[(0,4),(0,12),(0,16)],(by decide +kernel),?_⟩;conv=>whnf)
 | (refine wrap64 (by omega) ?_;conv=>whnf)
 | (refine set_str (m:=l.length - 1) (L:=L) (by omega) hL ?_;conv=>whnf)
 | (refine ⟨⟨by omega,by omega⟩,?_⟩;conv=>whnf)
 | (refine nthK_rowi (l:=l) (l.length - 1) (by omega) (by omega) ?_;conv=>whnf)
 | ((with_reducible refine endx_go ?_);first | (refine endxv (view_tup (vlc (view_agg (vlc rfl (vlc (view_mapL hLl.symm rfl Nat.two_pos) (vlc rfl vln)))) (vlc rfl vln))) ?_;(simp_all [PPe,pieceA,pieceB];done);done) | (refine endxv (view_tup (vlc (view_agg (vlc rfl (vlc (view_mapL hLl.symm rfl Nat.two_pos) (vlc rfl vln)))) (vlc rfl vln))) ?_;rw [h];rfl;done))
 | (refine ⟨rfl,?_⟩;conv=>whnf)
  | fail
  )
theorem c77 (s : Bs) (hs : s.length < 100000) : Fn 77 [.str s] (.tup [PPe (splitI s).1,.bool (splitI s).2]):=by
 by_cases hr : restOf s = []
 ·have e : splitI s = (⟨isAbs s,[],[]⟩,isAbs s):=by unfold splitI;rw [if_pos hr]
  rw [e];exact c77n s (by omega) hr
 ·have hne : cut 47 (restOf s) ≠ []:=cut_ne _ _
  have el : lastOf (cut 47 (restOf s)) = (cut 47 (restOf s))[(cut 47 (restOf s)).length - 1]'(lastIx hne):=last_get hne
  by_cases hc : (lastOf (cut 47 (restOf s))).contains 58 = true
  ·rw [splitI_c hr hc]
   have hm : 58 ∈ lastOf (cut 47 (restOf s)):=by simpa using hc
   rw [el] at hm ⊢
   have:=c77t s (cut 47 (restOf s)) _ hs hr rfl hm rfl
   rw [set_last hne] at this
   exact this
  ·rw [splitI_n hr hc]
   have hm : ¬ 58 ∈ lastOf (cut 47 (restOf s)):=by simpa using hc
   rw [el] at hm
   exact c77f s _ hs hr rfl hm
end Go.Proofs.YtpfokhdelnlciaaGreatDoor
namespace Go.Proofs.YtpfokhdelnlciaaGreatDoor
open Go Dw
set_option maxRecDepth 10000
attribute [local irreducible] Run
set_option maxHeartbeats 4000000
open Paths
attribute [local irreducible] nameErr cut normal dots partErr
theorem cut_sum {c : UInt8} {s x : Bs} (h : x ∈ cut c s) : x.length ≤ s.length:=(cut_mem h).2
theorem split_len (s : Bs) : (∀ x ∈ (splitI s).1.parts,x.length ≤ s.length) ∧ (splitI s).1.stream.length ≤ s.length ∧ (splitI s).1.parts.length ≤ s.length + 1:=by
 have hr:=rest_le s
 unfold splitI
 split
 ·exact ⟨fun x h=>(by cases h),Nat.zero_le _,Nat.zero_le _⟩
 ·have hn : (cut 47 (restOf s)).length ≤ s.length + 1:=by rw [cut_len];have:=List.count_le_length (a:=47) (l:=restOf s);omega
  have hne : cut 47 (restOf s) ≠ []:=cut_ne _ _
  have hl : (lastOf (cut 47 (restOf s))).length ≤ s.length:=by
   rw [show lastOf (cut 47 (restOf s)) = _ from last_get hne]
   have:=cut_sum (List.getElem_mem (l:=cut 47 (restOf s)) (lastIx hne));omega
  split
  ·refine ⟨fun x h=>?_,?_,?_⟩
   ·rcases List.mem_append.1 h with h | h
    ·have:=cut_sum ((List.dropLast_sublist _).mem h);omega
    ·rw [List.mem_singleton] at h;subst h
     unfold pieceA;rw [List.length_take];omega
   ·unfold pieceB;simp only [List.length_drop];omega
   ·simp only [List.length_append,List.length_dropLast,List.length_cons,List.length_nil];omega
  ·refine ⟨fun x h=>?_,Nat.zero_le _,hn⟩
   have:=cut_sum h;omega
def eachP : List Bs → Nat → Int × Int
 | [],_=>(0,0)
 | x :: l,k=>if partErr x = 0 then eachP l (k + 1) else ((k : Int),partErr x)
theorem eachP_drop {l : List Bs} {k : Nat} (h : k < l.length) : eachP (l.drop k) k = if partErr l[k] = 0 then eachP (l.drop (k + 1)) (k + 1) else ((k : Int),partErr l[k]):=by
 rw [List.drop_eq_getElem_cons h];rfl
theorem eachP_end {l : List Bs} {k : Nat} (h : l.length ≤ k) : eachP (l.drop k) k = (0,0):=by
 rw [List.drop_eq_nil_of_le h];rfl
theorem eachP_first : ∀ (l : List Bs) (k : Nat),(eachP l k).2 = firstE (l.map partErr)
 | [],k=>rfl
 | x :: l,k=>by
  rw [eachP,List.map_cons,firstE_cons]
  split
  ·exact eachP_first l (k + 1)
  ·rfl
theorem c114 (n : Int) (s : Bs) (hs : s.length < 1000000) : Fn 114 [i n,.str s] (i (partErr s)):=by
 refine run_walkF eok Tryz.func114 rfl (by kernel_rfl) ?_
 conv=>whnf
 repeat' (first
 | ((with_reducible refine onBool_split (fun h=>?_) (fun h=>?_))<;>conv=>whnf)
 | ((with_reducible refine call_go ?_);(first | refine call_step (run_view (c80 _) rfl rfl) ?_ | refine call_step (run_view (c63 s hs) rfl rfl) ?_);conv=>whnf)
 | ((with_reducible refine endx_go ?_);first | (exact endx (congrArg i (pe_dots h).symm);done) | (exact endx (congrArg i (pe_name h).symm);done))
  | fail
  )
theorem c113 (l : List Bs) (hl : l.length < 1000000) (hb : ∀ x ∈ l,x.length < 1000000) : Fn 113 [.fs (l.map .str),.fn 114 [] []] (.tup [i (eachP l 0).1,i (eachP l 0).2]):=by
 refine run_walkF eok Tryz.func113 rfl (by kernel_rfl) ?_
 conv=>whnf
 repeat' (first
 | ((with_reducible refine on_dec (fun h=>?_) (fun h=>?_))<;>(try simp only [List.length_map] at h)<;>conv=>whnf)
 | ((with_reducible refine on_ndec (fun h=>?_) (fun h=>?_))<;>(try simp only [List.length_map] at h)<;>conv=>whnf)
 | ((with_reducible refine call_go ?_);(first | refine call_step (run_view (c114 _ _ (hb _ (List.getElem_mem _))) rfl rfl) ?_);conv=>whnf)
 | ((with_reducible refine loop_go ?_);first | (refine loop1 (fun (k : Nat)=>l.length - k) (fun (k : Nat)=>k ≤ l.length ∧ eachP l 0 = eachP (l.drop k) k) (fun (k : Nat)=>[(1,.d (.fn 114 [] [])),(9,.d (.fs (l.map .str))),(10,.d (i l.length)),(11,.d (i k))]) (fun (k : Nat)=>[]) (0) (by first | (simp;done) ) ?_ (fun k C hI hC=>?_);(exact ⟨[],rfl,rfl,⟨(by first | (show (_ : D) = _;with_reducible rfl) ),(by first | (show (_ : D) = _;with_reducible rfl) ),(by first | exact congrArg (D.int .i64) (by simp only [List.length_map]) ),(by first | exact congrArg (D.int .i64) (by omega) ),trivial⟩,trivial⟩);all_goals (conv=>whnf)))
 | ((with_reducible show C _ _);first | (refine hC (k + 1) _ _ ?_ (by omega) ?_;clear hC;rotate_left;(exact ⟨[],rfl,rfl,⟨(by first | (show (_ : D) = _;with_reducible rfl) ),(by first | (show (_ : D) = _;with_reducible rfl) ),(by first | (show (_ : D) = _;with_reducible rfl) ),(by first | exact congrArg (D.int .i64) (by omega) ),trivial⟩,trivial⟩);(exact ⟨by omega,by rw [hI.2,eachP_drop (by omega),if_pos h]⟩)))
 | (refine ix_map (by omega) ?_;conv=>whnf)
 | (refine wrap64 (by omega) ?_;conv=>whnf)
 | ((with_reducible refine endx_go ?_);first | (refine endx2 ?_;(rw [hI.2,eachP_drop (by omega),if_neg h])<;>rfl;done) | (refine endx2 ?_;(rw [hI.2,eachP_end (by omega)])<;>rfl;done))
  | fail
  )
theorem c78 (l : List Bs) (hl : l.length < 1000000) (hb : ∀ x ∈ l,x.length < 1000000) : Fn 78 [.fs (l.map .str)] (i (firstE (l.map partErr))):=by
 refine run_walkF eok Tryz.func78 rfl (by kernel_rfl) ?_
 conv=>whnf
 repeat' (first
 | ((with_reducible refine call_go ?_);(first | refine call_step (run_view (c113 l hl hb) rfl rfl) ?_);conv=>whnf)
 | ((with_reducible refine endx_go ?_);first | (exact endx (congrArg i (eachP_first l 0));done))
  | fail
  )
theorem c79 (s : Bs) (hs : s.length < 1000000) : Fn 79 [.str s] (i (streamErr s)):=by
 refine run_walkF eok Tryz.func79 rfl (by kernel_rfl) ?_
 conv=>whnf
 repeat' (first
 | ((with_reducible refine onBool_split (fun h=>?_) (fun h=>?_))<;>conv=>whnf)
 | ((with_reducible refine call_go ?_);(first | refine call_step (run_view (c63 s hs) rfl rfl) ?_);conv=>whnf)
 | ((with_reducible refine endx_go ?_);first | (refine endx (congrArg i ?_);have h9 : s = []:=of_decide_eq_true h;unfold streamErr;rw [if_pos h9];done) | (refine endx (congrArg i ?_);have h9 : ¬ s = []:=of_decide_eq_false h;unfold streamErr;rw [if_neg h9];done))
  | fail
  )
attribute [local irreducible] splitI streamErr
theorem errI_eq (s : Bs) : errI s = firstE [if (splitI s).2 = true then 0 else 7,firstE ((splitI s).1.parts.map partErr),streamErr (splitI s).1.stream,if decide (((splitI s).1.parts.length : Int) ≤ 16) = true then 0 else 8]:=by
 unfold errI
 have e : (if (splitI s).1.parts.length ≤ 16 then (0 : Int) else 8) = if decide (((splitI s).1.parts.length : Int) ≤ 16) = true then 0 else 8:=by
  by_cases h : (splitI s).1.parts.length ≤ 16
  ·rw [if_pos h,if_pos (decide_eq_true (by omega))]
  ·rw [if_neg h,if_neg (by simp;omega)]
 rw [e]
theorem parse_big {s : Bs} (h : (200 : Int) < s.length) : parse s = (noPP,8):=by
 rw [← parse_eq];unfold parseI;rw [if_pos (by omega)]
theorem parse_okI {s : Bs} (h : ¬ (200 : Int) < s.length) (h2 : errI s = 0) : parse s = ((splitI s).1,0):=by
 rw [← parse_eq];unfold parseI;rw [if_neg (by omega),if_pos h2]
theorem parse_noI {s : Bs} (h : ¬ (200 : Int) < s.length) (h2 : ¬ errI s = 0) : parse s = (noPP,errI s):=by
 rw [← parse_eq];unfold parseI;rw [if_neg (by omega),if_neg h2]
attribute [local irreducible] parse
theorem c35 (s : Bs) : Fn 35 [.str s] (.tup [PPe (parse s).1,i (parse s).2]):=by
 obtain ⟨hp1,hp2,hp3⟩:=split_len s
 refine run_walkF eok Tryz.func35 rfl (by kernel_rfl) ?_
 conv=>whnf
 repeat' (first
 | ((with_reducible refine on_dec (fun h=>?_) (fun h=>?_))<;>(try simp only [List.length_map] at h)<;>conv=>whnf)
 | ((with_reducible refine on_ndec (fun h=>?_) (fun h=>?_))<;>(try simp only [List.length_map] at h)<;>conv=>whnf)
 | ((with_reducible refine call_go ?_);(first | refine call_step (run_viewF (c77 s (by omega)) rfl) ?_ | refine call_step (run_view (c53 _ _) rfl rfl) ?_ | refine call_step (run_view (c78 _ (by omega) (fun x hx=>by have:=hp1 x hx;omega)) rfl rfl) ?_ | refine call_step (run_view (c79 _ (by omega)) rfl rfl) ?_ | refine call_step (run_view (c52 [_,_,_,_] (by simp)) rfl rfl) ?_);conv=>whnf)
 | (refine ⟨[],[(3,1),(6,1),(9,1),(6,4),(9,4),(9,7)],(by decide +kernel),?_⟩;conv=>whnf)
 | ((with_reducible refine endx_go ?_);first | (refine endxv rfl ?_;(rw [parse_big h])<;>rfl;done) | (refine endxv rfl ?_;rw [← errI_eq] at h;rw [parse_noI (by assumption) h];simp only [List.length_map];(rw [errI_eq])<;>rfl;done) | (refine endxv rfl ?_;rw [← errI_eq] at h;(rw [parse_okI (by assumption) h])<;>rfl;done))
 | (refine ⟨rfl,?_⟩;conv=>whnf)
  | fail
  )
theorem c88' (l : List Bs) (h1 : l.length < 1000000) (h2 : (glue 47 l).length < 1000000) : Fn 88 [.fs (l.map .str),.str [47]] (.str (glue 47 l)):=c88 l 47 (by omega) (by omega)
theorem glue_le (p : PP) : (glue 47 p.parts).length ≤ (text p).length:=by unfold text;simp only [List.length_append];omega
attribute [local irreducible] glue
theorem text_t {p : PP} (h : p.abs = true) (h2 : p.stream = []) : [47] ++ glue 47 p.parts = text p:=by unfold text;simp [h,h2]
theorem text_tt {p : PP} (h : p.abs = true) (h2 : ¬ p.stream = []) : [47] ++ glue 47 p.parts ++ ([58] ++ p.stream) = text p:=by unfold text;simp [h,h2]
theorem text_f {p : PP} (h : p.abs = false) (h2 : p.stream = []) : glue 47 p.parts = text p:=by unfold text;simp [h,h2]
theorem text_ft {p : PP} (h : p.abs = false) (h2 : ¬ p.stream = []) : glue 47 p.parts ++ ([58] ++ p.stream) = text p:=by unfold text;simp [h,h2]
theorem c55 (p : PP) (hn : p.parts.length < 1000000) (ht : (text p).length < 1000000) : Fn 55 [PPe p] (.str (text p)):=by
 have hg:=glue_le p;have hs:=stream_len p
 refine run_walkF eok Tryz.func55 rfl (by kernel_rfl) ?_
 conv=>whnf
 repeat' (first
 | ((with_reducible refine on_not (fun h=>?_) (fun h=>?_))<;>conv=>whnf)
 | ((with_reducible refine onBool_split (fun h=>?_) (fun h=>?_))<;>conv=>whnf)
 | ((with_reducible refine call_go ?_);(first | refine call_step (run_view (c88' p.parts hn (by omega)) rfl rfl) ?_);conv=>whnf)
 | (refine str_add (by constructor<;>(try simp only [List.length_append,List.length_cons,List.length_nil,lit1])<;>omega) ?_;conv=>whnf)
 | ((with_reducible refine endx_go ?_);first | (exact endx (congrArg D.str (text_tt (by assumption) (of_decide_eq_false h)));done) | (exact endx (congrArg D.str (text_t (by assumption) (of_decide_eq_true h)));done) | (exact endx (congrArg D.str (text_ft (by assumption) (of_decide_eq_false h)));done) | (exact endx (congrArg D.str (text_f (by assumption) (of_decide_eq_true h)));done))
  | fail
  )
theorem nd_keep {ab : Bool} {out out' : List Bs} {s : Bs} (h : ab = true → ∀ x ∈ out, dots x = false) (e : normStep ab out s = out') : ab = true → ∀ x ∈ out', dots x = false := by
 intro ha
 subst ha;subst e
 exact step_nodots (h rfl)
theorem nd_no {ab : Bool} {out : List Bs} (h : ab = true → ∀ x ∈ out,dots x = false) (ha : ab = true) {n : Nat} {hn : n < out.length} (e : out[n] = [46,46]) : False:=by
 have:=h ha _ (List.getElem_mem hn)
 rw [e] at this
 unfold dots at this
 exact absurd this (by decide)
theorem c56t (p : PP) (hab : p.abs = true) (hn : p.parts.length < 1000000) : Fn 56 [PPe p] (PPe (normal p)):=by
 refine run_walkF eok Tryz.func56 rfl (by kernel_rfl) ?_
 conv=>whnf
 repeat' (first
 | ((with_reducible refine on_dec_t (by assumption) ?_);conv=>whnf)
 | ((with_reducible refine on_dec_f (by assumption) ?_);conv=>whnf)
 | ((with_reducible refine onBool_t (by assumption) ?_);conv=>whnf)
 | ((with_reducible refine on_nt (by assumption) ?_);conv=>whnf)
 | ((with_reducible refine on_dec_f ?_ ?_);(focus ((try simp only [List.length_map,List.length_cons,List.length_nil,List.length_append]);omega));conv=>whnf)
 | ((with_reducible refine on_dec_t ?_ ?_);(focus ((try simp only [List.length_map,List.length_cons,List.length_nil,List.length_append]);omega));conv=>whnf)
 | ((with_reducible refine on_dec (fun h=>?_) (fun h=>?_))<;>(try simp only [List.length_map] at h)<;>conv=>whnf)
 | ((with_reducible refine on_ndec (fun h=>?_) (fun h=>?_))<;>(try simp only [List.length_map] at h)<;>conv=>whnf)
 | ((with_reducible refine loop_go ?_);first | (refine loop2 (fun (k : Nat) (out : List Bs)=>p.parts.length - k) (fun (k : Nat) (out : List Bs)=>k ≤ p.parts.length ∧ out.length ≤ k ∧ p.parts.foldl (normStep p.abs) [] = (p.parts.drop k).foldl (normStep p.abs) out ∧ (p.abs = true → ∀ x ∈ out,dots x = false)) (fun (k : Nat) (out : List Bs)=>[(1,.ptr 0 0 0),(2,.ptr 1 0 0),(3,.ptr 2 0 0),(13,.d (.fs (p.parts.map .str))),(14,.d (i p.parts.length)),(15,.d (i k))]) (fun (k : Nat) (out : List Bs)=>[⟨[.d (PPe p)],3,0⟩,⟨[.junk],3,0⟩,⟨[.agg [.d (.bool p.abs),.sl 3 0 out.length 1 none,.d (.str p.stream)]],3,0⟩,⟨(out.map D.str).map .d,1,0⟩]) (0) ([]) (by exact ⟨Nat.zero_le _,Nat.zero_le _,rfl,fun _ x hx=>(by cases hx)⟩) ?_ (fun k out C hI hC=>?_);(exact ⟨[.old 0,.old 1,.old 2,.void 1],rfl,rfl,⟨⟨rfl,rfl,rfl⟩,⟨rfl,rfl,rfl⟩,⟨rfl,rfl,rfl⟩,(by first | (show (_ : D) = _;with_reducible rfl) ),(by first | exact congrArg (D.int .i64) (by simp only [List.length_map]) ),(by first | exact congrArg (D.int .i64) (by omega) ),trivial⟩,⟨⟨rfl,rfl,.inl ⟨[_],rfl,rfl⟩⟩,⟨rfl,rfl,.inr ⟨trivial,trivial⟩⟩,⟨rfl,rfl,.inr ⟨⟨rfl,⟨rfl,rfl,rfl,rfl⟩,rfl,trivial⟩,trivial⟩⟩,⟨rfl,rfl,(by decide),rfl⟩,trivial⟩⟩);all_goals (conv=>whnf)))
 | ((with_reducible show C _ _);first | (refine hC (k + 1) (out) _ _ ?_ (by omega) ?_;clear hC;rotate_left;(exact ⟨[.old 0,.old 1,.old 2,.old 3],rfl,rfl,⟨⟨rfl,rfl,rfl⟩,⟨rfl,rfl,rfl⟩,⟨rfl,rfl,rfl⟩,(by first | (show (_ : D) = _;with_reducible rfl) ),(by first | (show (_ : D) = _;with_reducible rfl) ),(by first | exact congrArg (D.int .i64) (by omega) ),trivial⟩,⟨⟨rfl,rfl,.inl ⟨[_],rfl,rfl⟩⟩,⟨rfl,rfl,.inr ⟨trivial,trivial⟩⟩,⟨rfl,rfl,.inr ⟨⟨rfl,⟨rfl,rfl,rfl,rfl,rfl⟩,rfl,trivial⟩,trivial⟩⟩,⟨rfl,rfl,.inr (wksd _ _)⟩,trivial⟩⟩);(exact ⟨by omega,by omega,by rw [hI.2.2.1,norm_drop (by omega),st_dot (by assumption)],nd_keep hI.2.2.2 (st_dot (by assumption))⟩)) | (refine hC (k + 1) (out ++ [p.parts[k]]) _ _ ?_ (by omega) ?_;clear hC;rotate_left;(exact ⟨[.old 0,.old 1,.old 2,.old 5],rfl,rfl,⟨⟨rfl,rfl,rfl⟩,⟨rfl,rfl,rfl⟩,⟨rfl,rfl,rfl⟩,(by first | (show (_ : D) = _;with_reducible rfl) ),(by first | (show (_ : D) = _;with_reducible rfl) ),(by first | exact congrArg (D.int .i64) (by omega) ),trivial⟩,⟨⟨rfl,rfl,.inl ⟨[_],rfl,rfl⟩⟩,⟨rfl,rfl,.inr ⟨trivial,trivial⟩⟩,⟨rfl,rfl,.inr ⟨⟨rfl,⟨rfl,rfl,(by simp),rfl,rfl⟩,rfl,trivial⟩,trivial⟩⟩,⟨rfl,rfl,.inr (wks_add (wksd _ _) rfl)⟩,trivial⟩⟩);(exact ⟨by omega,by (simp;omega),by rw [hI.2.2.1,norm_drop (by omega),st_app (by assumption) (by assumption)],nd_keep hI.2.2.2 (st_app (by assumption) (by assumption))⟩)) | (refine hC (k + 1) (out.dropLast) _ _ ?_ (by omega) ?_;clear hC;rotate_left;(exact ⟨[.old 0,.old 1,.old 2,.cut 3 (out.length - 1)],rfl,rfl,⟨⟨rfl,rfl,rfl⟩,⟨rfl,rfl,rfl⟩,⟨rfl,rfl,rfl⟩,(by first | (show (_ : D) = _;with_reducible rfl) ),(by first | (show (_ : D) = _;with_reducible rfl) ),(by first | exact congrArg (D.int .i64) (by omega) ),trivial⟩,⟨⟨rfl,rfl,.inl ⟨[_],rfl,rfl⟩⟩,⟨rfl,rfl,.inr ⟨trivial,trivial⟩⟩,⟨rfl,rfl,.inr ⟨⟨rfl,⟨⟨rfl,fun _=>(by omega)⟩,rfl,(by simp),rfl,rfl⟩,rfl,trivial⟩,trivial⟩⟩,⟨rfl,rfl,((out.dropLast.map D.str).map .d),_,(pop_eq (by omega)),(by simp),.inl ⟨_,rfl,rfl⟩⟩,trivial⟩⟩);(exact ⟨by omega,by (simp;omega),by rw [hI.2.2.1,norm_drop (by omega),st_pop (by assumption) (by omega) (by assumption)],nd_keep hI.2.2.2 (st_pop (by assumption) (by omega) (by assumption))⟩)) | (refine hC (k + 1) (out) _ _ ?_ (by omega) ?_;clear hC;rotate_left;(exact ⟨[.old 0,.old 1,.old 2,.old 3],rfl,rfl,⟨⟨rfl,rfl,rfl⟩,⟨rfl,rfl,rfl⟩,⟨rfl,rfl,rfl⟩,(by first | (show (_ : D) = _;with_reducible rfl) ),(by first | (show (_ : D) = _;with_reducible rfl) ),(by first | exact congrArg (D.int .i64) (by omega) ),trivial⟩,⟨⟨rfl,rfl,.inl ⟨[_],rfl,rfl⟩⟩,⟨rfl,rfl,.inr ⟨trivial,trivial⟩⟩,⟨rfl,rfl,.inr ⟨⟨rfl,⟨rfl,rfl,rfl,rfl,rfl⟩,rfl,trivial⟩,trivial⟩⟩,⟨rfl,rfl,.inr (wksd _ _)⟩,trivial⟩⟩);(exact ⟨by omega,by omega,by rw [hI.2.2.1,norm_drop (by omega),(st_top (by assumption) (by first | (left;omega) )).trans (if_pos hab)],nd_keep hI.2.2.2 ((st_top (by assumption) (by first | (left;omega) )).trans (if_pos hab))⟩)) )
 | (refine ⟨⟨(by first | (simp;done)),cap_ok (by simp only [List.length_map,List.length_cons,List.length_nil,List.length_append];omega) rfl⟩,?_⟩;conv=>whnf)
 | (refine ix_map (by omega) ?_;conv=>whnf)
 | (refine wrap64 (by omega) ?_;conv=>whnf)
 | (exact (nd_no hI.2.2.2 hab h).elim)
 | (refine ⟨⟨by omega,by omega⟩,?_⟩;conv=>whnf)
 | (refine nthK_rowi (l:=out) (out.length - 1) (by omega) (by omega) ?_;conv=>whnf)
 | (refine ⟨Nat.le_refl _,?_⟩;conv=>whnf)
 | (refine own_sl 0 (out.length - 1) (by omega) (by omega) (by omega) ?_;conv=>whnf)
 | ((with_reducible refine endx_go ?_);first | (exact endxv (view_agg (vlc rfl (vlc (view_map rfl Nat.two_pos) (vlc rfl vln)))) (norm_end (by assumption) hI.2.2.1 (by first | exact .inr hab ));done) )
  | fail
  )
theorem c56f (p : PP) (hab : p.abs = false) (hn : p.parts.length < 1000000) : Fn 56 [PPe p] (PPe (normal p)):=by
 refine run_walkF eok Tryz.func56 rfl (by kernel_rfl) ?_
 conv=>whnf
 repeat' (first
 | ((with_reducible refine on_dec_t (by assumption) ?_);conv=>whnf)
 | ((with_reducible refine on_dec_f (by assumption) ?_);conv=>whnf)
 | ((with_reducible refine onBool_f (by assumption) ?_);conv=>whnf)
 | ((with_reducible refine on_nf (by assumption) ?_);conv=>whnf)
 | ((with_reducible refine on_dec_f ?_ ?_);(focus ((try simp only [List.length_map,List.length_cons,List.length_nil,List.length_append]);omega));conv=>whnf)
 | ((with_reducible refine on_dec_t ?_ ?_);(focus ((try simp only [List.length_map,List.length_cons,List.length_nil,List.length_append]);omega));conv=>whnf)
 | ((with_reducible refine on_dec (fun h=>?_) (fun h=>?_))<;>(try simp only [List.length_map] at h)<;>conv=>whnf)
 | ((with_reducible refine on_ndec (fun h=>?_) (fun h=>?_))<;>(try simp only [List.length_map] at h)<;>conv=>whnf)
 | ((with_reducible refine loop_go ?_);first | (refine loop2 (fun (k : Nat) (out : List Bs)=>p.parts.length - k) (fun (k : Nat) (out : List Bs)=>k ≤ p.parts.length ∧ out.length ≤ k ∧ p.parts.foldl (normStep p.abs) [] = (p.parts.drop k).foldl (normStep p.abs) out ∧ (p.abs = true → ∀ x ∈ out,dots x = false)) (fun (k : Nat) (out : List Bs)=>[(1,.ptr 0 0 0),(2,.ptr 1 0 0),(3,.ptr 2 0 0),(13,.d (.fs (p.parts.map .str))),(14,.d (i p.parts.length)),(15,.d (i k))]) (fun (k : Nat) (out : List Bs)=>[⟨[.d (PPe p)],3,0⟩,⟨[.junk],3,0⟩,⟨[.agg [.d (.bool p.abs),.sl 3 0 out.length 1 none,.d (.str p.stream)]],3,0⟩,⟨(out.map D.str).map .d,1,0⟩]) (0) ([]) (by exact ⟨Nat.zero_le _,Nat.zero_le _,rfl,fun _ x hx=>(by cases hx)⟩) ?_ (fun k out C hI hC=>?_);(exact ⟨[.old 0,.old 1,.old 2,.void 1],rfl,rfl,⟨⟨rfl,rfl,rfl⟩,⟨rfl,rfl,rfl⟩,⟨rfl,rfl,rfl⟩,(by first | (show (_ : D) = _;with_reducible rfl) ),(by first | exact congrArg (D.int .i64) (by simp only [List.length_map]) ),(by first | exact congrArg (D.int .i64) (by omega) ),trivial⟩,⟨⟨rfl,rfl,.inl ⟨[_],rfl,rfl⟩⟩,⟨rfl,rfl,.inr ⟨trivial,trivial⟩⟩,⟨rfl,rfl,.inr ⟨⟨rfl,⟨rfl,rfl,rfl,rfl⟩,rfl,trivial⟩,trivial⟩⟩,⟨rfl,rfl,(by decide),rfl⟩,trivial⟩⟩);all_goals (conv=>whnf)))
 | ((with_reducible show C _ _);first | (refine hC (k + 1) (out) _ _ ?_ (by omega) ?_;clear hC;rotate_left;(exact ⟨[.old 0,.old 1,.old 2,.old 3],rfl,rfl,⟨⟨rfl,rfl,rfl⟩,⟨rfl,rfl,rfl⟩,⟨rfl,rfl,rfl⟩,(by first | (show (_ : D) = _;with_reducible rfl) ),(by first | (show (_ : D) = _;with_reducible rfl) ),(by first | exact congrArg (D.int .i64) (by omega) ),trivial⟩,⟨⟨rfl,rfl,.inl ⟨[_],rfl,rfl⟩⟩,⟨rfl,rfl,.inr ⟨trivial,trivial⟩⟩,⟨rfl,rfl,.inr ⟨⟨rfl,⟨rfl,rfl,rfl,rfl,rfl⟩,rfl,trivial⟩,trivial⟩⟩,⟨rfl,rfl,.inr (wksd _ _)⟩,trivial⟩⟩);(exact ⟨by omega,by omega,by rw [hI.2.2.1,norm_drop (by omega),st_dot (by assumption)],nd_keep hI.2.2.2 (st_dot (by assumption))⟩)) | (refine hC (k + 1) (out ++ [p.parts[k]]) _ _ ?_ (by omega) ?_;clear hC;rotate_left;(exact ⟨[.old 0,.old 1,.old 2,.old 5],rfl,rfl,⟨⟨rfl,rfl,rfl⟩,⟨rfl,rfl,rfl⟩,⟨rfl,rfl,rfl⟩,(by first | (show (_ : D) = _;with_reducible rfl) ),(by first | (show (_ : D) = _;with_reducible rfl) ),(by first | exact congrArg (D.int .i64) (by omega) ),trivial⟩,⟨⟨rfl,rfl,.inl ⟨[_],rfl,rfl⟩⟩,⟨rfl,rfl,.inr ⟨trivial,trivial⟩⟩,⟨rfl,rfl,.inr ⟨⟨rfl,⟨rfl,rfl,(by simp),rfl,rfl⟩,rfl,trivial⟩,trivial⟩⟩,⟨rfl,rfl,.inr (wks_add (wksd _ _) rfl)⟩,trivial⟩⟩);(exact ⟨by omega,by (simp;omega),by rw [hI.2.2.1,norm_drop (by omega),st_app (by assumption) (by assumption)],nd_keep hI.2.2.2 (st_app (by assumption) (by assumption))⟩)) | (refine hC (k + 1) (out.dropLast) _ _ ?_ (by omega) ?_;clear hC;rotate_left;(exact ⟨[.old 0,.old 1,.old 2,.cut 3 (out.length - 1)],rfl,rfl,⟨⟨rfl,rfl,rfl⟩,⟨rfl,rfl,rfl⟩,⟨rfl,rfl,rfl⟩,(by first | (show (_ : D) = _;with_reducible rfl) ),(by first | (show (_ : D) = _;with_reducible rfl) ),(by first | exact congrArg (D.int .i64) (by omega) ),trivial⟩,⟨⟨rfl,rfl,.inl ⟨[_],rfl,rfl⟩⟩,⟨rfl,rfl,.inr ⟨trivial,trivial⟩⟩,⟨rfl,rfl,.inr ⟨⟨rfl,⟨⟨rfl,fun _=>(by omega)⟩,rfl,(by simp),rfl,rfl⟩,rfl,trivial⟩,trivial⟩⟩,⟨rfl,rfl,((out.dropLast.map D.str).map .d),_,(pop_eq (by omega)),(by simp),.inl ⟨_,rfl,rfl⟩⟩,trivial⟩⟩);(exact ⟨by omega,by (simp;omega),by rw [hI.2.2.1,norm_drop (by omega),st_pop (by assumption) (by omega) (by assumption)],nd_keep hI.2.2.2 (st_pop (by assumption) (by omega) (by assumption))⟩)) | (refine hC (k + 1) (out ++ [p.parts[k]]) _ _ ?_ (by omega) ?_;clear hC;rotate_left;(exact ⟨[.old 0,.old 1,.old 2,.old 5],rfl,rfl,⟨⟨rfl,rfl,rfl⟩,⟨rfl,rfl,rfl⟩,⟨rfl,rfl,rfl⟩,(by first | (show (_ : D) = _;with_reducible rfl) ),(by first | (show (_ : D) = _;with_reducible rfl) ),(by first | exact congrArg (D.int .i64) (by omega) ),trivial⟩,⟨⟨rfl,rfl,.inl ⟨[_],rfl,rfl⟩⟩,⟨rfl,rfl,.inr ⟨trivial,trivial⟩⟩,⟨rfl,rfl,.inr ⟨⟨rfl,⟨rfl,rfl,(by simp),rfl,rfl⟩,rfl,trivial⟩,trivial⟩⟩,⟨rfl,rfl,.inr (wks_add (wksd _ _) rfl)⟩,trivial⟩⟩);(exact ⟨by omega,by (simp;omega),by rw [hI.2.2.1,norm_drop (by omega),(st_top (by assumption) (by first | (left;omega) | (right;exact ⟨by omega,by assumption⟩))).trans (if_neg (by rw [hab];decide))],nd_keep hI.2.2.2 ((st_top (by assumption) (by first | (left;omega) | (right;exact ⟨by omega,by assumption⟩))).trans (if_neg (by rw [hab];decide)))⟩)))
 | (refine ⟨⟨(by first | (simp;done)),cap_ok (by simp only [List.length_map,List.length_cons,List.length_nil,List.length_append];omega) rfl⟩,?_⟩;conv=>whnf)
 | (refine ix_map (by omega) ?_;conv=>whnf)
 | (refine wrap64 (by omega) ?_;conv=>whnf)
 | (refine ⟨⟨by omega,by omega⟩,?_⟩;conv=>whnf)
 | (refine nthK_rowi (l:=out) (out.length - 1) (by omega) (by omega) ?_;conv=>whnf)
 | (refine ⟨Nat.le_refl _,?_⟩;conv=>whnf)
 | (refine own_sl 0 (out.length - 1) (by omega) (by omega) (by omega) ?_;conv=>whnf)
 | ((with_reducible refine endx_go ?_);first | (exact endxv (view_agg (vlc rfl (vlc (view_map rfl Nat.two_pos) (vlc rfl vln)))) (norm_end (by assumption) hI.2.2.1 (by first | exact .inl (by omega)));done) | (exact endxv (view_agg (vlc rfl (vlc rfl (vlc rfl vln)))) (norm_end0 (by assumption) hI.2.2.1 (by omega) hab);done))
  | fail
  )
theorem c56 (p : PP) (hn : p.parts.length < 1000000) : Fn 56 [PPe p] (PPe (normal p)):=by
 cases h : p.abs with
 | true=>exact c56t p h hn
 | false=>exact c56f p h hn
theorem step_mem {ab : Bool} {out : List Bs} {s x : Bs} (h : x ∈ normStep ab out s) : x ∈ out ∨ x = s:=by
 unfold normStep at h
 split at h
 ·exact .inl h
 ·split at h
  ·rcases List.mem_append.1 h with h | h
   ·exact .inl h
   ·exact .inr (List.mem_singleton.1 h)
  ·split at h
   ·exact .inl ((List.dropLast_sublist _).mem h)
   ·split at h
    ·exact .inl h
    ·rcases List.mem_append.1 h with h | h
     ·exact .inl h
     ·exact .inr (List.mem_singleton.1 h)
theorem foldl_mem {ab : Bool} : ∀ (l out : List Bs) (x : Bs),x ∈ l.foldl (normStep ab) out → x ∈ out ∨ x ∈ l
 | [],out,x,h=>.inl h
 | s :: l,out,x,h=>by
  rcases foldl_mem l _ x h with h | h
  ·rcases step_mem h with h | h
   ·exact .inl h
   ·exact .inr (by simp [h])
  ·exact .inr (by simp [h])
theorem norm_mem {p : PP} {x : Bs} (h : x ∈ (normal p).parts) : x = [46] ∨ x ∈ p.parts:=by
 unfold normal at h
 simp only at h
 split at h
 ·exact .inl (List.mem_singleton.1 h)
 ·rcases foldl_mem _ _ _ h with h | h
  ·cases h
  ·exact .inr h
theorem glue_bound (c : UInt8) (m : Nat) : ∀ (l : List Bs),(∀ x ∈ l,x.length ≤ m) → (glue c l).length ≤ l.length * (m + 1)
 | [],_=>by unfold glue;simp
 | [x],h=>by unfold glue;have:=h x (by simp);simp;omega
 | x :: y :: l,h=>by
  have ih:=glue_bound c m (y :: l) (fun z hz=>h z (by simp [hz]))
  have h1:=h x (by simp)
  have e : (x :: y :: l).length * (m + 1) = (y :: l).length * (m + 1) + (m + 1):=by rw [List.length_cons,Nat.succ_mul]
  rw [e]
  unfold glue
  rw [List.length_append,List.length_cons]
  generalize (y :: l).length * (m + 1) = q at *
  generalize (glue c (y :: l)).length = g at *
  omega
theorem stream_ok {s : Bs} (h : (parse s).2 = 0) : (parse s).1.stream.length ≤ 200:=by
 have h1:=stream_len (parse s).1
 rw [text_parse h] at h1
 have : s.length ≤ 200:=by
  by_cases hb : (200 : Int) < s.length
  ·rw [parse_big hb] at h;exact absurd h (by decide)
  ·omega
 omega
theorem norm_text {s : Bs} (h : (parse s).2 = 0) : (text (normal (parse s).1)).length < 100000 ∧ (normal (parse s).1).parts.length < 100:=by
 obtain ⟨h1,h2⟩:=parse_good h
 have h3:=norm_len (parse s).1
 have h4:=stream_ok h
 have h5:=glue_bound 47 32 (normal (parse s).1).parts (fun x hx=>by
  rcases norm_mem hx with rfl | hx
  ·decide
  ·exact (part_no (h1 x hx).2).2.2.2)
 have h6 : (normal (parse s).1).stream = (parse s).1.stream:=(normal_abs _).2
 refine ⟨?_,by omega⟩
 unfold text
 rw [h6]
 simp only [List.length_append]
 have h7 : (if (normal (parse s).1).abs = true then ([47] : Bs) else []).length ≤ 1:=by split<;>simp
 have h8 : (if (parse s).1.stream = [] then ([] : Bs) else 58 :: (parse s).1.stream).length ≤ 201:=by
  split
  ·simp
  ·simp only [List.length_cons];omega
 have h9 : (normal (parse s).1).parts.length * (32 + 1) ≤ 17 * 33:=by omega
 omega
attribute [local irreducible] text
theorem c19t (s : Bs) (h0 : (parse s).2 = 0) : Fn 19 [.str s] (.tup [.str (text (normal (parse s).1)),i 0]):=by
 obtain ⟨hn1,hn2⟩:=norm_text h0;have hpp:=parse_parts s
 refine run_walkF eok Tryz.func19 rfl (by kernel_rfl) ?_
 conv=>whnf
 repeat' (first
 | ((with_reducible refine on_ndec_t (by first | assumption ) ?_);conv=>whnf)
 | ((with_reducible refine call_go ?_);(first | refine call_step (run_viewF (c35 s) rfl) ?_ | refine call_step (run_viewF (c56 (parse s).1 (by omega)) rfl) ?_ | refine call_step (run_view (c55 (normal (parse s).1) (by omega) (by omega)) rfl rfl) ?_);conv=>whnf)
 | ((with_reducible refine endx_go ?_);first | (exact endx2 rfl;done))
  | fail
  )
end Go.Proofs.YtpfokhdelnlciaaGreatDoor
namespace Go.Proofs.YtpfokhdelnlciaaGreatDoor
open Go Dw
set_option maxRecDepth 10000
attribute [local irreducible] Run
set_option maxHeartbeats 2000000
abbrev rowW (l : List Way) : List AV:=(l.map wayE).map .d
def capO : Bool → Nat → Option Nat
 | true,n=>some n
 | false,_=>none
theorem ix_nd {t : List Nod} {n : Int} {nd : Nod} {K : D → Prop} (h0 : 0 ≤ n) (h : t[n.toNat]? = some nd) (k : K nd.enc) : 0 ≤ n ∧ nthK (t.map Nod.enc) n.toNat K:=
 ⟨h0,nthK_of (x:=nd.enc) (by simp [h]) k⟩
theorem row_hd {pre q : List Way} {w : Way} {n : Nat} {K : AV → Prop} (hn : n = pre.length) (k : K (.d (wayE w))) : nthK (rowW (pre ++ w :: q)) n K:=by
 subst hn
 exact nthK_of (x:=.d (wayE w)) (by simp [rowW]) k
def kidW (w : Way) (e : Ent) : Way:=(e.node,w.2 ++ [47] ++ e.name)
theorem bfs_consK {t : List Nod} {n : Nat} {w : Way} {q r : List Way} (h : bfs t n (w :: q) = some r) : ∃ m nd r', n = m + 1 ∧ 0 ≤ w.1 ∧ t[w.1.toNat]? = some nd ∧ bfs t m (q ++ nd.ents.map (kidW w)) = some r' ∧ r = nd.ents.map (kidW w) ++ r' := bfs_cons h
theorem ys_at {ys r : List Way} {w : Way} {l : List Ent} {c m : Nat} (h : ys.drop (c - 1) = l.map (kidW w) ++ r) (hc : 1 ≤ c) (hm : m < l.length) : (((0,[47]) :: ys).map wayY)[c + m]? = some (wayY (kidW w l[m])) ∧ c + m ≤ ys.length ∧ kidW w l[m] ∈ ys:=by
 have h1 : ys[c - 1 + m]? = some (kidW w l[m]):=by
  rw [← List.getElem?_drop,h,List.getElem?_append_left (by simpa using hm)]
  simp [hm]
 have h2 : c - 1 + m < ys.length:=(List.getElem?_eq_some_iff.1 h1).1
 refine ⟨?_,by omega,List.mem_of_getElem? h1⟩
 rw [show c + m = (c - 1 + m) + 1 by omega,List.map_cons,List.getElem?_cons_succ,List.getElem?_map,h1]
 rfl
theorem capO_eq {fr : Bool} {n m : Nat} (h : n = m) : capO fr n = capO fr m:=by rw [h]
theorem capO_pred {fr : Bool} {n : Nat} : (match capO fr (n + 1) with | some c=>some (c - 1) | none=>none) = capO fr n:=by cases fr<;>rfl
theorem s47 {a : Bs} {K : Prop} (h : a.length < 1000000) (k : K) : a.length + ({ data:=#[47] } : ByteArray).data.toList.length < 9223372036854775808 ∧ K:=⟨by show a.length + 1 < _;omega,k⟩
theorem s47b {a b : Bs} {K : Prop} (h : (a ++ [47] ++ b).length < 1000000) (k : K) : (a ++ ({ data:=#[47] } : ByteArray).data.toList).length + b.length < 9223372036854775808 ∧ K:=
 ⟨by show (a ++ [47]).length + b.length < _;simp only [List.length_append] at h ⊢;omega,k⟩
theorem hp_at {ys r : List Way} {w : Way} {l : List Ent} {c m : Nat} (hp : ∀ w ∈ ys,w.2.length < 1000000) (h : ys.drop (c - 1) = l.map (kidW w) ++ r) (hc : 1 ≤ c) (hm : m < l.length) : (w.2 ++ [47] ++ l[m].name).length < 1000000:=hp _ (ys_at h hc hm).2.2
theorem hp_at1 {ys r : List Way} {w : Way} {l : List Ent} {c m : Nat} (hp : ∀ w ∈ ys,w.2.length < 1000000) (h : ys.drop (c - 1) = l.map (kidW w) ++ r) (hc : 1 ≤ c) (hm : m < l.length) : w.2.length < 1000000:=by
 have:=hp_at hp h hc hm
 simp only [List.length_append] at this
 omega
theorem row_drop (pre q : List Way) : (rowW (pre ++ q)).drop pre.length = rowW q:=by simp [rowW]
theorem row_next (pre q : List Way) (w : Way) : rowW (pre ++ w :: q) = rowW ((pre ++ [w]) ++ q):=by simp
theorem take_snocK {l : List Ent} {m : Nat} (h : m < l.length) : l.take (m + 1) = l.take m ++ [l[m]]:=List.take_succ_eq_append_getElem h
theorem wk_way {μ : List Mu} {w : Way} {e : Ent} : wk μ (.agg [.d (i e.node),.d (.str (w.2 ++ [47] ++ e.name))]) (.d (wayE (kidW w e))):=⟨rfl,rfl,rfl,trivial⟩
theorem row_push {μ : List Mu} {pre cur : List Way} {w : Way} {l : List Ent} {m : Nat} {n : Nat} (hn : n = pre.length) (hm : m < l.length) : wks μ ((rowW (pre ++ w :: (cur ++ (l.take m).map (kidW w)))).drop n ++ [.agg [.d (i l[m].node),.d (.str (w.2 ++ [47] ++ l[m].name))]]) (rowW ([] ++ w :: (cur ++ (l.take (m + 1)).map (kidW w)))):=by
 subst hn
 rw [row_drop,take_snocK hm,List.nil_append,List.map_append,← List.append_assoc,← List.cons_append]
 exact wks_add (wksd _ _) (wk_way (w:=w) (e:=l[m]))
theorem row_pushT {μ : List Mu} {pre cur : List Way} {w : Way} {l : List Ent} {m : Nat} {n k : Nat} (hn : n = pre.length) (hk : k = (w :: (cur ++ (l.take m).map (kidW w))).length) (hm : m < l.length) : wks μ (((rowW (pre ++ w :: (cur ++ (l.take m).map (kidW w)))).drop n).take k ++ [.agg [.d (i l[m].node),.d (.str (w.2 ++ [47] ++ l[m].name))]]) (rowW ([] ++ w :: (cur ++ (l.take (m + 1)).map (kidW w)))):=by
 have h:=row_push (μ:=μ) (pre:=pre) (cur:=cur) (w:=w) (l:=l) (m:=m) hn hm
 subst hn
 rw [row_drop] at h ⊢
 rw [List.take_of_length_le (by rw [hk];simp [rowW])]
 exact h
theorem rest_of {ys r : List Way} {w : Way} {l : List Ent} {c : Nat} (h : ys.drop (c - 1) = l.map (kidW w) ++ r) (hc : 1 ≤ c) : r = ys.drop (c + l.length - 1):=by
 have:=congrArg (List.drop l.length) h
 rw [List.drop_drop,List.drop_left' (by simp)] at this
 rw [← this]
 congr 1
 omega
theorem nxt_ok {t : List Nod} {n2 s c m : Nat} {cur r2 ys : List Way} {w : Way} {l : List Ent} (hyd : ys.drop (c - 1) = l.map (kidW w) ++ r2) (hb2 : bfs t n2 (cur ++ l.map (kidW w)) = some r2) (h1 : 1 ≤ c) (h2 : c ≤ ys.length + 1) (hq : (w :: cur).length ≤ c) (hm : m = l.length) (hs : c + m ≤ s) :
  c + l.length ≤ s ∧ c + l.length ≤ ys.length + 1 ∧ bfs t n2 (cur ++ (l.take m).map (kidW w)) = some (ys.drop (c + l.length - 1)) ∧ 1 ≤ c + l.length ∧ (cur ++ (l.take m).map (kidW w)).length ≤ c + l.length:=by
 subst hm
 have hl:=congrArg List.length hyd
 rw [List.length_drop,List.length_append,List.length_map] at hl
 rw [List.length_cons] at hq
 refine ⟨by omega,by omega,?_,by omega,?_⟩
 ·rw [List.take_length,← rest_of hyd h1];exact hb2
 ·rw [List.take_length,List.length_append,List.length_map];omega
theorem ents_bd {ys r2 : List Way} {w : Way} {l : List Ent} {c : Nat} (hyd : ys.drop (c - 1) = l.map (kidW w) ++ r2) : l.length ≤ ys.length:=by
 have h:=congrArg List.length hyd
 rw [List.length_drop,List.length_append,List.length_map] at h
 omega
theorem dropN_of {α : Type} {n : Nat} {l : List α} {K : List α → Prop} (k : K (l.drop n)) : dropN n l K:=by rw [dropN_eq];exact k
theorem len_push {cur : List Way} {w : Way} {l : List Ent} {m : Nat} (hm : m < l.length) : (w :: (cur ++ (l.take m).map (kidW w))).length + 1 = (w :: (cur ++ (l.take (m + 1)).map (kidW w))).length:=by
 rw [take_snocK hm]
 simp only [List.length_cons,List.length_append,List.length_map,List.length_nil]
 omega
theorem app_len {pre cur : List Way} {w : Way} : pre.length + (w :: cur).length = (rowW (pre ++ w :: cur)).length:=by simp [rowW]
theorem app_cap {ys r2 cur : List Way} {w : Way} {l : List Ent} {c m : Nat} (hyd : ys.drop (c - 1) = l.map (kidW w) ++ r2) (hl : ys.length < 1000000) (hq : (w :: cur).length ≤ c) (h2 : c ≤ ys.length + 1) (hm : m ≤ l.length) : (w :: (cur ++ (l.take m).map (kidW w))).length + 1 ≤ 10000000:=by
 have h:=congrArg List.length hyd
 rw [List.length_drop,List.length_append,List.length_map] at h
 rw [List.length_cons] at hq
 rw [List.length_cons,List.length_append,List.length_map,List.length_take]
 omega
theorem bfs_all {t : List Nod} {n : Nat} {ys : List Way} {c : Nat} (h : bfs t n [] = some (ys.drop (c - 1))) (h1 : 1 ≤ c) (h2 : c ≤ ys.length + 1) : c = ys.length + 1:=by
 have:=bfs_nil h
 have:=congrArg List.length this
 rw [List.length_drop] at this
 simp at this
 omega
theorem it115 (t : List Nod) (N : Nat) (ys : List Way) (hy : bfs t N [(0,[])] = some ys) (hl : ys.length < 1000000) (hp : ∀ w ∈ ys,w.2.length < 1000000) : IterR Tryz.prog 115 [treeD t] [] ((((0,[47]) :: ys).map wayY)):=by
 refine iter_of eok Tryz.func115 rfl (by kernel_rfl) (fun s ll hs=>?_)
 conv=>whnf
 repeat' (first
 | ((with_reducible refine on_dec_f ?_ ?_);(focus ((try simp only [List.length_map,List.length_cons,List.length_nil,List.length_append]);omega));conv=>whnf)
 | ((with_reducible refine on_dec_t ?_ ?_);(focus ((try simp only [List.length_map,List.length_cons,List.length_nil,List.length_append]);omega));conv=>whnf)
 | ((with_reducible refine on_dec (fun h=>?_) (fun h=>?_))<;>(try simp only [List.length_map] at h)<;>conv=>whnf)
 | ((with_reducible refine on_ndec (fun h=>?_) (fun h=>?_))<;>(try simp only [List.length_map] at h)<;>conv=>whnf)
 | (refine ⟨[],[],(by decide +kernel),?_⟩;conv=>whnf)
 | ((with_reducible refine loop_go ?_);first | (refine loop3 (fun (m : Nat) (pre2 : List Way) (fr2 : Bool)=>nd.ents.length - m) (fun (m : Nat) (pre2 : List Way) (fr2 : Bool)=>m ≤ nd.ents.length ∧ c + m ≤ s) (fun (m : Nat) (pre2 : List Way) (fr2 : Bool)=>[(0,.d (treeD t)),(1,.raw (.func (.yield ll) #[] #[])),(4,.sl 1 pre2.length (w :: (cur ++ (nd.ents.take m).map (kidW w))).length 2 (capO fr2 (w :: (cur ++ (nd.ents.take m).map (kidW w))).length)),(25,.d (.fs (nd.ents.map Ent.enc))),(26,.d (i nd.ents.length)),(27,.d (i m))]) (fun (m : Nat) (pre2 : List Way) (fr2 : Bool)=>[trO (c + m),⟨rowW (pre2 ++ w :: (cur ++ (nd.ents.take m).map (kidW w))),2,0⟩]) (0) (pre) (false) (by exact ⟨Nat.zero_le _,by omega⟩) ?_ (fun m pre2 fr2 Ci hIi hCi=>?_);(exact ⟨[.old 0,.old 1],rfl,rfl,⟨(by first | (show (_ : D) = _;with_reducible rfl) ),(by exact rfl),⟨rfl,rfl,(by simp),rfl,(capO_eq (fr:=false) (by simp))⟩,(by first | (show (_ : D) = _;with_reducible rfl) ),(congrArg (D.int .i64) (by simp only [List.length_map])),(by first | exact congrArg (D.int .i64) (by omega) ),trivial⟩,⟨trO_sameM _ _,⟨rfl,rfl,.inl ⟨_,rfl,(by simp)⟩⟩,trivial⟩⟩);cases fr2;all_goals (conv=>whnf)) | (refine loop3 (fun (m : Nat) (pre2 : List Way) (fr2 : Bool)=>nd.ents.length - m) (fun (m : Nat) (pre2 : List Way) (fr2 : Bool)=>m ≤ nd.ents.length ∧ c + m ≤ s) (fun (m : Nat) (pre2 : List Way) (fr2 : Bool)=>[(0,.d (treeD t)),(1,.raw (.func (.yield ll) #[] #[])),(4,.sl 1 pre2.length (w :: (cur ++ (nd.ents.take m).map (kidW w))).length 2 (capO fr2 (w :: (cur ++ (nd.ents.take m).map (kidW w))).length)),(25,.d (.fs (nd.ents.map Ent.enc))),(26,.d (i nd.ents.length)),(27,.d (i m))]) (fun (m : Nat) (pre2 : List Way) (fr2 : Bool)=>[trO (c + m),⟨rowW (pre2 ++ w :: (cur ++ (nd.ents.take m).map (kidW w))),2,0⟩]) (0) (pre) (true) (by exact ⟨Nat.zero_le _,by omega⟩) ?_ (fun m pre2 fr2 Ci hIi hCi=>?_);(exact ⟨[.old 0,.old 1],rfl,rfl,⟨(by first | (show (_ : D) = _;with_reducible rfl) ),(by exact rfl),⟨rfl,rfl,(by simp),rfl,(capO_eq (fr:=true) (by simp))⟩,(by first | (show (_ : D) = _;with_reducible rfl) ),(congrArg (D.int .i64) (by simp only [List.length_map])),(by first | exact congrArg (D.int .i64) (by omega) ),trivial⟩,⟨trO_sameM _ _,⟨rfl,rfl,.inl ⟨_,rfl,(by simp)⟩⟩,trivial⟩⟩);cases fr2;all_goals (conv=>whnf)) | (refine loop5 (fun (c : Nat) (pre : List Way) (q : List Way) (n : Nat) (fr : Bool)=>n) (fun (c : Nat) (pre : List Way) (q : List Way) (n : Nat) (fr : Bool)=>c ≤ s ∧ c ≤ ys.length + 1 ∧ bfs t n q = some (ys.drop (c - 1)) ∧ 1 ≤ c ∧ q.length ≤ c) (fun (c : Nat) (pre : List Way) (q : List Way) (n : Nat) (fr : Bool)=>[(0,.d (treeD t)),(1,.raw (.func (.yield ll) #[] #[])),(4,.sl 1 pre.length q.length 2 (capO fr q.length))]) (fun (c : Nat) (pre : List Way) (q : List Way) (n : Nat) (fr : Bool)=>[trO c,⟨rowW (pre ++ q),2,0⟩]) (1) ([]) ([(0,[])]) (N) (true) (by exact ⟨by omega,by omega,hy,Nat.le_refl _,Nat.le_refl _⟩) ?_ (fun c pre q n fr C hI hC=>?_);(exact ⟨[.old 0,.old 1],rfl,rfl,⟨(by first | (show (_ : D) = _;with_reducible rfl) ),(by exact rfl),(by first | exact ⟨rfl,rfl,rfl,rfl,rfl⟩ ),trivial⟩,⟨trO_sameM _ _,⟨rfl,rfl,.inr ⟨⟨rfl,rfl,rfl,trivial⟩,trivial⟩⟩,trivial⟩⟩);(rcases q with (_ | ⟨w,cur⟩));(rotate_left;(obtain ⟨n2,nd,r2,rfl,hw0,hnd,hb2,hyd⟩:=bfs_consK hI.2.2.1);rotate_right);all_goals cases fr;all_goals (conv=>whnf)))
 | ((with_reducible show C _ _);first | (refine hC (c + nd.ents.length) (pre2 ++ [w]) ((cur ++ (nd.ents.take m).map (kidW w))) (n2) (false) _ _ ?_ (by omega) ?_;clear hC;rotate_left;(exact ⟨[.old 0,.old 1],rfl,rfl,⟨(by first | (show (_ : D) = _;with_reducible rfl) ),(by exact rfl),⟨rfl,(by simp only [List.length_append,List.length_cons,List.length_nil]),Nat.add_sub_cancel _ 1,rfl,capO_pred (fr:=false)⟩,trivial⟩,⟨(by have hm : m = nd.ents.length:=(by omega);subst hm;exact trO_sameM _ _),⟨rfl,rfl,.inl ⟨_,rfl,(row_next _ _ _).symm⟩⟩,trivial⟩⟩);(exact nxt_ok hyd hb2 hI.2.2.2.1 hI.2.1 hI.2.2.2.2 (by omega) (by omega))) | (refine hC (c + nd.ents.length) (pre2 ++ [w]) ((cur ++ (nd.ents.take m).map (kidW w))) (n2) (true) _ _ ?_ (by omega) ?_;clear hC;rotate_left;(exact ⟨[.old 0,.old 1],rfl,rfl,⟨(by first | (show (_ : D) = _;with_reducible rfl) ),(by exact rfl),⟨rfl,(by simp only [List.length_append,List.length_cons,List.length_nil]),Nat.add_sub_cancel _ 1,rfl,capO_pred (fr:=true)⟩,trivial⟩,⟨(by have hm : m = nd.ents.length:=(by omega);subst hm;exact trO_sameM _ _),⟨rfl,rfl,.inl ⟨_,rfl,(row_next _ _ _).symm⟩⟩,trivial⟩⟩);(exact nxt_ok hyd hb2 hI.2.2.2.1 hI.2.1 hI.2.2.2.2 (by omega) (by omega))))
 | ((with_reducible show Ci _ _);first | (refine hCi (m + 1) ([]) (false) _ _ ?_ (by omega) ?_;clear hCi;rotate_left;(exact ⟨[.old 0,.old 5],rfl,rfl,⟨(by first | (show (_ : D) = _;with_reducible rfl) ),(by exact rfl),⟨rfl,rfl,(len_push (by omega)),rfl,rfl⟩,(by first | (show (_ : D) = _;with_reducible rfl) ),(by first | (show (_ : D) = _;with_reducible rfl) ),(by first | exact congrArg (D.int .i64) (by omega) ),trivial⟩,⟨trO_sameM _ _,⟨rfl,rfl,.inr (row_push rfl (by omega))⟩,trivial⟩⟩);(exact ⟨by omega,by omega⟩)) | (refine hCi (m + 1) ([]) (false) _ _ ?_ (by omega) ?_;clear hCi;rotate_left;(exact ⟨[.old 0,.old 5],rfl,rfl,⟨(by first | (show (_ : D) = _;with_reducible rfl) ),(by exact rfl),⟨rfl,rfl,(len_push (by omega)),rfl,rfl⟩,(by first | (show (_ : D) = _;with_reducible rfl) ),(by first | (show (_ : D) = _;with_reducible rfl) ),(by first | exact congrArg (D.int .i64) (by omega) ),trivial⟩,⟨trO_sameM _ _,⟨rfl,rfl,.inr (row_pushT rfl rfl (by omega))⟩,trivial⟩⟩);(exact ⟨by omega,by omega⟩)) )
 | (refine ix_map (by omega) ?_;conv=>whnf)
 | (refine wrap64 (by have:=ents_bd hyd;omega) ?_;conv=>whnf)
 | ((with_reducible refine dropN_of ?_);conv=>whnf)
 | (refine ⟨⟨app_len,cap_ok (app_cap hyd hl hI.2.2.2.2 hI.2.1 (by omega)) rfl⟩,?_⟩;conv=>whnf)
 | (refine ⟨⟨Nat.le_of_eq app_len,cap_ok (app_cap hyd hl hI.2.2.2.2 hI.2.1 (by omega)) rfl⟩,?_⟩;conv=>whnf)
 | (refine ⟨Nat.le_refl _,?_⟩;conv=>whnf)
 | (refine own_sl 1 ((w :: (cur ++ (nd.ents.take m).map (kidW w))).length) rfl rfl ⟨by simp only [List.length_cons];omega,Nat.le_refl _⟩ ?_;conv=>whnf)
 | (refine ⟨⟨by omega,by simp only [List.length_cons];omega⟩,?_⟩;conv=>whnf)
 | ((with_reducible refine yield_go ?_);(refine yield_2 (i:=0) (by omega) rfl ?_);conv=>whnf)
 | (refine ix_nd hw0 hnd ?_;conv=>whnf)
 | (refine row_hd (by first | rfl ) ?_;conv=>whnf)
 | (refine s47 (hp_at1 hp hyd hI.2.2.2.1 (m:=m) (by omega)) ?_;conv=>whnf)
 | (refine s47b (hp_at hp hyd hI.2.2.2.1 (m:=m) (by omega)) ?_;conv=>whnf)
 | ((with_reducible refine yield_go ?_);(refine yield_2 (i:=c + m) (by omega) (ys_at hyd hI.2.2.2.1 (by omega)).1 ?_);conv=>whnf)
 | ((with_reducible refine endx_go ?_);first | (refine endx_tr ?_;((try simp only [List.length_map,List.length_cons]);(try simp only [List.length_map,List.length_cons] at *);omega);done) | (refine endx_tr ?_;(have yb:=(ys_at hyd hI.2.2.2.1 (m:=m) (by omega)).2.1;(simp only [List.length_map,List.length_cons] at *);omega);done) | (refine endx_tr ?_;(have hz:=bfs_all hI.2.2.1 hI.2.2.2.1 hI.2.1;(simp only [List.length_map,List.length_cons] at *);omega);done))
  | fail
  )
end Go.Proofs.YtpfokhdelnlciaaGreatDoor
namespace Go.Proofs.YtpfokhdelnlciaaGreatDoor
open Go Dw
set_option maxRecDepth 10000
attribute [local irreducible] Run
set_option maxHeartbeats 2000000
def allW (ys : List Way) : List Way:=(0,[47]) :: ys
def toN (n : Int) (l : List Way) : List Bs:=(l.filter fun w=>decide (w.1 = n)).map (·.2)
theorem toN_add {n : Int} {l : List Way} {k : Nat} (h : k < l.length) : toN n (l.take (k + 1)) = if l[k].1 = n then toN n (l.take k) ++ [l[k].2] else toN n (l.take k):=by
 unfold toN
 rw [List.take_succ_eq_append_getElem h,List.filter_append,List.map_append]
 split
 ·rename_i h1;simp [h1]
 ·rename_i h1;simp [h1]
theorem toN_len (n : Int) (l : List Way) : (toN n l).length ≤ l.length:=by
 unfold toN;rw [List.length_map];exact List.length_filter_le _ _
def wyE (l : List Way) (k : Nat) : List D:=wayY (l.getD k (0,[]))
theorem wyE_at {l : List Way} {k : Nat} (h : k < l.length) : wyE l k = [i l[k].1,.str l[k].2]:=by
 unfold wyE;rw [List.getD_eq_getElem?_getD,List.getElem?_eq_getElem h];rfl
theorem wyE_all (l : List Way) : (List.range l.length).map (wyE l) = l.map wayY:=by
 apply List.ext_getElem
 ·simp
 ·intro k h1 h2
  simp only [List.length_map,List.length_range] at h1
  simp [wyE,h1]
theorem it115w {t : List Nod} {N : Nat} {ys : List Way} (hy : bfs t N [(0,[])] = some ys) (hl : ys.length < 1000000) (hp : ∀ w ∈ ys,w.2.length < 1000000) : IterR Tryz.prog 115 [treeD t] [] ((List.range (allW ys).length).map (wyE (allW ys))):=by
 rw [wyE_all];exact it115 t N ys hy hl hp
def hpS (n : Int) (q : List Bs) : Heap:=[⟨[.d (i n)],1,0⟩,⟨[.sl 2 0 q.length 1 none],1,0⟩,⟨(q.map D.str).map .d,1,0⟩]
theorem toN_bd {n : Int} {ys : List Way} {k : Nat} (h : ys.length < 100000) : (toN n ((allW ys).take k)).length < 1000000:=by
 have h1:=toN_len n ((allW ys).take k)
 have h2 : ((allW ys).take k).length ≤ (allW ys).length:=List.length_take_le' _ _
 have h3 : (allW ys).length = ys.length + 1:=rfl
 omega
theorem toN_no {n : Int} {l : List Way} {k : Nat} (h : k < l.length) (h1 : ¬ l[k].1 = n) : toN n (l.take (k + 1)) = toN n (l.take k):=by rw [toN_add h,if_neg h1]
theorem toN_yes {n : Int} {l : List Way} {k : Nat} (h : k < l.length) (h1 : l[k].1 = n) : toN n (l.take (k + 1)) = toN n (l.take k) ++ [l[k].2]:=by rw [toN_add h,if_pos h1]
theorem toN_cap {n : Int} {ys : List Way} {k : Nat} (h : ys.length < 100000) : (toN n ((allW ys).take k)).length + 1 ≤ 10000000:=by
 have:=toN_bd (n:=n) (k:=k) h
 omega
theorem view_srt (q : List Bs) (H : Heap) : view 8 ((H ++ []).set 2 ⟨((sortB q).map D.str).map .d,1,0⟩) (.sl 2 0 q.length 1 none) = if 2 < H.length then some (.fs ((sortB q).map .str)) else none:=by
 rw [List.append_nil,← sortB_length q]
 split
 ·rename_i h;exact view_map (n:=6) (by rw [List.getElem?_set_self h]) Nat.two_pos
 ·rename_i h;show (match (H.set 2 _)[2]? with | some o=>_ | none=>none) = _;rw [List.getElem?_eq_none (by simpa using h)]
theorem view_srt3 (n : Int) (q : List Bs) : view 8 ((hpS n q).set 2 ⟨((sortB q).map D.str).map .d,1,0⟩) (.sl 2 0 q.length 1 none) = some (.fs ((sortB q).map .str)):=by
 have:=view_srt q (hpS n q)
 rw [List.append_nil] at this
 exact this
theorem hpl {q : List Bs} : 0 + q.length = ((q.map D.str).map AV.d).length:=by simp
theorem hp_same (n : Int) (q q' : List Bs) (e : q' = q) : WkG [] 0 [(3,AV.ptr 0 0 0),(5,AV.ptr 1 0 0)] (hpS n q) [(3,AV.ptr 0 0 0),(5,AV.ptr 1 0 0)] (hpS n q'):=by
 subst e
 exact .inr ⟨[.old 0,.old 1,.old 2],rfl,rfl,⟨⟨rfl,rfl,rfl⟩,⟨rfl,rfl,rfl⟩,trivial⟩,⟨⟨rfl,rfl,.inl ⟨[_],rfl,rfl⟩⟩,⟨rfl,rfl,.inr ⟨⟨rfl,rfl,rfl,rfl,rfl⟩,trivial⟩⟩,⟨rfl,rfl,.inl ⟨_,rfl,rfl⟩⟩,trivial⟩⟩
theorem hps_app {μ : List Mu} {l : List Bs} {x : Bs} : wks μ ((l.map D.str).map .d ++ [.d (.str x)]) (((l ++ [x]).map D.str).map .d):=wks_add (f:=D.str) (wksd _ _) rfl
theorem hp_more (n : Int) (q q' : List Bs) (x : Bs) (e : q' = q ++ [x]) : WkG [] 0 [(3,AV.ptr 0 0 0),(5,AV.ptr 1 0 0)] [⟨[.d (i n)],1,0⟩,⟨[.sl 4 0 (q.length + 1) 1 none],1,0⟩,⟨(q.map D.str).map .d,1,2⟩,⟨[.d (.str x)],1,0⟩,⟨(q.map D.str).map .d ++ [.d (.str x)],1,0⟩] [(3,AV.ptr 0 0 0),(5,AV.ptr 1 0 0)] (hpS n q'):=by
 subst e
 exact .inr ⟨[.old 0,.old 1,.old 4],rfl,rfl,⟨⟨rfl,rfl,rfl⟩,⟨rfl,rfl,rfl⟩,trivial⟩,⟨⟨rfl,rfl,.inl ⟨[_],rfl,rfl⟩⟩,⟨rfl,rfl,.inr ⟨⟨rfl,rfl,by simp,rfl,rfl⟩,trivial⟩⟩,⟨rfl,rfl,.inr hps_app⟩,trivial⟩⟩
theorem c81 (t : List Nod) (n : Int) (N : Nat) (ys : List Way) (hy : bfs t N [(0,[])] = some ys) (hl : ys.length < 100000) (hp : ∀ w ∈ ys,w.2.length < 1000000) : Fn 81 [treeD t,i n] (.fs ((sortB (toN n (allW ys))).map .str)):=by
 refine run_walkRF eok Tryz.func81 rfl (by kernel_rfl) ?_
 conv=>whnf
 repeat' (first
 | ((with_reducible refine range_go ?_);refine rounds_st (σ:=Unit) (it115w hy (by omega) hp) (fun _ _=>True) (fun _ _=>[(3,.ptr 0 0 0),(5,.ptr 1 0 0)]) (fun k _=>hpS n (toN n ((allW ys).take k))) () trivial (.inr ⟨[.old 0,.old 1,.void 1],rfl,rfl,⟨⟨rfl,rfl,rfl⟩,⟨rfl,rfl,rfl⟩,trivial⟩,⟨⟨rfl,rfl,.inl ⟨[_],rfl,rfl⟩⟩,⟨rfl,rfl,.inr ⟨⟨rfl,rfl,rfl,rfl⟩,trivial⟩⟩,⟨rfl,rfl,by decide,rfl⟩,trivial⟩⟩) (fun k u hk C hI hC=>?_) (fun u hI=>?_);(focus (rw [wyE_at hk];refine ⟨_,rfl,?_⟩;skip));all_goals (conv=>whnf))
 | ((with_reducible refine on_dec_f ?_ ?_);(focus ((try simp only [List.length_map,List.length_cons,List.length_nil,List.length_append]);omega));conv=>whnf)
 | ((with_reducible refine on_dec_t ?_ ?_);(focus ((try simp only [List.length_map,List.length_cons,List.length_nil,List.length_append]);omega));conv=>whnf)
 | ((with_reducible refine on_dec (fun h=>?_) (fun h=>?_))<;>(try simp only [List.length_map] at h)<;>conv=>whnf)
 | ((with_reducible refine on_ndec (fun h=>?_) (fun h=>?_))<;>(try simp only [List.length_map] at h)<;>conv=>whnf)
 | ((with_reducible refine on_not (fun h=>?_) (fun h=>?_))<;>conv=>whnf)
 | ((with_reducible refine onBool_split (fun h=>?_) (fun h=>?_))<;>conv=>whnf)
 | ((with_reducible refine call_go ?_);(first | refine call_step (run_mut0 (c116r (toN n ((allW ys).take (allW ys).length)) (toN_bd hl)) (fun _=>rfl) rfl rfl (fun _ h=>by cases h) rfl) ?_);conv=>whnf)
 | (refine ⟨⟨(by first | rfl | (simp;done)),cap_ok (by simp only [List.length_map,List.length_cons,List.length_nil,List.length_append];omega) rfl⟩,?_⟩;conv=>whnf)
 | (refine ⟨mem_one ⟨rfl,rfl⟩,?_⟩;conv=>whnf)
 | (refine ⟨(by intro y hy;obtain ⟨x,_,rfl⟩:=List.mem_map.1 hy;first | rfl | exact ⟨rfl,rfl⟩),?_⟩;conv=>whnf)
 | (refine ⟨cap_ok (by first | omega | (simp only [List.length_map];omega)) rfl,?_⟩;conv=>whnf)
 | (refine ix_map (by omega) ?_;conv=>whnf)
 | (refine ix_str (by omega) ?_;conv=>whnf)
 | (refine wrap64 (by omega) ?_;conv=>whnf)
 | (refine wrap64 (by first | omega | (simp only [List.length_map];omega)) ?_;conv=>whnf)
 | ((with_reducible show C _);first | (refine hC () _ trivial (hp_same n _ _ (toN_no hk h))) | (refine hC () _ trivial (hp_more n _ _ _ (toN_yes hk h))))
 | (refine ⟨Nat.le_refl _,?_⟩;conv=>whnf)
 | (refine ⟨⟨hpl,cap_ok (toN_cap hl) rfl⟩,?_⟩;conv=>whnf)
 | ((with_reducible refine dropN_of ?_);conv=>whnf)
 | (exfalso;simp only [List.length_map,List.length_cons,List.length_nil,List.length_append] at h;omega)
 | ((with_reducible refine endx_go ?_);first | (refine endxv (view_srt3 n _) ?_;rw [List.take_length];done))
 | (refine ⟨rfl,?_⟩;conv=>whnf)
  | fail
  )
end Go.Proofs.YtpfokhdelnlciaaGreatDoor
